/-
  Own acts are drawn. Condition: the reader is whole.
-/
import Derived.Test.YtjmjpejkongipaaT
import Derived.Test.YtjmjpejkongipaaVr
set_option linter.unusedSimpArgs false
set_option linter.unusedVariables false
namespace Go.Proofs.Ytjmjpejkongipaa
open Go.RowKit
/-- Numbers that lie in a block of the call's own, from somewhere on. -/
def RowAt (w : World) (lo g off cap : Nat) (xs : List Int) : Prop := ∃ cur : Array Value, Bk w g cur 3 ∧ lo ≤ g ∧ xs.length ≤ cap ∧ cap ≤ maxLen ∧ ∀ j, j < xs.length → cur[off + j]? = (cellsI xs)[j]?
theorem RowAt.of {w : World} {lo g cap : Nat} {xs : List Int} (h : RowI w lo g cap xs) : RowAt w lo g 0 cap xs := by
  obtain ⟨cur, h1, h2, h3, h4, h5, h6⟩ := h
  exact ⟨cur, h1, h5, h3, h4, fun j hj => by rw [Nat.zero_add]; exact h6 j hj⟩
theorem RowAt.tail {w : World} {lo g cap : Nat} {x : Int} {xs : List Int} (h : RowI w lo g cap (x :: xs)) : RowAt w lo g 1 (cap - 1) xs := by
  obtain ⟨cur, h1, h2, h3, h4, h5, h6⟩ := h
  simp only [List.length_cons] at h3 h6
  refine ⟨cur, h1, h5, by omega, by omega, fun j hj => ?_⟩
  rw [Nat.add_comm, h6 (j + 1) (by omega), cellsI_get (x :: xs) (j + 1) (by simp; omega), cellsI_get xs j hj]
  rfl
theorem RowAt.rd {b : Nat} {M M' : Int} {w w' : World} {lo g off cap : Nat} {xs : List Int} (h : RowAt w lo g off cap xs) (r : Reads b M M' w w') (hb : b < lo) : RowAt w' lo g off cap xs := by
  obtain ⟨cur, h1, h2, h3⟩ := h
  exact ⟨cur, h1.rdn r (by omega), h2, h3⟩
theorem RowAt.below {w w' : World} {lo g off cap : Nat} {xs : List Int} (h : RowAt w lo g off cap xs) (hb : Below w.heap.size w w') : RowAt w' lo g off cap xs := by
  obtain ⟨cur, h1, r⟩ := h
  exact ⟨cur, h1.below hb, r⟩
theorem RowAt.lo {w : World} {lo lo' g off cap : Nat} {xs : List Int} (h : RowAt w lo g off cap xs) (hl : lo' ≤ lo) : RowAt w lo' g off cap xs := by
  obtain ⟨cur, h1, h2, r⟩ := h
  exact ⟨cur, h1, by omega, r⟩
theorem RowAt.sl {w : World} {lo g off cap : Nat} {xs : List Int} (h : RowAt w lo g off cap xs) : SlI w (.slice (some ⟨g, off, none⟩) xs.length cap) xs := by
  obtain ⟨cur, h1, h2, h3, h4, h5⟩ := h
  refine ⟨by rw [cellsI_len]; omega, _, cap, rfl, h3, h4, .inr ⟨g, off, rfl, fun j hj => ?_⟩⟩
  rw [h1.cell]
  exact h5 j (by omega)
def OwS (b : Nat) (M : Int) (w : World) (e : Ending) (w' : World) : Prop :=
  ∃ (g off cap : Nat) (xs : List Int), e = .returned (.slice (some ⟨g, off, none⟩) xs.length cap) ∧ RowAt w' w.heap.size g off cap xs ∧ xs.length ≤ 7 ∧ Reads b M (M + 20) w w'
set_option maxRecDepth 100000 in
set_option maxHeartbeats 6400000 in
theorem l20Owns_any (b : Nat) (n M : Int) (w : World) (h : Rd w b M) (hM : M ≤ 1099511627776 - 40) (hn : 0 ≤ n) (hn2 : n ≤ 1099511627776) :
    Calls Try.prog 40 #[.pointer (some ⟨b, 0, none⟩), .int .i64 n] w (OwS b M w) := by
  have hlt := h.lt
  have P0 := Reads.al (Reads.refl h) (.cells #[] 3)
  have O0 := Lib.hid (own_made w w.heap.size 3 1 (Nat.le_refl _))
  have hmk0 : ∀ w : World, (Instr.buildSlice 35 0 #[]).run Try.prog w = .ok (.slice (some ⟨w.heap.size, 0, none⟩) 0 0) (w.alloc (.cells #[] 3)) := fun w => by kernel_rfl
  clear h
  go_enter Try.func40, Try.ntmps40
  go_wp2_with fail
  go_loopw [5, 6] (fun v i wr => ∃ (k : Nat) (xs : List Int), k ≤ 7 ∧ i = .int .i64 k ∧ xs.length = k ∧ Hid (v ≠ .slice none 0 0) ∧ Hid (wr.ownsRow w.heap.size 3 1 v xs.length (cellsI xs)) ∧ Reads b M (M + 2 * k) w wr) (fun _ i _ => 7 - (intOf i).toNat)
  case atStart => exact ⟨0, [], by omega, rfl, rfl, by simp [Hid], O0.out, P0.mono (by omega)⟩
  case round =>
    clear O0 P0
    obtain ⟨k, xs, hk, rfl, hxk, hvn, ho, hR⟩ := hrel
    obtain ⟨v, rfl⟩ : ∃ v : Value, v = u5 := ⟨_, rfl⟩
    by_cases hlt7 : k < 7
    · have hlt2 : (k : Int) < 7 := by omega
      go_wp2_with fail
      refine (pick_any b 16 _ _ hR.rd (by omega) (by omega)).mono ?_
      rintro e w2 ⟨x, rfl, lo2, hi2, r2⟩
      have P2 := Reads.al (Reads.trans hR r2) (.cells #[.int .i64 0, .int .i64 0, .int .i64 x] 3)
      have O2 := Lib.hid (own_alloc (own_rd ho.out r2 hlt) (.cells #[.int .i64 0, .int .i64 0, .int .i64 x] 3))
      have K2 := Bk.new (w := w2) (vs := #[.int .i64 0, .int .i64 0, .int .i64 x]) (t := 3)
      have z1 := hR.size
      have z2 := r2.size
      clear ho hR r2
      go_wp2_with fail
      refine (pick_any b 3 _ _ P2.rd (by omega) (by omega)).mono ?_
      rintro e w3 ⟨y, rfl, lo3, hi3, r3⟩
      have P3 := Reads.trans P2 r3
      have O3 := Lib.hid (own_rd O2.out r3 hlt)
      have K3 := K2.rdn r3 (by omega)
      obtain ⟨m, rfl⟩ : ∃ m : Nat, y = m := ⟨y.toNat, by omega⟩
      obtain ⟨z, hz⟩ : ∃ z : Int, w3.cell? ⟨w2.heap.size, m, none⟩ = some (.int .i64 z) := by
        rcases (show m = 0 ∨ m = 1 ∨ m = 2 by omega) with rfl | rfl | rfl
        · exact ⟨_, (K3.cell _).trans rfl⟩
        · exact ⟨_, (K3.cell _).trans rfl⟩
        · exact ⟨_, (K3.cell _).trans rfl⟩
      have z3 := P3.size
      clear O2 P2 K2 K3 r3
      go_wp2_with (at_builtin; refine Hid.out ?_); refine Lib.hid ?_
      refine wpList_appS (s := .tmp 12) (x := .tmp 20) rfl 35 3 (.int .i64 0) 1 8 rfl Try.underlying35 infoI rfl (by decide) (by decide) w.heap.size v xs.length (cellsI xs) (by rfl) (own_alloc O3.out _) (.slice (some ⟨w3.heap.size, 0, none⟩) 1 1) 1 [.int .i64 z] (by rfl) (slF_bk (k := 1) (n := 1) (cs := [.int .i64 z]) (bk_atb rfl) rfl (by omega)) (one_int _) (by omega) (by simp only [World.size_alloc]; omega) ?_
      intro v5 w5 o5 g5 _ nn5
      have P5 := Reads.app g5 (Reads.al P3 (.cells #[.int .i64 z] 3)) hlt (fun j hj => own_gt O3.out j hj)
      have N5 := Lib.hid (nn5 hvn.out)
      have O5 := Lib.hid (show w5.ownsRow w.heap.size 3 1 v5 (xs ++ [z]).length (cellsI (xs ++ [z])) by rw [cellsI_app, List.length_append]; exact o5)
      have hl5 : (xs ++ [z]).length = k + 1 := by simp [hxk]
      have HL5 := Lib.hid hl5
      clear o5 g5 nn5 O3 P3 hz hl5
      go_wp2_with fail
      go_roundw
      case rel => first | exact ⟨k + 1, xs ++ [z], by omega, by go_num, HL5.out, N5, O5, P5.mono (by omega)⟩ | ((repeat apply Exists.intro); exact ⟨⟨k + 1, xs ++ [z], by omega, by go_num, HL5.out, N5, O5, P5.mono (by omega)⟩, rfl⟩)
      case measure => simp [intOf]; omega
    · obtain rfl : k = 7 := by omega
      obtain ⟨g, c, rfl, hrow⟩ := RowI.of ho.out hvn.out
      have HR := Lib.hid hrow
      have hg := RowI.lt hrow
      have hc7 : 7 ≤ c ∧ c ≤ 2 ^ 63 - 1 := by obtain ⟨cur, _, _, q1, q2, _⟩ := hrow; unfold maxLen at q2; omega
      rw [hxk]
      clear ho hvn hrow
      go_wp2_with fail
      refine (odd_any b n _ _ hR.rd (by omega) (by omega) (by omega)).mono ?_
      rintro e w2 ⟨q, rfl, r2⟩
      have P2 := Reads.trans hR r2
      obtain ⟨cur, K, hcur⟩ := HR.out
      have K2 := K.rdn r2 (by omega)
      have HR2 := Lib.hid (show RowI w2 w.heap.size g c xs from ⟨cur, K2, hcur⟩)
      clear K K2 hcur HR hR r2
      cases q
      · go_wp2_with fail
        go_ret
        exact ⟨g, 0, c, xs, by rw [hxk]; rfl, RowAt.of HR2.out, by omega, P2.mono (by omega)⟩
      · go_wp2_with fail
        refine (pick_any b 2 _ _ P2.rd (by omega) (by omega)).mono ?_
        rintro e w3 ⟨y, rfl, lo3, hi3, r3⟩
        have P3 := Reads.trans P2 r3
        obtain ⟨cur, K, hcur⟩ := HR2.out
        have K3 := K.rdn r3 (by omega)
        have HR3 := Lib.hid (show RowI w3 w.heap.size g c xs from ⟨cur, K3, hcur⟩)
        have hg3 := RowI.lt HR3.out
        clear K K3 hcur HR2 P2 r3
        rcases (show y = 0 ∨ y = 1 by omega) with rfl | rfl
        · go_wp2_with fail
          refine (pick_any b 2 _ _ (P3.rd.below (below_al _ _)) (by omega) (by omega)).mono ?_
          rintro e w4 ⟨y2, rfl, lo4, hi4, r4⟩
          have P4 := Reads.trans (Reads.al P3 _) r4
          have K4 := (Bk.new (w := w3) (vs := #[.int .i64 (-1), .int .i64 16]) (t := 3)).rdn r4 (by omega)
          obtain ⟨cur, K, hcur⟩ := HR3.out
          have K5 := (K.alloc (.cells #[.int .i64 (-1), .int .i64 16] 3)).rdn r4 (by omega)
          have HR4 := Lib.hid (show RowI w4 w.heap.size g c xs from ⟨cur, K5, hcur⟩)
          obtain ⟨m, rfl⟩ : ∃ m : Nat, y2 = m := ⟨y2.toNat, by omega⟩
          obtain ⟨z, hz⟩ : ∃ z : Int, w4.cell? ⟨w3.heap.size, m, none⟩ = some (.int .i64 z) := by
            rcases (show m = 0 ∨ m = 1 by omega) with rfl | rfl
            · exact ⟨_, (K4.cell _).trans rfl⟩
            · exact ⟨_, (K4.cell _).trans rfl⟩
          obtain ⟨q0, qf⟩ := RowI.at HR4.out 0 (by omega)
          have HS := Lib.hid (RowAt.of (RowI.set HR4.out 0 z))
          have PS := Reads.set P4 hlt hg.1 0 (.int .i64 z)
          clear K K4 K5 hcur HR3 HR4 P3 P4 r4
          go_wp2_with fail
          go_ret
          exact ⟨g, 0, c, xs.set 0 z, by rw [List.length_set, hxk]; rfl, HS.out, by rw [List.length_set]; omega, PS.mono (by omega)⟩
        · obtain ⟨x0, xt, rfl⟩ : ∃ x0 xt, xs = x0 :: xt := by
            cases xs with
            | nil => simp at hxk
            | cons p q => exact ⟨p, q, rfl⟩
          have HT := Lib.hid (RowAt.tail HR3.out)
          have hxt : xt.length = 6 := by simpa using hxk
          have hcn : ¬ c = 1 := by omega
          clear HR3 hxk
          go_wp2_with fail
          go_ret
          exact ⟨g, 1, c - 1, xt, by rw [hxt]; rfl, HT.out, by omega, P3.mono (by omega)⟩
end Go.Proofs.Ytjmjpejkongipaa
