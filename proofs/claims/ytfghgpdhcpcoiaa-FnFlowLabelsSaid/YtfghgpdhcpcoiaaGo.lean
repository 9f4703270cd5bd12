/-
  Labels and moves are drawn. No condition.
-/
import Derived.Test.YtfghgpdhcpcoiaaE
import Derived.Test.YtfghgpdhcpcoiaaFx
import Derived.Test.YtfghgpdhcpcoiaaJh
import Derived.Test.YtfghgpdhcpcoiaaJs
set_option linter.unusedSimpArgs false
set_option linter.unusedVariables false
namespace Go.Proofs.Ytfghgpdhcpcoiaa
open Go.RowKit
theorem cellsB_snoc (ds : List Lab) (l a : Int) : cellsB (ds ++ [⟨l, a⟩]) = cellsB ds ++ [.int .i64 l, .int .i64 a] := by
  unfold cellsB
  rw [List.flatMap_append]
  rfl
/-- Labels and moves are drawn. -/
def FlD (w : World) (e : Ending) (w' : World) : Prop :=
  ∃ (v u : Value) (ls : List Lab) (ms : List Mv), e = .returned (.tuple #[v, u]) ∧ v ≠ .slice none 0 0 ∧ u ≠ .slice none 0 0 ∧ ls.length ≤ 4 ∧ ms.length ≤ 6 ∧ w'.ownsRow w.heap.size 49 2 v ls.length (cellsB ls) ∧ OwnM 34 w' w.heap.size w'.heap.size u ms ∧ Below w.heap.size w w'
set_option maxHeartbeats 6400000 in
theorem drawFlowLabels_any (a : Option Addr) (len cap : Nat) (w : World) (h : Bytes w a len cap) : Calls Try.prog 26 #[.slice a len cap] w (FlD w) := by
  have H := Lib.hid h
  have hmk0 : ∀ w : World, (Instr.buildSlice 39 0 #[]).run Try.prog w = .ok (.slice (some ⟨w.heap.size, 0, none⟩) 0 0) (w.alloc (.cells #[] 49)) := fun w => by kernel_rfl
  clear h
  go_enter Try.func26, Try.ntmps26
  go_wp2_with fail
  refine (open_any a len cap _ H.out).mono ?_
  rintro e w1 ⟨rfl, r1, h1⟩
  have hz1 := h1.size
  have hlt := r1.lt
  have P0 := Reads.al (Reads.refl r1) (.cells #[] 49)
  have O0 := own_made w1 w1.heap.size 49 2 (Nat.le_refl _)
  go_wp2_with fail
  refine (pick_any _ 5 _ _ P0.rd (by omega) (by omega)).mono ?_
  rintro e w2 ⟨x, rfl, lo2, hi2, r2⟩
  have P2 := Reads.trans P0 r2
  have O2 := Lib.hid (own_rd O0 r2 hlt)
  obtain ⟨c0, rfl⟩ : ∃ c : Nat, x = c := ⟨x.toNat, by omega⟩
  clear O0 P0 r2
  go_wp2_with fail
  go_loopw [5, 6] (fun v i wr => ∃ (c : Nat) (ls : List Lab), c ≤ 4 ∧ i = .int .i64 c ∧ ls.length + c ≤ 4 ∧ Hid (v ≠ .slice none 0 0) ∧ Hid (wr.ownsRow w1.heap.size 49 2 v ls.length (cellsB ls)) ∧ Reads w.heap.size 0 (1 + 10 * (4 - c)) w1 wr) (fun _ i _ => (intOf i).toNat)
  case atStart => exact ⟨c0, [], by omega, rfl, by simp; omega, by simp [Hid], O2.out, P2.mono (by omega)⟩
  case round =>
    clear O2 P2
    obtain ⟨c, ls, hc3, rfl, hlen, hvn, ho, hR⟩ := hrel
    obtain ⟨wo, rfl⟩ : ∃ wo : World, wo = wr := ⟨_, rfl⟩
    obtain ⟨v, rfl⟩ : ∃ v : Value, v = u5 := ⟨_, rfl⟩
    have zr := hR.size
    by_cases hcp : 0 < c
    · have hcd : decide ((0 : Int) < (c : Int)) = true := by simp; omega
      have hc1 : ((c - 1 : Nat) : Int) = c - 1 := by omega
      go_wp2_with fail
      refine (l20Label_any _ 40 _ _ hR.rd (by omega) (by omega) (by omega)).mono ?_
      rintro e w3 ⟨l, y, rfl, r3⟩
      have O3 := Lib.hid (own_rd ho.out r3 hlt)
      have P3 := Reads.al (Reads.trans hR r3) (.cells #[.int .i64 l, .int .i64 y] 49)
      have z3 := P3.size
      simp only [World.size_alloc] at z3
      clear ho r3
      go_wp2_with (at_builtin; refine Hid.out ?_); refine Lib.hid ?_
      refine wpList_appS (s := .tmp 16) (x := .tmp 19) rfl 39 49 (.agg #[.int .i64 0, .int .i64 0]) 2 16 rfl Try.underlying39 infoB rfl (by decide) (by decide) w1.heap.size v ls.length (cellsB ls) (by rfl) (own_alloc O3.out _) (.slice (some ⟨w3.heap.size, 0, none⟩) 1 1) 1 [.int .i64 l, .int .i64 y] (by rfl) (slF_bk (k := 2) (n := 1) (cs := [.int .i64 l, .int .i64 y]) (bk_atb rfl) rfl (by omega)) (by intro u hu; simp at hu; rcases hu with rfl | rfl <;> rfl) (by omega) (by simp only [World.size_alloc]; omega) ?_
      intro v5 w5 o5 g5 _ nn5
      have P5 := Reads.app g5 P3 hlt (fun j hj => own_gt O3.out j hj)
      have O5 := Lib.hid (show w5.ownsRow w1.heap.size 49 2 v5 (ls ++ [(⟨l, y⟩ : Lab)]).length (cellsB (ls ++ [(⟨l, y⟩ : Lab)])) by rw [cellsB_snoc, List.length_append]; exact o5)
      have N5 := Lib.hid (nn5 hvn.out)
      clear o5 g5 nn5 O3 P3
      go_wp2_with fail
      exact ⟨⟨c - 1, ls ++ [(⟨l, y⟩ : Lab)], by omega, by rw [hc1], by simp; omega, N5, O5, P5.mono (by omega)⟩, by simp only [intOf]; omega⟩
    · obtain rfl : c = 0 := by omega
      obtain ⟨va, vc, rfl, _, _⟩ := SlF.shape (own_sl ho.out)
      go_wp2_with fail
      refine (l20Moves_any _ ls.length 9 _ _ hR.rd (by omega) (by omega) (by omega) (by omega) (by omega)).mono ?_
      rintro e w6 ⟨u, ms, rfl, hu, hm6, _, ho6, r6⟩
      have O6 := Lib.hid (own_lo (own_rd ho.out r6 hlt) hz1)
      have M6 := Lib.hid (OwnM.lo ho6 (show w.heap.size ≤ wo.heap.size by omega))
      have B6 := Below.rd r6 (Below.rd hR h1 (Nat.le_refl _)) (Nat.le_refl _)
      have HU := Lib.hid hu
      clear ho ho6 hu
      go_wp2_with fail
      go_ret2
      exact ⟨_, u, ls, ms, rfl, hvn.out, HU.out, by omega, hm6, O6.out, M6.out, B6⟩
theorem drawFirstLeak_any (a : Option Addr) (len cap : Nat) (w : World) (h : Bytes w a len cap) : Calls Try.prog 30 #[.slice a len cap] w (FlD w) := by
  have H := Lib.hid h
  clear h
  go_enter Try.func30, Try.ntmps30
  go_wp2_with fail
  refine (drawFlowLabels_any a len cap _ H.out).mono ?_
  rintro e w1 ⟨v, u, ls, ms, rfl, r⟩
  have R := Lib.hid r
  clear r
  go_wp2_with fail
  go_ret2
  exact ⟨v, u, ls, ms, rfl, R.out⟩
end Go.Proofs.Ytfghgpdhcpcoiaa
