/-
  Marks on tuples. No condition.
-/
import Derived.Test.YtfeaclnbkmaeeaaTus
import Derived.Test.YtfeaclnbkmaeeaaTuz
import Derived.Test.YtfeaclnbkmaeeaaD
set_option linter.unusedSimpArgs false
set_option linter.unusedVariables false
namespace Go.Proofs.Ytfeaclnbkmaeeaa
open Go.RowKit
def MarkTx (w : World) (e : Ending) (w' : World) : Prop := ∃ s : ByteArray, e = .returned (.string s) ∧ Below w.heap.size w w'
theorem one_string (x : Int) (w : World) : (convert 29 9 (.slice (some ⟨w.heap.size, 0, none⟩) 1 1)).run Try.prog (w.alloc (.cells #[.int .u8 x] 5)) = .ok (.string (strOfNums [x])) (w.alloc (.cells #[.int .u8 x] 5)) :=
  run_convert_bytes_arg _ 29 5 Try.underlying29 Try.underlying5 w.heap.size 0 1 1 [x] rfl (fun i hi => by
    obtain rfl : i = 0 := by omega
    simp [World.cell?_alloc_new]) 9 Try.underlying9
theorem one_size (x : Int) (s : ByteArray) : (strOfNums [x] ++ s).size = 1 + s.size := by
  rw [ByteArray.size_append]
  rfl
theorem markText_any (k0 : Int) (w : World) (h0 : 1 ≤ k0) (h1 : k0 ≤ 1099511627776) : Calls Try.prog 40 #[.int .i64 k0] w (MarkTx w) := by
  have hconv := one_string
  have hone : ∀ x : Int, (strOfNums [x]).size = 1 := fun x => strOfNums_size _
  go_enter Try.func40, Try.ntmps40
  go_wp2_with fail
  go_loopw [0, 3] (fun k o wr => ∃ (m : Nat) (f : Nat) (s : ByteArray), k = .int .i64 m ∧ o = .string s ∧ f ≤ 13 ∧ m ≤ 1099511627776 ∧ Hid (m < 10 ^ f) ∧ s.size ≤ 13 - f ∧ Below w.heap.size w wr) (fun k _ _ => (intOf k).toNat)
  case atStart =>
    obtain ⟨m, rfl⟩ : ∃ m : Nat, k0 = m := ⟨k0.toNat, by omega⟩
    exact ⟨m, 13, ⟨#[]⟩, rfl, rfl, by omega, by omega, by show m < 10 ^ 13; omega, Nat.zero_le _, Below.refl _ _⟩
  case round =>
    obtain ⟨m, f, s, rfl, rfl, hf, hmm, hm, hs, hB⟩ := hrel
    by_cases hm0 : 0 < m
    · have hm0i : (0 : Int) < (m : Int) := by omega
      obtain ⟨f, rfl⟩ : ∃ g, f = g + 1 := ⟨f - 1, by
        rcases Nat.eq_zero_or_pos f with h | h
        · subst h; have h := hm.out; simp at h; omega
        · omega⟩
      have hm2 : m / 10 < 10 ^ f := by have h := hm.out; rw [Nat.pow_succ] at h; omega
      have HM := Lib.hid hm2
      clear hm2 hm
      have hxa := fun o => Below.al hB o
      go_wp2_with fail
      refine ⟨⟨m / 10, f, _, by rw [show ((m / 10 : Nat) : Int) = (m : Int) / 10 from by omega], rfl, by omega, by omega, HM.out, by rw [one_size]; omega, hxa _⟩, ?_⟩
      simp [intOf]
      omega
    · go_wp2_with fail
      go_ret
      exact ⟨_, rfl, hB⟩
/-- Tuples are marked: the row alone is written. -/
def MarkT (v : Value) (n : Nat) (k0 : Int) (w : World) (e : Ending) (w' : World) : Prop := e = .returned (.int .i64 (k0 + (n * 4 : Nat))) ∧ w.grownBy w' v.ownBlock
theorem Bk.wr {w : World} {g : Nat} {A : Array Value} {t : TypeId} (h : Bk w g A t) (o : Nat) (v : Value) : ∃ A' : Array Value, A'.size = A.size ∧ Bk (w.setCell ⟨g, o, none⟩ v) g A' t := ⟨_, by simp, h.same o v⟩
theorem gby_set {w w1 : World} {c : Nat} (h : w.grownBy w1 (some c)) (o : Nat) (v : Value) : w.grownBy (w1.setCell ⟨c, o, none⟩ v) (some c) :=
  ⟨h.os, h.tape, h.output, by simpa [World.setCell] using h.size, fun k hk hne => (Below.heap_setCell _ _ _ _ (by intro e; exact hne (by rw [e]))).trans (h.block k hk hne)⟩
theorem gby_trans {w w1 w2 : World} {r : Option Nat} (h : w.grownBy w1 r) (k : w1.grownBy w2 r) : w.grownBy w2 r := grownBy_trans h k
theorem gby_below {w w1 w2 : World} {r : Option Nat} (h : w.grownBy w1 r) (k : Below w1.heap.size w1 w2) : w.grownBy w2 r := grownBy_trans h (grownBy_of_below k)
theorem markTS_any (n : Nat) (v : Value) (lo : Nat) (cs : List Value) (k0 : Int) (w : World) (h : w.ownsRow lo 32 4 v n cs) (hk0 : 1 ≤ k0) (hk1 : k0 ≤ 1099511627) (hlen : n ≤ 16777216) : Calls Try.prog 22 #[v, .int .i64 k0] w (MarkT v n k0 w) := by
  rcases h.2 with ⟨rfl, rfl⟩ | ⟨g, cap, cur, rfl, hlo, hg, hnc, hcap, hcur, _⟩
  · clear h
    go_enter Try.func22, Try.ntmps22
    go_wp2_with fail
    go_loopw [1, 5] (fun k i wr => i = .int .i64 0 ∧ k = .int .i64 k0 ∧ w = wr) (fun _ _ _ => 0)
    case atStart => exact ⟨rfl, rfl, rfl⟩
    case round =>
      obtain ⟨rfl, rfl, rfl⟩ := hrel
      go_wp2_with fail
      go_ret
      exact ⟨by simp, grownBy_refl _ _⟩
  · unfold maxLen at hcap
    have K0 := Lib.hid (show Bk w g cur 32 from hg)
    have HC := Lib.hid hcur
    clear h hg hcur
    go_enter Try.func22, Try.ntmps22
    go_wp2_with fail
    go_loopw [1, 5] (fun k i wr => ∃ (j : Nat) (A : Array Value), j ≤ n ∧ i = .int .i64 j ∧ k = .int .i64 (k0 + (j : Int) * 4) ∧ Hid (A.size = cap * 4) ∧ Hid (Bk wr g A 32) ∧ w.grownBy wr (some g)) (fun _ i _ => n - (intOf i).toNat)
    case atStart => exact ⟨0, cur, Nat.zero_le _, rfl, by simp, HC, K0, grownBy_refl _ _⟩
    case round =>
      obtain ⟨j, A, hj, rfl, rfl, hA, hK, hG⟩ := hrel
      by_cases hlt : j < n
      · have hsz := hA.out
        obtain ⟨z0, e0⟩ : ∃ z, A[j * 4]? = some z := ⟨_, Array.getElem?_eq_getElem (by omega)⟩
        have x0 := hK.out.cell
        have f0 := hK.out.free
        obtain ⟨A1, hA1, K1⟩ := Bk.wr hK.out (j * 4) (.int .i64 (k0 + (j : Int) * 4))
        have G1 := gby_set hG (j * 4) (.int .i64 (k0 + (j : Int) * 4))
        go_wp2_with fail
        refine (markText_any _ _ (by omega) (by omega)).mono ?_
        rintro e w2 ⟨s1, rfl, b2⟩
        replace K1 := K1.below b2
        have G2 := gby_below G1 b2
        obtain ⟨z1, e1⟩ : ∃ z, A1[j * 4 + 1]? = some z := ⟨_, Array.getElem?_eq_getElem (by omega)⟩
        clear x0 f0 e0 hK G1 hG
        obtain ⟨A2, hA2, K2⟩ := Bk.wr K1 (j * 4 + 1) (.string s1)
        have G3 := gby_set G2 (j * 4 + 1) (.string s1)
        obtain ⟨A3, hA3, K3⟩ := Bk.wr K2 (j * 4 + 2) (.int .i64 (k0 + (j : Int) * 4 + 1 + 1))
        have G4 := gby_set G3 (j * 4 + 2) (.int .i64 (k0 + (j : Int) * 4 + 1 + 1))
        obtain ⟨z2, e2⟩ : ∃ z, A2[j * 4 + 2]? = some z := ⟨_, Array.getElem?_eq_getElem (by omega)⟩
        have x1 := K1.cell
        have f1 := K1.free
        have x2 := (K2.cell (j * 4 + 2)).trans e2
        have f2 := K2.free
        go_wp2_with fail
        refine (markText_any _ _ (by omega) (by omega)).mono ?_
        rintro e w3 ⟨s2, rfl, b3⟩
        replace K3 := K3.below b3
        have G5 := gby_below G4 b3
        obtain ⟨z3, e3⟩ : ∃ z, A3[j * 4 + 3]? = some z := ⟨_, Array.getElem?_eq_getElem (by omega)⟩
        clear x1 f1 x2 f2 e1 e2 K1 K2 G2 G3 G4
        obtain ⟨A4, hA4, K4⟩ := Bk.wr K3 (j * 4 + 3) (.string s2)
        have G6 := gby_set G5 (j * 4 + 3) (.string s2)
        have x3 := K3.cell
        have f3 := K3.free
        have HA4 := Lib.hid (show A4.size = cap * 4 by omega)
        have KH := Lib.hid K4
        clear hA1 hA2 hA3 hA4 K4 hsz hA
        go_wp2_with fail
        go_roundw
        case rel => exact ⟨j + 1, A4, by omega, by go_num, by go_num, HA4.out, KH.out, G6⟩
        case measure => simp [intOf]; omega
      · have hjn : j = n := by omega
        subst hjn
        go_wp2_with fail
        go_ret
        exact ⟨by go_num, hG⟩
end Go.Proofs.Ytfeaclnbkmaeeaa
