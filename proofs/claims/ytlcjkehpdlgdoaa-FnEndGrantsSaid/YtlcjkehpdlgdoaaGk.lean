/-
  Grants: marked, and marks held. No condition.
-/
import Derived.Test.YtlcjkehpdlgdoaaI
import Derived.Test.YtlcjkehpdlgdoaaG
set_option linter.unusedSimpArgs false
set_option linter.unusedVariables false
namespace Go.Proofs.Ytlcjkehpdlgdoaa
open Go.RowKit
/-- What element i is after the marks. -/
def mkG (k : Int) (i : Nat) : Gra := ⟨k + (i * 4 : Nat), k + (i * 4 : Nat) + 1, k + (i * 4 : Nat) + 1 + 1, k + (i * 4 : Nat) + 1 + 1 + 1⟩
def marksG (k : Int) (n : Nat) : List Gra := (List.range n).map (mkG k)
theorem marksG_len (k : Int) (n : Nat) : (marksG k n).length = n := by simp [marksG]
theorem marksG_get (k : Int) (n i : Nat) (hi : i < (marksG k n).length) : (marksG k n)[i] = mkG k i := by simp [marksG]
/-- A row that has been marked: its own block alone has turned. -/
def MarkG (lo : Nat) (v : Value) (n : Nat) (k : Int) (w : World) (e : Ending) (w' : World) : Prop :=
  e = .returned (.int .i64 (k + (n * 4 : Nat))) ∧ w'.ownsRow lo 33 4 v n (cellsG (marksG k n)) ∧ w.grownBy w' v.ownBlock
theorem markGS_any (ds : List Gra) (v : Value) (lo : Nat) (k0 : Int) (w : World) (h : w.ownsRow lo 33 4 v ds.length (cellsG ds)) (hk0 : -1 ≤ k0) (hk1 : k0 ≤ 1099511627776) (hlen : ds.length ≤ 16777216) : Calls Try.prog 24 #[v, .int .i64 k0] w (MarkG lo v ds.length k0 w) := by
  have hsl := own_sl h
  obtain ⟨a, cap, rfl, h1, h2⟩ := SlF.shape hsl
  unfold maxLen at h2
  generalize hn : ds.length = n at *
  have H := Lib.hid h
  clear h hsl hn
  go_enter Try.func24, Try.ntmps24
  go_wp2_with fail
  go_loopw [1, 5] (fun m i wr => ∃ (k : Nat), k ≤ n ∧ i = .int .i64 k ∧ m = .int .i64 (k0 + (k * 4 : Nat)) ∧ (∃ cs : List Value, Hid (∀ j, j < k * 4 → cs[j]? = (cellsG (marksG k0 n))[j]?) ∧ Hid (wr.ownsRow lo 33 4 (.slice a n cap) n cs)) ∧ Hid (w.grownBy wr (Value.slice a n cap).ownBlock)) (fun _ i _ => n - (intOf i).toNat)
  case atStart => exact ⟨0, Nat.zero_le _, rfl, by simp, ⟨_, by intro j hj; omega, H⟩, World.grownBy.refl _ _⟩
  case round =>
    obtain ⟨k, hk, rfl, rfl, ⟨cs, hc, ho⟩, hg⟩ := hrel
    by_cases hlt : k < n
    · obtain ⟨g, off, cap', hv, _, _, hcell⟩ := SlF.at (own_sl ho.out) (by omega)
      simp only [Value.slice.injEq] at hv
      obtain ⟨rfl, -, rfl⟩ := hv
      have hoff : off = 0 := by
        obtain ⟨g', cap', e', _⟩ := own_ad ho.out (by simp)
        simp at e'
        exact e'.1.2
      subst hoff
      have hcsl : cs.length = n * 4 := ho.out.1
      have s0 := Lib.hid (World.ownsRow.stored (ho.out) (k * 4) (.int .i64 (k0 + (k * 4 : Nat))))
      have s1 := Lib.hid (World.ownsRow.stored (s0.out.1) (k * 4 + 1) (.int .i64 (k0 + (k * 4 : Nat) + 1)))
      have s2 := Lib.hid (World.ownsRow.stored (s1.out.1) (k * 4 + 2) (.int .i64 (k0 + (k * 4 : Nat) + 1 + 1)))
      have s3 := Lib.hid (World.ownsRow.stored (s2.out.1) (k * 4 + 3) (.int .i64 (k0 + (k * 4 : Nat) + 1 + 1 + 1)))
      have hfr := World.ownsRow.frozenAt ho.out
      have c0 := hcell (k * 4) (by omega)
      obtain ⟨z0, hz0⟩ : ∃ z, cs[k * 4]? = some z := ⟨_, List.getElem?_eq_getElem (by omega)⟩
      rw [hz0, Nat.zero_add] at c0
      have c1 := hcell (k * 4 + 1) (by omega)
      obtain ⟨z1, hz1⟩ : ∃ z, cs[k * 4 + 1]? = some z := ⟨_, List.getElem?_eq_getElem (by omega)⟩
      rw [hz1, Nat.zero_add] at c1
      have c2 := hcell (k * 4 + 2) (by omega)
      obtain ⟨z2, hz2⟩ : ∃ z, cs[k * 4 + 2]? = some z := ⟨_, List.getElem?_eq_getElem (by omega)⟩
      rw [hz2, Nat.zero_add] at c2
      have c3 := hcell (k * 4 + 3) (by omega)
      obtain ⟨z3, hz3⟩ : ∃ z, cs[k * 4 + 3]? = some z := ⟨_, List.getElem?_eq_getElem (by omega)⟩
      rw [hz3, Nat.zero_add] at c3
      clear hcell
      go_wp2_with fail
      go_roundw
      case rel =>
        refine ⟨k + 1, by omega, by go_num, by go_num, ⟨_, ?_, s3.out.1⟩, grownBy_trans2 (grownBy_trans2 (grownBy_trans2 (grownBy_trans2 (hg.out) s0.out.2) s1.out.2) s2.out.2) s3.out.2⟩
        intro j hj
        by_cases hlt2 : j < k * 4
        · rw [← hc.out j hlt2]
          simp only [List.getElem?_set]
          repeat rw [if_neg (by omega)]
        · obtain ⟨i, hi, rfl⟩ : ∃ i, i < 4 ∧ j = k * 4 + i := ⟨j - k * 4, by omega, by omega⟩
          rw [cellsG_get _ k (by rw [marksG_len]; exact hlt) i hi, marksG_get]
          simp only [List.getElem?_set, List.length_set]
          rcases (show i = 0 ∨ i = 1 ∨ i = 2 ∨ i = 3 by omega) with rfl | rfl | rfl | rfl
          all_goals simp [encG, mkG, hcsl]
          all_goals omega
      case measure => simp [intOf]; omega
    · have hke : k = n := by omega
      subst hke
      go_wp2_with fail
      go_ret
      refine ⟨rfl, ?_, hg.out⟩
      have hcs : cs = cellsG (marksG k0 k) := List.ext_getElem? fun j => by
        by_cases hj : j < k * 4
        · exact hc.out j hj
        · rw [List.getElem?_eq_none (by have := ho.out.1; omega), List.getElem?_eq_none (by rw [cellsG_len, marksG_len]; omega)]
      rw [← hcs]
      exact ho.out
theorem slG_up {w : World} {v : Value} {k : Int} {n : Nat} (h : SlF w v 4 n (cellsG (marksG k n))) : SlG w v (marksG k n) := by
  unfold SlG
  rw [marksG_len]
  exact h
theorem heldGS_any (n : Nat) (v : Value) (k0 : Int) (w : World) (h : SlG w v (marksG k0 n)) (hk0 : -1 ≤ k0) (hk1 : k0 ≤ 1099511627776) (hlen : n ≤ 16777216) : Calls Try.prog 31 #[v, .int .i64 k0] w fun e w' => e = .returned (.int .i64 (k0 + (n * 4 : Nat))) ∧ w = w' := by
  have hul := marksG_len k0 n
  obtain ⟨a, cap, rfl, h1, h2⟩ := SlF.shape h
  unfold maxLen at h2
  have H := Lib.hid h
  clear h
  rw [hul]
  go_enter Try.func31, Try.ntmps31
  go_wp2_with fail
  go_loop [1, 5] (fun m i => ∃ (k : Nat), k ≤ n ∧ i = .int .i64 k ∧ m = .int .i64 (k0 + (k * 4 : Nat))) (fun _ i => n - (intOf i).toNat)
  case atStart => exact ⟨0, Nat.zero_le _, rfl, by simp⟩
  case round =>
    obtain ⟨k, hk, rfl, rfl⟩ := hrel
    by_cases hlt : k < n
    · obtain ⟨g, off, cap', hv, _, _, c0, c1, c2, c3⟩ := H.out.cells k (by omega)
      simp only [Value.slice.injEq] at hv
      obtain ⟨rfl, -, rfl⟩ := hv
      simp only [marksG_get, mkG] at c0 c1 c2 c3
      have hne : ∀ z : Int, (z != z) = false := fun z => by simp
      go_wp2_with fail
      go_round
      case rel => exact ⟨k + 1, by omega, by go_num, by go_num⟩
      case measure => simp [intOf]; omega
    · have hke : k = n := by omega
      subst hke
      go_wp2_with fail
      go_ret
      exact ⟨rfl, rfl⟩
end Go.Proofs.Ytlcjkehpdlgdoaa
