/-
  Delegations: marked, and marks held. No condition.
-/
import Derived.Test.YtjmjpejkongipaaI
import Derived.Test.YtjmjpejkongipaaV
set_option linter.unusedSimpArgs false
set_option linter.unusedVariables false
namespace Go.Proofs.Ytjmjpejkongipaa
open Go.RowKit
/-- What element i is after the marks. -/
def mkD (k : Int) (i : Nat) : Deleg := ⟨k + (i * 3 : Nat), k + (i * 3 : Nat) + 1, k + (i * 3 : Nat) + 1 + 1⟩
def marksD (k : Int) (n : Nat) : List Deleg := (List.range n).map (mkD k)
theorem marksD_len (k : Int) (n : Nat) : (marksD k n).length = n := by simp [marksD]
theorem marksD_get (k : Int) (n i : Nat) (hi : i < (marksD k n).length) : (marksD k n)[i] = mkD k i := by simp [marksD]
/-- A row that has been marked: its own block alone has turned. -/
def MarkD (lo : Nat) (v : Value) (n : Nat) (k : Int) (w : World) (e : Ending) (w' : World) : Prop :=
  e = .returned (.int .i64 (k + (n * 3 : Nat))) ∧ w'.ownsRow lo 32 3 v n (cellsD (marksD k n)) ∧ w.grownBy w' v.ownBlock
theorem markDS_any (ds : List Deleg) (v : Value) (lo : Nat) (k0 : Int) (w : World) (h : w.ownsRow lo 32 3 v ds.length (cellsD ds)) (hk0 : -1 ≤ k0) (hk1 : k0 ≤ 1099511627776) (hlen : ds.length ≤ 16777216) : Calls Try.prog 21 #[v, .int .i64 k0] w (MarkD lo v ds.length k0 w) := by
  have hsl := own_sl h
  obtain ⟨a, cap, rfl, h1, h2⟩ := SlF.shape hsl
  unfold maxLen at h2
  generalize hn : ds.length = n at *
  have H := Lib.hid h
  clear h hsl hn
  go_enter Try.func21, Try.ntmps21
  go_wp2_with fail
  go_loopw [1, 5] (fun m i wr => ∃ (k : Nat), k ≤ n ∧ i = .int .i64 k ∧ m = .int .i64 (k0 + (k * 3 : Nat)) ∧ (∃ cs : List Value, Hid (∀ j, j < k * 3 → cs[j]? = (cellsD (marksD k0 n))[j]?) ∧ Hid (wr.ownsRow lo 32 3 (.slice a n cap) n cs)) ∧ Hid (w.grownBy wr (Value.slice a n cap).ownBlock)) (fun _ i _ => n - (intOf i).toNat)
  case atStart => exact ⟨0, Nat.zero_le _, rfl, by simp, ⟨_, by intro j hj; omega, H⟩, World.grownBy.refl _ _⟩
  case round =>
    obtain ⟨k, hk, rfl, rfl, ⟨cs, hc, ho⟩, hg⟩ := hrel
    by_cases hlt : k < n
    · obtain ⟨g, off, cap', hv, _, _, hcell⟩ := SlF.at (own_sl ho.out) (by omega)
      simp only [Value.slice.injEq] at hv
      obtain ⟨rfl, -, rfl⟩ := hv
      have hoff : off = 0 := by
        obtain ⟨g', cap', e', _⟩ := own_ad ho.out (by simp)
        simp at e'
        exact e'.1.2
      subst hoff
      have hcsl : cs.length = n * 3 := ho.out.1
      have s0 := Lib.hid (World.ownsRow.stored (ho.out) (k * 3) (.int .i64 (k0 + (k * 3 : Nat))))
      have s1 := Lib.hid (World.ownsRow.stored (s0.out.1) (k * 3 + 1) (.int .i64 (k0 + (k * 3 : Nat) + 1)))
      have s2 := Lib.hid (World.ownsRow.stored (s1.out.1) (k * 3 + 2) (.int .i64 (k0 + (k * 3 : Nat) + 1 + 1)))
      have hfr := World.ownsRow.frozenAt ho.out
      have c0 := hcell (k * 3) (by omega)
      obtain ⟨z0, hz0⟩ : ∃ z, cs[k * 3]? = some z := ⟨_, List.getElem?_eq_getElem (by omega)⟩
      rw [hz0, Nat.zero_add] at c0
      have c1 := hcell (k * 3 + 1) (by omega)
      obtain ⟨z1, hz1⟩ : ∃ z, cs[k * 3 + 1]? = some z := ⟨_, List.getElem?_eq_getElem (by omega)⟩
      rw [hz1, Nat.zero_add] at c1
      have c2 := hcell (k * 3 + 2) (by omega)
      obtain ⟨z2, hz2⟩ : ∃ z, cs[k * 3 + 2]? = some z := ⟨_, List.getElem?_eq_getElem (by omega)⟩
      rw [hz2, Nat.zero_add] at c2
      clear hcell
      go_wp2_with fail
      go_roundw
      case rel =>
        refine ⟨k + 1, by omega, by go_num, by go_num, ⟨_, ?_, s2.out.1⟩, grownBy_trans2 (grownBy_trans2 (grownBy_trans2 (hg.out) s0.out.2) s1.out.2) s2.out.2⟩
        intro j hj
        by_cases hlt2 : j < k * 3
        · rw [← hc.out j hlt2]
          simp only [List.getElem?_set]
          repeat rw [if_neg (by omega)]
        · obtain ⟨i, hi, rfl⟩ : ∃ i, i < 3 ∧ j = k * 3 + i := ⟨j - k * 3, by omega, by omega⟩
          rw [cellsD_get _ k (by rw [marksD_len]; exact hlt) i hi, marksD_get]
          simp only [List.getElem?_set, List.length_set]
          rcases (show i = 0 ∨ i = 1 ∨ i = 2 by omega) with rfl | rfl | rfl
          all_goals simp [encD, mkD, hcsl]
          all_goals omega
      case measure => simp [intOf]; omega
    · have hke : k = n := by omega
      subst hke
      go_wp2_with fail
      go_ret
      refine ⟨rfl, ?_, hg.out⟩
      have hcs : cs = cellsD (marksD k0 k) := List.ext_getElem? fun j => by
        by_cases hj : j < k * 3
        · exact hc.out j hj
        · rw [List.getElem?_eq_none (by have := ho.out.1; omega), List.getElem?_eq_none (by rw [cellsD_len, marksD_len]; omega)]
      rw [← hcs]
      exact ho.out
theorem slD_up {w : World} {v : Value} {k : Int} {n : Nat} (h : SlF w v 3 n (cellsD (marksD k n))) : SlD w v (marksD k n) := by
  unfold SlD
  rw [marksD_len]
  exact h
end Go.Proofs.Ytjmjpejkongipaa
