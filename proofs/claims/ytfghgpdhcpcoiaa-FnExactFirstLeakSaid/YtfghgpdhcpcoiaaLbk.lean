/-
  Labels: marked, and marks held. No condition.
-/
import Derived.Test.YtfghgpdhcpcoiaaI
import Derived.Test.YtfghgpdhcpcoiaaLb
set_option linter.unusedSimpArgs false
set_option linter.unusedVariables false
namespace Go.Proofs.Ytfghgpdhcpcoiaa
open Go.RowKit
/-- What element i is after the marks. -/
def mkB (k : Int) (i : Nat) : Lab := ⟨k + (i * 2 : Nat), k + (i * 2 : Nat) + 1⟩
def marksB (k : Int) (n : Nat) : List Lab := (List.range n).map (mkB k)
theorem marksB_len (k : Int) (n : Nat) : (marksB k n).length = n := by simp [marksB]
theorem marksB_get (k : Int) (n i : Nat) (hi : i < (marksB k n).length) : (marksB k n)[i] = mkB k i := by simp [marksB]
/-- A row that has been marked: its own block alone has turned. -/
def MarkB (lo : Nat) (v : Value) (n : Nat) (k : Int) (w : World) (e : Ending) (w' : World) : Prop :=
  e = .returned (.int .i64 (k + (n * 2 : Nat))) ∧ w'.ownsRow lo 49 2 v n (cellsB (marksB k n)) ∧ w.grownBy w' v.ownBlock
theorem markBS_any (ds : List Lab) (v : Value) (lo : Nat) (k0 : Int) (w : World) (h : w.ownsRow lo 49 2 v ds.length (cellsB ds)) (hk0 : -1 ≤ k0) (hk1 : k0 ≤ 1099511627776) (hlen : ds.length ≤ 16777216) : Calls Try.prog 23 #[v, .int .i64 k0] w (MarkB lo v ds.length k0 w) := by
  have hsl := own_sl h
  obtain ⟨a, cap, rfl, h1, h2⟩ := SlF.shape hsl
  unfold maxLen at h2
  generalize hn : ds.length = n at *
  have H := Lib.hid h
  clear h hsl hn
  go_enter Try.func23, Try.ntmps23
  go_wp2_with fail
  go_loopw [1, 5] (fun m i wr => ∃ (k : Nat), k ≤ n ∧ i = .int .i64 k ∧ m = .int .i64 (k0 + (k * 2 : Nat)) ∧ (∃ cs : List Value, Hid (∀ j, j < k * 2 → cs[j]? = (cellsB (marksB k0 n))[j]?) ∧ Hid (wr.ownsRow lo 49 2 (.slice a n cap) n cs)) ∧ Hid (w.grownBy wr (Value.slice a n cap).ownBlock)) (fun _ i _ => n - (intOf i).toNat)
  case atStart => exact ⟨0, Nat.zero_le _, rfl, by simp, ⟨_, by intro j hj; omega, H⟩, World.grownBy.refl _ _⟩
  case round =>
    obtain ⟨k, hk, rfl, rfl, ⟨cs, hc, ho⟩, hg⟩ := hrel
    by_cases hlt : k < n
    · obtain ⟨g, off, cap', hv, _, _, hcell⟩ := SlF.at (own_sl ho.out) (by omega)
      simp only [Value.slice.injEq] at hv
      obtain ⟨rfl, -, rfl⟩ := hv
      have hoff : off = 0 := by
        obtain ⟨g', cap', e', _⟩ := own_ad ho.out (by simp)
        simp at e'
        exact e'.1.2
      subst hoff
      have hcsl : cs.length = n * 2 := ho.out.1
      have s0 := Lib.hid (World.ownsRow.stored (ho.out) (k * 2) (.int .i64 (k0 + (k * 2 : Nat))))
      have s1 := Lib.hid (World.ownsRow.stored (s0.out.1) (k * 2 + 1) (.int .i64 (k0 + (k * 2 : Nat) + 1)))
      have hfr := World.ownsRow.frozenAt ho.out
      have c0 := hcell (k * 2) (by omega)
      obtain ⟨z0, hz0⟩ : ∃ z, cs[k * 2]? = some z := ⟨_, List.getElem?_eq_getElem (by omega)⟩
      rw [hz0, Nat.zero_add] at c0
      have c1 := hcell (k * 2 + 1) (by omega)
      obtain ⟨z1, hz1⟩ : ∃ z, cs[k * 2 + 1]? = some z := ⟨_, List.getElem?_eq_getElem (by omega)⟩
      rw [hz1, Nat.zero_add] at c1
      clear hcell
      go_wp2_with fail
      go_roundw
      case rel =>
        refine ⟨k + 1, by omega, by go_num, by go_num, ⟨_, ?_, s1.out.1⟩, grownBy_trans2 (grownBy_trans2 (hg.out) s0.out.2) s1.out.2⟩
        intro j hj
        by_cases hlt2 : j < k * 2
        · rw [← hc.out j hlt2]
          simp only [List.getElem?_set]
          repeat rw [if_neg (by omega)]
        · obtain ⟨i, hi, rfl⟩ : ∃ i, i < 2 ∧ j = k * 2 + i := ⟨j - k * 2, by omega, by omega⟩
          rw [cellsB_get _ k (by rw [marksB_len]; exact hlt) i hi, marksB_get]
          simp only [List.getElem?_set, List.length_set]
          rcases (show i = 0 ∨ i = 1 by omega) with rfl | rfl
          all_goals simp [encB, mkB, hcsl]
          all_goals omega
      case measure => simp [intOf]; omega
    · have hke : k = n := by omega
      subst hke
      go_wp2_with fail
      go_ret
      refine ⟨rfl, ?_, hg.out⟩
      have hcs : cs = cellsB (marksB k0 k) := List.ext_getElem? fun j => by
        by_cases hj : j < k * 2
        · exact hc.out j hj
        · rw [List.getElem?_eq_none (by have := ho.out.1; omega), List.getElem?_eq_none (by rw [cellsB_len, marksB_len]; omega)]
      rw [← hcs]
      exact ho.out
theorem slB_up {w : World} {v : Value} {k : Int} {n : Nat} (h : SlF w v 2 n (cellsB (marksB k n))) : SlB w v (marksB k n) := by
  unfold SlB
  rw [marksB_len]
  exact h
theorem heldBS_any (n : Nat) (v : Value) (k0 : Int) (w : World) (h : SlB w v (marksB k0 n)) (hk0 : -1 ≤ k0) (hk1 : k0 ≤ 1099511627776) (hlen : n ≤ 16777216) : Calls Try.prog 25 #[v, .int .i64 k0] w fun e w' => e = .returned (.int .i64 (k0 + (n * 2 : Nat))) ∧ w = w' := by
  have hul := marksB_len k0 n
  obtain ⟨a, cap, rfl, h1, h2⟩ := SlF.shape h
  unfold maxLen at h2
  have H := Lib.hid h
  clear h
  rw [hul]
  go_enter Try.func25, Try.ntmps25
  go_wp2_with fail
  go_loop [1, 5] (fun m i => ∃ (k : Nat), k ≤ n ∧ i = .int .i64 k ∧ m = .int .i64 (k0 + (k * 2 : Nat))) (fun _ i => n - (intOf i).toNat)
  case atStart => exact ⟨0, Nat.zero_le _, rfl, by simp⟩
  case round =>
    obtain ⟨k, hk, rfl, rfl⟩ := hrel
    by_cases hlt : k < n
    · obtain ⟨g, off, cap', hv, _, _, c0, c1⟩ := H.out.cells k (by omega)
      simp only [Value.slice.injEq] at hv
      obtain ⟨rfl, -, rfl⟩ := hv
      simp only [marksB_get, mkB] at c0 c1
      have hne : ∀ z : Int, (z != z) = false := fun z => by simp
      go_wp2_with fail
      go_round
      case rel => exact ⟨k + 1, by omega, by go_num, by go_num⟩
      case measure => simp [intOf]; omega
    · have hke : k = n := by omega
      subst hke
      go_wp2_with fail
      go_ret
      exact ⟨rfl, rfl⟩
end Go.Proofs.Ytfghgpdhcpcoiaa
