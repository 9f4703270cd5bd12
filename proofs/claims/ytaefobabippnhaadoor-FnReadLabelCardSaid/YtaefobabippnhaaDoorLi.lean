/-
  The levels' names as they were laid: what the condition gives; a start that meets it.
-/
import Derived.Test.YtaefobabippnhaaDoorLq
import Derived.Test.YtaefobabippnhaaDoorO
import Derived.ProofKit
import Derived.LaidMore
import Derived.OpenShut
import Derived.OpenVars
import Derived.SliceStrings
import Derived.Stop.Joined
set_option linter.unusedSimpArgs false
set_option linter.unusedVariables false
namespace Go.Proofs.YtaefobabippnhaaDoor
open Go.ChangeShapes Go.WideShapes Go.ChangeAt Go.RowKit
def laidD : List (String × DataW Unit) := [("loop.example/accesspolicies/impl.levelNames", Rows.laid_loop_example_accesspolicies_impl_levelNames)]
theorem gNames : Tryd.prog.globalNamed "loop.example/accesspolicies/impl.levelNames" = some 0 := by kernel_rfl
theorem tNames : (Tryd.prog.globals[0]?).map (·.type) = some 38 := by kernel_rfl
theorem door_met (os : Os) (args : Array Value) : laidMetH Tryd.prog laidD ((World.doorLaid Tryd.prog 400 os).forCall (fun _ _ => 0) ⟨#[], args, []⟩).memory :=
  laidMetH_of_parts3 (fuel := 8) (laidMet_of_run' 8 (by kernel_rfl) (by kernel_rfl)) (by kernel_rfl) (by kernel_rfl)
theorem lvN_of_laid {W : World} (h : laidMetH Tryd.prog laidD W) : LvN W := by
  rw [MakeChecks.laidMetH_plain _ _ _ (by kernel_rfl)] at h
  obtain ⟨ps, ⟨g0, t0, cs0, f0, p0, q0, hg0, ht0, hv0, hd0, _⟩, _, _⟩ := h
  obtain rfl := Option.some.inj (gNames.symm.trans hg0)
  obtain rfl := Option.some.inj (tNames.symm.trans ht0)
  have hcm : ∀ ad n c, cs0.toList = [.slice (some ad) n c] → c ≤ maxLen := by
    intro ad n c hc
    rcases open_strings Tryd.underlying38 Tryd.underlying9 (by kernel_rfl) hd0 with ⟨h1, _⟩ | ⟨a, l, c', ss, h1, _, _, h2, _⟩
    · rw [hc] at h1
      simp at h1
    · rw [hc] at h1
      simp at h1
      rw [h1.2.2]
      exact h2
  obtain ⟨a, c, hcs, hl, hel⟩ := open_row Tryd.underlying38 (by kernel_rfl) hd0
  have hcell : W.cell? ⟨0, 0, none⟩ = some (.slice (some a) 4 c) := by
    have := World.var?_cell hg0 hv0 0
    rw [Array.eq_one_of_toList hcs] at this
    simpa using this
  have each : ∀ (i : Nat) bs, (([.lit (.string [111, 112, 101, 110]), .lit (.string [105, 110, 110, 101, 114]), .lit (.string [115, 101, 99, 114, 101, 116]), .lit (.string [116, 111, 112])] : List (DataW Unit)))[i]? = some (.lit (.string bs)) → W.cell? (a.add i) = some (.string ⟨bs.toArray⟩) := by
    intro i bs hi
    obtain ⟨v, n, q, hc, ht⟩ := hel i _ hi
    obtain ⟨s, hs, hx, _⟩ := DataW.trod_string Tryd.underlying9 ht
    simp only [List.cons.injEq, and_true] at hs
    subst hs
    simp only [Prod.mk.injEq, DataW.lit.injEq, Lit.string.injEq] at hx
    rw [hc, hx.1]
  obtain ⟨g, off, spot⟩ := a
  have hspot : spot = none := by simpa [Addr.add] using World.cell?_spot (each 0 _ rfl)
  subst hspot
  refine ⟨g, off, c, hcell, hl, hcm _ _ _ hcs, fun i hi => ?_⟩
  rw [← add_plain]
  rcases (show i = 0 ∨ i = 1 ∨ i = 2 ∨ i = 3 by omega) with rfl | rfl | rfl | rfl
  · exact each 0 _ rfl
  · exact each 1 _ rfl
  · exact each 2 _ rfl
  · exact each 3 _ rfl
end Go.Proofs.YtaefobabippnhaaDoor
