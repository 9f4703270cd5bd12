/-
  The exact law on valid paths. Condition: bytealg's MaxLen is a number.
-/
import Derived.Test.YtamhnhojfhlanaaDoorPu
set_option linter.unusedSimpArgs false
set_option linter.unusedVariables false
namespace Go.Proofs.YtamhnhojfhlanaaDoor
open Go.RowKit
theorem words_of (s : ByteArray) : ∃ xs, Words s.data.toList xs := ⟨(wordsL s.data.toList).map fun l => ⟨l.toArray⟩, by simp [Words, List.map_map, Function.comp_def]⟩
theorem fnExactPathValid_any (s : ByteArray) (w : World) (hN : MaxN w) (hs : s.size ≤ maxLen) : Calls Tryd.prog 3 #[.string s] w fun e w' => e = .returned (.bool true) ∧ Below w.heap.size w w' := by
  have HN := Lib.hid hN
  clear hN
  unfold maxLen at hs
  by_cases hlong : (1048576 : Int) < (s.size : Int)
  · go_enter Tryd.func3, Tryd.ntmps3
    go_wp2_with fail
    go_ret
    exact ⟨rfl, Below.refl _ _⟩
  · obtain ⟨xs, hx⟩ := words_of s
    have CS := fun wx => specPathValid_any s wx (by omega) xs hx
    have CI := fun wx (h : MaxN wx) => implPathValid_any s wx h (by omega) xs hx
    clear hx
    cases hp : pathOk xs
    all_goals
      rw [hp] at CS CI
      go_enter Tryd.func3, Tryd.ntmps3
      go_wp2_with fail
      refine (CS _).mono ?_
      rintro e w1 ⟨rfl, b1⟩
      go_wp2_with fail
      refine (CI _ (MaxN.below HN.out b1)).mono ?_
      rintro e w2 ⟨rfl, b2⟩
      have hB2 := Below.via b2 b1
      go_wp2_with fail
      go_ret
      exact ⟨rfl, hB2⟩
end Go.Proofs.YtamhnhojfhlanaaDoor
