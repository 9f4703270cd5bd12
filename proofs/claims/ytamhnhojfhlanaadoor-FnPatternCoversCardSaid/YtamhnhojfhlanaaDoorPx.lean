/-
  The exact law on paths at patterns. Condition: bytealg's MaxLen is a number.
-/
import Derived.Test.YtamhnhojfhlanaaDoorPn
import Derived.Test.YtamhnhojfhlanaaDoorPr
set_option linter.unusedSimpArgs false
set_option linter.unusedVariables false
namespace Go.Proofs.YtamhnhojfhlanaaDoor
open Go.RowKit
theorem fnExactPathFits_any (s t : ByteArray) (w : World) (hN : MaxN w) (hs : s.size ≤ maxLen) (ht : t.size ≤ maxLen) : Calls Tryd.prog 7 #[.string s, .string t] w fun e w' => e = .returned (.bool true) ∧ Below w.heap.size w w' := by
  have HN := Lib.hid hN
  clear hN
  unfold maxLen at hs ht
  by_cases hlong : (1048576 : Int) < (s.size : Int)
  · go_enter Tryd.func7, Tryd.ntmps7
    go_wp2_with fail
    go_ret
    exact ⟨rfl, Below.refl _ _⟩
  · by_cases hlong2 : (1048576 : Int) < (t.size : Int)
    · go_enter Tryd.func7, Tryd.ntmps7
      go_wp2_with fail
      go_ret
      exact ⟨rfl, Below.refl _ _⟩
    · obtain ⟨xs, hx⟩ := words_of s
      obtain ⟨ys, hy⟩ := words_of t
      have CS := Lib.hid (fun wx => specPathFits_any s t wx (by omega) (by omega) xs ys hx hy)
      have CI := Lib.hid (fun wx (h : MaxN wx) => implPathFits_any s t wx h (by omega) (by omega) xs ys hx hy)
      clear hx hy
      cases hp : fits xs ys
      all_goals
        rw [hp] at CS CI
        clear hp
        go_enter Tryd.func7, Tryd.ntmps7
        go_wp2_with fail
        refine (CS.out _).mono ?_
        rintro e w1 ⟨rfl, b1⟩
        go_wp2_with fail
        refine (CI.out _ (MaxN.below HN.out b1)).mono ?_
        rintro e w2 ⟨rfl, b2⟩
        have hB2 := Below.via b2 b1
        go_wp2_with fail
        go_ret
        exact ⟨rfl, hB2⟩
end Go.Proofs.YtamhnhojfhlanaaDoor
