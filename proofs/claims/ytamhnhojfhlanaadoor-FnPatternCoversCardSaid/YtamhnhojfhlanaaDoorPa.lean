/-
  The law on paths at patterns. Condition: bytealg's MaxLen is a number.
-/
import Derived.Test.YtamhnhojfhlanaaDoorPz
import Derived.Test.YtamhnhojfhlanaaDoorPx
import Derived.Test.YtamhnhojfhlanaaDoorPo
set_option linter.unusedSimpArgs false
set_option linter.unusedVariables false
namespace Go.Proofs.YtamhnhojfhlanaaDoor
open Go.RowKit
theorem words_stars : Words (⟨#[42, 42]⟩ : ByteArray).data.toList [star2] := by unfold Words; decide
set_option maxRecDepth 100000 in
set_option maxHeartbeats 1600000 in
theorem fnPathFits_any (a : Option Addr) (len cap : Nat) (w : World) (hN : MaxN w) (h : Bytes w a len cap) : Calls Tryd.prog 8 #[.slice a len cap] w fun e w' => e = .returned (.bool true) ∧ Below w.heap.size w w' := by
  have HN := Lib.hid hN
  have H := Lib.hid h
  have h1 := h.1
  have h2 := h.2.1
  unfold maxLen at h2
  clear h hN
  by_cases hl : (1048576 : Int) < (len : Int)
  · go_enter Tryd.func8, Tryd.ntmps8
    go_wp2_with fail
    go_ret
    exact ⟨rfl, Below.refl _ _⟩
  · go_enter Tryd.func8, Tryd.ntmps8
    go_wp2_with fail
    refine (drawPathFits_any a len cap _ H.out).mono ?_
    rintro e w1 ⟨s, t, rfl, hs, ht, b1⟩
    obtain ⟨xs, hx⟩ := words_of s
    obtain ⟨ys, hy⟩ := words_of t
    have CI := Lib.hid (fun wx (h : MaxN wx) => implPathFits_any s t wx h (by omega) (by omega) xs ys hx hy)
    have CS := Lib.hid (fun wx => specPathFits_any s t wx (by omega) (by omega) xs ys hx hy)
    have C1 := Lib.hid (fun wx (h : MaxN wx) => implPathFits_any s s wx h (by omega) (by omega) xs xs hx hx)
    have C2 := Lib.hid (fun wx (h : MaxN wx) => implPathValid_any s wx h (by omega) xs hx)
    have C3 := Lib.hid (fun wx (h : MaxN wx) => implPathFits_any s ⟨#[42, 42]⟩ wx h (by omega) (by decide) xs [star2] hx words_stars)
    have C4 := Lib.hid (fun wx (h : MaxN wx) => implPatternCovers_any t s wx h (by omega) (by omega) ys xs hy hx)
    rw [fits_self] at C1
    rw [fits_stars xs hx.len.1] at C3
    clear hx hy
    cases hf : fits xs ys
    · rw [hf] at CI CS
      clear C4 hf
      cases hp : pathOk xs
      all_goals
        rw [hp] at C1 C2 C3
        clear hp
        go_wp2_with fail
        refine (CI.out _ (MaxN.below HN.out b1)).mono ?_
        rintro e w2 ⟨rfl, b2⟩
        have hB2 := Below.via b2 b1
        go_wp2_with fail
        refine (CS.out _).mono ?_
        rintro e w3 ⟨rfl, b3⟩
        have hB3 := Below.via b3 hB2
        go_wp2_with fail
        refine (C1.out _ (MaxN.below HN.out hB3)).mono ?_
        rintro e w4 ⟨rfl, b4⟩
        have hB4 := Below.via b4 hB3
        go_wp2_with fail
        refine (C2.out _ (MaxN.below HN.out hB4)).mono ?_
        rintro e w5 ⟨rfl, b5⟩
        have hB5 := Below.via b5 hB4
        go_wp2_with fail
        refine (C3.out _ (MaxN.below HN.out hB5)).mono ?_
        rintro e w6 ⟨rfl, b6⟩
        have hB6 := Below.via b6 hB5
        go_wp2_with fail
        refine (C2.out _ (MaxN.below HN.out hB6)).mono ?_
        rintro e w7 ⟨rfl, b7⟩
        have hB7 := Below.via b7 hB6
        go_wp2_with fail
        refine (alive_any _).mono ?_
        rintro e w8 ⟨rfl, rfl⟩
        go_wp2_with fail
        go_ret
        exact ⟨rfl, hB7⟩
    · rw [hf] at CI CS
      rw [fits_cov hf] at C4
      clear hf
      cases hp : pathOk xs
      all_goals
        rw [hp] at C1 C2 C3
        clear hp
        go_wp2_with fail
        refine (CI.out _ (MaxN.below HN.out b1)).mono ?_
        rintro e w2 ⟨rfl, b2⟩
        have hB2 := Below.via b2 b1
        go_wp2_with fail
        refine (CS.out _).mono ?_
        rintro e w3 ⟨rfl, b3⟩
        have hB3 := Below.via b3 hB2
        go_wp2_with fail
        refine (C1.out _ (MaxN.below HN.out hB3)).mono ?_
        rintro e w4 ⟨rfl, b4⟩
        have hB4 := Below.via b4 hB3
        go_wp2_with fail
        refine (C2.out _ (MaxN.below HN.out hB4)).mono ?_
        rintro e w5 ⟨rfl, b5⟩
        have hB5 := Below.via b5 hB4
        go_wp2_with fail
        refine (C3.out _ (MaxN.below HN.out hB5)).mono ?_
        rintro e w6 ⟨rfl, b6⟩
        have hB6 := Below.via b6 hB5
        go_wp2_with fail
        refine (C2.out _ (MaxN.below HN.out hB6)).mono ?_
        rintro e w7 ⟨rfl, b7⟩
        have hB7 := Below.via b7 hB6
        go_wp2_with fail
        refine (C4.out _ (MaxN.below HN.out hB7)).mono ?_
        rintro e w8 ⟨rfl, b8⟩
        have hB8 := Below.via b8 hB7
        go_wp2_with fail
        refine (alive_any _).mono ?_
        rintro e w9 ⟨rfl, rfl⟩
        go_wp2_with fail
        go_ret
        exact ⟨rfl, hB8⟩
end Go.Proofs.YtamhnhojfhlanaaDoor
