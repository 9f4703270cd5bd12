/-
  Exact laws on labels' texts. Condition: the levels' names lie as they were laid.
-/
import Derived.Test.YtaefobabippnhaaDoorLt
import Derived.Test.YtaefobabippnhaaDoorD
set_option linter.unusedSimpArgs false
set_option linter.unusedVariables false
namespace Go.Proofs.YtaefobabippnhaaDoor
open Go.RowKit
theorem str_same (a : ByteArray) : (a.toList != a.toList) = false := by simp
theorem fnExactLabelText_any (l a : Int) (w : World) (hN : LvN w) : Calls Tryd.prog 3 #[.agg #[.int .i64 l, .int .i64 a]] w fun e w' => e = .returned (.bool true) ∧ Below w.heap.size w w' := by
  have HN := Lib.hid hN
  clear hN
  have hB0 := Below.al (Below.refl w.heap.size w) (.cells #[.int .i64 l, .int .i64 a] 23)
  have k1 := Bk.new (w := w) (vs := #[.int .i64 l, .int .i64 a]) (t := 23)
  have x1 := k1.cell
  have CS := fun wx => specLabelText_any l a wx
  have CI := fun wx (h : LvN wx) => implLabelText_any l a wx h
  generalize labS l a = t at CS CI
  have hss := str_same t
  go_enter Tryd.func3, Tryd.ntmps3
  go_wp2_with fail
  refine (toLabel_any l a _).mono ?_
  rintro e w1 ⟨rfl, b1⟩
  have hB1 := Below.via b1 hB0
  have k2 := k1.below b1
  go_wp2_with fail
  refine (CS _).mono ?_
  rintro e w2 ⟨rfl, b2⟩
  have hB2 := Below.via b2 hB1
  have k3 := k2.below b2
  clear x1
  have x1 := k3.cell
  go_wp2_with fail
  refine (toLabel_any l a _).mono ?_
  rintro e w3 ⟨rfl, b3⟩
  have hB3 := Below.via b3 hB2
  go_wp2_with fail
  refine (CI _ (LvN.below HN.out hB3)).mono ?_
  rintro e w4 ⟨rfl, b4⟩
  have hB4 := Below.via b4 hB3
  go_wp2_with fail
  go_ret
  exact ⟨rfl, hB4⟩
theorem fnExactReadLabel_any (s : ByteArray) (w : World) (hN : LvN w) (hs : s.size ≤ maxLen) : Calls Tryd.prog 4 #[.string s] w fun e w' => e = .returned (.bool true) ∧ Below w.heap.size w w' := by
  have HN := Lib.hid hN
  clear hN
  unfold maxLen at hs
  by_cases hlong : (1048576 : Int) < (s.size : Int)
  · go_enter Tryd.func4, Tryd.ntmps4
    go_wp2_with fail
    go_ret
    exact ⟨rfl, Below.refl _ _⟩
  · have hs4 : s.size ≤ 4194304 := by omega
    have CS := fun wx => specReadLabel_any s wx hs4
    have CI := fun wx (h : LvN wx) => implReadLabel_any s wx h
    go_enter Tryd.func4, Tryd.ntmps4
    go_wp2_with fail
    refine (CS _).mono ?_
    rintro e w1 ⟨r1, b1⟩
    have HR1 := Lib.hid r1
    rcases r1 with ⟨l, a, h1, rfl⟩ | ⟨h1, rfl⟩
    · have H1 := Lib.hid h1
      clear h1
      have hB2 := Below.al b1 (.cells #[.int .i64 l, .int .i64 a] 25)
      have k1 := Bk.new (w := w1) (vs := #[.int .i64 l, .int .i64 a]) (t := 25)
      have x1 := k1.cell
      go_wp2_with fail
      refine (CI _ (LvN.below HN.out hB2)).mono ?_
      rintro e w2 ⟨r2, b2⟩
      rcases r2 with ⟨l', a', h2, rfl⟩ | ⟨h2, rfl⟩
      · obtain ⟨rfl, rfl⟩ := isLab_one H1.out h2
        have hB3 := Below.via b2 hB2
        have k2 := k1.below b2
        have k3 := k2.alloc (.cells #[.int .i64 l, .int .i64 a] 25)
        have k4 := Bk.new (w := w2) (vs := #[.int .i64 l, .int .i64 a]) (t := 25)
        have hB4 := Below.al hB3 (.cells #[.int .i64 l, .int .i64 a] 25)
        clear x1
        have x1 := k3.cell
        have x2 := k4.cell
        have CE := fun wx => eqLabel_any l a l a wx
        have e1 : ((l : Int) == l && (a : Int) == a) = true := by simp
        rw [e1] at CE
        clear h2 e1
        go_wp2_with fail
        refine (CE _).mono ?_
        rintro e w5 ⟨rfl, b5⟩
        have hB5 := Below.via b5 hB4
        go_wp2_with fail
        go_ret
        exact ⟨rfl, hB5⟩
      · exact absurd H1.out (h2 l a)
    · have H1 := Lib.hid h1
      clear h1
      have hB2 := Below.al b1 (.cells #[.int .i64 0, .int .i64 0] 25)
      have k1 := Bk.new (w := w1) (vs := #[.int .i64 0, .int .i64 0]) (t := 25)
      have x1 := k1.cell
      go_wp2_with fail
      refine (CI _ (LvN.below HN.out hB2)).mono ?_
      rintro e w2 ⟨r2, b2⟩
      rcases r2 with ⟨l', a', h2, rfl⟩ | ⟨h2, rfl⟩
      · exact absurd h2 (H1.out l' a')
      · have hB3 := Below.via b2 hB2
        have k2 := k1.below b2
        have k3 := k2.alloc (.cells #[.int .i64 0, .int .i64 0] 25)
        have k4 := Bk.new (w := w2) (vs := #[.int .i64 0, .int .i64 0]) (t := 25)
        have hB4 := Below.al hB3 (.cells #[.int .i64 0, .int .i64 0] 25)
        clear x1
        have x1 := k3.cell
        have x2 := k4.cell
        have CE := fun wx => eqLabel_any 0 0 0 0 wx
        have e1 : ((0 : Int) == 0 && (0 : Int) == 0) = true := by simp
        rw [e1] at CE
        clear h2 e1
        go_wp2_with fail
        refine (CE _).mono ?_
        rintro e w5 ⟨rfl, b5⟩
        have hB5 := Below.via b5 hB4
        go_wp2_with fail
        go_ret
        exact ⟨rfl, hB5⟩
end Go.Proofs.YtaefobabippnhaaDoor
