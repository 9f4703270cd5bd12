/-
  The laws on labels read. Condition: the levels' names lie as they were laid.
-/
import Derived.Test.YtaefobabippnhaaDoorLw
set_option linter.unusedSimpArgs false
set_option linter.unusedVariables false
namespace Go.Proofs.YtaefobabippnhaaDoor
open Go.RowKit
theorem noLab_blank (s : ByteArray) : NoLab (s ++ ⟨#[32]⟩).data.toList := fun l a => by
  rw [app_list]
  exact noLab_space l a
set_option maxRecDepth 100000 in
theorem fnReadLabel_any (a : Option Addr) (len cap : Nat) (w : World) (hN : LvN w) (h : Bytes w a len cap) : Calls Tryd.prog 6 #[.slice a len cap] w fun e w' => e = .returned (.bool true) ∧ Below w.heap.size w w' := by
  have HN := Lib.hid hN
  have H := Lib.hid h
  have h1 := h.1
  have h2 := h.2.1
  unfold maxLen at h2
  clear h hN
  by_cases hl : (1048576 : Int) < (len : Int)
  · go_enter Tryd.func6, Tryd.ntmps6
    go_wp2_with fail
    go_ret
    exact ⟨rfl, Below.refl _ _⟩
  · have hc1 : (⟨#[32]⟩ : ByteArray).size = 1 := rfl
    go_enter Tryd.func6, Tryd.ntmps6
    go_wp2_with fail
    refine (drawReadLabel_any a len cap _ H.out).mono ?_
    rintro e w1 ⟨s, rfl, hs, b1⟩
    have CI := fun wx (h : LvN wx) => implReadLabel_any s wx h
    have CS := fun wx => specReadLabel_any s wx (by omega)
    go_wp2_with fail
    refine (CI _ (LvN.below HN.out b1)).mono ?_
    rintro e w2 ⟨r2, b2⟩
    have hB2 := Below.via b2 b1
    rcases r2 with ⟨l, x, h2', rfl⟩ | ⟨h2', rfl⟩
    · have H2 := Lib.hid h2'
      have hB3 := Below.al hB2 (.cells #[.int .i64 l, .int .i64 x] 25)
      have k1 := Bk.new (w := w2) (vs := #[.int .i64 l, .int .i64 x]) (t := 25)
      have HLS := Lib.hid ((labS_eq l x h2'.1 h2'.2.1 s).2 h2')
      clear h2'
      go_wp2_with fail
      refine (CS _).mono ?_
      rintro e w3 ⟨r3, b3⟩
      rcases r3 with ⟨l', x', h3, rfl⟩ | ⟨h3, rfl⟩
      · obtain ⟨rfl, rfl⟩ := isLab_one H2.out h3
        have hB4 := Below.via b3 hB3
        have k2 := (k1.below b3).alloc (.cells #[.int .i64 l, .int .i64 x] 25)
        have k3 := Bk.new (w := w3) (vs := #[.int .i64 l, .int .i64 x]) (t := 25)
        have hB5 := Below.al hB4 (.cells #[.int .i64 l, .int .i64 x] 25)
        have x2 := k2.cell
        have x3 := k3.cell
        have CB := Lib.hid (fun wx (h : LvN wx) => implReadLabel_any (s ++ ⟨#[32]⟩) wx h)
        have CT := Lib.hid (fun wx (h : LvN wx) => implLabelText_any l x wx h)
        rw [HLS.out] at CT
        have HNB := Lib.hid (noLab_blank s)
        clear h3 CI CS
        go_wp2_with fail
        refine (CB.out _ (LvN.below HN.out hB5)).mono ?_
        rintro e w4 ⟨r4, b4⟩
        rcases r4 with ⟨l', x', h4, rfl⟩ | ⟨h4, rfl⟩
        · exact absurd h4 (HNB.out l' x')
        · have hB6 := Below.via b4 hB5
          have k4 := (k2.below b4).alloc (.cells #[.int .i64 0, .int .i64 0] 25)
          have hB7 := Below.al hB6 (.cells #[.int .i64 0, .int .i64 0] 25)
          clear x2 x3 h4
          have x2 := k4.cell
          have hss : (s.toList == s.toList) = true := by simp
          go_wp2_with fail
          refine (CT.out _ (LvN.below HN.out hB7)).mono ?_
          rintro e w5 ⟨rfl, b5⟩
          have hB8 := Below.via b5 hB7
          go_wp2_with fail
          go_ret
          exact ⟨rfl, hB8⟩
      · exact absurd H2.out (h3 l x)
    · have H2 := Lib.hid h2'
      have hB3 := Below.al hB2 (.cells #[.int .i64 0, .int .i64 0] 25)
      have k1 := Bk.new (w := w2) (vs := #[.int .i64 0, .int .i64 0]) (t := 25)
      clear h2'
      go_wp2_with fail
      refine (CS _).mono ?_
      rintro e w3 ⟨r3, b3⟩
      rcases r3 with ⟨l', x', h3, rfl⟩ | ⟨h3, rfl⟩
      · exact absurd h3 (H2.out l' x')
      · have hB4 := Below.via b3 hB3
        have k2 := (k1.below b3).alloc (.cells #[.int .i64 0, .int .i64 0] 25)
        have k3 := Bk.new (w := w3) (vs := #[.int .i64 0, .int .i64 0]) (t := 25)
        have hB5 := Below.al hB4 (.cells #[.int .i64 0, .int .i64 0] 25)
        have x2 := k2.cell
        have x3 := k3.cell
        clear h3 CI CS
        go_wp2_with fail
        refine (alive_any _).mono ?_
        rintro e w5 ⟨rfl, rfl⟩
        go_wp2_with fail
        go_ret
        exact ⟨rfl, hB5⟩
end Go.Proofs.YtaefobabippnhaaDoor
