/-
  The laws on labels' texts. Condition: the levels' names lie as they were laid.
-/
import Derived.Test.YtaefobabippnhaaDoorLw
set_option linter.unusedSimpArgs false
set_option linter.unusedVariables false
namespace Go.Proofs.YtaefobabippnhaaDoor
open Go.RowKit
theorem labS_bad (l a : Int) (h : labValid l a = false) : labS l a = ⟨#[]⟩ := by
  have h' : labIn l a = false := h
  simp [labS, labTx, h']
theorem labS_good (l a : Int) (h : labValid l a = true) : ∃ m n : Nat, l = m ∧ a = n ∧ m < 4 ∧ n < 32 ∧ IsLab (labS l a).data.toList m n := by
  have h' : labIn l a = true := h
  simp only [labIn, Bool.and_eq_true, inR_iff] at h'
  refine ⟨l.toNat, a.toNat, by omega, by omega, by omega, by omega, ?_⟩
  have := (labS_eq l.toNat a.toNat (by omega) (by omega) (labS l a)).1 (by rw [show ((l.toNat : Nat) : Int) = l by omega, show ((a.toNat : Nat) : Int) = a by omega])
  exact this
set_option maxRecDepth 100000 in
theorem fnLabelText_any (a : Option Addr) (len cap : Nat) (w : World) (hN : LvN w) (h : Bytes w a len cap) : Calls Tryd.prog 5 #[.slice a len cap] w fun e w' => e = .returned (.bool true) ∧ Below w.heap.size w w' := by
  have HN := Lib.hid hN
  have H := Lib.hid h
  have h1 := h.1
  have h2 := h.2.1
  unfold maxLen at h2
  clear h hN
  by_cases hl : (1048576 : Int) < (len : Int)
  · go_enter Tryd.func5, Tryd.ntmps5
    go_wp2_with fail
    go_ret
    exact ⟨rfl, Below.refl _ _⟩
  · go_enter Tryd.func5, Tryd.ntmps5
    go_wp2_with fail
    refine (drawLabelText_any a len cap _ H.out).mono ?_
    rintro e w1 ⟨l, x, rfl, b1⟩
    have hB1 := Below.al b1 (.cells #[.int .i64 l, .int .i64 x] 25)
    have k1 := Bk.new (w := w1) (vs := #[.int .i64 l, .int .i64 x]) (t := 25)
    have x1 := k1.cell
    have CI := fun wx (h : LvN wx) => implLabelText_any l x wx h
    have CS := fun wx => specLabelText_any l x wx
    have CV := fun wx => specLabelValid_any l x wx
    have HG := Lib.hid (labS_good l x)
    have HBad := Lib.hid (labS_bad l x)
    have hsz := labS_size l x
    generalize labS l x = t at CI CS HG HBad hsz
    have hss : (t.toList != t.toList) = false := by simp
    go_wp2_with fail
    first
      | (refine (CS _).mono ?_
         rintro e w2 ⟨rfl, b2⟩)
      | (refine (CI _ (LvN.below HN.out hB1)).mono ?_
         rintro e w2 ⟨rfl, b2⟩)
    have hB2 := Below.via b2 hB1
    have k2 := k1.below b2
    clear x1
    have x1 := k2.cell
    go_wp2_with fail
    first
      | (refine (CS _).mono ?_
         rintro e w3 ⟨rfl, b3⟩)
      | (refine (CI _ (LvN.below HN.out hB2)).mono ?_
         rintro e w3 ⟨rfl, b3⟩)
    have hB3 := Below.via b3 hB2
    have k3 := k2.below b3
    clear x1
    have x1 := k3.cell
    cases hv : labValid l x
    · have ht := HBad.out hv
      rw [hv] at CV
      subst ht
      clear hv hss
      go_wp2_with fail
      refine (CV _).mono ?_
      rintro e w4 ⟨rfl, b4⟩
      have hB4 := Below.via b4 hB3
      go_wp2_with fail
      refine (alive_any _).mono ?_
      rintro e w5 ⟨rfl, rfl⟩
      go_wp2_with fail
      go_ret
      exact ⟨rfl, hB4⟩
    · obtain ⟨m, n, rfl, rfl, hm, hn, hil⟩ := HG.out hv
      have HI := Lib.hid hil
      rw [hv] at CV
      clear hv hil
      go_wp2_with fail
      refine (CV _).mono ?_
      rintro e w4 ⟨rfl, b4⟩
      have hB4 := Below.via b4 hB3
      have k4 := k3.below b4
      clear x1
      have x1 := k4.cell
      have y1 := k4.lt
      go_wp2_with fail
      refine (implReadLabel_any t _ (LvN.below HN.out hB4)).mono ?_
      rintro e w5 ⟨r5, b5⟩
      rcases r5 with ⟨l', a', h5, rfl⟩ | ⟨h5, rfl⟩
      · obtain ⟨rfl, rfl⟩ := isLab_one HI.out h5
        have hB5 := Below.via b5 hB4
        have k5 := (k4.below b5).alloc (.cells #[.int .i64 m, .int .i64 n] 25)
        have k6 := Bk.new (w := w5) (vs := #[.int .i64 m, .int .i64 n]) (t := 25)
        have hB6 := Below.al hB5 (.cells #[.int .i64 m, .int .i64 n] 25)
        clear x1 h5
        have x1 := k5.cell
        have x2 := k6.cell
        go_wp2_with fail
        go_ret
        exact ⟨rfl, hB6⟩
      · exact absurd HI.out (h5 m n)
end Go.Proofs.YtaefobabippnhaaDoor
