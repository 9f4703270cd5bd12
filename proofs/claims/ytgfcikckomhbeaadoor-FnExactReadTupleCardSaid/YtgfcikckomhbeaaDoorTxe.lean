/-
  Exact laws on tuples' texts. Condition for reading: the library's variables that the road reads hold what they are laid to hold.
-/
import Derived.Test.YtgfcikckomhbeaaDoorTxs
set_option linter.unusedSimpArgs false
set_option linter.unusedVariables false
namespace Go.Proofs.YtgfcikckomhbeaaDoor
open Go.RowKit
theorem szT_any (d : Tup) (left : Int) (w : World) (h : Str d) (h0 : 0 ≤ left) (h1 : left ≤ 1048576) : Calls Tryd.prog 7 #[.agg #[.int .i64 d.f0, .string d.f1, .int .i64 d.f2, .string d.f3], .int .i64 left] w (fun e w' => ∃ r : Int, e = .returned (.int .i64 r) ∧ -1 ≤ r ∧ r ≤ left ∧ Below w.heap.size w w') := by
  obtain ⟨h2, h3⟩ := h
  unfold maxLen at h2 h3
  by_cases p1 : left < d.f1.size
  · go_enter Tryd.func7, Tryd.ntmps7
    go_wp2_with fail
    go_ret
    exact ⟨_, rfl, by omega, by omega, Below.al (Below.refl _ _) _⟩
  · by_cases p2 : left - d.f1.size < d.f3.size
    all_goals
      go_enter Tryd.func7, Tryd.ntmps7
      go_wp2_with fail
      go_ret
      exact ⟨_, rfl, by omega, by omega, Below.al (Below.refl _ _) _⟩
theorem fnExactTupleText_any (t : Tup) (w : World) (h : Str t) : Calls Tryd.prog 3 #[.agg #[.int .i64 t.f0, .string t.f1, .int .i64 t.f2, .string t.f3]] w fun e w' => e = .returned (.bool true) ∧ Below w.heap.size w w' := by
  have hB0 := Below.al (Below.refl w.heap.size w) (.cells #[.int .i64 t.f0, .string t.f1, .int .i64 t.f2, .string t.f3] 23)
  have k1 := Bk.new (w := w) (vs := #[.int .i64 t.f0, .string t.f1, .int .i64 t.f2, .string t.f3]) (t := 23)
  have x1 := k1.cell
  have CS := fun wx => specTupleText_any t wx h
  have CI := fun wx => implTupleText_any t wx h
  have CZ := fun wx => szT_any t 1048576 wx h (by omega) (by omega)
  have CT := fun wx => toT_any t wx
  generalize tupS t = tx at CS CI
  have hss : (tx.toList == tx.toList) = true := str_yes tx
  have hsn : (!(tx.toList == tx.toList)) = false := by rw [hss]; rfl
  clear h
  obtain ⟨u0, u1, u2, u3⟩ := t
  simp only at CS CI CZ CT k1 x1 hB0
  go_enter Tryd.func3, Tryd.ntmps3
  go_wp2_with fail
  refine (CZ _).mono ?_
  rintro e w1 ⟨r, rfl, r0, r1, b1⟩
  have hB1 := Below.via b1 hB0
  have k2 := k1.below b1
  clear x1
  have x1 := k2.cell
  by_cases hr : r < 0
  · go_wp2_with fail
    go_ret
    exact ⟨rfl, hB1⟩
  · go_wp2_with fail
    refine (CT _).mono ?_
    rintro e w2 ⟨rfl, b2⟩
    have hB2 := Below.via b2 hB1
    have k3 := k2.below b2
    clear x1
    have x1 := k3.cell
    go_wp2_with fail
    refine (CS _).mono ?_
    rintro e w3 ⟨rfl, b3⟩
    have hB3 := Below.via b3 hB2
    have k4 := k3.below b3
    clear x1
    have x1 := k4.cell
    go_wp2_with fail
    refine (CT _).mono ?_
    rintro e w4 ⟨rfl, b4⟩
    have hB4 := Below.via b4 hB3
    go_wp2_with fail
    refine (CI _).mono ?_
    rintro e w5 ⟨rfl, b5⟩
    have hB5 := Below.via b5 hB4
    go_wp2_with fail
    go_ret
    exact ⟨rfl, hB5⟩
theorem eqT_self (t : Tup) : eqT t t = true := by simp [eqT]
theorem fnExactReadTuple_any (s : ByteArray) (w : World) (hN : DoorN w) (hs : s.size ≤ maxLen) : Calls Tryd.prog 5 #[.string s] w fun e w' => e = .returned (.bool true) ∧ Below w.heap.size w w' := by
  have HN := Lib.hid hN
  clear hN
  unfold maxLen at hs
  by_cases hlong : (1048576 : Int) < (s.size : Int)
  · go_enter Tryd.func5, Tryd.ntmps5
    go_wp2_with fail
    go_ret
    exact ⟨rfl, Below.refl _ _⟩
  · have hs4 : s.size ≤ 4194304 := by omega
    have CS := fun wx => specReadTuple_any s wx hs4
    have CI := fun wx (h : DoorN wx) => implReadTuple_any s wx h hs4
    go_enter Tryd.func5, Tryd.ntmps5
    go_wp2_with fail
    refine (CS _).mono ?_
    rintro e w1 ⟨r1, b1⟩
    have done : ∀ t : Tup, (∀ u, IsTup s.data.toList u → u = t) → True := fun _ _ => trivial
    rcases r1 with ⟨t, h1, rfl⟩ | ⟨h1, rfl⟩
    · have H1 := Lib.hid h1
      clear h1 done
      have CE := Lib.hid (fun wx => (eqT_self t) ▸ eqT_any t t wx)
      have hB2 := Below.al b1 (.cells #[.int .i64 t.f0, .string t.f1, .int .i64 t.f2, .string t.f3] 26)
      have k1 := Bk.new (w := w1) (vs := #[.int .i64 t.f0, .string t.f1, .int .i64 t.f2, .string t.f3]) (t := 26)
      have x1 := k1.cell
      go_wp2_with fail
      refine (CI _ (DoorN.below HN.out hB2)).mono ?_
      rintro e w2 ⟨r2, b2⟩
      rcases r2 with ⟨u, h2, rfl⟩ | ⟨h2, rfl⟩
      · obtain rfl := isTup_one H1.out h2
        have hB3 := Below.via b2 hB2
        have k2 := k1.below b2
        have k3 := k2.alloc (.cells #[.int .i64 t.f0, .string t.f1, .int .i64 t.f2, .string t.f3] 26)
        have k4 := Bk.new (w := w2) (vs := #[.int .i64 t.f0, .string t.f1, .int .i64 t.f2, .string t.f3]) (t := 26)
        have hB4 := Below.al hB3 (.cells #[.int .i64 t.f0, .string t.f1, .int .i64 t.f2, .string t.f3] 26)
        clear x1
        have x1 := k3.cell
        have x2 := k4.cell
        clear h2
        go_wp2_with fail
        refine (CE.out _).mono ?_
        rintro e w5 ⟨rfl, b5⟩
        have hB5 := Below.via b5 hB4
        go_wp2_with fail
        go_ret
        exact ⟨rfl, hB5⟩
      · exact absurd H1.out (h2 t)
    · have H1 := Lib.hid h1
      clear h1 done
      have CE := Lib.hid (fun wx => (eqT_self ⟨0, ⟨#[]⟩, 0, ⟨#[]⟩⟩) ▸ eqT_any ⟨0, ⟨#[]⟩, 0, ⟨#[]⟩⟩ ⟨0, ⟨#[]⟩, 0, ⟨#[]⟩⟩ wx)
      have hB2 := Below.al b1 (.cells #[.int .i64 0, .string ⟨#[]⟩, .int .i64 0, .string ⟨#[]⟩] 26)
      have k1 := Bk.new (w := w1) (vs := #[.int .i64 0, .string ⟨#[]⟩, .int .i64 0, .string ⟨#[]⟩]) (t := 26)
      have x1 := k1.cell
      go_wp2_with fail
      refine (CI _ (DoorN.below HN.out hB2)).mono ?_
      rintro e w2 ⟨r2, b2⟩
      rcases r2 with ⟨u, h2, rfl⟩ | ⟨h2, rfl⟩
      · exact absurd h2 (H1.out u)
      · have hB3 := Below.via b2 hB2
        have k2 := k1.below b2
        have k3 := k2.alloc (.cells #[.int .i64 0, .string ⟨#[]⟩, .int .i64 0, .string ⟨#[]⟩] 26)
        have k4 := Bk.new (w := w2) (vs := #[.int .i64 0, .string ⟨#[]⟩, .int .i64 0, .string ⟨#[]⟩]) (t := 26)
        have hB4 := Below.al hB3 (.cells #[.int .i64 0, .string ⟨#[]⟩, .int .i64 0, .string ⟨#[]⟩] 26)
        clear x1
        have x1 := k3.cell
        have x2 := k4.cell
        clear h2
        go_wp2_with fail
        refine (CE.out _).mono ?_
        rintro e w5 ⟨rfl, b5⟩
        have hB5 := Below.via b5 hB4
        go_wp2_with fail
        go_ret
        exact ⟨rfl, hB5⟩
end Go.Proofs.YtgfcikckomhbeaaDoor
