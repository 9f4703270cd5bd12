/-
  The law on tuples read. Condition: the library's variables that the road reads hold what they are laid to hold.
-/
import Derived.Test.YtgfcikckomhbeaaDoorTxd
set_option linter.unusedSimpArgs false
set_option linter.unusedVariables false
namespace Go.Proofs.YtgfcikckomhbeaaDoor
open Go.RowKit
theorem noTup_blank (s : ByteArray) : NoTup (s ++ ⟨#[32]⟩).data.toList := fun t h => by
  have e : (s ++ ⟨#[32]⟩ : ByteArray).data.toList = s.data.toList ++ [32] := by simp
  rw [e] at h
  exact noTup_space h
theorem isTup_text {s : ByteArray} {t : Tup} (h : IsTup s.data.toList t) : tupS t = s := (tupS_eq (fun hh => tupT_ne t (by rw [h.2, hh])) t).2 h
set_option maxRecDepth 100000 in
set_option maxHeartbeats 3200000 in
theorem fnReadTuple_any (a : Option Addr) (len cap : Nat) (w : World) (hN : DoorN w) (h : Bytes w a len cap) : Calls Tryd.prog 6 #[.slice a len cap] w fun e w' => e = .returned (.bool true) ∧ Below w.heap.size w w' := by
  have HN := Lib.hid hN
  have H := Lib.hid h
  have h1 := h.1
  have h2 := h.2.1
  unfold maxLen at h2
  clear h hN
  by_cases hl : (1048576 : Int) < (len : Int)
  · go_enter Tryd.func6, Tryd.ntmps6
    go_wp2_with fail
    go_ret
    exact ⟨rfl, Below.refl _ _⟩
  · have hc1 : (⟨#[32]⟩ : ByteArray).size = 1 := rfl
    go_enter Tryd.func6, Tryd.ntmps6
    go_wp2_with fail
    refine (drawReadTuple_any a len cap _ H.out).mono ?_
    rintro e w1 ⟨s, rfl, hs, b1⟩
    have CI := fun wx (h : DoorN wx) => implReadTuple_any s wx h (by omega)
    have CS := fun wx => specReadTuple_any s wx (by omega)
    go_wp2_with fail
    refine (CI _ (DoorN.below HN.out b1)).mono ?_
    rintro e w2 ⟨r2, b2⟩
    have hB2 := Below.via b2 b1
    rcases r2 with ⟨t, h2', rfl⟩ | ⟨h2', rfl⟩
    · have H2 := Lib.hid h2'
      have HTX := Lib.hid (isTup_text h2')
      have hst : Str t := by
        obtain ⟨_, _, q1, q3⟩ := tOk_parts h2'.1
        have l1 := (name_len q1).2
        have e1 : t.f1.data.toList.length = t.f1.size := Array.length_toList
        have e3 : t.f3.data.toList.length = t.f3.size := Array.length_toList
        unfold Str maxLen
        refine ⟨by omega, ?_⟩
        unfold viaOk at q3
        cases he : t.f3.toList.isEmpty
        · rw [he, Bool.false_or] at q3
          have := (name_len q3).2
          omega
        · have := (isEmpty_iff _).1 he
          rw [this] at e3
          simp at e3
          omega
      have CT := Lib.hid (fun wx => implTupleText_any t wx hst)
      rw [HTX.out] at CT
      clear h2' hst
      obtain ⟨u0, u1, u2, u3⟩ := t
      simp only at CT
      have hB3 := Below.al hB2 (.cells #[.int .i64 u0, .string u1, .int .i64 u2, .string u3] 26)
      have k1 := Bk.new (w := w2) (vs := #[.int .i64 u0, .string u1, .int .i64 u2, .string u3]) (t := 26)
      go_wp2_with fail
      refine (CS _).mono ?_
      rintro e w3 ⟨r3, b3⟩
      rcases r3 with ⟨u, h3, rfl⟩ | ⟨h3, rfl⟩
      · obtain rfl := isTup_one H2.out h3
        have hB4 := Below.via b3 hB3
        have k2 := (k1.below b3).alloc (.cells #[.int .i64 u0, .string u1, .int .i64 u2, .string u3] 26)
        have k3 := Bk.new (w := w3) (vs := #[.int .i64 u0, .string u1, .int .i64 u2, .string u3]) (t := 26)
        have hB5 := Below.al hB4 (.cells #[.int .i64 u0, .string u1, .int .i64 u2, .string u3] 26)
        have x2 := k2.cell
        have x3 := k3.cell
        have CB := Lib.hid (fun wx (h : DoorN wx) => implReadTuple_any (s ++ ⟨#[32]⟩) wx h (by rw [ByteArray.size_append]; omega))
        have HNB := Lib.hid (noTup_blank s)
        clear h3 CI CS
        go_wp2_with fail
        refine (CB.out _ (DoorN.below HN.out hB5)).mono ?_
        rintro e w4 ⟨r4, b4⟩
        rcases r4 with ⟨u, h4, rfl⟩ | ⟨h4, rfl⟩
        · exact absurd h4 (HNB.out u)
        · have hB6 := Below.via b4 hB5
          have k4 := (k2.below b4).alloc (.cells #[.int .i64 0, .string ⟨#[]⟩, .int .i64 0, .string ⟨#[]⟩] 26)
          have hB7 := Below.al hB6 (.cells #[.int .i64 0, .string ⟨#[]⟩, .int .i64 0, .string ⟨#[]⟩] 26)
          clear x2 x3 h4
          have x2 := k4.cell
          have hss : (s.toList == s.toList) = true := by simp
          go_wp2_with fail
          refine (CT.out _).mono ?_
          rintro e w5 ⟨rfl, b5⟩
          have hB8 := Below.via b5 hB7
          go_wp2_with fail
          go_ret
          exact ⟨rfl, hB8⟩
      · exact absurd H2.out (h3 _)
    · have H2 := Lib.hid h2'
      have hB3 := Below.al hB2 (.cells #[.int .i64 0, .string ⟨#[]⟩, .int .i64 0, .string ⟨#[]⟩] 26)
      have k1 := Bk.new (w := w2) (vs := #[.int .i64 0, .string ⟨#[]⟩, .int .i64 0, .string ⟨#[]⟩]) (t := 26)
      clear h2'
      go_wp2_with fail
      refine (CS _).mono ?_
      rintro e w3 ⟨r3, b3⟩
      rcases r3 with ⟨u, h3, rfl⟩ | ⟨h3, rfl⟩
      · exact absurd h3 (H2.out u)
      · have hB4 := Below.via b3 hB3
        have k2 := (k1.below b3).alloc (.cells #[.int .i64 0, .string ⟨#[]⟩, .int .i64 0, .string ⟨#[]⟩] 26)
        have k3 := Bk.new (w := w3) (vs := #[.int .i64 0, .string ⟨#[]⟩, .int .i64 0, .string ⟨#[]⟩]) (t := 26)
        have hB5 := Below.al hB4 (.cells #[.int .i64 0, .string ⟨#[]⟩, .int .i64 0, .string ⟨#[]⟩] 26)
        have x2 := k2.cell
        have x3 := k3.cell
        clear h3 CI CS
        go_wp2_with fail
        refine (alive_any _).mono ?_
        rintro e w5 ⟨rfl, rfl⟩
        go_wp2_with fail
        go_ret
        exact ⟨rfl, hB5⟩
end Go.Proofs.YtgfcikckomhbeaaDoor
