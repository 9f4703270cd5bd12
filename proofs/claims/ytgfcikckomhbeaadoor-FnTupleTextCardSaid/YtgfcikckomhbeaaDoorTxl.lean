/-
  The law on tuples' texts. Condition: the library's variables that the road reads hold what they are laid to hold.
-/
import Derived.Test.YtgfcikckomhbeaaDoorTxd
set_option linter.unusedSimpArgs false
set_option linter.unusedVariables false
namespace Go.Proofs.YtgfcikckomhbeaaDoor
open Go.RowKit
theorem tx_empty (t : Tup) : (tupS t).toList.isEmpty = !tOk t := by
  rw [ByteArray.toList_eq, tupS_list]
  unfold tupTx
  cases tOk t
  · rfl
  · rfl
set_option maxRecDepth 100000 in
set_option maxHeartbeats 3200000 in
theorem fnTupleText_any (a : Option Addr) (len cap : Nat) (w : World) (hN : DoorN w) (h : Bytes w a len cap) : Calls Tryd.prog 4 #[.slice a len cap] w fun e w' => e = .returned (.bool true) ∧ Below w.heap.size w w' := by
  have HN := Lib.hid hN
  have H := Lib.hid h
  have h1 := h.1
  have h2 := h.2.1
  unfold maxLen at h2
  clear h hN
  by_cases hl : (1048576 : Int) < (len : Int)
  · go_enter Tryd.func4, Tryd.ntmps4
    go_wp2_with fail
    go_ret
    exact ⟨rfl, Below.refl _ _⟩
  · go_enter Tryd.func4, Tryd.ntmps4
    go_wp2_with fail
    refine (drawTupleText_any a len cap _ H.out).mono ?_
    rintro e w1 ⟨t, rfl, hst, b1⟩
    have HS := Lib.hid hst
    have CI := Lib.hid (fun wx => implTupleText_any t wx hst)
    have CS := Lib.hid (fun wx => specTupleText_any t wx hst)
    have CV := Lib.hid (fun (wx : World) => implTValid_any [t] (.slice (some ⟨wx.heap.size, 0, none⟩) 1 1) (wx.alloc (.cells #[.int .i64 t.f0, .string t.f1, .int .i64 t.f2, .string t.f3] 26)) (slT_one t) (fun d hd => by rw [List.mem_singleton.1 hd]; exact hst))
    rw [tValid_one] at CV
    have hem := tx_empty t
    have HG := Lib.hid (fun h => tupS_isTup (t := t) h)
    have hsz := tupS_small t
    generalize tupS t = tx at CI CS hem HG hsz
    have hss : (tx.toList == tx.toList) = true := str_yes tx
    have hsn : (!(tx.toList == tx.toList)) = false := by rw [hss]; rfl
    clear hst
    obtain ⟨u0, u1, u2, u3⟩ := t
    simp only at CI CS CV
    have hB1 := Below.al b1 (.cells #[.int .i64 u0, .string u1, .int .i64 u2, .string u3] 26)
    have k1 := Bk.new (w := w1) (vs := #[.int .i64 u0, .string u1, .int .i64 u2, .string u3]) (t := 26)
    have x1 := k1.cell
    go_wp2_with fail
    refine (CI.out _).mono ?_
    rintro e w2 ⟨rfl, b2⟩
    have hB2 := Below.via b2 hB1
    have k2 := k1.below b2
    clear x1
    have x1 := k2.cell
    go_wp2_with fail
    refine (CS.out _).mono ?_
    rintro e w3 ⟨rfl, b3⟩
    have hB3 := Below.via b3 hB2
    have k3 := k2.below b3
    clear x1
    have x1 := k3.cell
    cases hv : tOk ⟨u0, u1, u2, u3⟩
    · rw [hv] at hem CV
      replace hem : tx.toList.isEmpty = true := hem
      have hB4 := Below.al hB3 (.cells #[.int .i64 u0, .string u1, .int .i64 u2, .string u3] 26)
      clear hv HG
      go_wp2_with fail
      refine (CV.out _).mono ?_
      rintro e w4 ⟨rfl, b4⟩
      have hB5 := Below.via b4 hB4
      go_wp2_with fail
      refine (alive_any _).mono ?_
      rintro e w5 ⟨rfl, rfl⟩
      go_wp2_with fail
      go_ret
      exact ⟨rfl, hB5⟩
    · rw [hv] at hem
      replace hem : tx.toList.isEmpty = false := hem
      have HI := Lib.hid (HG.out hv)
      have CR := Lib.hid (fun wx (h : DoorN wx) => implReadTuple_any tx wx h (by omega))
      clear hv HG
      go_wp2_with fail
      refine (CR.out _ (DoorN.below HN.out hB3)).mono ?_
      rintro e w5 ⟨r5, b5⟩
      rcases r5 with ⟨u, h5, rfl⟩ | ⟨h5, rfl⟩
      · obtain rfl := isTup_one HI.out h5
        have hB5 := Below.via b5 hB3
        have k5 := (k3.below b5).alloc (.cells #[.int .i64 u0, .string u1, .int .i64 u2, .string u3] 26)
        have k6 := Bk.new (w := w5) (vs := #[.int .i64 u0, .string u1, .int .i64 u2, .string u3]) (t := 26)
        have hB6 := Below.al hB5 (.cells #[.int .i64 u0, .string u1, .int .i64 u2, .string u3] 26)
        clear x1 h5
        have x1 := k5.cell
        have x2 := k6.cell
        go_wp2_with fail
        go_ret
        exact ⟨rfl, hB6⟩
      · exact absurd HI.out (h5 _)
end Go.Proofs.YtgfcikckomhbeaaDoor
