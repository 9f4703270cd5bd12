/-
  Flows of labels: valid labels, clones, rows of labels of the call's own. No condition.
-/
import Derived.Test.YtfghgpdhcpcoiaaFw
import Derived.Test.YtfghgpdhcpcoiaaUb
set_option linter.unusedSimpArgs false
set_option linter.unusedVariables false
namespace Go.Proofs.Ytfghgpdhcpcoiaa
open Go.RowKit
theorem clos_any (d : Lab) (w : World) : Calls Try.prog 73 #[.agg #[.int .i64 d.f0, .int .i64 d.f1]] w fun e w' => e = .returned (.bool (!labOk d)) ∧ Below w.heap.size w w' := by
  have hB := Below.al (Below.refl w.heap.size w) (.cells #[.int .i64 d.f0, .int .i64 d.f1] 49)
  go_enter Try.func73, Try.ntmps73
  go_wp2_with fail
  refine (implLabelValid_any d.f0 d.f1 _).mono ?_
  rintro e w1 ⟨rfl, b1⟩
  have hB1 := Below.via b1 hB
  go_wp2_with fail
  go_ret
  exact ⟨rfl, hB1⟩
theorem indexL_any (xs : List Lab) (v : Value) (w : World) (h : SlB w v xs) :
    Calls Try.prog 75 #[v, .func (.func 73) #[] #[]] w fun e w' => ∃ r : Int, e = .returned (.int .i64 r) ∧ decide (0 ≤ r) = !(xs.all labOk) ∧ Below w.heap.size w w' := by
  obtain ⟨a, cap, rfl, h1, h2⟩ := SlF.shape h
  unfold maxLen at h2
  have H := Lib.hid h
  clear h
  go_enter Try.func75, Try.ntmps75
  go_wp2_with fail
  go_loopw [8] (fun i wr => ∃ k : Nat, k ≤ xs.length ∧ i = .int .i64 k ∧ Hid ((xs.take k).all labOk = true) ∧ Below w.heap.size w wr) (fun i _ => xs.length - (intOf i).toNat)
  case atStart => exact ⟨0, Nat.zero_le _, rfl, by simp [Hid], Below.refl _ _⟩
  case round =>
    obtain ⟨k, hk, rfl, ha, hB⟩ := hrel
    by_cases hlt : k < xs.length
    · obtain ⟨g, off, cap', hv, _, _, c0, c1⟩ := SlB.cells (SlF.below H.out hB) k hlt
      simp only [Value.slice.injEq] at hv
      obtain ⟨rfl, -, rfl⟩ := hv
      have hs := Lib.hid (fun hp => all_step xs labOk k hlt ha.out hp)
      have hb := Lib.hid (fun hp => all_bad xs labOk k hlt hp)
      generalize xs[k] = d at c0 c1 hs hb
      have hc := fun wx => clos_any d wx
      cases hq : labOk d
      · have hf := Lib.hid (hb.out hq)
        rw [hq] at hc
        go_wp2_with fail
        refine (hc _).mono ?_
        rintro e w1 ⟨rfl, b1⟩
        have hB1 := Below.via b1 hB
        go_wp2_with fail
        go_ret
        exact ⟨k, rfl, by rw [hf.out]; simp, hB1⟩
      · have hf := Lib.hid (hs.out hq)
        rw [hq] at hc
        go_wp2_with fail
        refine (hc _).mono ?_
        rintro e w1 ⟨rfl, b1⟩
        have hB1 := Below.via b1 hB
        go_wp2_with fail
        go_roundw
        case rel => exact ⟨k + 1, by omega, by go_num, hf.out, hB1⟩
        case measure => simp [intOf]; omega
    · have hf := Lib.hid (all_end xs labOk k hlt ha.out)
      go_wp2_with fail
      go_ret
      exact ⟨-1, rfl, by rw [hf.out]; rfl, hB⟩
theorem containsL_any (xs : List Lab) (v : Value) (w : World) (h : SlB w v xs) :
    Calls Try.prog 72 #[v, .func (.func 73) #[] #[]] w fun e w' => e = .returned (.bool (!(xs.all labOk))) ∧ Below w.heap.size w w' := by
  have HC := Lib.hid (indexL_any xs v w h)
  obtain ⟨a, cap, rfl, h1, h2⟩ := SlF.shape h
  clear h
  go_enter Try.func72, Try.ntmps72
  go_wp2_with fail
  refine HC.out.mono ?_
  rintro e w1 ⟨r, rfl, hr, b1⟩
  have HR := Lib.hid hr
  clear hr
  go_wp2_with fail
  go_ret
  exact ⟨by rw [← HR.out]; rfl, b1⟩
theorem labelsValid_any (xs : List Lab) (v : Value) (w : World) (h : SlB w v xs) : Calls Try.prog 52 #[v] w fun e w' => e = .returned (.bool (xs.all labOk)) ∧ Below w.heap.size w w' := by
  have HC := Lib.hid (containsL_any xs v w h)
  obtain ⟨a, cap, rfl, h1, h2⟩ := SlF.shape h
  clear h
  cases hq : xs.all labOk
  all_goals
    rw [hq] at HC
    go_enter Try.func52, Try.ntmps52
    go_wp2_with fail
    refine HC.out.mono ?_
    rintro e w1 ⟨rfl, b1⟩
    go_wp2_with fail
    go_ret
    exact ⟨rfl, b1⟩
theorem l33_any (xs : List Lab) (v : Value) (w : World) (h : SlB w v xs) : Calls Try.prog 49 #[v] w fun e w' => e = .returned (.bool (xs.all labOk && inR xs.length 1 6)) ∧ Below w.heap.size w w' := by
  obtain ⟨a, cap, rfl, h1, h2⟩ := SlF.shape h
  unfold maxLen at h2
  have H := Lib.hid h
  clear h
  go_enter Try.func49, Try.ntmps49
  go_wp2_with fail
  go_loopw [3] (fun i wr => ∃ k : Nat, k ≤ xs.length ∧ i = .int .i64 k ∧ Hid ((xs.take k).all labOk = true) ∧ Below w.heap.size w wr) (fun i _ => xs.length - (intOf i).toNat)
  case atStart => exact ⟨0, Nat.zero_le _, rfl, by simp [Hid], Below.refl _ _⟩
  case round =>
    obtain ⟨k, hk, rfl, ha, hB⟩ := hrel
    by_cases hlt : k < xs.length
    · obtain ⟨g, off, cap', hv, _, _, c0, c1⟩ := SlB.cells (SlF.below H.out hB) k hlt
      simp only [Value.slice.injEq] at hv
      obtain ⟨rfl, -, rfl⟩ := hv
      have hs := Lib.hid (fun hp => all_step xs labOk k hlt ha.out hp)
      have hb := Lib.hid (fun hp => all_bad xs labOk k hlt hp)
      generalize xs[k] = d at c0 c1 hs hb
      have hc := fun wx => specLabelValid_any d.f0 d.f1 wx
      cases hq : labOk d
      · have hf := Lib.hid (hb.out hq)
        unfold labOk at hq
        rw [hq] at hc
        go_wp2_with fail
        refine (hc _).mono ?_
        rintro e w1 ⟨rfl, b1⟩
        have hB1 := Below.via b1 hB
        go_wp2_with fail
        go_ret
        exact ⟨by rw [hf.out]; rfl, hB1⟩
      · have hf := Lib.hid (hs.out hq)
        unfold labOk at hq
        rw [hq] at hc
        go_wp2_with fail
        refine (hc _).mono ?_
        rintro e w1 ⟨rfl, b1⟩
        have hB1 := Below.via b1 hB
        go_wp2_with fail
        go_roundw
        case rel => exact ⟨k + 1, by omega, by go_num, hf.out, hB1⟩
        case measure => simp [intOf]; omega
    · have hf := Lib.hid (all_end xs labOk k hlt ha.out)
      go_wp2_with ((go_at_call 39; refine (l1In_any _ _ _ _).mono ?_; rintro e w' ⟨rfl, rfl⟩))
      go_ret
      exact ⟨by rw [hf.out]; rfl, hB⟩
/-- A row of labels of the call's own, at block g. -/
def RowB (w : World) (lo g cap : Nat) (ds : List Lab) : Prop := ∃ cur : Array Value, Bk w g cur 49 ∧ cur.size = cap * 2 ∧ ds.length ≤ cap ∧ cap ≤ maxLen ∧ lo ≤ g ∧ ∀ j, j < ds.length * 2 → cur[j]? = (cellsB ds)[j]?
theorem RowB.of {w : World} {lo : Nat} {v : Value} {ds : List Lab} (h : w.ownsRow lo 49 2 v ds.length (cellsB ds)) (hv : v ≠ .slice none 0 0) : ∃ g cap, v = .slice (some ⟨g, 0, none⟩) ds.length cap ∧ RowB w lo g cap ds := by
  rcases h.2 with ⟨rfl, _⟩ | ⟨g, cap, cur, rfl, hlo, hg, hn, hc, hs, ht⟩
  · exact absurd rfl hv
  · refine ⟨g, cap, rfl, cur, hg, hs, hn, hc, hlo, fun j hj => ?_⟩
    rw [← ht, List.getElem?_take_of_lt hj]
    simp
theorem RowB.own {w : World} {lo g cap : Nat} {ds : List Lab} (h : RowB w lo g cap ds) : w.ownsRow lo 49 2 (.slice (some ⟨g, 0, none⟩) ds.length cap) ds.length (cellsB ds) := by
  obtain ⟨cur, hb, hs, hn, hc, hlo, hj⟩ := h
  refine ⟨cellsB_len ds, .inr ⟨g, cap, cur, rfl, hlo, hb, hn, hc, hs, ?_⟩⟩
  apply List.ext_getElem?
  intro j
  by_cases hlt : j < ds.length * 2
  · rw [List.getElem?_take_of_lt hlt, ← hj j hlt]
    simp
  · rw [List.getElem?_eq_none (by simp; omega), List.getElem?_eq_none (by rw [cellsB_len]; omega)]
theorem RowB.sl {w : World} {lo g cap : Nat} {ds : List Lab} (h : RowB w lo g cap ds) : SlB w (.slice (some ⟨g, 0, none⟩) ds.length cap) ds := own_sl h.own
theorem RowB.below {w w' : World} {lo g cap : Nat} {ds : List Lab} (h : RowB w lo g cap ds) (hb : Below w.heap.size w w') : RowB w' lo g cap ds := by
  obtain ⟨cur, hk, r⟩ := h
  exact ⟨cur, hk.below hb, r⟩
theorem RowB.lt {w : World} {lo g cap : Nat} {ds : List Lab} (h : RowB w lo g cap ds) : lo ≤ g ∧ g < w.heap.size := by
  obtain ⟨cur, hk, _, _, _, hlo, _⟩ := h
  exact ⟨hlo, hk.lt⟩
theorem RowB.at {w : World} {lo g cap : Nat} {ds : List Lab} (h : RowB w lo g cap ds) (i : Nat) (hi : i < ds.length) : w.cell? ⟨g, i * 2, none⟩ = some (.int .i64 ds[i].f0) ∧ w.cell? ⟨g, i * 2 + 1, none⟩ = some (.int .i64 ds[i].f1) ∧ (∀ o, w.frozen? ⟨g, o, none⟩ = false) := by
  obtain ⟨cur, hk, hs, hn, hc, hlo, hj⟩ := h
  refine ⟨?_, ?_, hk.free⟩
  · rw [hk.cell, hj (i * 2) (by omega)]; exact cellsB_get ds i hi 0 (by omega)
  · rw [hk.cell, hj (i * 2 + 1) (by omega)]; exact cellsB_get ds i hi 1 (by omega)
theorem RowB.set {w : World} {lo g cap : Nat} {ds : List Lab} (h : RowB w lo g cap ds) (i : Nat) (hi : i < ds.length) (d : Lab) : RowB ((w.setCell ⟨g, i * 2, none⟩ (.int .i64 d.f0)).setCell ⟨g, i * 2 + 1, none⟩ (.int .i64 d.f1)) lo g cap (ds.set i d) := by
  obtain ⟨cur, hk, hs, hn, hc, hlo, hj⟩ := h
  refine ⟨_, (hk.same (i * 2) _).same (i * 2 + 1) _, by simp [hs], by simpa using hn, hc, hlo, fun j hjl => ?_⟩
  rw [List.length_set] at hjl
  obtain ⟨q, r, hr, rfl⟩ : ∃ q r, r < 2 ∧ j = q * 2 + r := ⟨j / 2, j % 2, by omega, by omega⟩
  have hq : q < ds.length := by omega
  rw [cellsB_get (ds.set i d) q (by simpa using hq) r hr]
  simp only [Array.getElem?_setIfInBounds, Array.size_setIfInBounds]
  by_cases hqi : q = i
  · subst hqi
    rw [List.getElem_set_self]
    rcases (show r = 0 ∨ r = 1 by omega) with rfl | rfl
    · simp [encB]; omega
    · simp [encB]; omega
  · rw [List.getElem_set_ne (Ne.symm hqi), if_neg (by omega), if_neg (by omega), hj _ (by omega), cellsB_get ds q hq r hr]
theorem cellsB_one (ds : List Lab) : ∀ u ∈ cellsB ds, u.oneCell' = true := fun u hu => by
  obtain ⟨d, _, hd⟩ := List.mem_flatMap.mp hu
  simp [encB] at hd
  rcases hd with rfl | rfl <;> rfl
set_option maxRecDepth 100000 in
theorem cloneL_any (ds : List Lab) (v : Value) (w : World) (h : SlB w v ds) (h0 : 0 < ds.length) (hl : ds.length ≤ 4194304) : Calls Try.prog 53 #[v] w fun e w' => ∃ g cap, e = .returned (.slice (some ⟨g, 0, none⟩) ds.length cap) ∧ RowB w' w.heap.size g cap ds ∧ Below w.heap.size w w' := by
  obtain ⟨g, off, cap, rfl, h1, h2, _⟩ := SlF.at h h0
  unfold maxLen at h2
  have hmk0 : ∀ w : World, (Instr.buildSlice 39 0 #[]).run Try.prog w = .ok (.slice (some ⟨w.heap.size, 0, none⟩) 0 0) (w.alloc (.cells #[] 49)) := fun w => by kernel_rfl
  have hnil := fun (w : World) => Lib.run_eql_slice_nil (P := Try.prog) w 39 49 (some ⟨g, off, none⟩) ds.length cap 0 0 Try.underlying39
  have hA := Below.al (Below.refl w.heap.size w) (.cells #[] 49)
  have hs := Lib.hid (SlF.below h hA)
  clear h
  go_enter Try.func53, Try.ntmps53
  go_wp2_with (at_builtin; refine Hid.out ?_); refine Lib.hid ?_
  refine wpList_appS (s := .tmp 5) (x := .tmp 6) rfl 39 49 (.agg #[.int .i64 0, .int .i64 0]) 2 16 rfl Try.underlying39 infoB rfl (by decide) (by decide) w.heap.size (.slice (some ⟨w.heap.size, 0, none⟩) 0 0) 0 [] (by rfl) (own_made w _ _ _ (Nat.le_refl _)) (.slice (some ⟨g, off, none⟩) ds.length cap) ds.length (cellsB ds) (by rfl) hs.out (cellsB_one ds) (by omega) (by simp) ?_
  intro v4 w4 ho4 hg4 _ hn4
  have b4 : Below w.heap.size w w4 := Below.grown hA hg4 (by simp only [World.size_alloc]; omega) (own_gt (own_made w _ 49 2 (Nat.le_refl _)))
  simp only [Nat.zero_add, List.nil_append] at ho4
  obtain ⟨g4, c4, rfl, hr4⟩ := RowB.of ho4 (hn4 (by simp))
  have HR := Lib.hid hr4
  clear hg4 hn4 ho4 hr4
  go_wp2_with fail
  go_ret
  exact ⟨g4, c4, rfl, HR.out, b4⟩
end Go.Proofs.Ytfghgpdhcpcoiaa
