/-
  A row of numbers of the call's own; own acts are valid. No condition.
-/
import Derived.Test.YtjmjpejkongipaaVp
import Derived.Test.YtjmjpejkongipaaW
import Derived.Test.YtjmjpejkongipaaOi
import Derived.Test.YtjmjpejkongipaaUb
import Derived.Test.YtjmjpejkongipaaCf
import Derived.Test.YtjmjpejkongipaaRg
set_option linter.unusedSimpArgs false
set_option linter.unusedVariables false
namespace Go.Proofs.Ytjmjpejkongipaa
open Go.RowKit
/-- A row of numbers of the call's own, at block g. -/
def RowI (w : World) (lo g cap : Nat) (ds : List Int) : Prop := ∃ cur : Array Value, Bk w g cur 3 ∧ cur.size = cap * 1 ∧ ds.length ≤ cap ∧ cap ≤ maxLen ∧ lo ≤ g ∧ ∀ j, j < ds.length → cur[j]? = (cellsI ds)[j]?
theorem RowI.of {w : World} {lo : Nat} {v : Value} {ds : List Int} (h : w.ownsRow lo 3 1 v ds.length (cellsI ds)) (hv : v ≠ .slice none 0 0) : ∃ g cap, v = .slice (some ⟨g, 0, none⟩) ds.length cap ∧ RowI w lo g cap ds := by
  rcases h.2 with ⟨rfl, _⟩ | ⟨g, cap, cur, rfl, hlo, hg, hn, hc, hs, ht⟩
  · exact absurd rfl hv
  · refine ⟨g, cap, rfl, cur, hg, hs, hn, hc, hlo, fun j hj => ?_⟩
    rw [← ht, List.getElem?_take_of_lt (by omega)]
    simp
theorem RowI.own {w : World} {lo g cap : Nat} {ds : List Int} (h : RowI w lo g cap ds) : w.ownsRow lo 3 1 (.slice (some ⟨g, 0, none⟩) ds.length cap) ds.length (cellsI ds) := by
  obtain ⟨cur, hb, hs, hn, hc, hlo, hj⟩ := h
  refine ⟨by rw [cellsI_len]; omega, .inr ⟨g, cap, cur, rfl, hlo, hb, hn, hc, hs, ?_⟩⟩
  apply List.ext_getElem?
  intro j
  by_cases hlt : j < ds.length
  · rw [List.getElem?_take_of_lt (by omega), ← hj j hlt]
    simp
  · rw [List.getElem?_eq_none (by simp; omega), List.getElem?_eq_none (by rw [cellsI_len]; omega)]
theorem RowI.sl {w : World} {lo g cap : Nat} {ds : List Int} (h : RowI w lo g cap ds) : SlI w (.slice (some ⟨g, 0, none⟩) ds.length cap) ds := own_sl h.own
theorem RowI.owns {w : World} {lo g cap : Nat} {ds : List Int} {n : Nat} (h : RowI w lo g cap ds) (hn : ds.length = n) : w.ownsRow lo 3 1 (.slice (some ⟨g, 0, none⟩) n cap) ds.length (cellsI ds) := hn ▸ h.own
theorem RowI.below {w w' : World} {lo g cap : Nat} {ds : List Int} (h : RowI w lo g cap ds) (hb : Below w.heap.size w w') : RowI w' lo g cap ds := by
  obtain ⟨cur, hk, r⟩ := h
  exact ⟨cur, hk.below hb, r⟩
theorem RowI.far {w : World} {lo g cap : Nat} {ds : List Int} (h : RowI w lo g cap ds) (b o : Nat) (hb : b ≠ g) (v : Value) : RowI (w.setCell ⟨b, o, none⟩ v) lo g cap ds := by
  obtain ⟨cur, hk, r⟩ := h
  exact ⟨cur, hk.far ⟨b, o, none⟩ hb v, r⟩
theorem RowI.lt {w : World} {lo g cap : Nat} {ds : List Int} (h : RowI w lo g cap ds) : lo ≤ g ∧ g < w.heap.size := by
  obtain ⟨cur, hk, _, _, _, hlo, _⟩ := h
  exact ⟨hlo, hk.lt⟩
theorem RowI.at {w : World} {lo g cap : Nat} {ds : List Int} (h : RowI w lo g cap ds) (i : Nat) (hi : i < ds.length) : w.cell? ⟨g, i, none⟩ = some (.int .i64 ds[i]) ∧ (∀ o, w.frozen? ⟨g, o, none⟩ = false) := by
  obtain ⟨cur, hk, hs, hn, hc, hlo, hj⟩ := h
  exact ⟨by rw [hk.cell, hj i hi]; exact cellsI_get ds i hi, hk.free⟩
theorem RowI.set {w : World} {lo g cap : Nat} {ds : List Int} (h : RowI w lo g cap ds) (i : Nat) (d : Int) : RowI (w.setCell ⟨g, i, none⟩ (.int .i64 d)) lo g cap (ds.set i d) := by
  obtain ⟨cur, hk, hs, hn, hc, hlo, hj⟩ := h
  refine ⟨_, hk.same i _, by simp [hs], by simpa using hn, hc, hlo, fun j hjl => ?_⟩
  rw [List.length_set] at hjl
  rw [cellsI_get (ds.set i d) j (by simpa using hjl)]
  simp only [Array.getElem?_setIfInBounds, Array.size_setIfInBounds]
  by_cases hji : i = j
  · subst hji
    rw [List.getElem_set_self, if_pos rfl, if_pos (by omega)]
  · rw [List.getElem_set_ne hji, if_neg hji, hj j hjl, cellsI_get ds j hjl]
theorem cellsI_one1 (ns : List Int) : ∀ u ∈ cellsI ns, u.oneCell' = true := fun u hu => by
  obtain ⟨d, _, hd⟩ := List.mem_flatMap.mp hu
  simp [encI] at hd
  subst hd
  rfl
set_option maxRecDepth 100000 in
theorem cloneI_any (ds : List Int) (v : Value) (w : World) (h : SlI w v ds) (h0 : 0 < ds.length) (hl : ds.length ≤ 4194304) : Calls Try.prog 49 #[v] w fun e w' => ∃ g cap, e = .returned (.slice (some ⟨g, 0, none⟩) ds.length cap) ∧ RowI w' w.heap.size g cap ds ∧ Below w.heap.size w w' := by
  obtain ⟨g, off, cap, rfl, h1, h2, _⟩ := SlF.at h h0
  unfold maxLen at h2
  have hmk0 : ∀ w : World, (Instr.buildSlice 35 0 #[]).run Try.prog w = .ok (.slice (some ⟨w.heap.size, 0, none⟩) 0 0) (w.alloc (.cells #[] 3)) := fun w => by kernel_rfl
  have hnil := fun (w : World) => Lib.run_eql_slice_nil (P := Try.prog) w 35 3 (some ⟨g, off, none⟩) ds.length cap 0 0 Try.underlying35
  have hA := Below.al (Below.refl w.heap.size w) (.cells #[] 3)
  have hs := Lib.hid (SlF.below h hA)
  clear h
  go_enter Try.func49, Try.ntmps49
  go_wp2_with (at_builtin; refine Hid.out ?_); refine Lib.hid ?_
  refine wpList_appS (s := .tmp 5) (x := .tmp 6) rfl 35 3 (.int .i64 0) 1 8 rfl Try.underlying35 infoI rfl (by decide) (by decide) w.heap.size (.slice (some ⟨w.heap.size, 0, none⟩) 0 0) 0 [] (by rfl) (own_made w _ _ _ (Nat.le_refl _)) (.slice (some ⟨g, off, none⟩) ds.length cap) ds.length (cellsI ds) (by rfl) hs.out (cellsI_one1 ds) (by omega) (by simp) ?_
  intro v4 w4 ho4 hg4 _ hn4
  have b4 : Below w.heap.size w w4 := Below.grown hA hg4 (by simp only [World.size_alloc]; omega) (own_gt (own_made w _ 3 1 (Nat.le_refl _)))
  simp only [Nat.zero_add, List.nil_append] at ho4
  obtain ⟨g4, c4, rfl, hr4⟩ := RowI.of ho4 (hn4 (by simp))
  have HR := Lib.hid hr4
  clear hg4 hn4 ho4 hr4
  go_wp2_with fail
  go_ret
  exact ⟨g4, c4, rfl, HR.out, b4⟩
def ownsOk (ns : List Int) : Bool := decide (ns.length = 7) && ns.all fun n => inR n 0 15
theorem ownsC_any (n : Int) (w : World) : Calls Try.prog 48 #[.int .i64 n] w fun e w' => e = .returned (.bool (!inR n 0 15)) ∧ w = w' := by
  cases h : inR n 0 15
  all_goals
    go_enter Try.func48, Try.ntmps48
    go_wp2_with ((go_at_call 31; refine (in_any _ _ _ _).mono ?_; rintro e w' ⟨rfl, rfl⟩))
    go_ret
    exact ⟨rfl, rfl⟩
theorem ownsValid_any (ns : List Int) (v : Value) (w : World) (h : SlI w v ns) : Calls Try.prog 38 #[v] w fun e w' => e = .returned (.bool (ownsOk ns)) ∧ Below w.heap.size w w' := by
  have HC := Lib.hid (containsInts0_any (fun n => !inR n 0 15) ns v w h (fun n _ => ownsC_any n w))
  obtain ⟨a, cap, rfl, h1, h2⟩ := SlF.shape h
  clear h
  by_cases hn : ns.length = 7
  · have e : ownsOk ns = !ns.any (fun n => !inR n 0 15) := by
      unfold ownsOk
      rw [hn, List.any_eq_not_all_not]
      simp
    have hn2 : (ns.length : Int) = 7 := by omega
    rw [e]
    generalize ns.any (fun n => !inR n 0 15) = q at HC
    clear e hn
    go_enter Try.func38, Try.ntmps38
    go_wp2_with fail
    refine HC.out.mono ?_
    rintro e w1 ⟨rfl, rfl⟩
    go_wp2_with fail
    go_ret
    exact ⟨rfl, Below.refl _ _⟩
  · have e : ownsOk ns = false := by
      unfold ownsOk
      simp [hn]
    have hn2 : ¬ (ns.length : Int) = 7 := by omega
    rw [e]
    go_enter Try.func38, Try.ntmps38
    go_wp2_with fail
    go_ret
    exact ⟨rfl, Below.refl _ _⟩
end Go.Proofs.Ytjmjpejkongipaa
