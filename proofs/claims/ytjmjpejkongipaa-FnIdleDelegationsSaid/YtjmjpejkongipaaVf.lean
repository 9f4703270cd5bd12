/-
  One delegation is deleted. No condition.
-/
import Derived.Test.YtjmjpejkongipaaVe
import Derived.Deep.RegionLaw
set_option linter.unusedSimpArgs false
set_option linter.unusedVariables false
namespace Go.Proofs.Ytjmjpejkongipaa
open Go.RowKit
theorem cellsD_erase (ds : List Deleg) (i : Nat) (hi : i < ds.length) : (cellsD ds).take (i * 3) ++ (cellsD ds).drop ((i + 1) * 3) = cellsD (ds.eraseIdx i) := by
  have ht : ∀ (xs : List Deleg) (l : Nat), (cellsD xs).take (l * 3) = cellsD (xs.take l) := fun xs l => by
    induction l generalizing xs with
    | zero => simp [cellsD]
    | succ l ih =>
      cases xs with
      | nil => simp [cellsD]
      | cons x xs =>
        have := ih xs
        unfold cellsD at this ⊢
        rw [List.flatMap_cons, List.take_succ_cons, List.flatMap_cons, show (l + 1) * 3 = 3 + l * 3 by omega, List.take_append, encD_len x, List.take_of_length_le (by rw [encD_len x]; omega), show 3 + l * 3 - 3 = l * 3 by omega, this]
  have hd : ∀ (xs : List Deleg) (l : Nat), (cellsD xs).drop (l * 3) = cellsD (xs.drop l) := fun xs l => by
    induction l generalizing xs with
    | zero => simp [cellsD]
    | succ l ih =>
      cases xs with
      | nil => simp [cellsD]
      | cons x xs =>
        have := ih xs
        unfold cellsD at this ⊢
        rw [List.flatMap_cons, List.drop_succ_cons, show (l + 1) * 3 = 3 + l * 3 by omega, List.drop_append, encD_len x, List.drop_of_length_le (by rw [encD_len x]; omega), show 3 + l * 3 - 3 = l * 3 by omega, this, List.nil_append]
  rw [ht, hd, List.eraseIdx_eq_take_drop_succ]
  simp [cellsD]
/-- Cells behind an owned row's elements turn none of these. -/
theorem own_past {w : World} {lo e k g p c : Nat} {cs : List Value} (h : w.ownsRow lo e k (.slice (some ⟨g, 0, none⟩) p c) p cs) (o : Nat) (ho : p * k ≤ o) (v : Value) : (w.setCell ⟨g, o, none⟩ v).ownsRow lo e k (.slice (some ⟨g, 0, none⟩) p c) p cs := by
  refine ⟨h.1, ?_⟩
  rcases h.2 with ⟨h1, _⟩ | ⟨g', cap', cur, h1, hlo, hg, hn, hc, hs, ht⟩
  · simp at h1
  · simp only [Value.slice.injEq, Option.some.injEq, Addr.mk.injEq, and_true, true_and] at h1
    obtain ⟨rfl, rfl⟩ := h1
    refine .inr ⟨g, c, _, rfl, hlo, Bk.same hg o v, hn, hc, by simpa using hs, ?_⟩
    rw [← ht]
    refine List.ext_getElem? fun j => ?_
    rw [List.getElem?_take, List.getElem?_take]
    split
    · simp only [Array.getElem?_toList, Array.getElem?_setIfInBounds]
      rw [if_neg (by omega)]
    · rfl
theorem own_cells {w : World} {lo e k g p c : Nat} {cs : List Value} (h : w.ownsRow lo e k (.slice (some ⟨g, 0, none⟩) p c) p cs) : ∃ cur : Array Value, Bk w g cur e ∧ cur.size = c * k := by
  rcases h.2 with ⟨h1, _⟩ | ⟨g', cap', cur, h1, hlo, hg, hn, hc, hs, ht⟩
  · simp at h1
  · simp only [Value.slice.injEq, Option.some.injEq, Addr.mk.injEq, and_true, true_and] at h1
    obtain ⟨rfl, rfl⟩ := h1
    exact ⟨cur, hg, hs⟩
set_option maxRecDepth 100000 in
set_option maxHeartbeats 6400000 in
theorem delD_any (ds : List Deleg) (lo g c n i : Nat) (w : World) (hn : ds.length = n) (h : w.ownsRow lo 32 3 (.slice (some ⟨g, 0, none⟩) n c) n (cellsD ds)) (hi : i < n) :
    Calls Try.prog 41 #[.slice (some ⟨g, 0, none⟩) n c, .int .i64 i, .int .i64 ((i : Int) + 1)] w fun e w' => e = .returned (.slice (some ⟨g, 0, none⟩) (n - 1) c) ∧ w'.ownsRow lo 32 3 (.slice (some ⟨g, 0, none⟩) (n - 1) c) (n - 1) (cellsD (ds.eraseIdx i)) ∧ w.grownBy w' (some g) := by
  have HO := Lib.hid h
  obtain ⟨_, a, cap, e1, hnc, hcm, hcs⟩ := own_sl h
  simp only [Value.slice.injEq] at e1
  obtain ⟨rfl, -, rfl⟩ := e1
  have hcs2 : ∀ j, j < n * 3 → w.cell? ⟨g, 0 + j, none⟩ = (cellsD ds)[j]? := by
    rcases hcs with h0 | ⟨g', o', e, q⟩
    · omega
    · simp only [Option.some.injEq, Addr.mk.injEq, and_true] at e
      obtain ⟨rfl, rfl⟩ := e
      exact q
  have HC := Lib.hid hcs2
  unfold maxLen at hcm
  have h1 : (0 : Int) ≤ (i : Int) := by omega
  have h2 : (i : Int) + 1 ≤ (n : Int) := by omega
  have h3 : (n : Int) ≤ (c : Int) := by omega
  have h4 : ¬ (i : Int) = (i : Int) + 1 := by omega
  have h5 : (i : Int) ≤ (i : Int) + 1 := by omega
  have h6 : (i : Int) ≤ (c : Int) := by omega
  have h7 : ((i : Int) + 1).toNat = i + 1 := by omega
  have h8 : (0 : Int) ≤ (i : Int) + 1 := by omega
  have hER := Lib.hid (cellsD_erase ds i (by omega))
  clear hcs hcs2 h
  obtain ⟨ad, had⟩ : ∃ ad : Addr, (if c = i + 1 then some (⟨g, 0, none⟩ : Addr) else some ⟨g, (i + 1) * 3, none⟩) = some ad := by
    by_cases hc : c = i + 1
    · exact ⟨_, if_pos hc⟩
    · exact ⟨_, if_neg hc⟩
  have HNW := Lib.hid (show ∀ j u, ((cellsD ds).drop ((i + 1) * 3))[j]? = some u → w.drew.cell? (ad.add j) = some u from fun j u hu => by
    rw [List.getElem?_drop] at hu
    have hj : (i + 1) * 3 + j < n * 3 := by
      rcases Nat.lt_or_ge ((i + 1) * 3 + j) (n * 3) with q | q
      · exact q
      · rw [List.getElem?_eq_none (by rw [cellsD_len, hn]; exact q)] at hu; cases hu
    have hc : ¬ c = i + 1 := by omega
    rw [if_neg hc] at had
    simp only [Option.some.injEq] at had
    subst had
    show w.cell? _ = _
    rw [addr_add]
    have q := HC.out ((i + 1) * 3 + j) hj
    rw [Nat.zero_add] at q
    rw [q]; exact hu)
  have HF := Lib.hid (show w.drew.ownsRow lo 32 3 (.slice (some ⟨g, 0, none⟩) i c) i ((cellsD ds).take (i * 3)) from own_first HO.out i (by omega))
  have hnl := Lib.hid (show ((cellsD ds).drop ((i + 1) * 3)).length = (n - (i + 1)) * 3 by rw [List.length_drop, cellsD_len, hn]; omega)
  have hone := Lib.hid (show ∀ u ∈ (cellsD ds).drop ((i + 1) * 3), u.oneCell' = true from fun u hu => cellsD_one1 ds u (List.mem_of_mem_drop hu))
  obtain ⟨p, hp⟩ : ∃ p, p = n - 1 := ⟨_, rfl⟩
  rw [← hp]
  have hnn : i + (n - (i + 1)) = p := by omega
  have k1 : (0 : Int) ≤ (p : Int) := by omega
  have k2 : (p : Int) ≤ (n : Int) := by omega
  have k3 : (n : Int) ≤ (c : Int) := by omega
  have k4 : n - p = 1 := by omega
  have k5 : ¬ c = p := by omega
  have k6 : p < c := by omega
  clear hp
  go_enter Try.func41, Try.ntmps41
  go_wp2_with fail
  go_region_law
    (refine step_fits (by rfl) (.tmp 22) (.tmp 25) 25 32 (.agg #[.int .i64 0, .int .i64 0, .int .i64 0]) 3 24 (by rfl) Try.underlying25 infoDg lo g i c ((cellsD ds).take (i * 3)) (by rfl) HF.out ad (n - (i + 1)) (c - (i + 1)) ((cellsD ds).drop ((i + 1) * 3)) (by rfl) hnl.out HNW.out hone.out (by omega) ?_; intro w5 o5 g5; rw [hnn, hER.out] at o5; have O5 := Lib.hid o5; have G5 := Lib.hid g5; clear o5 g5; simp only [hnn])
  all_goals
    obtain ⟨cur, KB, hcs⟩ := own_cells O5.out
    have hclr := fun ty => clear1_any w5 ty g (p * 3) (c - p) (fun j hj => by rw [KB.cell, Array.getElem?_eq_getElem (by omega)]; rfl) (fun j hj => KB.free _)
    have OF := Lib.hid (own_past (own_past (own_past O5.out (p * 3) (Nat.le_refl _) (.int .i64 0)) (p * 3 + 1) (by omega) (.int .i64 0)) (p * 3 + 1 + 1) (by omega) (.int .i64 0))
    have GF := Lib.hid (gby_set (gby_set (gby_set (show w.grownBy w5 (some g) from ⟨G5.out.os, G5.out.tape, G5.out.output, G5.out.size, G5.out.block⟩) (p * 3) (.int .i64 0)) (p * 3 + 1) (.int .i64 0)) (p * 3 + 1 + 1) (.int .i64 0))
    clear KB hcs O5 G5
    go_wp2_with fail
    go_ret
    exact ⟨rfl, OF.out, GF.out⟩
end Go.Proofs.Ytjmjpejkongipaa
