/-
  Rows of pairs of a row of numbers and a number (moves, rules): how they read. No condition.
-/
import Derived.Test.YtjmjpejkongipaaI
import Derived.Test.YtjmjpejkongipaaUb
set_option linter.unusedSimpArgs false
set_option linter.unusedVariables false
namespace Go.Proofs.Ytjmjpejkongipaa
open Go.RowKit
structure Mv where
  xs : List Int
  n : Int
def encM (p : Value × Mv) : List Value := [p.1, .int .i64 p.2.n]
theorem encM_len (p : Value × Mv) : (encM p).length = 2 := rfl
def cellsM (us : List Value) (ds : List Mv) : List Value := (us.zip ds).flatMap encM
theorem cellsM_len (us : List Value) (ds : List Mv) (h : us.length = ds.length) : (cellsM us ds).length = ds.length * 2 := by
  rw [cellsM, flat_length encM 2 encM_len, List.length_zip, h]
  simp
theorem cellsM_get (us : List Value) (ds : List Mv) (h : us.length = ds.length) (i : Nat) (hi : i < ds.length) (j : Nat) (hj : j < 2) : (cellsM us ds)[i * 2 + j]? = (encM (us[i]'(by omega), ds[i]))[j]? := by
  have hz : i < (us.zip ds).length := by rw [List.length_zip]; omega
  rw [cellsM, flat_get encM 2 encM_len _ i hz j hj, List.getElem_zip]
/-- A readable slice of pairs. -/
def SlM (w : World) (v : Value) (ds : List Mv) : Prop :=
  ∃ us : List Value, us.length = ds.length ∧ SlF w v 2 ds.length (cellsM us ds) ∧ ∀ i (h : i < ds.length) (h2 : i < us.length), SlI w us[i] ds[i].xs
theorem SlM.below {w w' : World} {v : Value} {ds : List Mv} (h : SlM w v ds) (hb : Below w.heap.size w w') : SlM w' v ds := by
  obtain ⟨us, h1, h2, h3⟩ := h
  exact ⟨us, h1, h2.below hb, fun i hi hi2 => SlI.below (h3 i hi hi2) hb⟩
theorem SlM.shape {w : World} {v : Value} {ds : List Mv} (h : SlM w v ds) : ∃ a cap, v = .slice a ds.length cap ∧ ds.length ≤ cap ∧ cap ≤ maxLen := by
  obtain ⟨us, h1, h2, h3⟩ := h
  exact SlF.shape h2
/-- The cells of pair i. -/
theorem SlM.cells {w : World} {v : Value} {ds : List Mv} (h : SlM w v ds) (i : Nat) (hi : i < ds.length) :
    ∃ g off cap a c, v = .slice (some ⟨g, off, none⟩) ds.length cap ∧ ds.length ≤ cap ∧ cap ≤ maxLen ∧ w.cell? ⟨g, off + i * 2, none⟩ = some (.slice a ds[i].xs.length c) ∧ w.cell? ⟨g, off + i * 2 + 1, none⟩ = some (.int .i64 ds[i].n) ∧ SlI w (.slice a ds[i].xs.length c) ds[i].xs ∧ ds[i].xs.length ≤ c ∧ c ≤ maxLen := by
  obtain ⟨us, h1, h2, h3⟩ := h
  obtain ⟨g, off, cap, hv, h4, h5, hc⟩ := SlF.at h2 (by omega)
  have hs := h3 i hi (by omega)
  obtain ⟨a, c, hu, hc1, hc2⟩ := SlF.shape hs
  refine ⟨g, off, cap, a, c, hv, h4, h5, ?_, ?_, hu ▸ hs, hc1, hc2⟩
  · rw [hc (i * 2) (by omega), show i * 2 = i * 2 + 0 from rfl, cellsM_get us ds h1 i hi 0 (by omega), ← hu]; rfl
  · rw [Nat.add_assoc, hc (i * 2 + 1) (by omega), cellsM_get us ds h1 i hi 1 (by omega)]; rfl
theorem SlM.nil (w : World) : SlM w (.slice none 0 0) [] := ⟨[], rfl, SlF.nil _ _, fun i hi => by simp at hi⟩
/-- How much is in the rows of the first k pairs. -/
def szM (ds : List Mv) (k : Nat) : Nat := ((ds.take k).map (fun d => d.xs.length)).sum
theorem szM_step (ds : List Mv) (k : Nat) (h : k < ds.length) : szM ds (k + 1) = szM ds k + ds[k].xs.length := by
  unfold szM
  rw [List.take_succ_eq_append_getElem h, List.map_append, List.sum_append]
  simp
theorem szM_mono (ds : List Mv) (k j : Nat) (h : k + j ≤ ds.length) : szM ds k ≤ szM ds (k + j) := by
  induction j with
  | zero => exact Nat.le_refl _
  | succ j ih =>
    have := szM_step ds (k + j) (by omega)
    have := ih (by omega)
    have e : k + (j + 1) = k + j + 1 := rfl
    rw [e]
    omega
theorem szM_le (ds : List Mv) (k : Nat) (h : k ≤ ds.length) : szM ds k ≤ szM ds ds.length := by
  have := szM_mono ds k (ds.length - k) (by omega)
  rwa [show k + (ds.length - k) = ds.length by omega] at this
theorem szM_el (ds : List Mv) (k : Nat) (h : k < ds.length) : ds[k].xs.length ≤ szM ds ds.length := by
  have h1 := szM_step ds k h
  have h2 := szM_le ds (k + 1) (by omega)
  omega
/-- A row of pairs that has been filled to its end. -/
theorem slM_of {w : World} {b n : Nat} {A : Array Value} {t : Nat} {ds : List Mv} (h : Bk w b A t) (hn : n = ds.length) (hs : A.size = n * 2) (hm : n ≤ 4194304)
    (hc : ∀ i (hi : i < ds.length), ∃ u, A[i * 2]? = some u ∧ A[i * 2 + 1]? = some (.int .i64 ds[i].n) ∧ SlI w u ds[i].xs) : SlM w (.slice (some ⟨b, 0, none⟩) n n) ds := by
  subst hn
  obtain ⟨us, hl, hus⟩ := list_of ds.length (fun i u => ∀ (hi : i < ds.length), A[i * 2]? = some u ∧ A[i * 2 + 1]? = some (.int .i64 ds[i].n) ∧ SlI w u ds[i].xs) (fun i hi => by
    obtain ⟨u, h1, h2, h3⟩ := hc i hi
    exact ⟨u, fun _ => ⟨h1, h2, h3⟩⟩)
  refine ⟨us, hl, ⟨cellsM_len us ds hl, some ⟨b, 0, none⟩, ds.length, rfl, Nat.le_refl _, by unfold maxLen; omega, .inr ⟨b, 0, rfl, fun j hj => ?_⟩⟩, fun i hi hi2 => (hus i hi2 hi).2.2⟩
  rw [h.cell, Nat.zero_add]
  obtain ⟨i, r, hr, rfl⟩ : ∃ i r, r < 2 ∧ j = i * 2 + r := ⟨j / 2, j % 2, by omega, by omega⟩
  have hi : i < ds.length := by omega
  rw [cellsM_get us ds hl i hi r hr]
  have hu := hus i (by omega) hi
  rcases (show r = 0 ∨ r = 1 by omega) with rfl | rfl
  · rw [Nat.add_zero, hu.1]; rfl
  · rw [hu.2.1]; rfl
end Go.Proofs.Ytjmjpejkongipaa
