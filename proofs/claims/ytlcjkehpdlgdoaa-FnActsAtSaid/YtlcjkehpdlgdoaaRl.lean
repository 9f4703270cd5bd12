/-
  Rows of roles (a name, acts, a row of numbers): how they read. No condition.
-/
import Derived.Test.YtlcjkehpdlgdoaaI
import Derived.Test.YtlcjkehpdlgdoaaUb
set_option linter.unusedSimpArgs false
set_option linter.unusedVariables false
namespace Go.Proofs.Ytlcjkehpdlgdoaa
open Go.RowKit
structure Rl where
  nm : ByteArray
  acts : Int
  xs : List Int
def encRl (p : Value × Rl) : List Value := [.string p.2.nm, .int .i64 p.2.acts, p.1]
theorem encRl_len (p : Value × Rl) : (encRl p).length = 3 := rfl
def cellsRl (us : List Value) (ds : List Rl) : List Value := (us.zip ds).flatMap encRl
theorem cellsRl_len (us : List Value) (ds : List Rl) (h : us.length = ds.length) : (cellsRl us ds).length = ds.length * 3 := by
  rw [cellsRl, flat_length encRl 3 encRl_len, List.length_zip, h]
  simp
theorem cellsRl_get (us : List Value) (ds : List Rl) (h : us.length = ds.length) (i : Nat) (hi : i < ds.length) (j : Nat) (hj : j < 3) : (cellsRl us ds)[i * 3 + j]? = (encRl (us[i]'(by omega), ds[i]))[j]? := by
  have hz : i < (us.zip ds).length := by rw [List.length_zip]; omega
  rw [cellsRl, flat_get encRl 3 encRl_len _ i hz j hj, List.getElem_zip]
/-- A readable slice of roles. -/
def SlRl (w : World) (v : Value) (ds : List Rl) : Prop :=
  ∃ us : List Value, us.length = ds.length ∧ SlF w v 3 ds.length (cellsRl us ds) ∧ (∀ i (h : i < ds.length) (h2 : i < us.length), SlI w us[i] ds[i].xs) ∧ ∀ d ∈ ds, d.nm.size ≤ maxLen
theorem SlRl.below {w w' : World} {v : Value} {ds : List Rl} (h : SlRl w v ds) (hb : Below w.heap.size w w') : SlRl w' v ds := by
  obtain ⟨us, h1, h2, h3, h4⟩ := h
  exact ⟨us, h1, h2.below hb, fun i hi hi2 => SlI.below (h3 i hi hi2) hb, h4⟩
theorem SlRl.shape {w : World} {v : Value} {ds : List Rl} (h : SlRl w v ds) : ∃ a cap, v = .slice a ds.length cap ∧ ds.length ≤ cap ∧ cap ≤ maxLen := by
  obtain ⟨us, h1, h2, h3, h4⟩ := h
  exact SlF.shape h2
theorem SlRl.nm {w : World} {v : Value} {ds : List Rl} (h : SlRl w v ds) : ∀ d ∈ ds, d.nm.size ≤ maxLen := by
  obtain ⟨us, h1, h2, h3, h4⟩ := h
  exact h4
/-- The cells of role i. -/
theorem SlRl.cells {w : World} {v : Value} {ds : List Rl} (h : SlRl w v ds) (i : Nat) (hi : i < ds.length) :
    ∃ g off cap a c, v = .slice (some ⟨g, off, none⟩) ds.length cap ∧ ds.length ≤ cap ∧ cap ≤ maxLen ∧ w.cell? ⟨g, off + i * 3, none⟩ = some (.string ds[i].nm) ∧ w.cell? ⟨g, off + i * 3 + 1, none⟩ = some (.int .i64 ds[i].acts) ∧ w.cell? ⟨g, off + i * 3 + 2, none⟩ = some (.slice a ds[i].xs.length c) ∧ SlI w (.slice a ds[i].xs.length c) ds[i].xs ∧ ds[i].xs.length ≤ c ∧ c ≤ maxLen ∧ ds[i].nm.size ≤ maxLen := by
  obtain ⟨us, h1, h2, h3, h6⟩ := h
  obtain ⟨g, off, cap, hv, h4, h5, hc⟩ := SlF.at h2 (by omega)
  have hs := h3 i hi (by omega)
  obtain ⟨a, c, hu, hc1, hc2⟩ := SlF.shape hs
  refine ⟨g, off, cap, a, c, hv, h4, h5, ?_, ?_, ?_, hu ▸ hs, hc1, hc2, h6 _ (List.getElem_mem hi)⟩
  · rw [hc (i * 3) (by omega), show i * 3 = i * 3 + 0 from rfl, cellsRl_get us ds h1 i hi 0 (by omega)]; rfl
  · rw [Nat.add_assoc, hc (i * 3 + 1) (by omega), cellsRl_get us ds h1 i hi 1 (by omega)]; rfl
  · rw [Nat.add_assoc, hc (i * 3 + 2) (by omega), cellsRl_get us ds h1 i hi 2 (by omega), ← hu]; rfl
theorem SlRl.nil (w : World) : SlRl w (.slice none 0 0) [] := ⟨[], rfl, SlF.nil _ _, fun i hi => by simp at hi, fun d hd => by cases hd⟩
/-- How much is in the first k roles. -/
def szRl (ds : List Rl) (k : Nat) : Nat := ((ds.take k).map (fun d => d.nm.size + d.xs.length)).sum
theorem szRl_step (ds : List Rl) (k : Nat) (h : k < ds.length) : szRl ds (k + 1) = szRl ds k + (ds[k].nm.size + ds[k].xs.length) := by
  unfold szRl
  rw [List.take_succ_eq_append_getElem h, List.map_append, List.sum_append]
  simp
theorem szRl_mono (ds : List Rl) (k j : Nat) (h : k + j ≤ ds.length) : szRl ds k ≤ szRl ds (k + j) := by
  induction j with
  | zero => exact Nat.le_refl _
  | succ j ih =>
    have := szRl_step ds (k + j) (by omega)
    have := ih (by omega)
    have e : k + (j + 1) = k + j + 1 := rfl
    rw [e]
    omega
theorem szRl_le (ds : List Rl) (k : Nat) (h : k ≤ ds.length) : szRl ds k ≤ szRl ds ds.length := by
  have := szRl_mono ds k (ds.length - k) (by omega)
  rwa [show k + (ds.length - k) = ds.length by omega] at this
theorem szRl_el (ds : List Rl) (k : Nat) (h : k < ds.length) : ds[k].nm.size + ds[k].xs.length ≤ szRl ds ds.length := by
  have h1 := szRl_step ds k h
  have h2 := szRl_le ds (k + 1) (by omega)
  omega
/-- How many numbers are in the rows of the first k roles. -/
def szX (ds : List Rl) (k : Nat) : Nat := ((ds.take k).map (fun d => d.xs.length)).sum
theorem szX_step (ds : List Rl) (k : Nat) (h : k < ds.length) : szX ds (k + 1) = szX ds k + ds[k].xs.length := by
  unfold szX
  rw [List.take_succ_eq_append_getElem h, List.map_append, List.sum_append]
  simp
theorem szX_rl (ds : List Rl) (k : Nat) (h : k ≤ ds.length) : szX ds k ≤ szRl ds k := by
  induction k with
  | zero => simp [szX, szRl]
  | succ k ih =>
    have := szX_step ds k (by omega)
    have := szRl_step ds k (by omega)
    have := ih (by omega)
    omega
/-- A row of roles that has been filled to its end. -/
theorem slRl_of {w : World} {b n : Nat} {A : Array Value} {t : Nat} {ds : List Rl} (h : Bk w b A t) (hn : n = ds.length) (hs : A.size = n * 3) (hm : n ≤ 4194304) (hnm : ∀ d ∈ ds, d.nm.size ≤ maxLen)
    (hc : ∀ i (hi : i < ds.length), ∃ u, A[i * 3]? = some (.string ds[i].nm) ∧ A[i * 3 + 1]? = some (.int .i64 ds[i].acts) ∧ A[i * 3 + 2]? = some u ∧ SlI w u ds[i].xs) : SlRl w (.slice (some ⟨b, 0, none⟩) n n) ds := by
  subst hn
  obtain ⟨us, hl, hus⟩ := list_of ds.length (fun i u => ∀ (hi : i < ds.length), A[i * 3]? = some (.string ds[i].nm) ∧ A[i * 3 + 1]? = some (.int .i64 ds[i].acts) ∧ A[i * 3 + 2]? = some u ∧ SlI w u ds[i].xs) (fun i hi => by
    obtain ⟨u, h1, h2, h3, h4⟩ := hc i hi
    exact ⟨u, fun _ => ⟨h1, h2, h3, h4⟩⟩)
  refine ⟨us, hl, ⟨cellsRl_len us ds hl, some ⟨b, 0, none⟩, ds.length, rfl, Nat.le_refl _, by unfold maxLen; omega, .inr ⟨b, 0, rfl, fun j hj => ?_⟩⟩, fun i hi hi2 => (hus i hi2 hi).2.2.2, hnm⟩
  rw [h.cell, Nat.zero_add]
  obtain ⟨i, r, hr, rfl⟩ : ∃ i r, r < 3 ∧ j = i * 3 + r := ⟨j / 3, j % 3, by omega, by omega⟩
  have hi : i < ds.length := by omega
  rw [cellsRl_get us ds hl i hi r hr]
  have hu := hus i (by omega) hi
  rcases (show r = 0 ∨ r = 1 ∨ r = 2 by omega) with rfl | rfl | rfl
  · rw [Nat.add_zero, hu.1]; rfl
  · rw [hu.2.1]; rfl
  · rw [hu.2.2.1]; rfl
end Go.Proofs.Ytlcjkehpdlgdoaa
