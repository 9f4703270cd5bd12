/-
  Tuples: a struct of 4 cells; copies, comparisons, sizes. No condition.
-/
import Derived.Test.YtgfcikckomhbeaaDoorA
import Derived.Test.YtgfcikckomhbeaaDoorU
import Derived.Test.YtgfcikckomhbeaaDoorQ
import Derived.Test.YtgfcikckomhbeaaDoorN
set_option linter.unusedSimpArgs false
set_option linter.unusedVariables false
namespace Go.Proofs.YtgfcikckomhbeaaDoor
open Go.RowKit
structure Tup where
  f0 : Int
  f1 : ByteArray
  f2 : Int
  f3 : ByteArray
def encT (d : Tup) : List Value := [.int .i64 d.f0, .string d.f1, .int .i64 d.f2, .string d.f3]
theorem encT_len (d : Tup) : (encT d).length = 4 := rfl
def cellsT (ds : List Tup) : List Value := ds.flatMap encT
theorem cellsT_len (ds : List Tup) : (cellsT ds).length = ds.length * 4 := flat_length encT 4 encT_len ds
theorem cellsT_get (ds : List Tup) (i : Nat) (hi : i < ds.length) (j : Nat) (hj : j < 4) : (cellsT ds)[i * 4 + j]? = (encT ds[i])[j]? := flat_get encT 4 encT_len ds i hi j hj
def SlT (w : World) (v : Value) (ds : List Tup) : Prop := SlF w v 4 ds.length (cellsT ds)
theorem SlT.below {w w' : World} {v : Value} {ds : List Tup} (h : SlT w v ds) (hb : Below w.heap.size w w') : SlT w' v ds := SlF.below h hb
/-- The cells of element i. -/
theorem SlT.cells {w : World} {v : Value} {ds : List Tup} (h : SlT w v ds) (i : Nat) (hi : i < ds.length) :
    ∃ g off cap, v = .slice (some ⟨g, off, none⟩) ds.length cap ∧ ds.length ≤ cap ∧ cap ≤ maxLen ∧ w.cell? ⟨g, off + i * 4, none⟩ = some (.int .i64 ds[i].f0) ∧ w.cell? ⟨g, off + i * 4 + 1, none⟩ = some (.string ds[i].f1) ∧ w.cell? ⟨g, off + i * 4 + 2, none⟩ = some (.int .i64 ds[i].f2) ∧ w.cell? ⟨g, off + i * 4 + 3, none⟩ = some (.string ds[i].f3) := by
  obtain ⟨g, off, cap, hv, h1, h2, hc⟩ := SlF.at h (by omega)
  refine ⟨g, off, cap, hv, h1, h2, ?_, ?_, ?_, ?_⟩
  · rw [hc (i * 4) (by omega)]; exact cellsT_get ds i hi 0 (by omega)
  · rw [Nat.add_assoc, hc (i * 4 + 1) (by omega)]; exact cellsT_get ds i hi 1 (by omega)
  · rw [Nat.add_assoc, hc (i * 4 + 2) (by omega)]; exact cellsT_get ds i hi 2 (by omega)
  · rw [Nat.add_assoc, hc (i * 4 + 3) (by omega)]; exact cellsT_get ds i hi 3 (by omega)
theorem toT_any (d : Tup) (w : World) : Calls Tryd.prog 9 #[.agg #[.int .i64 d.f0, .string d.f1, .int .i64 d.f2, .string d.f3]] w fun e w' => e = .returned (.agg #[.int .i64 d.f0, .string d.f1, .int .i64 d.f2, .string d.f3]) ∧ Below w.heap.size w w' := by
  go_enter Tryd.func9, Tryd.ntmps9
  go_wp2_with fail
  go_returns
  refine ⟨rfl, ?_⟩
  (repeat' first | (with_reducible exact Below.refl _ _) | (with_reducible refine Below.rd (by assumption) ?_ ?_) | (with_reducible refine Below.via (by assumption) ?_) | (with_reducible refine Below.al ?_ _) | (with_reducible refine Below.dn ?_ _) | (with_reducible refine Below.dr ?_) | (with_reducible refine Below.setCell ?_ ?_ _) | (dsimp only; omega) | (simp only [World.size_alloc, World.size_drew]; omega) | (simp; done) | omega)
def eqT (d e : Tup) : Bool := (d.f0 == e.f0) && (d.f1.toList == e.f1.toList) && (d.f2 == e.f2) && (d.f3.toList == e.f3.toList)
theorem eqT_any (d e : Tup) (w : World) : Calls Tryd.prog 16 #[.agg #[.int .i64 d.f0, .string d.f1, .int .i64 d.f2, .string d.f3], .agg #[.int .i64 e.f0, .string e.f1, .int .i64 e.f2, .string e.f3]] w fun en w' => en = .returned (.bool (eqT d e)) ∧ Below w.heap.size w w' := by
  cases h0 : d.f0 == e.f0
  · have n0 : (d.f0 != e.f0) = true := by show (!(d.f0 == e.f0)) = true; rw [h0]; rfl
    go_enter Tryd.func16, Tryd.ntmps16
    go_wp2_with fail
    go_ret
    refine ⟨by simp [eqT, h0], ?_⟩
    (repeat' first | (with_reducible exact Below.refl _ _) | (with_reducible refine Below.rd (by assumption) ?_ ?_) | (with_reducible refine Below.via (by assumption) ?_) | (with_reducible refine Below.al ?_ _) | (with_reducible refine Below.dn ?_ _) | (with_reducible refine Below.dr ?_) | (with_reducible refine Below.setCell ?_ ?_ _) | (dsimp only; omega) | (simp only [World.size_alloc, World.size_drew]; omega) | (simp; done) | omega)
  · have n0 : (d.f0 != e.f0) = false := by show (!(d.f0 == e.f0)) = false; rw [h0]; rfl
    cases h1 : d.f1.toList == e.f1.toList
    · have n1 : (d.f1.toList != e.f1.toList) = true := by show (!(d.f1.toList == e.f1.toList)) = true; rw [h1]; rfl
      go_enter Tryd.func16, Tryd.ntmps16
      go_wp2_with fail
      go_ret
      refine ⟨by simp [eqT, h0, h1], ?_⟩
      (repeat' first | (with_reducible exact Below.refl _ _) | (with_reducible refine Below.rd (by assumption) ?_ ?_) | (with_reducible refine Below.via (by assumption) ?_) | (with_reducible refine Below.al ?_ _) | (with_reducible refine Below.dn ?_ _) | (with_reducible refine Below.dr ?_) | (with_reducible refine Below.setCell ?_ ?_ _) | (dsimp only; omega) | (simp only [World.size_alloc, World.size_drew]; omega) | (simp; done) | omega)
    · have n1 : (d.f1.toList != e.f1.toList) = false := by show (!(d.f1.toList == e.f1.toList)) = false; rw [h1]; rfl
      cases h2 : d.f2 == e.f2
      · have n2 : (d.f2 != e.f2) = true := by show (!(d.f2 == e.f2)) = true; rw [h2]; rfl
        go_enter Tryd.func16, Tryd.ntmps16
        go_wp2_with fail
        go_ret
        refine ⟨by simp [eqT, h0, h1, h2], ?_⟩
        (repeat' first | (with_reducible exact Below.refl _ _) | (with_reducible refine Below.rd (by assumption) ?_ ?_) | (with_reducible refine Below.via (by assumption) ?_) | (with_reducible refine Below.al ?_ _) | (with_reducible refine Below.dn ?_ _) | (with_reducible refine Below.dr ?_) | (with_reducible refine Below.setCell ?_ ?_ _) | (dsimp only; omega) | (simp only [World.size_alloc, World.size_drew]; omega) | (simp; done) | omega)
      · have n2 : (d.f2 != e.f2) = false := by show (!(d.f2 == e.f2)) = false; rw [h2]; rfl
        cases h3 : d.f3.toList == e.f3.toList
        · have n3 : (d.f3.toList != e.f3.toList) = true := by show (!(d.f3.toList == e.f3.toList)) = true; rw [h3]; rfl
          go_enter Tryd.func16, Tryd.ntmps16
          go_wp2_with fail
          go_ret
          refine ⟨by simp [eqT, h0, h1, h2, h3], ?_⟩
          (repeat' first | (with_reducible exact Below.refl _ _) | (with_reducible refine Below.rd (by assumption) ?_ ?_) | (with_reducible refine Below.via (by assumption) ?_) | (with_reducible refine Below.al ?_ _) | (with_reducible refine Below.dn ?_ _) | (with_reducible refine Below.dr ?_) | (with_reducible refine Below.setCell ?_ ?_ _) | (dsimp only; omega) | (simp only [World.size_alloc, World.size_drew]; omega) | (simp; done) | omega)
        · have n3 : (d.f3.toList != e.f3.toList) = false := by show (!(d.f3.toList == e.f3.toList)) = false; rw [h3]; rfl
          go_enter Tryd.func16, Tryd.ntmps16
          go_wp2_with fail
          go_ret
          refine ⟨by simp [eqT, h0, h1, h2, h3], ?_⟩
          (repeat' first | (with_reducible exact Below.refl _ _) | (with_reducible refine Below.rd (by assumption) ?_ ?_) | (with_reducible refine Below.via (by assumption) ?_) | (with_reducible refine Below.al ?_ _) | (with_reducible refine Below.dn ?_ _) | (with_reducible refine Below.dr ?_) | (with_reducible refine Below.setCell ?_ ?_ _) | (dsimp only; omega) | (simp only [World.size_alloc, World.size_drew]; omega) | (simp; done) | omega)
/-- One element more is written. -/
theorem fillT (ds : List Tup) (A : Array Value) (k : Nat) (d : Tup) (hk : k < ds.length) (hd : ds[k] = d) (hs : A.size = ds.length * 4) (hc : ∀ j, j < k * 4 → A[j]? = (cellsT ds)[j]?) :
    (((((A.setIfInBounds (k * 4) (.int .i64 d.f0)).setIfInBounds (k * 4 + 1) (.string d.f1)).setIfInBounds (k * 4 + 2) (.int .i64 d.f2)).setIfInBounds (k * 4 + 3) (.string d.f3))).size = ds.length * 4 ∧ ∀ j, j < (k + 1) * 4 → (((((A.setIfInBounds (k * 4) (.int .i64 d.f0)).setIfInBounds (k * 4 + 1) (.string d.f1)).setIfInBounds (k * 4 + 2) (.int .i64 d.f2)).setIfInBounds (k * 4 + 3) (.string d.f3)))[j]? = (cellsT ds)[j]? := by
  refine ⟨by simp [hs], fun j hj => ?_⟩
  by_cases hlt : j < k * 4
  · rw [← hc j hlt]
    simp only [Array.getElem?_setIfInBounds]
    repeat rw [if_neg (by omega)]
  · obtain ⟨i, hi, rfl⟩ : ∃ i, i < 4 ∧ j = k * 4 + i := ⟨j - k * 4, by omega, by omega⟩
    rw [cellsT_get ds k hk i hi, hd]
    simp only [Array.getElem?_setIfInBounds, Array.size_setIfInBounds]
    rcases (show i = 0 ∨ i = 1 ∨ i = 2 ∨ i = 3 by omega) with rfl | rfl | rfl | rfl
    all_goals simp [encT]; try omega
/-- What is made of a slice: the same elements in new memory. -/
def NewT (ds : List Tup) (w : World) (e : Ending) (w' : World) : Prop := ∃ v, e = .returned v ∧ w'.ownsRow w.heap.size 26 4 v ds.length (cellsT ds) ∧ Below w.heap.size w w'
def eqTs (ds es : List Tup) : Bool := decide (ds.length = es.length) && (List.range ds.length).all fun i => match ds[i]?, es[i]? with | some d, some e => eqT d e | _, _ => true
theorem eqTs_lens (ds es : List Tup) (h : ¬ ds.length = es.length) : eqTs ds es = false := by simp [eqTs, h]
theorem eqTs_bad (ds es : List Tup) (k : Nat) (h1 : k < ds.length) (h2 : k < es.length) (h : eqT ds[k] es[k] = false) : eqTs ds es = false := by
  have : ((List.range ds.length).all fun i => match ds[i]?, es[i]? with | some d, some e => eqT d e | _, _ => true) = false := by
    rw [List.all_eq_false]
    exact ⟨k, by simpa using h1, by simp [h1, h2, h]⟩
  simp [eqTs, this]
theorem eqTs_end (ds es : List Tup) (hl : ds.length = es.length) (h : ∀ i (h1 : i < ds.length) (h2 : i < es.length), eqT ds[i] es[i] = true) : eqTs ds es = true := by
  simp only [eqTs, hl, decide_true, Bool.true_and]
  rw [List.all_eq_true]
  intro i hi
  have hi' : i < es.length := by simpa using hi
  have h1 : i < ds.length := by omega
  simp [h1, hi', h i h1 hi']
theorem eqT_refl (d : Tup) : eqT d d = true := by simp [eqT]
theorem eqTs_refl (ds : List Tup) : eqTs ds ds = true := eqTs_end ds ds rfl (fun i h1 h2 => eqT_refl _)
end Go.Proofs.YtgfcikckomhbeaaDoor
