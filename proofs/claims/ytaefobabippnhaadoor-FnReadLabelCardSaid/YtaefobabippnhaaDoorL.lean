/-
  Labels: the contracts of the program's and the reference's functions on labels, for all numbers. No condition.
-/
import Derived.Test.YtaefobabippnhaaDoorA
import Derived.Test.YtaefobabippnhaaDoorN
import Derived.Test.YtaefobabippnhaaDoorB
set_option linter.unusedSimpArgs false
set_option linter.unusedVariables false
namespace Go.Proofs.YtaefobabippnhaaDoor
open Go.RowKit

def labValid (l a : Int) : Bool := inR l 0 3 && inR a 0 31
def belB (l a m b : Int) : Bool := decide (l ≤ m) && (bits .andNot .i64 a b == 0)
def iBel (l a m b : Int) : Bool := (labValid l a && labValid m b) && belB l a m b
def sBel (l a m b : Int) : Bool := ((labValid l a && labValid m b) && decide (l ≤ m)) && (bits .and .i64 a b == a)
def maxI (l m : Int) : Int := if l < m then m else l
def minI (l m : Int) : Int := if m < l then m else l

theorem specLabelValid_any (l a : Int) (w : World) : Calls Tryd.prog 14 #[.agg #[.int .i64 l, .int .i64 a]] w fun e w' => e = .returned (.bool (labValid l a)) ∧ Below w.heap.size w w' := by
  cases h1 : inR l 0 3
  all_goals
    go_enter Tryd.func14, Tryd.ntmps14
    go_wp2_with (first | (go_at_call 23; refine (l1In_any _ _ _ _).mono ?_; rintro e w' ⟨rfl, rfl⟩))
    go_ret
    exact ⟨by simp [labValid, h1], by go_grown⟩
theorem implLabelValid_any (l a : Int) (w : World) : Calls Tryd.prog 18 #[.agg #[.int .i64 l, .int .i64 a]] w fun e w' => e = .returned (.bool (labValid l a)) ∧ Below w.heap.size w w' := by
  cases h1 : inR l 0 3
  all_goals
    go_enter Tryd.func18, Tryd.ntmps18
    go_wp2_with (first | (go_at_call 27; refine (in_any _ _ _ _).mono ?_; rintro e w' ⟨rfl, rfl⟩))
    go_ret
    exact ⟨by simp [labValid, h1], by go_grown⟩
def meet1 (l a m b : Int) : Int := if labValid l a && labValid m b then minI l m else 0
def meet2 (l a m b : Int) : Int := if labValid l a && labValid m b then bits .and .i64 a b else 0
def join1 (l a m b : Int) : Int := if labValid l a && labValid m b then maxI l m else 0
def join2 (l a m b : Int) : Int := if labValid l a && labValid m b then bits .or .i64 a b else 0
theorem toLabel_any (l a : Int) (w : World) : Calls Tryd.prog 8 #[.agg #[.int .i64 l, .int .i64 a]] w fun e w' => e = .returned (.agg #[.int .i64 l, .int .i64 a]) ∧ Below w.heap.size w w' := by
  go_enter Tryd.func8, Tryd.ntmps8
  go_wp2_with fail
  go_returns
  refine ⟨rfl, ?_⟩
  (repeat' first | (with_reducible exact Below.refl _ _) | (with_reducible refine Below.rd (by assumption) ?_ ?_) | (with_reducible refine Below.via (by assumption) ?_) | (with_reducible refine Below.al ?_ _) | (with_reducible refine Below.dn ?_ _) | (with_reducible refine Below.dr ?_) | (with_reducible refine Below.setCell ?_ ?_ _) | (dsimp only; omega) | (simp only [World.size_alloc, World.size_drew]; omega) | (simp; done) | omega)
theorem eqLabel_any (l a m b : Int) (w : World) : Calls Tryd.prog 12 #[.agg #[.int .i64 l, .int .i64 a], .agg #[.int .i64 m, .int .i64 b]] w fun e w' => e = .returned (.bool (l == m && a == b)) ∧ Below w.heap.size w w' := by
  cases h1 : l == m <;> cases h2 : a == b
  all_goals
    have h3 : (l != m) = !(l == m) := rfl
    have h4 : (a != b) = !(a == b) := rfl
    rw [h1] at h3
    rw [h2] at h4
    go_enter Tryd.func12, Tryd.ntmps12
    go_wp2_with fail
    go_ret
    refine ⟨rfl, ?_⟩
    (repeat' first | (with_reducible exact Below.refl _ _) | (with_reducible refine Below.rd (by assumption) ?_ ?_) | (with_reducible refine Below.via (by assumption) ?_) | (with_reducible refine Below.al ?_ _) | (with_reducible refine Below.dn ?_ _) | (with_reducible refine Below.dr ?_) | (with_reducible refine Below.setCell ?_ ?_ _) | (dsimp only; omega) | (simp only [World.size_alloc, World.size_drew]; omega) | (simp; done) | omega)
end Go.Proofs.YtaefobabippnhaaDoor
