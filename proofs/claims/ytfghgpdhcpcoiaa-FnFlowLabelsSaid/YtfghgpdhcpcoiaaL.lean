/-
  Labels: the contracts of the program's and the reference's functions on labels, for all numbers. No condition.
-/
import Derived.Test.YtfghgpdhcpcoiaaA
import Derived.Test.YtfghgpdhcpcoiaaN
import Derived.Test.YtfghgpdhcpcoiaaB
set_option linter.unusedSimpArgs false
set_option linter.unusedVariables false
namespace Go.Proofs.Ytfghgpdhcpcoiaa
open Go.RowKit

def labValid (l a : Int) : Bool := inR l 0 3 && inR a 0 31
def belB (l a m b : Int) : Bool := decide (l ≤ m) && (bits .andNot .i64 a b == 0)
def iBel (l a m b : Int) : Bool := (labValid l a && labValid m b) && belB l a m b
def sBel (l a m b : Int) : Bool := ((labValid l a && labValid m b) && decide (l ≤ m)) && (bits .and .i64 a b == a)
def maxI (l m : Int) : Int := if l < m then m else l
def minI (l m : Int) : Int := if m < l then m else l

theorem specLabelValid_any (l a : Int) (w : World) : Calls Try.prog 71 #[.agg #[.int .i64 l, .int .i64 a]] w fun e w' => e = .returned (.bool (labValid l a)) ∧ Below w.heap.size w w' := by
  cases h1 : inR l 0 3
  all_goals
    go_enter Try.func71, Try.ntmps71
    go_wp2_with (first | (go_at_call 39; refine (l1In_any _ _ _ _).mono ?_; rintro e w' ⟨rfl, rfl⟩))
    go_ret
    exact ⟨by simp [labValid, h1], by go_grown⟩
theorem implLabelValid_any (l a : Int) (w : World) : Calls Try.prog 60 #[.agg #[.int .i64 l, .int .i64 a]] w fun e w' => e = .returned (.bool (labValid l a)) ∧ Below w.heap.size w w' := by
  cases h1 : inR l 0 3
  all_goals
    go_enter Try.func60, Try.ntmps60
    go_wp2_with (first | (go_at_call 41; refine (in_any _ _ _ _).mono ?_; rintro e w' ⟨rfl, rfl⟩))
    go_ret
    exact ⟨by simp [labValid, h1], by go_grown⟩
theorem below_any (l a m b : Int) (w : World) : Calls Try.prog 59 #[.agg #[.int .i64 l, .int .i64 a], .agg #[.int .i64 m, .int .i64 b]] w fun e w' => e = .returned (.bool (belB l a m b)) ∧ Below w.heap.size w w' := by
  cases h1 : decide (l ≤ m)
  all_goals
    go_enter Try.func59, Try.ntmps59
    go_wp2
    go_ret
    exact ⟨by simp only [belB, h1]; rfl, by go_grown⟩
theorem join_any (l a m b : Int) (w : World) : Calls Try.prog 74 #[.agg #[.int .i64 l, .int .i64 a], .agg #[.int .i64 m, .int .i64 b]] w fun e w' => e = .returned (.agg #[.int .i64 (maxI l m), .int .i64 (bits .or .i64 a b)]) ∧ Below w.heap.size w w' := by
  by_cases h1 : l < m
  all_goals
    go_enter Try.func74, Try.ntmps74
    go_wp2
    go_returns
    exact ⟨by simp [maxI]; omega, by go_grown⟩
theorem specBelow_any (l a m b : Int) (w : World) : Calls Try.prog 58 #[.agg #[.int .i64 l, .int .i64 a], .agg #[.int .i64 m, .int .i64 b]] w fun e w' => e = .returned (.bool (sBel l a m b)) ∧ Below w.heap.size w w' := by
  obtain ⟨k1, k2⟩ := Bk.init2 (w := w) (vs := #[.int .i64 l, .int .i64 a]) (us := #[.int .i64 m, .int .i64 b]) (t := 49) (s := 49); have x1 := k1.cell; have x2 := k2.cell
  cases h1 : labValid l a <;> cases h2 : labValid m b <;> cases h3 : decide (l ≤ m)
  all_goals
    go_enter Try.func58, Try.ntmps58
    go_wp2_with (first | (go_at_call 71; refine (specLabelValid_any _ _ _).mono ?_; rintro e w' ⟨rfl, hb⟩; replace k1 := k1.below hb; replace k2 := k2.below hb; clear x1 x2; have x1 := k1.cell; have x2 := k2.cell))
    go_ret
    refine ⟨by simp [sBel, h1, h2, h3], ?_⟩
    clear x1 x2
    (repeat' first | (with_reducible exact Below.refl _ _) | (with_reducible refine Below.rd (by assumption) ?_ ?_) | (with_reducible refine Below.via (by assumption) ?_) | (with_reducible refine Below.al ?_ _) | (with_reducible refine Below.dn ?_ _) | (with_reducible refine Below.dr ?_) | (with_reducible refine Below.setCell ?_ ?_ _) | (dsimp only; omega) | (simp only [World.size_alloc, World.size_drew]; omega) | (simp; done) | omega)
theorem implBelow_any (l a m b : Int) (w : World) : Calls Try.prog 31 #[.agg #[.int .i64 l, .int .i64 a], .agg #[.int .i64 m, .int .i64 b]] w fun e w' => e = .returned (.bool (iBel l a m b)) ∧ Below w.heap.size w w' := by
  obtain ⟨k1, k2⟩ := Bk.init2 (w := w) (vs := #[.int .i64 l, .int .i64 a]) (us := #[.int .i64 m, .int .i64 b]) (t := 49) (s := 49); have x1 := k1.cell; have x2 := k2.cell
  cases h1 : labValid l a <;> cases h2 : labValid m b
  all_goals
    go_enter Try.func31, Try.ntmps31
    go_wp2_with (first | (go_at_call 60; refine (implLabelValid_any _ _ _).mono ?_; rintro e w' ⟨rfl, hb⟩; replace k1 := k1.below hb; replace k2 := k2.below hb; clear x1 x2; have x1 := k1.cell; have x2 := k2.cell) | (go_at_call 59; refine (below_any _ _ _ _ _).mono ?_; rintro e w' ⟨rfl, hb⟩; replace k1 := k1.below hb; replace k2 := k2.below hb; clear x1 x2; have x1 := k1.cell; have x2 := k2.cell))
    go_ret
    refine ⟨by simp [iBel, h1, h2], ?_⟩
    clear x1 x2
    (repeat' first | (with_reducible exact Below.refl _ _) | (with_reducible refine Below.rd (by assumption) ?_ ?_) | (with_reducible refine Below.via (by assumption) ?_) | (with_reducible refine Below.al ?_ _) | (with_reducible refine Below.dn ?_ _) | (with_reducible refine Below.dr ?_) | (with_reducible refine Below.setCell ?_ ?_ _) | (dsimp only; omega) | (simp only [World.size_alloc, World.size_drew]; omega) | (simp; done) | omega)
def meet1 (l a m b : Int) : Int := if labValid l a && labValid m b then minI l m else 0
def meet2 (l a m b : Int) : Int := if labValid l a && labValid m b then bits .and .i64 a b else 0
def join1 (l a m b : Int) : Int := if labValid l a && labValid m b then maxI l m else 0
def join2 (l a m b : Int) : Int := if labValid l a && labValid m b then bits .or .i64 a b else 0
theorem specJoin_any (l a m b : Int) (w : World) : Calls Try.prog 50 #[.agg #[.int .i64 l, .int .i64 a], .agg #[.int .i64 m, .int .i64 b]] w fun e w' => e = .returned (.agg #[.int .i64 (join1 l a m b), .int .i64 (join2 l a m b)]) ∧ Below w.heap.size w w' := by
  obtain ⟨k1, k2, k3⟩ := Bk.init3 (w := w) (vs := #[.int .i64 l, .int .i64 a]) (us := #[.int .i64 m, .int .i64 b]) (t := 49) (s := 49) (rs := #[.int .i64 0, .int .i64 0]) (r := 49); have x1 := k1.cell; have x2 := k2.cell; have x3 := k3.cell; have f3 := k3.free
  cases h1 : labValid l a <;> cases h2 : labValid m b <;> by_cases h3 : l < m
  all_goals
    go_enter Try.func50, Try.ntmps50
    go_wp2_with (first | (go_at_call 71; refine (specLabelValid_any _ _ _).mono ?_; rintro e w' ⟨rfl, hb⟩; replace k1 := k1.below hb; replace k2 := k2.below hb; replace k3 := k3.below hb; clear x1 x2 x3 f3; have x1 := k1.cell; have x2 := k2.cell; have x3 := k3.cell; have f3 := k3.free))
    (try simp only [Exit.inBlock, Exit.then]); refine bodyPost_ret (by simp [results, Try.results50, go_sem, x3]; try rfl) rfl ?_
    refine ⟨by simp [join1, join2, maxI, h1, h2]; try omega, ?_⟩
    clear x1 x2 x3 f3
    (repeat' first | (with_reducible exact Below.refl _ _) | (with_reducible refine Below.rd (by assumption) ?_ ?_) | (with_reducible refine Below.via (by assumption) ?_) | (with_reducible refine Below.al ?_ _) | (with_reducible refine Below.dn ?_ _) | (with_reducible refine Below.dr ?_) | (with_reducible refine Below.setCell ?_ ?_ _) | (dsimp only; omega) | (simp only [World.size_alloc, World.size_drew]; omega) | (simp; done) | omega)
theorem toLabel_any (l a : Int) (w : World) : Calls Try.prog 51 #[.agg #[.int .i64 l, .int .i64 a]] w fun e w' => e = .returned (.agg #[.int .i64 l, .int .i64 a]) ∧ Below w.heap.size w w' := by
  go_enter Try.func51, Try.ntmps51
  go_wp2_with fail
  go_returns
  refine ⟨rfl, ?_⟩
  (repeat' first | (with_reducible exact Below.refl _ _) | (with_reducible refine Below.rd (by assumption) ?_ ?_) | (with_reducible refine Below.via (by assumption) ?_) | (with_reducible refine Below.al ?_ _) | (with_reducible refine Below.dn ?_ _) | (with_reducible refine Below.dr ?_) | (with_reducible refine Below.setCell ?_ ?_ _) | (dsimp only; omega) | (simp only [World.size_alloc, World.size_drew]; omega) | (simp; done) | omega)
theorem eqLabel_any (l a m b : Int) (w : World) : Calls Try.prog 55 #[.agg #[.int .i64 l, .int .i64 a], .agg #[.int .i64 m, .int .i64 b]] w fun e w' => e = .returned (.bool (l == m && a == b)) ∧ Below w.heap.size w w' := by
  cases h1 : l == m <;> cases h2 : a == b
  all_goals
    have h3 : (l != m) = !(l == m) := rfl
    have h4 : (a != b) = !(a == b) := rfl
    rw [h1] at h3
    rw [h2] at h4
    go_enter Try.func55, Try.ntmps55
    go_wp2_with fail
    go_ret
    refine ⟨rfl, ?_⟩
    (repeat' first | (with_reducible exact Below.refl _ _) | (with_reducible refine Below.rd (by assumption) ?_ ?_) | (with_reducible refine Below.via (by assumption) ?_) | (with_reducible refine Below.al ?_ _) | (with_reducible refine Below.dn ?_ _) | (with_reducible refine Below.dr ?_) | (with_reducible refine Below.setCell ?_ ?_ _) | (dsimp only; omega) | (simp only [World.size_alloc, World.size_drew]; omega) | (simp; done) | omega)
end Go.Proofs.Ytfghgpdhcpcoiaa
