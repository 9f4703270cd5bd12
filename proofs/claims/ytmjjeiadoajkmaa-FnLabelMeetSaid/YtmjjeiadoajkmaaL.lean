/-
  Labels: the contracts of the program's and the reference's functions on labels, for all numbers. No condition.
-/
import Derived.Test.YtmjjeiadoajkmaaA
import Derived.Test.YtmjjeiadoajkmaaN
import Derived.Test.YtmjjeiadoajkmaaB
set_option linter.unusedSimpArgs false
set_option linter.unusedVariables false
namespace Go.Proofs.Ytmjjeiadoajkmaa
open Go.RowKit

def labValid (l a : Int) : Bool := inR l 0 3 && inR a 0 31
def belB (l a m b : Int) : Bool := decide (l ≤ m) && (bits .andNot .i64 a b == 0)
def iBel (l a m b : Int) : Bool := (labValid l a && labValid m b) && belB l a m b
def sBel (l a m b : Int) : Bool := ((labValid l a && labValid m b) && decide (l ≤ m)) && (bits .and .i64 a b == a)
def maxI (l m : Int) : Int := if l < m then m else l
def minI (l m : Int) : Int := if m < l then m else l

theorem specLabelValid_any (l a : Int) (w : World) : Calls Try.prog 11 #[.agg #[.int .i64 l, .int .i64 a]] w fun e w' => e = .returned (.bool (labValid l a)) ∧ Below w.heap.size w w' := by
  cases h1 : inR l 0 3
  all_goals
    go_enter Try.func11, Try.ntmps11
    go_wp2_with (first | (go_at_call 26; refine (l1In_any _ _ _ _).mono ?_; rintro e w' ⟨rfl, rfl⟩))
    go_ret
    exact ⟨by simp [labValid, h1], by go_grown⟩
theorem implLabelValid_any (l a : Int) (w : World) : Calls Try.prog 13 #[.agg #[.int .i64 l, .int .i64 a]] w fun e w' => e = .returned (.bool (labValid l a)) ∧ Below w.heap.size w w' := by
  cases h1 : inR l 0 3
  all_goals
    go_enter Try.func13, Try.ntmps13
    go_wp2_with (first | (go_at_call 27; refine (in_any _ _ _ _).mono ?_; rintro e w' ⟨rfl, rfl⟩))
    go_ret
    exact ⟨by simp [labValid, h1], by go_grown⟩
theorem below_any (l a m b : Int) (w : World) : Calls Try.prog 28 #[.agg #[.int .i64 l, .int .i64 a], .agg #[.int .i64 m, .int .i64 b]] w fun e w' => e = .returned (.bool (belB l a m b)) ∧ Below w.heap.size w w' := by
  cases h1 : decide (l ≤ m)
  all_goals
    go_enter Try.func28, Try.ntmps28
    go_wp2
    go_ret
    exact ⟨by simp only [belB, h1]; rfl, by go_grown⟩
theorem join_any (l a m b : Int) (w : World) : Calls Try.prog 29 #[.agg #[.int .i64 l, .int .i64 a], .agg #[.int .i64 m, .int .i64 b]] w fun e w' => e = .returned (.agg #[.int .i64 (maxI l m), .int .i64 (bits .or .i64 a b)]) ∧ Below w.heap.size w w' := by
  by_cases h1 : l < m
  all_goals
    go_enter Try.func29, Try.ntmps29
    go_wp2
    go_returns
    exact ⟨by simp [maxI]; omega, by go_grown⟩
theorem specBelow_any (l a m b : Int) (w : World) : Calls Try.prog 14 #[.agg #[.int .i64 l, .int .i64 a], .agg #[.int .i64 m, .int .i64 b]] w fun e w' => e = .returned (.bool (sBel l a m b)) ∧ Below w.heap.size w w' := by
  obtain ⟨k1, k2⟩ := Bk.init2 (w := w) (vs := #[.int .i64 l, .int .i64 a]) (us := #[.int .i64 m, .int .i64 b]) (t := 25) (s := 25); have x1 := k1.cell; have x2 := k2.cell
  cases h1 : labValid l a <;> cases h2 : labValid m b <;> cases h3 : decide (l ≤ m)
  all_goals
    go_enter Try.func14, Try.ntmps14
    go_wp2_with (first | (go_at_call 11; refine (specLabelValid_any _ _ _).mono ?_; rintro e w' ⟨rfl, hb⟩; replace k1 := k1.below hb; replace k2 := k2.below hb; clear x1 x2; have x1 := k1.cell; have x2 := k2.cell))
    go_ret
    refine ⟨by simp [sBel, h1, h2, h3], ?_⟩
    clear x1 x2
    (repeat' first | (with_reducible exact Below.refl _ _) | (with_reducible refine Below.rd (by assumption) ?_ ?_) | (with_reducible refine Below.via (by assumption) ?_) | (with_reducible refine Below.al ?_ _) | (with_reducible refine Below.dn ?_ _) | (with_reducible refine Below.dr ?_) | (with_reducible refine Below.setCell ?_ ?_ _) | (dsimp only; omega) | (simp only [World.size_alloc, World.size_drew]; omega) | (simp; done) | omega)
theorem implBelow_any (l a m b : Int) (w : World) : Calls Try.prog 15 #[.agg #[.int .i64 l, .int .i64 a], .agg #[.int .i64 m, .int .i64 b]] w fun e w' => e = .returned (.bool (iBel l a m b)) ∧ Below w.heap.size w w' := by
  obtain ⟨k1, k2⟩ := Bk.init2 (w := w) (vs := #[.int .i64 l, .int .i64 a]) (us := #[.int .i64 m, .int .i64 b]) (t := 25) (s := 25); have x1 := k1.cell; have x2 := k2.cell
  cases h1 : labValid l a <;> cases h2 : labValid m b
  all_goals
    go_enter Try.func15, Try.ntmps15
    go_wp2_with (first | (go_at_call 13; refine (implLabelValid_any _ _ _).mono ?_; rintro e w' ⟨rfl, hb⟩; replace k1 := k1.below hb; replace k2 := k2.below hb; clear x1 x2; have x1 := k1.cell; have x2 := k2.cell) | (go_at_call 28; refine (below_any _ _ _ _ _).mono ?_; rintro e w' ⟨rfl, hb⟩; replace k1 := k1.below hb; replace k2 := k2.below hb; clear x1 x2; have x1 := k1.cell; have x2 := k2.cell))
    go_ret
    refine ⟨by simp [iBel, h1, h2], ?_⟩
    clear x1 x2
    (repeat' first | (with_reducible exact Below.refl _ _) | (with_reducible refine Below.rd (by assumption) ?_ ?_) | (with_reducible refine Below.via (by assumption) ?_) | (with_reducible refine Below.al ?_ _) | (with_reducible refine Below.dn ?_ _) | (with_reducible refine Below.dr ?_) | (with_reducible refine Below.setCell ?_ ?_ _) | (dsimp only; omega) | (simp only [World.size_alloc, World.size_drew]; omega) | (simp; done) | omega)
def meet1 (l a m b : Int) : Int := if labValid l a && labValid m b then minI l m else 0
def meet2 (l a m b : Int) : Int := if labValid l a && labValid m b then bits .and .i64 a b else 0
def join1 (l a m b : Int) : Int := if labValid l a && labValid m b then maxI l m else 0
def join2 (l a m b : Int) : Int := if labValid l a && labValid m b then bits .or .i64 a b else 0
theorem specMeet_any (l a m b : Int) (w : World) : Calls Try.prog 16 #[.agg #[.int .i64 l, .int .i64 a], .agg #[.int .i64 m, .int .i64 b]] w fun e w' => e = .returned (.agg #[.int .i64 (meet1 l a m b), .int .i64 (meet2 l a m b)]) ∧ Below w.heap.size w w' := by
  obtain ⟨k1, k2, k3⟩ := Bk.init3 (w := w) (vs := #[.int .i64 l, .int .i64 a]) (us := #[.int .i64 m, .int .i64 b]) (t := 25) (s := 25) (rs := #[.int .i64 0, .int .i64 0]) (r := 25); have x1 := k1.cell; have x2 := k2.cell; have x3 := k3.cell; have f3 := k3.free
  cases h1 : labValid l a <;> cases h2 : labValid m b <;> by_cases h3 : m < l
  all_goals
    go_enter Try.func16, Try.ntmps16
    go_wp2_with (first | (go_at_call 11; refine (specLabelValid_any _ _ _).mono ?_; rintro e w' ⟨rfl, hb⟩; replace k1 := k1.below hb; replace k2 := k2.below hb; replace k3 := k3.below hb; clear x1 x2 x3 f3; have x1 := k1.cell; have x2 := k2.cell; have x3 := k3.cell; have f3 := k3.free))
    (try simp only [Exit.inBlock, Exit.then]); refine bodyPost_ret (by simp [results, Try.results16, go_sem, x3]; try rfl) rfl ?_
    refine ⟨by simp [meet1, meet2, minI, h1, h2]; try omega, ?_⟩
    clear x1 x2 x3 f3
    (repeat' first | (with_reducible exact Below.refl _ _) | (with_reducible refine Below.rd (by assumption) ?_ ?_) | (with_reducible refine Below.via (by assumption) ?_) | (with_reducible refine Below.al ?_ _) | (with_reducible refine Below.dn ?_ _) | (with_reducible refine Below.dr ?_) | (with_reducible refine Below.setCell ?_ ?_ _) | (dsimp only; omega) | (simp only [World.size_alloc, World.size_drew]; omega) | (simp; done) | omega)
theorem implMeet_any (l a m b : Int) (w : World) : Calls Try.prog 17 #[.agg #[.int .i64 l, .int .i64 a], .agg #[.int .i64 m, .int .i64 b]] w fun e w' => e = .returned (.agg #[.int .i64 (meet1 l a m b), .int .i64 (meet2 l a m b)]) ∧ Below w.heap.size w w' := by
  obtain ⟨k1, k2, k3⟩ := Bk.init3 (w := w) (vs := #[.int .i64 l, .int .i64 a]) (us := #[.int .i64 m, .int .i64 b]) (t := 25) (s := 25) (rs := #[.int .i64 0, .int .i64 0]) (r := 25); have x1 := k1.cell; have x2 := k2.cell; have x3 := k3.cell; have f3 := k3.free
  cases h1 : labValid l a <;> cases h2 : labValid m b <;> by_cases h3 : m < l
  all_goals
    go_enter Try.func17, Try.ntmps17
    go_wp2_with (first | (go_at_call 13; refine (implLabelValid_any _ _ _).mono ?_; rintro e w' ⟨rfl, hb⟩; replace k1 := k1.below hb; replace k2 := k2.below hb; replace k3 := k3.below hb; clear x1 x2 x3 f3; have x1 := k1.cell; have x2 := k2.cell; have x3 := k3.cell; have f3 := k3.free))
    (try simp only [Exit.inBlock, Exit.then]); refine bodyPost_ret (by simp [results, Try.results17, go_sem, x3]; try rfl) rfl ?_
    refine ⟨by simp [meet1, meet2, minI, h1, h2]; try omega, ?_⟩
    clear x1 x2 x3 f3
    (repeat' first | (with_reducible exact Below.refl _ _) | (with_reducible refine Below.rd (by assumption) ?_ ?_) | (with_reducible refine Below.via (by assumption) ?_) | (with_reducible refine Below.al ?_ _) | (with_reducible refine Below.dn ?_ _) | (with_reducible refine Below.dr ?_) | (with_reducible refine Below.setCell ?_ ?_ _) | (dsimp only; omega) | (simp only [World.size_alloc, World.size_drew]; omega) | (simp; done) | omega)
theorem specJoin_any (l a m b : Int) (w : World) : Calls Try.prog 19 #[.agg #[.int .i64 l, .int .i64 a], .agg #[.int .i64 m, .int .i64 b]] w fun e w' => e = .returned (.agg #[.int .i64 (join1 l a m b), .int .i64 (join2 l a m b)]) ∧ Below w.heap.size w w' := by
  obtain ⟨k1, k2, k3⟩ := Bk.init3 (w := w) (vs := #[.int .i64 l, .int .i64 a]) (us := #[.int .i64 m, .int .i64 b]) (t := 25) (s := 25) (rs := #[.int .i64 0, .int .i64 0]) (r := 25); have x1 := k1.cell; have x2 := k2.cell; have x3 := k3.cell; have f3 := k3.free
  cases h1 : labValid l a <;> cases h2 : labValid m b <;> by_cases h3 : l < m
  all_goals
    go_enter Try.func19, Try.ntmps19
    go_wp2_with (first | (go_at_call 11; refine (specLabelValid_any _ _ _).mono ?_; rintro e w' ⟨rfl, hb⟩; replace k1 := k1.below hb; replace k2 := k2.below hb; replace k3 := k3.below hb; clear x1 x2 x3 f3; have x1 := k1.cell; have x2 := k2.cell; have x3 := k3.cell; have f3 := k3.free))
    (try simp only [Exit.inBlock, Exit.then]); refine bodyPost_ret (by simp [results, Try.results19, go_sem, x3]; try rfl) rfl ?_
    refine ⟨by simp [join1, join2, maxI, h1, h2]; try omega, ?_⟩
    clear x1 x2 x3 f3
    (repeat' first | (with_reducible exact Below.refl _ _) | (with_reducible refine Below.rd (by assumption) ?_ ?_) | (with_reducible refine Below.via (by assumption) ?_) | (with_reducible refine Below.al ?_ _) | (with_reducible refine Below.dn ?_ _) | (with_reducible refine Below.dr ?_) | (with_reducible refine Below.setCell ?_ ?_ _) | (dsimp only; omega) | (simp only [World.size_alloc, World.size_drew]; omega) | (simp; done) | omega)
theorem implJoin_any (l a m b : Int) (w : World) : Calls Try.prog 20 #[.agg #[.int .i64 l, .int .i64 a], .agg #[.int .i64 m, .int .i64 b]] w fun e w' => e = .returned (.agg #[.int .i64 (join1 l a m b), .int .i64 (join2 l a m b)]) ∧ Below w.heap.size w w' := by
  obtain ⟨k1, k2, k3⟩ := Bk.init3 (w := w) (vs := #[.int .i64 l, .int .i64 a]) (us := #[.int .i64 m, .int .i64 b]) (t := 25) (s := 25) (rs := #[.int .i64 0, .int .i64 0]) (r := 25); have x1 := k1.cell; have x2 := k2.cell; have x3 := k3.cell; have f3 := k3.free
  cases h1 : labValid l a <;> cases h2 : labValid m b
  all_goals
    go_enter Try.func20, Try.ntmps20
    go_wp2_with (first | (go_at_call 13; refine (implLabelValid_any _ _ _).mono ?_; rintro e w' ⟨rfl, hb⟩; replace k1 := k1.below hb; replace k2 := k2.below hb; replace k3 := k3.below hb; clear x1 x2 x3 f3; have x1 := k1.cell; have x2 := k2.cell; have x3 := k3.cell; have f3 := k3.free) | (go_at_call 29; refine (join_any _ _ _ _ _).mono ?_; rintro e w' ⟨rfl, hb⟩; replace k1 := k1.below hb; replace k2 := k2.below hb; replace k3 := k3.below hb; clear x1 x2 x3 f3; have x1 := k1.cell; have x2 := k2.cell; have x3 := k3.cell; have f3 := k3.free))
    (try simp only [Exit.inBlock, Exit.then]); refine bodyPost_ret (by simp [results, Try.results20, go_sem, x3]; try rfl) rfl ?_
    refine ⟨by simp [join1, join2, h1, h2], ?_⟩
    clear x1 x2 x3 f3
    (repeat' first | (with_reducible exact Below.refl _ _) | (with_reducible refine Below.rd (by assumption) ?_ ?_) | (with_reducible refine Below.via (by assumption) ?_) | (with_reducible refine Below.al ?_ _) | (with_reducible refine Below.dn ?_ _) | (with_reducible refine Below.dr ?_) | (with_reducible refine Below.setCell ?_ ?_ _) | (dsimp only; omega) | (simp only [World.size_alloc, World.size_drew]; omega) | (simp; done) | omega)
theorem toLabel_any (l a : Int) (w : World) : Calls Try.prog 12 #[.agg #[.int .i64 l, .int .i64 a]] w fun e w' => e = .returned (.agg #[.int .i64 l, .int .i64 a]) ∧ Below w.heap.size w w' := by
  go_enter Try.func12, Try.ntmps12
  go_wp2_with fail
  go_returns
  refine ⟨rfl, ?_⟩
  (repeat' first | (with_reducible exact Below.refl _ _) | (with_reducible refine Below.rd (by assumption) ?_ ?_) | (with_reducible refine Below.via (by assumption) ?_) | (with_reducible refine Below.al ?_ _) | (with_reducible refine Below.dn ?_ _) | (with_reducible refine Below.dr ?_) | (with_reducible refine Below.setCell ?_ ?_ _) | (dsimp only; omega) | (simp only [World.size_alloc, World.size_drew]; omega) | (simp; done) | omega)
theorem eqLabel_any (l a m b : Int) (w : World) : Calls Try.prog 18 #[.agg #[.int .i64 l, .int .i64 a], .agg #[.int .i64 m, .int .i64 b]] w fun e w' => e = .returned (.bool (l == m && a == b)) ∧ Below w.heap.size w w' := by
  cases h1 : l == m <;> cases h2 : a == b
  all_goals
    have h3 : (l != m) = !(l == m) := rfl
    have h4 : (a != b) = !(a == b) := rfl
    rw [h1] at h3
    rw [h2] at h4
    go_enter Try.func18, Try.ntmps18
    go_wp2_with fail
    go_ret
    refine ⟨rfl, ?_⟩
    (repeat' first | (with_reducible exact Below.refl _ _) | (with_reducible refine Below.rd (by assumption) ?_ ?_) | (with_reducible refine Below.via (by assumption) ?_) | (with_reducible refine Below.al ?_ _) | (with_reducible refine Below.dn ?_ _) | (with_reducible refine Below.dr ?_) | (with_reducible refine Below.setCell ?_ ?_ _) | (dsimp only; omega) | (simp only [World.size_alloc, World.size_drew]; omega) | (simp; done) | omega)
end Go.Proofs.Ytmjjeiadoajkmaa
