/-
  Labels are drawn. Condition: the reader is whole.
-/
import Derived.Test.YtaefobabippnhaaDoorD
import Derived.Test.YtaefobabippnhaaDoorL
set_option linter.unusedSimpArgs false
set_option linter.unusedVariables false
namespace Go.Proofs.YtaefobabippnhaaDoor
open Go.RowKit
/-- A label is drawn. -/
def LabS (b : Nat) (M : Int) (w : World) (e : Ending) (w' : World) : Prop :=
  ∃ l a : Int, e = .returned (.agg #[.int .i64 l, .int .i64 a]) ∧ Reads b M (M + 10) w w'
theorem l20Label_any (b : Nat) (n M : Int) (w : World) (h : Rd w b M) (hM : M ≤ 1099511627776 - 10) (hn : 0 ≤ n) (hn2 : n ≤ 1099511627776) :
    Calls Tryd.prog 21 #[.pointer (some ⟨b, 0, none⟩), .int .i64 n] w (LabS b M w) := by
  have hlt := h.lt
  have H := Lib.hid h
  clear h
  have kr := Bk.new (w := w) (vs := #[.int .i64 0, .int .i64 0]) (t := 25)
  go_enter Tryd.func21, Tryd.ntmps21
  go_wp2_with fail
  refine (odd_any b n M _ (H.out.below (below_al _ _)) (by omega) (by omega) (by omega)).mono ?_
  rintro e w1 ⟨x, rfl, r1⟩
  replace kr := kr.rd r1 hlt
  cases x
  · go_wp2_with fail
    refine (pick_any b 4 _ _ r1.rd (by omega) (by omega)).mono ?_
    rintro e w2 ⟨x2, rfl, lo2, hi2, r2⟩
    go_wp2_with fail
    refine (pick_any b 32 _ _ r2.rd (by omega) (by omega)).mono ?_
    rintro e w3 ⟨x3, rfl, lo3, hi3, r3⟩
    go_wp2_with fail
    refine (pick_any b 4 _ _ r3.rd (by omega) (by omega)).mono ?_
    rintro e w4 ⟨x4, rfl, lo4, hi4, r4⟩
    go_wp2_with fail
    refine (pick_any b 2 _ _ (r4.rd.below (below_al _ _)) (by omega) (by omega)).mono ?_
    rintro e w5 ⟨x5, rfl, lo5, hi5, r5⟩
    replace kr := ((((kr.rd r2 hlt).rd r3 hlt).rd r4 hlt).alloc _).rd r5 hlt
    have ks := Bk.new.rd r5 r4.rd.lt
    have xr := kr.cell
    have fr := kr.free
    have xs := ks.cell
    rcases (show x5 = 0 ∨ x5 = 1 by omega) with rfl | rfl
    all_goals
      go_wp2_with fail
      (try simp only [Exit.inBlock, Exit.then]); refine bodyPost_ret (by simp [results, Tryd.results21, go_sem, xr]; try rfl) rfl ?_
      refine ⟨_, _, rfl, ?_⟩
      (refine Reads.mono (M' := ?_) ?_ ?_; rotate_left; (repeat' first | (with_reducible exact Reads.refl H.out) | (with_reducible refine Reads.via (by assumption) ?_) | (with_reducible refine Reads.grow (by assumption) ?_) | (with_reducible refine Reads.al ?_ _) | (with_reducible refine Reads.dr ?_) | (with_reducible refine Reads.set ?_ hlt ?_ _ _) | omega))
  · go_wp2_with fail
    refine (pick_any b 4 _ _ (r1.rd.below (below_al _ _)) (by omega) (by omega)).mono ?_
    rintro e w2 ⟨x2, rfl, lo2, hi2, r2⟩
    have ks := Bk.new.rd r2 r1.rd.lt
    replace kr := (kr.alloc _).rd r2 hlt
    have xr := kr.cell
    have fr := kr.free
    have xs := ks.cell
    rcases (show x2 = 0 ∨ x2 = 1 ∨ x2 = 2 ∨ x2 = 3 by omega) with rfl | rfl | rfl | rfl
    all_goals
      go_wp2_with fail
      (try simp only [Exit.inBlock, Exit.then]); refine bodyPost_ret (by simp [results, Tryd.results21, go_sem, xr]; try rfl) rfl ?_
      refine ⟨_, _, rfl, ?_⟩
      (refine Reads.mono (M' := ?_) ?_ ?_; rotate_left; (repeat' first | (with_reducible exact Reads.refl H.out) | (with_reducible refine Reads.via (by assumption) ?_) | (with_reducible refine Reads.grow (by assumption) ?_) | (with_reducible refine Reads.al ?_ _) | (with_reducible refine Reads.dr ?_) | (with_reducible refine Reads.set ?_ hlt ?_ _ _) | omega))
end Go.Proofs.YtaefobabippnhaaDoor
