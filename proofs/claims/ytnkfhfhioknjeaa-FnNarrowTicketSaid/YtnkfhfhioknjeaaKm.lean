/-
  Tickets made: the program's way and the reference's. No condition.
-/
import Derived.Test.YtnkfhfhioknjeaaKs
set_option linter.unusedSimpArgs false
set_option linter.unusedVariables false
namespace Go.Proofs.Ytnkfhfhioknjeaa
open Go.RowKit
structure Tk where
  who : Int
  acts : List Int
  til : Int
  sl : Int
def tk0 : Tk := ⟨0, [], 0, 0⟩
def makeT (key who act til : Int) : Tk × Bool := if sealOf key who til [act] < 0 then (tk0, false) else (⟨who, [act], til, sealOf key who til [act]⟩, true)
/-- A ticket is returned whose row is the call's own. -/
def NewT (r : Tk × Bool) (w : World) (e : Ending) (w' : World) : Prop :=
  ∃ v, e = .returned (.tuple #[.agg #[.int .i64 r.1.who, v, .int .i64 r.1.til, .int .i64 r.1.sl], .bool r.2]) ∧ w'.ownsRow w.heap.size 3 1 v r.1.acts.length (cellsI r.1.acts) ∧ Below w.heap.size w w'
theorem makeT_bad (key who act til : Int) (h : decide (sealOf key who til [act] < 0) = true) : makeT key who act til = (tk0, false) := by rw [makeT, if_pos (by simpa using h)]
theorem makeT_ok (key who act til : Int) (h : decide (sealOf key who til [act] < 0) = false) : makeT key who act til = (⟨who, [act], til, sealOf key who til [act]⟩, true) := by rw [makeT, if_neg (by simpa using h)]
theorem own_one {w : World} {b lo : Nat} {x : Int} (h : Bk w b #[.int .i64 x] 3) (hlo : lo ≤ b) : w.ownsRow lo 3 1 (.slice (some ⟨b, 0, none⟩) 1 1) 1 (cellsI [x]) :=
  own_of_bk h hlo (by unfold maxLen; omega) rfl rfl (fun j hj => by simp [cellsI, encI])
set_option maxHeartbeats 1600000 in
theorem implMake_any (key who act til : Int) (w : World) : Calls Try.prog 20 #[.int .i64 key, .int .i64 who, .int .i64 act, .int .i64 til] w (NewT (makeT key who act til) w) := by
  obtain ⟨k1, k2, k3⟩ := Bk.init3 (w := w) (vs := #[.int .i64 0, .slice none 0 0, .int .i64 0, .int .i64 0]) (t := 27) (us := #[.int .i64 act]) (s := 3) (rs := #[.int .i64 who, .slice (some ⟨w.heap.size + 1, 0, none⟩) 1 1, .int .i64 til, .int .i64 0]) (r := 27); have x1 := k1.cell; have x2 := k2.cell; have x3 := k3.cell; have f3 := k3.free
  have HA := Lib.hid (slI_one k2)
  cases hs : decide (sealOf key who til [act] < 0)
  · have hf := Lib.hid (makeT_ok key who act til hs)
    go_enter Try.func20, Try.ntmps20
    go_wp2_with fail
    refine (implSeal_any key who til 0 [act] _ _ HA.out).mono ?_
    rintro e w1 ⟨rfl, hb⟩
    replace k1 := k1.below hb; replace k2 := k2.below hb; replace k3 := k3.below hb; clear x1 x2 x3 f3; have x1 := k1.cell; have x2 := k2.cell; have x3 := k3.cell; have f3 := k3.free
    have f1 := k1.free
    go_wp2_with fail
    (try simp only [Exit.inBlock, Exit.then]); refine bodyPost_ret (by simp [results, Try.results20, go_sem, x1]; try rfl) rfl ?_
    rw [hf.out]
    refine ⟨_, rfl, own_one (b := w.heap.size + 1) ?_ (by omega), ?_⟩
    · (repeat' first | (with_reducible assumption) | (with_reducible refine Bk.drew ?_) | (with_reducible refine Bk.dn ?_ _) | (with_reducible refine Bk.below ?_ (by assumption)) | (with_reducible refine Bk.rdn ?_ (by assumption) ?_) | (with_reducible refine Bk.alloc ?_ _) | (with_reducible refine Bk.far ?_ _ ?_ _) | (dsimp only; omega) | omega)
    · (repeat' first | (with_reducible exact Below.refl _ _) | (with_reducible refine Below.rd (by assumption) ?_ ?_) | (with_reducible refine Below.via (by assumption) ?_) | (with_reducible refine Below.al ?_ _) | (with_reducible refine Below.dn ?_ _) | (with_reducible refine Below.dr ?_) | (with_reducible refine Below.setCell ?_ ?_ _) | (dsimp only; omega) | (simp only [World.size_alloc, World.size_drew]; omega) | (simp; done) | omega)
  · have hf := Lib.hid (makeT_bad key who act til hs)
    go_enter Try.func20, Try.ntmps20
    go_wp2_with fail
    refine (implSeal_any key who til 0 [act] _ _ HA.out).mono ?_
    rintro e w1 ⟨rfl, hb⟩
    replace k1 := k1.below hb; replace k2 := k2.below hb; replace k3 := k3.below hb; clear x1 x2 x3 f3; have x1 := k1.cell; have x2 := k2.cell; have x3 := k3.cell; have f3 := k3.free
    have f1 := k1.free
    go_wp2_with fail
    (try simp only [Exit.inBlock, Exit.then]); refine bodyPost_ret (by simp [results, Try.results20, go_sem, x1]; try rfl) rfl ?_
    rw [hf.out]
    refine ⟨_, rfl, World.ownsRow_nil _ _ _ _, ?_⟩
    (repeat' first | (with_reducible exact Below.refl _ _) | (with_reducible refine Below.rd (by assumption) ?_ ?_) | (with_reducible refine Below.via (by assumption) ?_) | (with_reducible refine Below.al ?_ _) | (with_reducible refine Below.dn ?_ _) | (with_reducible refine Below.dr ?_) | (with_reducible refine Below.setCell ?_ ?_ _) | (dsimp only; omega) | (simp only [World.size_alloc, World.size_drew]; omega) | (simp; done) | omega)
set_option maxHeartbeats 1600000 in
theorem specMake_any (key who act til : Int) (w : World) : Calls Try.prog 19 #[.int .i64 key, .int .i64 who, .int .i64 act, .int .i64 til] w (NewT (makeT key who act til) w) := by
  obtain ⟨k1, k2, k3⟩ := Bk.init3 (w := w) (vs := #[.int .i64 0, .slice none 0 0, .int .i64 0, .int .i64 0]) (t := 27) (us := #[.int .i64 act]) (s := 3) (rs := #[.int .i64 who, .slice (some ⟨w.heap.size + 1, 0, none⟩) 1 1, .int .i64 til, .int .i64 0]) (r := 27); have x1 := k1.cell; have x2 := k2.cell; have x3 := k3.cell; have f3 := k3.free
  have HA := Lib.hid (slI_one k2)
  cases hs : decide (sealOf key who til [act] < 0)
  · have hf := Lib.hid (makeT_ok key who act til hs)
    go_enter Try.func19, Try.ntmps19
    go_wp2_with fail
    refine (specSeal_any key who til 0 [act] _ _ HA.out).mono ?_
    rintro e w1 ⟨rfl, hb⟩
    replace k1 := k1.below hb; replace k2 := k2.below hb; replace k3 := k3.below hb; clear x1 x2 x3 f3; have x1 := k1.cell; have x2 := k2.cell; have x3 := k3.cell; have f3 := k3.free
    have f1 := k1.free
    go_wp2_with fail
    (try simp only [Exit.inBlock, Exit.then]); refine bodyPost_ret (by simp [results, Try.results19, go_sem, x1]; try rfl) rfl ?_
    rw [hf.out]
    refine ⟨_, rfl, own_one (b := w.heap.size + 1) ?_ (by omega), ?_⟩
    · (repeat' first | (with_reducible assumption) | (with_reducible refine Bk.drew ?_) | (with_reducible refine Bk.dn ?_ _) | (with_reducible refine Bk.below ?_ (by assumption)) | (with_reducible refine Bk.rdn ?_ (by assumption) ?_) | (with_reducible refine Bk.alloc ?_ _) | (with_reducible refine Bk.far ?_ _ ?_ _) | (dsimp only; omega) | omega)
    · (repeat' first | (with_reducible exact Below.refl _ _) | (with_reducible refine Below.rd (by assumption) ?_ ?_) | (with_reducible refine Below.via (by assumption) ?_) | (with_reducible refine Below.al ?_ _) | (with_reducible refine Below.dn ?_ _) | (with_reducible refine Below.dr ?_) | (with_reducible refine Below.setCell ?_ ?_ _) | (dsimp only; omega) | (simp only [World.size_alloc, World.size_drew]; omega) | (simp; done) | omega)
  · have hf := Lib.hid (makeT_bad key who act til hs)
    go_enter Try.func19, Try.ntmps19
    go_wp2_with fail
    refine (specSeal_any key who til 0 [act] _ _ HA.out).mono ?_
    rintro e w1 ⟨rfl, hb⟩
    replace k1 := k1.below hb; replace k2 := k2.below hb; replace k3 := k3.below hb; clear x1 x2 x3 f3; have x1 := k1.cell; have x2 := k2.cell; have x3 := k3.cell; have f3 := k3.free
    have f1 := k1.free
    go_wp2_with fail
    (try simp only [Exit.inBlock, Exit.then]); refine bodyPost_ret (by simp [results, Try.results19, go_sem, x1]; try rfl) rfl ?_
    rw [hf.out]
    refine ⟨_, rfl, World.ownsRow_nil _ _ _ _, ?_⟩
    (repeat' first | (with_reducible exact Below.refl _ _) | (with_reducible refine Below.rd (by assumption) ?_ ?_) | (with_reducible refine Below.via (by assumption) ?_) | (with_reducible refine Below.al ?_ _) | (with_reducible refine Below.dn ?_ _) | (with_reducible refine Below.dr ?_) | (with_reducible refine Below.setCell ?_ ?_ _) | (dsimp only; omega) | (simp only [World.size_alloc, World.size_drew]; omega) | (simp; done) | omega)
end Go.Proofs.Ytnkfhfhioknjeaa
