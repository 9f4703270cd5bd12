/-
  Labels drawn from the bytes of a law. Condition: the bytes can be read.
-/
import Derived.Test.YtmjjeiadoajkmaaE
set_option linter.unusedSimpArgs false
set_option linter.unusedVariables false
namespace Go.Proofs.Ytmjjeiadoajkmaa
open Go.RowKit
def LabOneS (w : World) (e : Ending) (w' : World) : Prop := ∃ l a : Int, e = .returned (.agg #[.int .i64 l, .int .i64 a]) ∧ Below w.heap.size w w'
def LabTwoS (w : World) (e : Ending) (w' : World) : Prop := ∃ l a m b : Int, e = .returned (.tuple #[.agg #[.int .i64 l, .int .i64 a], .agg #[.int .i64 m, .int .i64 b]]) ∧ Below w.heap.size w w'
theorem drawLabelValid_any (a : Option Addr) (len cap : Nat) (w : World) (h : Bytes w a len cap) : Calls Try.prog 21 #[.slice a len cap] w (LabOneS w) := by
  have hb0 := Lib.hid (fun w' (k : Below w.heap.size w w') => h.below k)
  clear h
  have kr := Bk.new (w := w) (vs := #[.int .i64 0, .int .i64 0]) (t := 25)
  go_enter Try.func21, Try.ntmps21
  go_wp2_with fail
  refine (open_any a len cap _ (hb0.out _ (below_al _ _))).mono ?_
  rintro e w1 ⟨rfl, r1, h1⟩
  simp only [World.size_alloc] at r1
  have z1 := h1.size
  simp only [World.size_alloc] at z1
  go_wp2_with fail
  refine (l20Label_any _ 2 _ _ r1 (by omega) (by omega) (by omega)).mono ?_
  rintro e w2 ⟨l, x, rfl, r2⟩
  replace kr := (kr.below h1).rdn r2 (by omega)
  have xr := kr.cell
  have fr := kr.free
  go_wp2_with fail
  (try simp only [Exit.inBlock, Exit.then]); refine bodyPost_ret (by simp [results, Try.results21, go_sem, xr]; try rfl) rfl ?_
  refine ⟨_, _, rfl, ?_⟩
  clear xr fr kr
  (repeat' first | (with_reducible exact Below.refl _ _) | (with_reducible refine Below.rd (by assumption) ?_ ?_) | (with_reducible refine Below.via (by assumption) ?_) | (with_reducible refine Below.al ?_ _) | (with_reducible refine Below.dn ?_ _) | (with_reducible refine Below.dr ?_) | (with_reducible refine Below.setCell ?_ ?_ _) | (dsimp only; omega) | (simp only [World.size_alloc, World.size_drew]; omega) | (simp; done) | omega)
theorem drawLabelJoin_any (a : Option Addr) (len cap : Nat) (w : World) (h : Bytes w a len cap) : Calls Try.prog 24 #[.slice a len cap] w (LabTwoS w) := by
  have hb0 := Lib.hid (fun w' (k : Below w.heap.size w w') => h.below k)
  clear h
  obtain ⟨kr, ks⟩ := Bk.init2 (w := w) (vs := #[.int .i64 0, .int .i64 0]) (us := #[.int .i64 0, .int .i64 0]) (t := 25) (s := 25)
  go_enter Try.func24, Try.ntmps24
  go_wp2_with fail
  refine (open_any a len cap _ (hb0.out _ ((below_al _ _).trans ((below_al _ _).mono (by simp))))).mono ?_
  rintro e w1 ⟨rfl, r1, h1⟩
  simp only [World.size_alloc] at r1
  have z1 := h1.size
  simp only [World.size_alloc] at z1
  have zb := r1.lt
  go_wp2_with fail
  refine (l20Label_any _ 9 _ _ r1 (by omega) (by omega) (by omega)).mono ?_
  rintro e w2 ⟨l, x, rfl, r2⟩
  have zc := r2.size
  replace kr := (kr.below h1).rdn r2 (by omega)
  replace ks := (ks.below h1).rdn r2 (by omega)
  go_wp2_with fail
  have k5 := Bk.new (w := w2) (vs := #[.int .i64 l, .int .i64 x]) (t := 25)
  go_region_held3 (fun w' => ∀ o, w'.cell? ⟨w2.heap.size, o, none⟩ = (#[.int .i64 l, .int .i64 x] : Array Value)[o]?)
    ((refine Bk.cell (t := 25) ?_; (repeat' first | (with_reducible assumption) | (with_reducible refine Bk.drew ?_) | (with_reducible refine Bk.dn ?_ _) | (with_reducible refine Bk.below ?_ (by assumption)) | (with_reducible refine Bk.rdn ?_ (by assumption) ?_) | (with_reducible refine Bk.alloc ?_ _) | (with_reducible refine Bk.far ?_ _ ?_ _) | (dsimp only; omega) | omega)))
    (first | (go_at_call 30; refine (l20Label_any _ 9 _ _ ((r2.rd.below (below_al _ _)).drew) (by omega) (by omega) (by omega)).mono ?_; rintro e w3 ⟨m, y, rfl, r3⟩; replace k5 := (k5.drew).rdn r3 (by omega); replace kr := ((kr.alloc _).drew).rdn r3 (by omega); replace ks := ((ks.alloc _).drew).rdn r3 (by omega); have xr := kr.cell; have fr := kr.free; have xs := ks.cell; have fs := ks.free))
  all_goals
    go_wp2_with fail
    (try simp only [Exit.inBlock, Exit.then]); refine bodyPost_ret (by simp [results, Try.results24, go_sem, xr, xs]; try rfl) rfl ?_
    refine ⟨_, _, _, _, rfl, ?_⟩
    clear xr fr kr xs fs ks k5
    (repeat' first | (with_reducible exact Below.refl _ _) | (with_reducible refine Below.rd (by assumption) ?_ ?_) | (with_reducible refine Below.via (by assumption) ?_) | (with_reducible refine Below.al ?_ _) | (with_reducible refine Below.dn ?_ _) | (with_reducible refine Below.dr ?_) | (with_reducible refine Below.setCell ?_ ?_ _) | (dsimp only; omega) | (simp only [World.size_alloc, World.size_drew]; omega) | (simp; done) | omega)
theorem drawLabelMeet_any (a : Option Addr) (len cap : Nat) (w : World) (h : Bytes w a len cap) : Calls Try.prog 25 #[.slice a len cap] w (LabTwoS w) := by
  have hb0 := Lib.hid (fun w' (k : Below w.heap.size w w') => h.below k)
  clear h
  obtain ⟨kr, ks⟩ := Bk.init2 (w := w) (vs := #[.int .i64 0, .int .i64 0]) (us := #[.int .i64 0, .int .i64 0]) (t := 25) (s := 25)
  go_enter Try.func25, Try.ntmps25
  go_wp2_with fail
  refine (drawLabelJoin_any a len cap _ (hb0.out _ ((below_al _ _).trans ((below_al _ _).mono (by simp))))).mono ?_
  rintro e w1 ⟨l, x, m, y, rfl, h1⟩
  replace kr := kr.below h1
  replace ks := ks.below h1
  have xr := kr.cell; have fr := kr.free; have xs := ks.cell; have fs := ks.free
  have k5 := kr
  go_wp2_with fail
  all_goals
    (try simp only [Exit.inBlock, Exit.then]); refine bodyPost_ret (by simp [results, Try.results25, go_sem, xr, xs]; try rfl) rfl ?_
    refine ⟨_, _, _, _, rfl, ?_⟩
    clear xr fr kr xs fs ks k5
    (repeat' first | (with_reducible exact Below.refl _ _) | (with_reducible refine Below.rd (by assumption) ?_ ?_) | (with_reducible refine Below.via (by assumption) ?_) | (with_reducible refine Below.al ?_ _) | (with_reducible refine Below.dn ?_ _) | (with_reducible refine Below.dr ?_) | (with_reducible refine Below.setCell ?_ ?_ _) | (dsimp only; omega) | (simp only [World.size_alloc, World.size_drew]; omega) | (simp; done) | omega)
theorem drawLabelBelow_any (a : Option Addr) (len cap : Nat) (w : World) (h : Bytes w a len cap) : Calls Try.prog 23 #[.slice a len cap] w (LabTwoS w) := by
  have hb0 := Lib.hid (fun w' (k : Below w.heap.size w w') => h.below k)
  clear h
  obtain ⟨kr, ks⟩ := Bk.init2 (w := w) (vs := #[.int .i64 0, .int .i64 0]) (us := #[.int .i64 0, .int .i64 0]) (t := 25) (s := 25)
  go_enter Try.func23, Try.ntmps23
  go_wp2_with fail
  refine (open_any a len cap _ (hb0.out _ ((below_al _ _).trans ((below_al _ _).mono (by simp))))).mono ?_
  rintro e w1 ⟨rfl, r1, h1⟩
  simp only [World.size_alloc] at r1
  have z1 := h1.size
  simp only [World.size_alloc] at z1
  have zb := r1.lt
  go_wp2_with fail
  refine (l20Label_any _ 9 _ _ r1 (by omega) (by omega) (by omega)).mono ?_
  rintro e w2 ⟨l, x, rfl, r2⟩
  have zc := r2.size
  replace kr := (kr.below h1).rdn r2 (by omega)
  replace ks := (ks.below h1).rdn r2 (by omega)
  go_wp2_with fail
  refine (l20Label_any _ 9 _ _ (r2.rd.below (below_al _ _)) (by omega) (by omega) (by omega)).mono ?_
  rintro e w3 ⟨m, y, rfl, r3⟩
  have zd := r3.size
  simp only [World.size_alloc] at zd
  have k5 := (Bk.new (w := w2) (vs := #[.int .i64 l, .int .i64 x]) (t := 25)).rdn r3 (by omega)
  replace kr := (kr.alloc _).rdn r3 (by omega)
  replace ks := (ks.alloc _).rdn r3 (by omega)
  go_wp2_with fail
  refine (pick_any _ 2 _ _ (r3.rd.below (below_al _ _)) (by omega) (by omega)).mono ?_
  rintro e w4 ⟨z, rfl, zlo, zhi, r4⟩
  have ze := r4.size
  simp only [World.size_alloc] at ze
  have k6 := (Bk.new (w := w3) (vs := #[.int .i64 m, .int .i64 y]) (t := 25)).rdn r4 (by omega)
  replace k5 := (k5.alloc _).rdn r4 (by omega)
  replace kr := (kr.alloc _).rdn r4 (by omega)
  replace ks := (ks.alloc _).rdn r4 (by omega)
  have xr := kr.cell; have fr := kr.free; have xs := ks.cell; have fs := ks.free
  have x5 := k5.cell; have x6 := k6.cell
  by_cases hz : z = 0
  · subst hz
    go_wp2_with fail
    go_region_held3 (fun w' => (∀ o, w'.cell? ⟨w2.heap.size, o, none⟩ = (#[.int .i64 l, .int .i64 x] : Array Value)[o]?) ∧ (∀ o, w'.cell? ⟨w3.heap.size, o, none⟩ = (#[.int .i64 m, .int .i64 y] : Array Value)[o]?))
      ((refine ⟨Bk.cell (t := 25) ?_, Bk.cell (t := 25) ?_⟩ <;> (repeat' first | (with_reducible assumption) | (with_reducible refine Bk.drew ?_) | (with_reducible refine Bk.dn ?_ _) | (with_reducible refine Bk.below ?_ (by assumption)) | (with_reducible refine Bk.rdn ?_ (by assumption) ?_) | (with_reducible refine Bk.alloc ?_ _) | (with_reducible refine Bk.far ?_ _ ?_ _) | (dsimp only; omega) | omega)))
      (first | (go_at_call 19; refine (specJoin_any _ _ _ _ _).mono ?_; rintro e w5 ⟨rfl, h5⟩; have zf := h5.size; replace k5 := k5.drew.below h5; replace k6 := k6.drew.below h5; replace kr := kr.drew.below h5; replace ks := ks.drew.below h5; clear xr fr xs fs; have xr := kr.cell; have fr := kr.free; have xs := ks.cell; have fs := ks.free))
    all_goals
      go_wp2_with fail
      (try simp only [Exit.inBlock, Exit.then]); refine bodyPost_ret (by simp [results, Try.results23, go_sem, xr, xs]; try rfl) rfl ?_
      refine ⟨_, _, _, _, rfl, ?_⟩
      clear xr fr kr xs fs ks k5 x5 x6 k6
      (repeat' first | (with_reducible exact Below.refl _ _) | (with_reducible refine Below.rd (by assumption) ?_ ?_) | (with_reducible refine Below.via (by assumption) ?_) | (with_reducible refine Below.al ?_ _) | (with_reducible refine Below.dn ?_ _) | (with_reducible refine Below.dr ?_) | (with_reducible refine Below.setCell ?_ ?_ _) | (dsimp only; omega) | (simp only [World.size_alloc, World.size_drew]; omega) | (simp; done) | omega)
  · have hz' : (z == 0) = false := by simpa using hz
    go_wp2_with fail
    go_region_held3 (fun w' => (∀ o, w'.cell? ⟨w2.heap.size, o, none⟩ = (#[.int .i64 l, .int .i64 x] : Array Value)[o]?) ∧ (∀ o, w'.cell? ⟨w3.heap.size, o, none⟩ = (#[.int .i64 m, .int .i64 y] : Array Value)[o]?))
      ((refine ⟨Bk.cell (t := 25) ?_, Bk.cell (t := 25) ?_⟩ <;> (repeat' first | (with_reducible assumption) | (with_reducible refine Bk.drew ?_) | (with_reducible refine Bk.dn ?_ _) | (with_reducible refine Bk.below ?_ (by assumption)) | (with_reducible refine Bk.rdn ?_ (by assumption) ?_) | (with_reducible refine Bk.alloc ?_ _) | (with_reducible refine Bk.far ?_ _ ?_ _) | (dsimp only; omega) | omega)))
      (fail)
    all_goals
      go_wp2_with fail
      (try simp only [Exit.inBlock, Exit.then]); refine bodyPost_ret (by simp [results, Try.results23, go_sem, xr, xs]; try rfl) rfl ?_
      refine ⟨_, _, _, _, rfl, ?_⟩
      clear xr fr kr xs fs ks k5 x5 x6 k6
      (repeat' first | (with_reducible exact Below.refl _ _) | (with_reducible refine Below.rd (by assumption) ?_ ?_) | (with_reducible refine Below.via (by assumption) ?_) | (with_reducible refine Below.al ?_ _) | (with_reducible refine Below.dn ?_ _) | (with_reducible refine Below.dr ?_) | (with_reducible refine Below.setCell ?_ ?_ _) | (dsimp only; omega) | (simp only [World.size_alloc, World.size_drew]; omega) | (simp; done) | omega)
end Go.Proofs.Ytmjjeiadoajkmaa
