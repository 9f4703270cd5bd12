/-
  The exact law on made tickets, walked: true for every input. No condition.
-/
import Derived.Test.YtnkfhfhioknjeaaKe
set_option linter.unusedSimpArgs false
set_option linter.unusedVariables false
namespace Go.Proofs.Ytnkfhfhioknjeaa
open Go.RowKit
def NewT2 (t : Tk) (ok : Bool) (w : World) (e : Ending) (w' : World) : Prop :=
  ∃ v, e = .returned (.tuple #[.agg #[.int .i64 t.who, v, .int .i64 t.til, .int .i64 t.sl], .bool ok]) ∧ w'.ownsRow w.heap.size 3 1 v t.acts.length (cellsI t.acts) ∧ Below w.heap.size w w'
theorem NewT.two {r : Tk × Bool} {t : Tk} {ok : Bool} (h : r = (t, ok)) {w : World} {e : Ending} {w' : World} (k : NewT r w e w') : NewT2 t ok w e w' := by subst h; exact k
theorem makeT_len (key who act til : Int) : (makeT key who act til).1.acts.length ≤ 1 := by unfold makeT; split <;> simp [tk0]
set_option maxRecDepth 100000 in
set_option maxHeartbeats 6400000 in
theorem exactMakeTicket_walk (key who act til : Int) (w : World) : Calls Try.prog 5 #[.int .i64 key, .int .i64 who, .int .i64 act, .int .i64 til] w fun e w' => e = .returned (.bool true) ∧ Below w.heap.size w w' := by
  obtain ⟨t, ok, hr⟩ : ∃ t ok, makeT key who act til = (t, ok) := ⟨_, _, rfl⟩
  have hlen : t.acts.length ≤ 1 := by have := makeT_len key who act til; rw [hr] at this; exact this
  have HS := fun wx => (specMake_any key who act til wx).mono (fun e w' k => k.two hr)
  have HI := fun wx => (implMake_any key who act til wx).mono (fun e w' k => k.two hr)
  clear hr
  have hrr := eqTk_refl t
  have hne : ∀ z : Int, (z != z) = false := fun z => by simp
  have hnb : ∀ z : Bool, (z != z) = false := fun z => by simp
  have hm0 : decide ((1 : Int) + (t.acts.length : Int) < 0) = false := by simp; omega
  go_enter Try.func5, Try.ntmps5
  go_wp2_with fail
  refine (HS _).mono ?_
  rintro e w1 ⟨u1, rfl, o1, b1⟩
  obtain ⟨a1, c1, rfl, _, _⟩ := SlF.shape (own_sl o1)
  have B1 : Below w.heap.size w w1 := Below.via b1 (Below.refl _ _)
  have z1 := b1.size
  try simp only [World.size_alloc] at z1
  have ps := Lib.hid (show ∀ j, Value.ownBlock (.slice a1 t.acts.length c1) = some j → w.heap.size ≤ j ∧ j < w1.heap.size from fun j hj => o1.lt j hj)
  have Os2 := Lib.hid o1
  clear o1
  have hA3 : Below w1.heap.size w1 (w1.alloc (.cells #[.int .i64 t.who, .slice a1 t.acts.length c1, .int .i64 t.til, .int .i64 t.sl] 27)) := Below.al (Below.refl _ _) _
  have B4 : Below w.heap.size w (w1.alloc (.cells #[.int .i64 t.who, .slice a1 t.acts.length c1, .int .i64 t.til, .int .i64 t.sl] 27)) := Below.via hA3 B1
  have z4 := hA3.size
  try simp only [World.size_alloc] at z4
  have Os5 := Lib.hid (own_below Os2.out hA3)
  clear Os2
  clear hA3
  have Ks0 := Bk.new (w := w1) (vs := #[.int .i64 t.who, .slice a1 t.acts.length c1, .int .i64 t.til, .int .i64 t.sl]) (t := 27)
  have xs := Ks0.cell
  have ys := Ks0.lt
  simp only [World.size_alloc] at ys
  go_wp2_with fail
  refine (HI _).mono ?_
  rintro e w2 ⟨u2, rfl, o2, b2⟩
  obtain ⟨a2, c2, rfl, _, _⟩ := SlF.shape (own_sl o2)
  have B6 : Below w.heap.size w w2 := Below.via b2 B4
  have z6 := b2.size
  try simp only [World.size_alloc] at z6
  have Ks7 := Ks0.below b2
  clear xs
  clear Ks0
  have xs := Ks7.cell
  have Os8 := Lib.hid (own_below Os5.out b2)
  clear Os5
  have pg := Lib.hid (show ∀ j, Value.ownBlock (.slice a2 t.acts.length c2) = some j → (w1.alloc (.cells #[.int .i64 t.who, .slice a1 t.acts.length c1, .int .i64 t.til, .int .i64 t.sl] 27)).heap.size ≤ j ∧ j < w2.heap.size from fun j hj => o2.lt j hj)
  have Og9 := Lib.hid o2
  clear o2
  have hA10 : Below w2.heap.size w2 (w2.alloc (.cells #[.int .i64 t.who, .slice a2 t.acts.length c2, .int .i64 t.til, .int .i64 t.sl] 27)) := Below.al (Below.refl _ _) _
  have B11 : Below w.heap.size w (w2.alloc (.cells #[.int .i64 t.who, .slice a2 t.acts.length c2, .int .i64 t.til, .int .i64 t.sl] 27)) := Below.via hA10 B6
  have z11 := hA10.size
  try simp only [World.size_alloc] at z11
  have Ks12 := Ks7.below hA10
  clear xs
  clear Ks7
  have xs := Ks12.cell
  have Os13 := Lib.hid (own_below Os8.out hA10)
  clear Os8
  have Og14 := Lib.hid (own_below Og9.out hA10)
  clear Og9
  clear hA10
  have Kg0 := Bk.new (w := w2) (vs := #[.int .i64 t.who, .slice a2 t.acts.length c2, .int .i64 t.til, .int .i64 t.sl]) (t := 27)
  have xg := Kg0.cell
  have yg := Kg0.lt
  simp only [World.size_alloc] at yg
  go_wp2_with fail
  refine (eqTk_any t t _ _ _ (own_sl Og14.out) (own_sl Os13.out)).mono ?_
  rintro e w3 ⟨rfl, b3⟩
  rw [hrr]
  have B15 : Below w.heap.size w w3 := Below.via b3 B11
  have z15 := b3.size
  try simp only [World.size_alloc] at z15
  have Ks16 := Ks12.below b3
  clear xs
  clear Ks12
  have xs := Ks16.cell
  have Kg17 := Kg0.below b3
  clear xg
  clear Kg0
  have xg := Kg17.cell
  have Os18 := Lib.hid (own_below Os13.out b3)
  clear Os13
  have Og19 := Lib.hid (own_below Og14.out b3)
  clear Og14
  go_wp2_with fail
  refine (markTk_any t _ _ 1 _ Og19.out (by omega) (by omega) (by omega)).mono ?_
  rintro e w4 ⟨rfl, o4, g4⟩
  have B20 : Below w.heap.size w w4 := Below.grown B15 g4 (by have hz := B15.size; (try simp only [World.size_alloc] at hz ⊢); omega) (fun j hj => by have q := pg.out j hj; (try simp only [World.size_alloc] at q); omega)
  have z20 := g4.size
  try simp only [World.size_alloc] at z20
  have Ks21 := Bk.by Ks16 g4 (fun e => by have q := pg.out _ e.symm; (try simp only [World.size_alloc] at q); omega)
  clear xs
  clear Ks16
  have xs := Ks21.cell
  have Kg22 := Bk.by Kg17 g4 (fun e => by have q := pg.out _ e.symm; (try simp only [World.size_alloc] at q); omega)
  clear xg
  clear Kg17
  have xg := Kg22.cell
  have Os23 := Lib.hid (own_gby Os18.out g4 (fun j h1 h2 => by have q1 := ps.out j h1; have q2 := pg.out j h2; (try simp only [World.size_alloc] at q1 q2); omega))
  clear Os18
  have Og24 := Lib.hid o4
  clear o4 Og19
  go_wp2_with fail
  refine (heldTk_any t t.acts.length _ 1 _ (slI_up (own_sl Og24.out)) (by omega) (by omega) (by omega) (by omega)).mono ?_
  rintro e w5 ⟨rfl, b5⟩
  have B25 : Below w.heap.size w w5 := Below.via b5 B20
  have z25 := b5.size
  try simp only [World.size_alloc] at z25
  have Ks26 := Ks21.below b5
  clear xs
  clear Ks21
  have xs := Ks26.cell
  have Kg27 := Kg22.below b5
  clear xg
  clear Kg22
  have xg := Kg27.cell
  have Os28 := Lib.hid (own_below Os23.out b5)
  clear Os23
  have Og29 := Lib.hid (own_below Og24.out b5)
  clear Og24
  go_wp2_with fail
  refine (HI _).mono ?_
  rintro e w6 ⟨u6, rfl, o6, b6⟩
  obtain ⟨a6, c6, rfl, _, _⟩ := SlF.shape (own_sl o6)
  have B30 : Below w.heap.size w w6 := Below.via b6 B25
  have z30 := b6.size
  try simp only [World.size_alloc] at z30
  have Ks31 := Ks26.below b6
  clear xs
  clear Ks26
  have xs := Ks31.cell
  have Kg32 := Kg27.below b6
  clear xg
  clear Kg27
  have xg := Kg32.cell
  have Os33 := Lib.hid (own_below Os28.out b6)
  clear Os28
  have Og34 := Lib.hid (own_below Og29.out b6)
  clear Og29
  have ph := Lib.hid (show ∀ j, Value.ownBlock (.slice a6 t.acts.length c6) = some j → w5.heap.size ≤ j ∧ j < w6.heap.size from fun j hj => o6.lt j hj)
  have Oh35 := Lib.hid o6
  clear o6
  have hA36 : Below w6.heap.size w6 (w6.alloc (.cells #[.int .i64 t.who, .slice a6 t.acts.length c6, .int .i64 t.til, .int .i64 t.sl] 27)) := Below.al (Below.refl _ _) _
  have B37 : Below w.heap.size w (w6.alloc (.cells #[.int .i64 t.who, .slice a6 t.acts.length c6, .int .i64 t.til, .int .i64 t.sl] 27)) := Below.via hA36 B30
  have z37 := hA36.size
  try simp only [World.size_alloc] at z37
  have Ks38 := Ks31.below hA36
  clear xs
  clear Ks31
  have xs := Ks38.cell
  have Kg39 := Kg32.below hA36
  clear xg
  clear Kg32
  have xg := Kg39.cell
  have Os40 := Lib.hid (own_below Os33.out hA36)
  clear Os33
  have Og41 := Lib.hid (own_below Og34.out hA36)
  clear Og34
  have Oh42 := Lib.hid (own_below Oh35.out hA36)
  clear Oh35
  clear hA36
  have Kh0 := Bk.new (w := w6) (vs := #[.int .i64 t.who, .slice a6 t.acts.length c6, .int .i64 t.til, .int .i64 t.sl]) (t := 27)
  have xh := Kh0.cell
  have yh := Kh0.lt
  simp only [World.size_alloc] at yh
  go_wp2_with fail
  refine (eqTk_any t t _ _ _ (own_sl Oh42.out) (own_sl Os40.out)).mono ?_
  rintro e w7 ⟨rfl, b7⟩
  rw [hrr]
  have B43 : Below w.heap.size w w7 := Below.via b7 B37
  have z43 := b7.size
  try simp only [World.size_alloc] at z43
  have Ks44 := Ks38.below b7
  clear xs
  clear Ks38
  have xs := Ks44.cell
  have Kg45 := Kg39.below b7
  clear xg
  clear Kg39
  have xg := Kg45.cell
  have Kh46 := Kh0.below b7
  clear xh
  clear Kh0
  have xh := Kh46.cell
  have Os47 := Lib.hid (own_below Os40.out b7)
  clear Os40
  have Og48 := Lib.hid (own_below Og41.out b7)
  clear Og41
  have Oh49 := Lib.hid (own_below Oh42.out b7)
  clear Oh42
  go_wp2_with fail
  refine (heldTk_any t t.acts.length _ 1 _ (slI_up (own_sl Og48.out)) (by omega) (by omega) (by omega) (by omega)).mono ?_
  rintro e w8 ⟨rfl, b8⟩
  have B50 : Below w.heap.size w w8 := Below.via b8 B43
  have z50 := b8.size
  try simp only [World.size_alloc] at z50
  have Ks51 := Ks44.below b8
  clear xs
  clear Ks44
  have xs := Ks51.cell
  have Kg52 := Kg45.below b8
  clear xg
  clear Kg45
  have xg := Kg52.cell
  have Kh53 := Kh46.below b8
  clear xh
  clear Kh46
  have xh := Kh53.cell
  have Os54 := Lib.hid (own_below Os47.out b8)
  clear Os47
  have Og55 := Lib.hid (own_below Og48.out b8)
  clear Og48
  have Oh56 := Lib.hid (own_below Oh49.out b8)
  clear Oh49
  go_wp2_with fail
  go_ret
  exact ⟨rfl, B50⟩
end Go.Proofs.Ytnkfhfhioknjeaa
