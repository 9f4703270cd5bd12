/-
  The exact law on narrowed tickets, walked: true for every input. Condition: the row of acts can be read.
-/
import Derived.Test.YtnkfhfhioknjeaaKy
import Derived.Test.YtnkfhfhioknjeaaKn
set_option linter.unusedSimpArgs false
set_option linter.unusedVariables false
namespace Go.Proofs.Ytnkfhfhioknjeaa
open Go.RowKit
theorem narrowT_len (t : Tk) (act : Int) : (narrowT t act).1.acts.length ≤ 5 := by
  unfold narrowT
  split
  · rename_i h
    simp only [Bool.and_eq_true, inR_iff] at h
    simp only [List.length_append, List.length_cons, List.length_nil]
    omega
  · simp [tk0]
set_option maxRecDepth 100000 in
set_option maxHeartbeats 6400000 in
theorem exactNarrowTicket_walk (t : Tk) (v : Value) (act : Int) (w : World) (h : SlI w v t.acts) : Calls Try.prog 7 #[.agg #[.int .i64 t.who, v, .int .i64 t.til, .int .i64 t.sl], .int .i64 act] w fun e w' => e = .returned (.bool true) ∧ Below w.heap.size w w' := by
  obtain ⟨a, cap, rfl, h1, h2⟩ := SlF.shape h
  unfold maxLen at h2
  obtain ⟨n, ok, hr⟩ : ∃ n ok, narrowT t act = (n, ok) := ⟨_, _, rfl⟩
  have hlen : n.acts.length ≤ 5 := by have := narrowT_len t act; rw [hr] at this; exact this
  have HS := fun v wx h => (specNarrow_any t act v wx h).mono (fun e w' k => k.two hr)
  have HI := fun v wx h => (implNarrow_any t act v wx h).mono (fun e w' k => k.two hr)
  clear hr
  have hrr := eqTk_refl t
  have hrn := eqTk_refl n
  have hne : ∀ z : Int, (z != z) = false := fun z => by simp
  have hnb : ∀ z : Bool, (z != z) = false := fun z => by simp
  have H := Lib.hid h
  clear h
  by_cases hl : (1048576 : Int) < t.acts.length
  · have HZ := fun wx h => szTk_any t 1048576 (.slice a t.acts.length cap) wx h (by omega) (by omega)
    rw [if_pos hl] at HZ
    have hA1 : Below w.heap.size w (w.alloc (.cells #[.int .i64 t.who, .slice a t.acts.length cap, .int .i64 t.til, .int .i64 t.sl] 24)) := Below.al (Below.refl _ _) _
    have B2 : Below w.heap.size w (w.alloc (.cells #[.int .i64 t.who, .slice a t.acts.length cap, .int .i64 t.til, .int .i64 t.sl] 24)) := Below.via hA1 (Below.refl _ _)
    have z2 := hA1.size
    try simp only [World.size_alloc] at z2
    clear hA1
    have Ka0 := Bk.new (w := w) (vs := #[.int .i64 t.who, .slice a t.acts.length cap, .int .i64 t.til, .int .i64 t.sl]) (t := 24)
    have xa := Ka0.cell
    have ya := Ka0.lt
    simp only [World.size_alloc] at ya
    go_enter Try.func7, Try.ntmps7
    go_wp2_with fail
    refine (HZ _ (SlF.below H.out B2)).mono ?_
    rintro e w1 ⟨rfl, b1⟩
    have B3 : Below w.heap.size w w1 := Below.via b1 B2
    have z3 := b1.size
    try simp only [World.size_alloc] at z3
    have Ka4 := Ka0.below b1
    clear xa
    clear Ka0
    have xa := Ka4.cell
    go_wp2_with fail
    go_ret
    exact ⟨rfl, B3⟩
  · have HZ := fun wx h => szTk_any t 1048576 (.slice a t.acts.length cap) wx h (by omega) (by omega)
    rw [if_neg hl] at HZ
    have hlt : t.acts.length ≤ 4194304 := by omega
    have hn0 : decide (1048576 - (t.acts.length : Int) < 0) = false := by simp; omega
    have hn1 : decide ((1 : Int) + (t.acts.length : Int) < 0) = false := by simp; omega
    have hn2 : decide ((1 : Int) + (n.acts.length : Int) < 0) = false := by simp; omega
    have hA1 : Below w.heap.size w (w.alloc (.cells #[.int .i64 t.who, .slice a t.acts.length cap, .int .i64 t.til, .int .i64 t.sl] 24)) := Below.al (Below.refl _ _) _
    have B2 : Below w.heap.size w (w.alloc (.cells #[.int .i64 t.who, .slice a t.acts.length cap, .int .i64 t.til, .int .i64 t.sl] 24)) := Below.via hA1 (Below.refl _ _)
    have z2 := hA1.size
    try simp only [World.size_alloc] at z2
    clear hA1
    have Ka0 := Bk.new (w := w) (vs := #[.int .i64 t.who, .slice a t.acts.length cap, .int .i64 t.til, .int .i64 t.sl]) (t := 24)
    have xa := Ka0.cell
    have ya := Ka0.lt
    simp only [World.size_alloc] at ya
    go_enter Try.func7, Try.ntmps7
    go_wp2_with fail
    refine (HZ _ (SlF.below H.out B2)).mono ?_
    rintro e w1 ⟨rfl, b1⟩
    have B3 : Below w.heap.size w w1 := Below.via b1 B2
    have z3 := b1.size
    try simp only [World.size_alloc] at z3
    have Ka4 := Ka0.below b1
    clear xa
    clear Ka0
    have xa := Ka4.cell
    go_wp2_with fail
    refine (toTk_any t _ _ (SlF.below H.out B3) hlt).mono ?_
    rintro e w2 ⟨u2, rfl, o2, b2⟩
    obtain ⟨a2, c2, rfl, _, _⟩ := SlF.shape (own_sl o2)
    have B5 : Below w.heap.size w w2 := Below.via b2 B3
    have z5 := b2.size
    try simp only [World.size_alloc] at z5
    have Ka6 := Ka4.below b2
    clear xa
    clear Ka4
    have xa := Ka6.cell
    have px := Lib.hid (show ∀ j, Value.ownBlock (.slice a2 t.acts.length c2) = some j → w1.heap.size ≤ j ∧ j < w2.heap.size from fun j hj => o2.lt j hj)
    have Ox7 := Lib.hid o2
    clear o2
    go_wp2_with fail
    refine (HS _ _ (own_sl Ox7.out)).mono ?_
    rintro e w3 ⟨u3, rfl, o3, b3⟩
    obtain ⟨a3, c3, rfl, _, _⟩ := SlF.shape (own_sl o3)
    have B8 : Below w.heap.size w w3 := Below.via b3 B5
    have z8 := b3.size
    try simp only [World.size_alloc] at z8
    have Ka9 := Ka6.below b3
    clear xa
    clear Ka6
    have xa := Ka9.cell
    have Ox10 := Lib.hid (own_below Ox7.out b3)
    clear Ox7
    have ps := Lib.hid (show ∀ j, Value.ownBlock (.slice a3 n.acts.length c3) = some j → w2.heap.size ≤ j ∧ j < w3.heap.size from fun j hj => o3.lt j hj)
    have Os11 := Lib.hid o3
    clear o3
    have hA12 : Below w3.heap.size w3 (w3.alloc (.cells #[.int .i64 n.who, .slice a3 n.acts.length c3, .int .i64 n.til, .int .i64 n.sl] 27)) := Below.al (Below.refl _ _) _
    have B13 : Below w.heap.size w (w3.alloc (.cells #[.int .i64 n.who, .slice a3 n.acts.length c3, .int .i64 n.til, .int .i64 n.sl] 27)) := Below.via hA12 B8
    have z13 := hA12.size
    try simp only [World.size_alloc] at z13
    have Ka14 := Ka9.below hA12
    clear xa
    clear Ka9
    have xa := Ka14.cell
    have Ox15 := Lib.hid (own_below Ox10.out hA12)
    clear Ox10
    have Os16 := Lib.hid (own_below Os11.out hA12)
    clear Os11
    clear hA12
    have Ks0 := Bk.new (w := w3) (vs := #[.int .i64 n.who, .slice a3 n.acts.length c3, .int .i64 n.til, .int .i64 n.sl]) (t := 27)
    have xs := Ks0.cell
    have ys := Ks0.lt
    simp only [World.size_alloc] at ys
    go_wp2_with fail
    refine (toTk_any t _ _ (SlF.below H.out B13) hlt).mono ?_
    rintro e w4 ⟨u4, rfl, o4, b4⟩
    obtain ⟨a4, c4, rfl, _, _⟩ := SlF.shape (own_sl o4)
    have B17 : Below w.heap.size w w4 := Below.via b4 B13
    have z17 := b4.size
    try simp only [World.size_alloc] at z17
    have Ka18 := Ka14.below b4
    clear xa
    clear Ka14
    have xa := Ka18.cell
    have Ks19 := Ks0.below b4
    clear xs
    clear Ks0
    have xs := Ks19.cell
    have Ox20 := Lib.hid (own_below Ox15.out b4)
    clear Ox15
    have Os21 := Lib.hid (own_below Os16.out b4)
    clear Os16
    have py := Lib.hid (show ∀ j, Value.ownBlock (.slice a4 t.acts.length c4) = some j → (w3.alloc (.cells #[.int .i64 n.who, .slice a3 n.acts.length c3, .int .i64 n.til, .int .i64 n.sl] 27)).heap.size ≤ j ∧ j < w4.heap.size from fun j hj => o4.lt j hj)
    have Oy22 := Lib.hid o4
    clear o4
    have hA23 : Below w4.heap.size w4 (w4.alloc (.cells #[.int .i64 t.who, .slice a4 t.acts.length c4, .int .i64 t.til, .int .i64 t.sl] 27)) := Below.al (Below.refl _ _) _
    have B24 : Below w.heap.size w (w4.alloc (.cells #[.int .i64 t.who, .slice a4 t.acts.length c4, .int .i64 t.til, .int .i64 t.sl] 27)) := Below.via hA23 B17
    have z24 := hA23.size
    try simp only [World.size_alloc] at z24
    have Ka25 := Ka18.below hA23
    clear xa
    clear Ka18
    have xa := Ka25.cell
    have Ks26 := Ks19.below hA23
    clear xs
    clear Ks19
    have xs := Ks26.cell
    have Ox27 := Lib.hid (own_below Ox20.out hA23)
    clear Ox20
    have Os28 := Lib.hid (own_below Os21.out hA23)
    clear Os21
    have Oy29 := Lib.hid (own_below Oy22.out hA23)
    clear Oy22
    clear hA23
    have Ky0 := Bk.new (w := w4) (vs := #[.int .i64 t.who, .slice a4 t.acts.length c4, .int .i64 t.til, .int .i64 t.sl]) (t := 27)
    have xy := Ky0.cell
    have yy := Ky0.lt
    simp only [World.size_alloc] at yy
    go_wp2_with fail
    refine (HI _ _ (own_sl Oy29.out)).mono ?_
    rintro e w5 ⟨u5, rfl, o5, b5⟩
    obtain ⟨a5, c5, rfl, _, _⟩ := SlF.shape (own_sl o5)
    have B30 : Below w.heap.size w w5 := Below.via b5 B24
    have z30 := b5.size
    try simp only [World.size_alloc] at z30
    have Ka31 := Ka25.below b5
    clear xa
    clear Ka25
    have xa := Ka31.cell
    have Ks32 := Ks26.below b5
    clear xs
    clear Ks26
    have xs := Ks32.cell
    have Ky33 := Ky0.below b5
    clear xy
    clear Ky0
    have xy := Ky33.cell
    have Ox34 := Lib.hid (own_below Ox27.out b5)
    clear Ox27
    have Os35 := Lib.hid (own_below Os28.out b5)
    clear Os28
    have Oy36 := Lib.hid (own_below Oy29.out b5)
    clear Oy29
    have pg := Lib.hid (show ∀ j, Value.ownBlock (.slice a5 n.acts.length c5) = some j → (w4.alloc (.cells #[.int .i64 t.who, .slice a4 t.acts.length c4, .int .i64 t.til, .int .i64 t.sl] 27)).heap.size ≤ j ∧ j < w5.heap.size from fun j hj => o5.lt j hj)
    have Og37 := Lib.hid o5
    clear o5
    have hA38 : Below w5.heap.size w5 (w5.alloc (.cells #[.int .i64 n.who, .slice a5 n.acts.length c5, .int .i64 n.til, .int .i64 n.sl] 27)) := Below.al (Below.refl _ _) _
    have B39 : Below w.heap.size w (w5.alloc (.cells #[.int .i64 n.who, .slice a5 n.acts.length c5, .int .i64 n.til, .int .i64 n.sl] 27)) := Below.via hA38 B30
    have z39 := hA38.size
    try simp only [World.size_alloc] at z39
    have Ka40 := Ka31.below hA38
    clear xa
    clear Ka31
    have xa := Ka40.cell
    have Ks41 := Ks32.below hA38
    clear xs
    clear Ks32
    have xs := Ks41.cell
    have Ky42 := Ky33.below hA38
    clear xy
    clear Ky33
    have xy := Ky42.cell
    have Ox43 := Lib.hid (own_below Ox34.out hA38)
    clear Ox34
    have Os44 := Lib.hid (own_below Os35.out hA38)
    clear Os35
    have Oy45 := Lib.hid (own_below Oy36.out hA38)
    clear Oy36
    have Og46 := Lib.hid (own_below Og37.out hA38)
    clear Og37
    clear hA38
    have Kg0 := Bk.new (w := w5) (vs := #[.int .i64 n.who, .slice a5 n.acts.length c5, .int .i64 n.til, .int .i64 n.sl]) (t := 27)
    have xg := Kg0.cell
    have yg := Kg0.lt
    simp only [World.size_alloc] at yg
    go_wp2_with fail
    refine (eqTk_any n n _ _ _ (own_sl Og46.out) (own_sl Os44.out)).mono ?_
    rintro e w6 ⟨rfl, b6⟩
    rw [hrn]
    have B47 : Below w.heap.size w w6 := Below.via b6 B39
    have z47 := b6.size
    try simp only [World.size_alloc] at z47
    have Ka48 := Ka40.below b6
    clear xa
    clear Ka40
    have xa := Ka48.cell
    have Ks49 := Ks41.below b6
    clear xs
    clear Ks41
    have xs := Ks49.cell
    have Ky50 := Ky42.below b6
    clear xy
    clear Ky42
    have xy := Ky50.cell
    have Kg51 := Kg0.below b6
    clear xg
    clear Kg0
    have xg := Kg51.cell
    have Ox52 := Lib.hid (own_below Ox43.out b6)
    clear Ox43
    have Os53 := Lib.hid (own_below Os44.out b6)
    clear Os44
    have Oy54 := Lib.hid (own_below Oy45.out b6)
    clear Oy45
    have Og55 := Lib.hid (own_below Og46.out b6)
    clear Og46
    have HW := Lib.hid (SlF.below H.out B47)
    have UW := Lib.hid (own_sl Oy54.out)
    go_wp2_with fail
    go_region_held3 (fun w' => (∀ o, w'.cell? ⟨w.heap.size, o, none⟩ = (#[.int .i64 t.who, .slice a t.acts.length cap, .int .i64 t.til, .int .i64 t.sl] : Array Value)[o]?) ∧ (∀ o, w'.cell? ⟨w4.heap.size, o, none⟩ = (#[.int .i64 t.who, .slice a4 t.acts.length c4, .int .i64 t.til, .int .i64 t.sl] : Array Value)[o]?) ∧ Below w6.heap.size w6 w') (exact keep2 Ka48 Ky50 (by (repeat' first | (with_reducible exact Below.refl _ _) | (with_reducible refine Below.rd (by assumption) ?_ ?_) | (with_reducible refine Below.via (by assumption) ?_) | (with_reducible refine Below.al ?_ _) | (with_reducible refine Below.dn ?_ _) | (with_reducible refine Below.dr ?_) | (with_reducible refine Below.setCell ?_ ?_ _) | (dsimp only; omega) | (simp only [World.size_alloc, World.size_drew]; omega) | (simp; done) | omega)))
      (first | (go_at_call 13; (with_reducible refine (toTk_any t _ _ ?_ hlt).mono ?_); (refine SlF.below HW.out ?_; (repeat' first | (with_reducible exact Below.refl _ _) | (with_reducible refine Below.rd (by assumption) ?_ ?_) | (with_reducible refine Below.via (by assumption) ?_) | (with_reducible refine Below.al ?_ _) | (with_reducible refine Below.dn ?_ _) | (with_reducible refine Below.dr ?_) | (with_reducible refine Below.setCell ?_ ?_ _) | (dsimp only; omega) | (simp only [World.size_alloc, World.size_drew]; omega) | (simp; done) | omega)); rintro e w7 ⟨u7, rfl, o7, b7⟩; have hbb7 : Below w6.heap.size w6 w7 := Below.via b7 (by (repeat' first | (with_reducible exact Below.refl _ _) | (with_reducible refine Below.rd (by assumption) ?_ ?_) | (with_reducible refine Below.via (by assumption) ?_) | (with_reducible refine Below.al ?_ _) | (with_reducible refine Below.dn ?_ _) | (with_reducible refine Below.dr ?_) | (with_reducible refine Below.setCell ?_ ?_ _) | (dsimp only; omega) | (simp only [World.size_alloc, World.size_drew]; omega) | (simp; done) | omega))) | (go_at_call 15; (with_reducible refine (eqTk_any t t _ _ _ ?_ ?_).mono ?_); (refine SlF.below UW.out ?_; (repeat' first | (with_reducible exact Below.refl _ _) | (with_reducible refine Below.rd (by assumption) ?_ ?_) | (with_reducible refine Below.via (by assumption) ?_) | (with_reducible refine Below.al ?_ _) | (with_reducible refine Below.dn ?_ _) | (with_reducible refine Below.dr ?_) | (with_reducible refine Below.setCell ?_ ?_ _) | (dsimp only; omega) | (simp only [World.size_alloc, World.size_drew]; omega) | (simp; done) | omega)); (exact own_sl o7); rw [hrr]; rintro e w8 ⟨rfl, b8⟩; have hbb8 : Below w6.heap.size w6 w8 := Below.via b8 (by (repeat' first | (with_reducible exact Below.refl _ _) | (with_reducible refine Below.rd (by assumption) ?_ ?_) | (with_reducible refine Below.via (by assumption) ?_) | (with_reducible refine Below.al ?_ _) | (with_reducible refine Below.dn ?_ _) | (with_reducible refine Below.dr ?_) | (with_reducible refine Below.setCell ?_ ?_ _) | (dsimp only; omega) | (simp only [World.size_alloc, World.size_drew]; omega) | (simp; done) | omega))))
    have B56 : Below w.heap.size w w8 := Below.via hbb8 B47
    have z56 := hbb8.size
    try simp only [World.size_alloc] at z56
    have Ka57 := Ka48.below hbb8
    clear xa
    clear Ka48
    have xa := Ka57.cell
    have Ks58 := Ks49.below hbb8
    clear xs
    clear Ks49
    have xs := Ks58.cell
    have Ky59 := Ky50.below hbb8
    clear xy
    clear Ky50
    have xy := Ky59.cell
    have Kg60 := Kg51.below hbb8
    clear xg
    clear Kg51
    have xg := Kg60.cell
    have Ox61 := Lib.hid (own_below Ox52.out hbb8)
    clear Ox52
    have Os62 := Lib.hid (own_below Os53.out hbb8)
    clear Os53
    have Oy63 := Lib.hid (own_below Oy54.out hbb8)
    clear Oy54
    have Og64 := Lib.hid (own_below Og55.out hbb8)
    clear Og55
    go_wp2_with fail
    refine (markTk_any t _ _ 1 _ Oy63.out (by omega) (by omega) (by omega)).mono ?_
    rintro e w9 ⟨rfl, o9, g9⟩
    have B65 : Below w.heap.size w w9 := Below.grown B56 g9 (by have hz := B56.size; (try simp only [World.size_alloc] at hz ⊢); omega) (fun j hj => by have q := py.out j hj; (try simp only [World.size_alloc] at q); omega)
    have z65 := g9.size
    try simp only [World.size_alloc] at z65
    have Ka66 := Bk.by Ka57 g9 (fun e => by have q := py.out _ e.symm; (try simp only [World.size_alloc] at q); omega)
    clear xa
    clear Ka57
    have xa := Ka66.cell
    have Ks67 := Bk.by Ks58 g9 (fun e => by have q := py.out _ e.symm; (try simp only [World.size_alloc] at q); omega)
    clear xs
    clear Ks58
    have xs := Ks67.cell
    have Ky68 := Bk.by Ky59 g9 (fun e => by have q := py.out _ e.symm; (try simp only [World.size_alloc] at q); omega)
    clear xy
    clear Ky59
    have xy := Ky68.cell
    have Kg69 := Bk.by Kg60 g9 (fun e => by have q := py.out _ e.symm; (try simp only [World.size_alloc] at q); omega)
    clear xg
    clear Kg60
    have xg := Kg69.cell
    have Ox70 := Lib.hid (own_gby Ox61.out g9 (fun j h1 h2 => by have q1 := px.out j h1; have q2 := py.out j h2; (try simp only [World.size_alloc] at q1 q2); omega))
    clear Ox61
    have Os71 := Lib.hid (own_gby Os62.out g9 (fun j h1 h2 => by have q1 := ps.out j h1; have q2 := py.out j h2; (try simp only [World.size_alloc] at q1 q2); omega))
    clear Os62
    have Og72 := Lib.hid (own_gby Og64.out g9 (fun j h1 h2 => by have q1 := pg.out j h1; have q2 := py.out j h2; (try simp only [World.size_alloc] at q1 q2); omega))
    clear Og64
    have Oy73 := Lib.hid o9
    clear o9 Oy63
    go_wp2_with fail
    refine (eqTk_any n n _ _ _ (own_sl Og72.out) (own_sl Os71.out)).mono ?_
    rintro e w10 ⟨rfl, b10⟩
    rw [hrn]
    have B74 : Below w.heap.size w w10 := Below.via b10 B65
    have z74 := b10.size
    try simp only [World.size_alloc] at z74
    have Ka75 := Ka66.below b10
    clear xa
    clear Ka66
    have xa := Ka75.cell
    have Ks76 := Ks67.below b10
    clear xs
    clear Ks67
    have xs := Ks76.cell
    have Ky77 := Ky68.below b10
    clear xy
    clear Ky68
    have xy := Ky77.cell
    have Kg78 := Kg69.below b10
    clear xg
    clear Kg69
    have xg := Kg78.cell
    have Ox79 := Lib.hid (own_below Ox70.out b10)
    clear Ox70
    have Os80 := Lib.hid (own_below Os71.out b10)
    clear Os71
    have Oy81 := Lib.hid (own_below Oy73.out b10)
    clear Oy73
    have Og82 := Lib.hid (own_below Og72.out b10)
    clear Og72
    go_wp2_with fail
    refine (markTk_any n _ _ 1 _ Og82.out (by omega) (by omega) (by omega)).mono ?_
    rintro e w11 ⟨rfl, o11, g11⟩
    have B83 : Below w.heap.size w w11 := Below.grown B74 g11 (by have hz := B74.size; (try simp only [World.size_alloc] at hz ⊢); omega) (fun j hj => by have q := pg.out j hj; (try simp only [World.size_alloc] at q); omega)
    have z83 := g11.size
    try simp only [World.size_alloc] at z83
    have Ka84 := Bk.by Ka75 g11 (fun e => by have q := pg.out _ e.symm; (try simp only [World.size_alloc] at q); omega)
    clear xa
    clear Ka75
    have xa := Ka84.cell
    have Ks85 := Bk.by Ks76 g11 (fun e => by have q := pg.out _ e.symm; (try simp only [World.size_alloc] at q); omega)
    clear xs
    clear Ks76
    have xs := Ks85.cell
    have Ky86 := Bk.by Ky77 g11 (fun e => by have q := pg.out _ e.symm; (try simp only [World.size_alloc] at q); omega)
    clear xy
    clear Ky77
    have xy := Ky86.cell
    have Kg87 := Bk.by Kg78 g11 (fun e => by have q := pg.out _ e.symm; (try simp only [World.size_alloc] at q); omega)
    clear xg
    clear Kg78
    have xg := Kg87.cell
    have Ox88 := Lib.hid (own_gby Ox79.out g11 (fun j h1 h2 => by have q1 := px.out j h1; have q2 := pg.out j h2; (try simp only [World.size_alloc] at q1 q2); omega))
    clear Ox79
    have Os89 := Lib.hid (own_gby Os80.out g11 (fun j h1 h2 => by have q1 := ps.out j h1; have q2 := pg.out j h2; (try simp only [World.size_alloc] at q1 q2); omega))
    clear Os80
    have Oy90 := Lib.hid (own_gby Oy81.out g11 (fun j h1 h2 => by have q1 := py.out j h1; have q2 := pg.out j h2; (try simp only [World.size_alloc] at q1 q2); omega))
    clear Oy81
    have Og91 := Lib.hid o11
    clear o11 Og82
    go_wp2_with fail
    refine (heldTk_any n n.acts.length _ 1 _ (slI_up (own_sl Og91.out)) (by omega) (by omega) (by omega) (by omega)).mono ?_
    rintro e w12 ⟨rfl, b12⟩
    have B92 : Below w.heap.size w w12 := Below.via b12 B83
    have z92 := b12.size
    try simp only [World.size_alloc] at z92
    have Ka93 := Ka84.below b12
    clear xa
    clear Ka84
    have xa := Ka93.cell
    have Ks94 := Ks85.below b12
    clear xs
    clear Ks85
    have xs := Ks94.cell
    have Ky95 := Ky86.below b12
    clear xy
    clear Ky86
    have xy := Ky95.cell
    have Kg96 := Kg87.below b12
    clear xg
    clear Kg87
    have xg := Kg96.cell
    have Ox97 := Lib.hid (own_below Ox88.out b12)
    clear Ox88
    have Os98 := Lib.hid (own_below Os89.out b12)
    clear Os89
    have Oy99 := Lib.hid (own_below Oy90.out b12)
    clear Oy90
    have Og100 := Lib.hid (own_below Og91.out b12)
    clear Og91
    go_wp2_with fail
    refine (toTk_any t _ _ (SlF.below H.out B92) hlt).mono ?_
    rintro e w13 ⟨u13, rfl, o13, b13⟩
    obtain ⟨a13, c13, rfl, _, _⟩ := SlF.shape (own_sl o13)
    have B101 : Below w.heap.size w w13 := Below.via b13 B92
    have z101 := b13.size
    try simp only [World.size_alloc] at z101
    have Ka102 := Ka93.below b13
    clear xa
    clear Ka93
    have xa := Ka102.cell
    have Ks103 := Ks94.below b13
    clear xs
    clear Ks94
    have xs := Ks103.cell
    have Ky104 := Ky95.below b13
    clear xy
    clear Ky95
    have xy := Ky104.cell
    have Kg105 := Kg96.below b13
    clear xg
    clear Kg96
    have xg := Kg105.cell
    have Ox106 := Lib.hid (own_below Ox97.out b13)
    clear Ox97
    have Os107 := Lib.hid (own_below Os98.out b13)
    clear Os98
    have Oy108 := Lib.hid (own_below Oy99.out b13)
    clear Oy99
    have Og109 := Lib.hid (own_below Og100.out b13)
    clear Og100
    have pz := Lib.hid (show ∀ j, Value.ownBlock (.slice a13 t.acts.length c13) = some j → w12.heap.size ≤ j ∧ j < w13.heap.size from fun j hj => o13.lt j hj)
    have Oz110 := Lib.hid o13
    clear o13
    go_wp2_with fail
    refine (HI _ _ (own_sl Oz110.out)).mono ?_
    rintro e w14 ⟨u14, rfl, o14, b14⟩
    obtain ⟨a14, c14, rfl, _, _⟩ := SlF.shape (own_sl o14)
    have B111 : Below w.heap.size w w14 := Below.via b14 B101
    have z111 := b14.size
    try simp only [World.size_alloc] at z111
    have Ka112 := Ka102.below b14
    clear xa
    clear Ka102
    have xa := Ka112.cell
    have Ks113 := Ks103.below b14
    clear xs
    clear Ks103
    have xs := Ks113.cell
    have Ky114 := Ky104.below b14
    clear xy
    clear Ky104
    have xy := Ky114.cell
    have Kg115 := Kg105.below b14
    clear xg
    clear Kg105
    have xg := Kg115.cell
    have Ox116 := Lib.hid (own_below Ox106.out b14)
    clear Ox106
    have Os117 := Lib.hid (own_below Os107.out b14)
    clear Os107
    have Oy118 := Lib.hid (own_below Oy108.out b14)
    clear Oy108
    have Og119 := Lib.hid (own_below Og109.out b14)
    clear Og109
    have Oz120 := Lib.hid (own_below Oz110.out b14)
    clear Oz110
    have ph := Lib.hid (show ∀ j, Value.ownBlock (.slice a14 n.acts.length c14) = some j → w13.heap.size ≤ j ∧ j < w14.heap.size from fun j hj => o14.lt j hj)
    have Oh121 := Lib.hid o14
    clear o14
    have hA122 : Below w14.heap.size w14 (w14.alloc (.cells #[.int .i64 n.who, .slice a14 n.acts.length c14, .int .i64 n.til, .int .i64 n.sl] 27)) := Below.al (Below.refl _ _) _
    have B123 : Below w.heap.size w (w14.alloc (.cells #[.int .i64 n.who, .slice a14 n.acts.length c14, .int .i64 n.til, .int .i64 n.sl] 27)) := Below.via hA122 B111
    have z123 := hA122.size
    try simp only [World.size_alloc] at z123
    have Ka124 := Ka112.below hA122
    clear xa
    clear Ka112
    have xa := Ka124.cell
    have Ks125 := Ks113.below hA122
    clear xs
    clear Ks113
    have xs := Ks125.cell
    have Ky126 := Ky114.below hA122
    clear xy
    clear Ky114
    have xy := Ky126.cell
    have Kg127 := Kg115.below hA122
    clear xg
    clear Kg115
    have xg := Kg127.cell
    have Ox128 := Lib.hid (own_below Ox116.out hA122)
    clear Ox116
    have Os129 := Lib.hid (own_below Os117.out hA122)
    clear Os117
    have Oy130 := Lib.hid (own_below Oy118.out hA122)
    clear Oy118
    have Og131 := Lib.hid (own_below Og119.out hA122)
    clear Og119
    have Oz132 := Lib.hid (own_below Oz120.out hA122)
    clear Oz120
    have Oh133 := Lib.hid (own_below Oh121.out hA122)
    clear Oh121
    clear hA122
    have Kh0 := Bk.new (w := w14) (vs := #[.int .i64 n.who, .slice a14 n.acts.length c14, .int .i64 n.til, .int .i64 n.sl]) (t := 27)
    have xh := Kh0.cell
    have yh := Kh0.lt
    simp only [World.size_alloc] at yh
    go_wp2_with fail
    refine (eqTk_any n n _ _ _ (own_sl Oh133.out) (own_sl Os129.out)).mono ?_
    rintro e w15 ⟨rfl, b15⟩
    rw [hrn]
    have B134 : Below w.heap.size w w15 := Below.via b15 B123
    have z134 := b15.size
    try simp only [World.size_alloc] at z134
    have Ka135 := Ka124.below b15
    clear xa
    clear Ka124
    have xa := Ka135.cell
    have Ks136 := Ks125.below b15
    clear xs
    clear Ks125
    have xs := Ks136.cell
    have Ky137 := Ky126.below b15
    clear xy
    clear Ky126
    have xy := Ky137.cell
    have Kg138 := Kg127.below b15
    clear xg
    clear Kg127
    have xg := Kg138.cell
    have Kh139 := Kh0.below b15
    clear xh
    clear Kh0
    have xh := Kh139.cell
    have Ox140 := Lib.hid (own_below Ox128.out b15)
    clear Ox128
    have Os141 := Lib.hid (own_below Os129.out b15)
    clear Os129
    have Oy142 := Lib.hid (own_below Oy130.out b15)
    clear Oy130
    have Og143 := Lib.hid (own_below Og131.out b15)
    clear Og131
    have Oz144 := Lib.hid (own_below Oz132.out b15)
    clear Oz132
    have Oh145 := Lib.hid (own_below Oh133.out b15)
    clear Oh133
    go_wp2_with fail
    refine (heldTk_any n n.acts.length _ 1 _ (slI_up (own_sl Og143.out)) (by omega) (by omega) (by omega) (by omega)).mono ?_
    rintro e w16 ⟨rfl, b16⟩
    have B146 : Below w.heap.size w w16 := Below.via b16 B134
    have z146 := b16.size
    try simp only [World.size_alloc] at z146
    have Ka147 := Ka135.below b16
    clear xa
    clear Ka135
    have xa := Ka147.cell
    have Ks148 := Ks136.below b16
    clear xs
    clear Ks136
    have xs := Ks148.cell
    have Ky149 := Ky137.below b16
    clear xy
    clear Ky137
    have xy := Ky149.cell
    have Kg150 := Kg138.below b16
    clear xg
    clear Kg138
    have xg := Kg150.cell
    have Kh151 := Kh139.below b16
    clear xh
    clear Kh139
    have xh := Kh151.cell
    have Ox152 := Lib.hid (own_below Ox140.out b16)
    clear Ox140
    have Os153 := Lib.hid (own_below Os141.out b16)
    clear Os141
    have Oy154 := Lib.hid (own_below Oy142.out b16)
    clear Oy142
    have Og155 := Lib.hid (own_below Og143.out b16)
    clear Og143
    have Oz156 := Lib.hid (own_below Oz144.out b16)
    clear Oz144
    have Oh157 := Lib.hid (own_below Oh145.out b16)
    clear Oh145
    go_wp2_with fail
    go_ret
    exact ⟨rfl, B146⟩
end Go.Proofs.Ytnkfhfhioknjeaa
