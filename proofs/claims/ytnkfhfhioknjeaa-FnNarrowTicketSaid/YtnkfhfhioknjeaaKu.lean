/-
  The law on narrowed tickets, walked. Condition: the bytes can be read.
-/
import Derived.Test.YtnkfhfhioknjeaaKr
import Derived.Test.YtnkfhfhioknjeaaKp
import Derived.Test.YtnkfhfhioknjeaaRg
set_option linter.unusedSimpArgs false
set_option linter.unusedVariables false
namespace Go.Proofs.Ytnkfhfhioknjeaa
open Go.RowKit
theorem cellK {w w' : World} {p : Addr} {x : Value} (h : w.cell? p = some x) (b : Below w.heap.size w w') : w'.cell? p = some x := (b.cell (World.block_lt_of_cell? _ _ h)).trans h
set_option maxRecDepth 100000 in
set_option maxHeartbeats 6400000 in
theorem narrowTicket_walk (a : Option Addr) (len cap : Nat) (w : World) (h : Bytes w a len cap) : Calls Try.prog 8 #[.slice a len cap] w fun e w' => e = .returned (.bool true) ∧ Below w.heap.size w w' := by
  have h1 := h.1
  have h2 := h.2.1
  unfold maxLen at h2
  have H := Lib.hid h
  clear h
  by_cases hl : 1048576 < len
  · go_enter Try.func8, Try.ntmps8
    go_wp2_with fail
    go_ret
    exact ⟨rfl, Below.refl _ _⟩
  · go_enter Try.func8, Try.ntmps8
    go_wp2_with fail
    refine (drawNarrowTicket_any a len cap _ H.out).mono ?_
    rintro e w1 ⟨act, t, u1, rfl, HB, o1, b1⟩
    have B1 : Below w.heap.size w w1 := Below.via b1 (Below.refl _ _)
    have z1 := b1.size
    try simp only [World.size_alloc] at z1
    obtain ⟨n, ok, hn⟩ : ∃ n ok, narrowT t act = (n, ok) := ⟨_, _, rfl⟩
    have HI := fun v wx h => (implNarrow_any t act v wx h).mono (fun e w' k => k.two hn)
    have HS := fun v wx h => (specNarrow_any t act v wx h).mono (fun e w' k => k.two hn)
    have hrr := eqTk_refl n
    have hnb : ∀ z : Bool, (z != z) = false := fun z => by simp
    cases ok
    · obtain ⟨ax, cap1, rfl, _, _⟩ := SlF.shape (own_sl o1)
      have hz : ((n.acts.length : Int) == 0) = true := by rw [narrow_false hn]; rfl
      clear hn
      have pv := Lib.hid (show ∀ j, Value.ownBlock (.slice ax t.acts.length cap1) = some j → w.heap.size ≤ j ∧ j < w1.heap.size from fun j hj => o1.lt j hj)
      have Ov2 := Lib.hid o1
      clear o1
      have hA3 : Below w1.heap.size w1 (w1.alloc (.cells #[.int .i64 t.who, .slice ax t.acts.length cap1, .int .i64 t.til, .int .i64 t.sl] 27)) := Below.al (Below.refl _ _) _
      have B4 : Below w.heap.size w (w1.alloc (.cells #[.int .i64 t.who, .slice ax t.acts.length cap1, .int .i64 t.til, .int .i64 t.sl] 27)) := Below.via hA3 B1
      have z4 := hA3.size
      try simp only [World.size_alloc] at z4
      have Ov5 := Lib.hid (own_below Ov2.out hA3)
      clear Ov2
      clear hA3
      have Kt0 := Bk.new (w := w1) (vs := #[.int .i64 t.who, .slice ax t.acts.length cap1, .int .i64 t.til, .int .i64 t.sl]) (t := 27)
      have xt := Kt0.cell
      have yt := Kt0.lt
      simp only [World.size_alloc] at yt
      go_wp2_with fail
      refine (HI _ _ (own_sl Ov5.out)).mono ?_
      rintro e w2 ⟨u2, rfl, o2, b2⟩
      obtain ⟨a2, c2, rfl, _, _⟩ := SlF.shape (own_sl o2)
      have B6 : Below w.heap.size w w2 := Below.via b2 B4
      have z6 := b2.size
      try simp only [World.size_alloc] at z6
      have Kt7 := Kt0.below b2
      clear xt
      clear Kt0
      have xt := Kt7.cell
      have Ov8 := Lib.hid (own_below Ov5.out b2)
      clear Ov5
      have pg := Lib.hid (show ∀ j, Value.ownBlock (.slice a2 n.acts.length c2) = some j → (w1.alloc (.cells #[.int .i64 t.who, .slice ax t.acts.length cap1, .int .i64 t.til, .int .i64 t.sl] 27)).heap.size ≤ j ∧ j < w2.heap.size from fun j hj => o2.lt j hj)
      have Og9 := Lib.hid o2
      clear o2
      have hA10 : Below w2.heap.size w2 (w2.alloc (.cells #[.int .i64 n.who, .slice a2 n.acts.length c2, .int .i64 n.til, .int .i64 n.sl] 27)) := Below.al (Below.refl _ _) _
      have B11 : Below w.heap.size w (w2.alloc (.cells #[.int .i64 n.who, .slice a2 n.acts.length c2, .int .i64 n.til, .int .i64 n.sl] 27)) := Below.via hA10 B6
      have z11 := hA10.size
      try simp only [World.size_alloc] at z11
      have Kt12 := Kt7.below hA10
      clear xt
      clear Kt7
      have xt := Kt12.cell
      have Ov13 := Lib.hid (own_below Ov8.out hA10)
      clear Ov8
      have Og14 := Lib.hid (own_below Og9.out hA10)
      clear Og9
      clear hA10
      have Kg0 := Bk.new (w := w2) (vs := #[.int .i64 n.who, .slice a2 n.acts.length c2, .int .i64 n.til, .int .i64 n.sl]) (t := 27)
      have xg := Kg0.cell
      have yg := Kg0.lt
      simp only [World.size_alloc] at yg
      go_wp2_with fail
      refine (HS _ _ (own_sl Ov13.out)).mono ?_
      rintro e w3 ⟨u3, rfl, o3, b3⟩
      obtain ⟨a3, c3, rfl, _, _⟩ := SlF.shape (own_sl o3)
      have B15 : Below w.heap.size w w3 := Below.via b3 B11
      have z15 := b3.size
      try simp only [World.size_alloc] at z15
      have Kt16 := Kt12.below b3
      clear xt
      clear Kt12
      have xt := Kt16.cell
      have Kg17 := Kg0.below b3
      clear xg
      clear Kg0
      have xg := Kg17.cell
      have Ov18 := Lib.hid (own_below Ov13.out b3)
      clear Ov13
      have Og19 := Lib.hid (own_below Og14.out b3)
      clear Og14
      have ps := Lib.hid (show ∀ j, Value.ownBlock (.slice a3 n.acts.length c3) = some j → (w2.alloc (.cells #[.int .i64 n.who, .slice a2 n.acts.length c2, .int .i64 n.til, .int .i64 n.sl] 27)).heap.size ≤ j ∧ j < w3.heap.size from fun j hj => o3.lt j hj)
      have Os20 := Lib.hid o3
      clear o3
      have hA21 : Below w3.heap.size w3 (w3.alloc (.cells #[.int .i64 n.who, .slice a3 n.acts.length c3, .int .i64 n.til, .int .i64 n.sl] 27)) := Below.al (Below.refl _ _) _
      have B22 : Below w.heap.size w (w3.alloc (.cells #[.int .i64 n.who, .slice a3 n.acts.length c3, .int .i64 n.til, .int .i64 n.sl] 27)) := Below.via hA21 B15
      have z22 := hA21.size
      try simp only [World.size_alloc] at z22
      have Kt23 := Kt16.below hA21
      clear xt
      clear Kt16
      have xt := Kt23.cell
      have Kg24 := Kg17.below hA21
      clear xg
      clear Kg17
      have xg := Kg24.cell
      have Ov25 := Lib.hid (own_below Ov18.out hA21)
      clear Ov18
      have Og26 := Lib.hid (own_below Og19.out hA21)
      clear Og19
      have Os27 := Lib.hid (own_below Os20.out hA21)
      clear Os20
      clear hA21
      have Ks0 := Bk.new (w := w3) (vs := #[.int .i64 n.who, .slice a3 n.acts.length c3, .int .i64 n.til, .int .i64 n.sl]) (t := 27)
      have xs := Ks0.cell
      have ys := Ks0.lt
      simp only [World.size_alloc] at ys
      go_wp2_with fail
      refine (sameTk_any n n _ _ _ (own_sl Og26.out) (own_sl Os27.out)).mono ?_
      rintro e w4 ⟨rfl, b4⟩
      rw [hrr]
      have B28 : Below w.heap.size w w4 := Below.via b4 B22
      have z28 := b4.size
      try simp only [World.size_alloc] at z28
      have Kt29 := Kt23.below b4
      clear xt
      clear Kt23
      have xt := Kt29.cell
      have Kg30 := Kg24.below b4
      clear xg
      clear Kg24
      have xg := Kg30.cell
      have Ks31 := Ks0.below b4
      clear xs
      clear Ks0
      have xs := Ks31.cell
      have Ov32 := Lib.hid (own_below Ov25.out b4)
      clear Ov25
      have Og33 := Lib.hid (own_below Og26.out b4)
      clear Og26
      have Os34 := Lib.hid (own_below Os27.out b4)
      clear Os27
      clear HI HS
      go_wp2_with ((go_at_call 17; refine (alive_any _).mono ?_; rintro e w' ⟨rfl, rfl⟩))
      go_ret
      exact ⟨rfl, B28⟩
    · obtain ⟨hne, hn1, hn4, _, _, ha⟩ := narrow_true hn
      obtain ⟨g, off, cap1, rfl, hc1, hc2, hcell⟩ := SlI.cell (own_sl o1) 0 (by omega)
      have hnl : n.acts.length = t.acts.length + 1 := by rw [hne]; simp
      have HNL := Lib.hid hnl
      clear hne hnl hn
      obtain ⟨a0, ha0⟩ : ∃ a0, t.acts[0] = a0 := ⟨_, rfl⟩
      rw [ha0, Nat.add_zero] at hcell
      clear ha0
      have Rc2 := Lib.hid hcell
      clear hcell
      have pv := Lib.hid (show ∀ j, Value.ownBlock (.slice (some ⟨g, off, none⟩) t.acts.length cap1) = some j → w.heap.size ≤ j ∧ j < w1.heap.size from fun j hj => o1.lt j hj)
      have Ov3 := Lib.hid o1
      clear o1
      have hA4 : Below w1.heap.size w1 (w1.alloc (.cells #[.int .i64 t.who, .slice (some ⟨g, off, none⟩) t.acts.length cap1, .int .i64 t.til, .int .i64 t.sl] 27)) := Below.al (Below.refl _ _) _
      have Rc6 := Lib.hid (cellK Rc2.out hA4)
      clear Rc2
      have B5 : Below w.heap.size w (w1.alloc (.cells #[.int .i64 t.who, .slice (some ⟨g, off, none⟩) t.acts.length cap1, .int .i64 t.til, .int .i64 t.sl] 27)) := Below.via hA4 B1
      have z5 := hA4.size
      try simp only [World.size_alloc] at z5
      have Ov7 := Lib.hid (own_below Ov3.out hA4)
      clear Ov3
      clear hA4
      have Kt0 := Bk.new (w := w1) (vs := #[.int .i64 t.who, .slice (some ⟨g, off, none⟩) t.acts.length cap1, .int .i64 t.til, .int .i64 t.sl]) (t := 27)
      have xt := Kt0.cell
      have yt := Kt0.lt
      simp only [World.size_alloc] at yt
      go_wp2_with fail
      refine (HI _ _ (own_sl Ov7.out)).mono ?_
      rintro e w2 ⟨u2, rfl, o2, b2⟩
      obtain ⟨a2, c2, rfl, _, _⟩ := SlF.shape (own_sl o2)
      have Rc9 := Lib.hid (cellK Rc6.out b2)
      clear Rc6
      have B8 : Below w.heap.size w w2 := Below.via b2 B5
      have z8 := b2.size
      try simp only [World.size_alloc] at z8
      have Kt10 := Kt0.below b2
      clear xt
      clear Kt0
      have xt := Kt10.cell
      have Ov11 := Lib.hid (own_below Ov7.out b2)
      clear Ov7
      have pg := Lib.hid (show ∀ j, Value.ownBlock (.slice a2 n.acts.length c2) = some j → (w1.alloc (.cells #[.int .i64 t.who, .slice (some ⟨g, off, none⟩) t.acts.length cap1, .int .i64 t.til, .int .i64 t.sl] 27)).heap.size ≤ j ∧ j < w2.heap.size from fun j hj => o2.lt j hj)
      have Og12 := Lib.hid o2
      clear o2
      have hA13 : Below w2.heap.size w2 (w2.alloc (.cells #[.int .i64 n.who, .slice a2 n.acts.length c2, .int .i64 n.til, .int .i64 n.sl] 27)) := Below.al (Below.refl _ _) _
      have Rc15 := Lib.hid (cellK Rc9.out hA13)
      clear Rc9
      have B14 : Below w.heap.size w (w2.alloc (.cells #[.int .i64 n.who, .slice a2 n.acts.length c2, .int .i64 n.til, .int .i64 n.sl] 27)) := Below.via hA13 B8
      have z14 := hA13.size
      try simp only [World.size_alloc] at z14
      have Kt16 := Kt10.below hA13
      clear xt
      clear Kt10
      have xt := Kt16.cell
      have Ov17 := Lib.hid (own_below Ov11.out hA13)
      clear Ov11
      have Og18 := Lib.hid (own_below Og12.out hA13)
      clear Og12
      clear hA13
      have Kg0 := Bk.new (w := w2) (vs := #[.int .i64 n.who, .slice a2 n.acts.length c2, .int .i64 n.til, .int .i64 n.sl]) (t := 27)
      have xg := Kg0.cell
      have yg := Kg0.lt
      simp only [World.size_alloc] at yg
      go_wp2_with fail
      refine (HS _ _ (own_sl Ov17.out)).mono ?_
      rintro e w3 ⟨u3, rfl, o3, b3⟩
      obtain ⟨a3, c3, rfl, _, _⟩ := SlF.shape (own_sl o3)
      have Rc20 := Lib.hid (cellK Rc15.out b3)
      clear Rc15
      have B19 : Below w.heap.size w w3 := Below.via b3 B14
      have z19 := b3.size
      try simp only [World.size_alloc] at z19
      have Kt21 := Kt16.below b3
      clear xt
      clear Kt16
      have xt := Kt21.cell
      have Kg22 := Kg0.below b3
      clear xg
      clear Kg0
      have xg := Kg22.cell
      have Ov23 := Lib.hid (own_below Ov17.out b3)
      clear Ov17
      have Og24 := Lib.hid (own_below Og18.out b3)
      clear Og18
      have ps := Lib.hid (show ∀ j, Value.ownBlock (.slice a3 n.acts.length c3) = some j → (w2.alloc (.cells #[.int .i64 n.who, .slice a2 n.acts.length c2, .int .i64 n.til, .int .i64 n.sl] 27)).heap.size ≤ j ∧ j < w3.heap.size from fun j hj => o3.lt j hj)
      have Os25 := Lib.hid o3
      clear o3
      have hA26 : Below w3.heap.size w3 (w3.alloc (.cells #[.int .i64 n.who, .slice a3 n.acts.length c3, .int .i64 n.til, .int .i64 n.sl] 27)) := Below.al (Below.refl _ _) _
      have Rc28 := Lib.hid (cellK Rc20.out hA26)
      clear Rc20
      have B27 : Below w.heap.size w (w3.alloc (.cells #[.int .i64 n.who, .slice a3 n.acts.length c3, .int .i64 n.til, .int .i64 n.sl] 27)) := Below.via hA26 B19
      have z27 := hA26.size
      try simp only [World.size_alloc] at z27
      have Kt29 := Kt21.below hA26
      clear xt
      clear Kt21
      have xt := Kt29.cell
      have Kg30 := Kg22.below hA26
      clear xg
      clear Kg22
      have xg := Kg30.cell
      have Ov31 := Lib.hid (own_below Ov23.out hA26)
      clear Ov23
      have Og32 := Lib.hid (own_below Og24.out hA26)
      clear Og24
      have Os33 := Lib.hid (own_below Os25.out hA26)
      clear Os25
      clear hA26
      have Ks0 := Bk.new (w := w3) (vs := #[.int .i64 n.who, .slice a3 n.acts.length c3, .int .i64 n.til, .int .i64 n.sl]) (t := 27)
      have xs := Ks0.cell
      have ys := Ks0.lt
      simp only [World.size_alloc] at ys
      go_wp2_with fail
      refine (sameTk_any n n _ _ _ (own_sl Og32.out) (own_sl Os33.out)).mono ?_
      rintro e w4 ⟨rfl, b4⟩
      rw [hrr]
      have Rc35 := Lib.hid (cellK Rc28.out b4)
      clear Rc28
      have B34 : Below w.heap.size w w4 := Below.via b4 B27
      have z34 := b4.size
      try simp only [World.size_alloc] at z34
      have Kt36 := Kt29.below b4
      clear xt
      clear Kt29
      have xt := Kt36.cell
      have Kg37 := Kg30.below b4
      clear xg
      clear Kg30
      have xg := Kg37.cell
      have Ks38 := Ks0.below b4
      clear xs
      clear Ks0
      have xs := Ks38.cell
      have Ov39 := Lib.hid (own_below Ov31.out b4)
      clear Ov31
      have Og40 := Lib.hid (own_below Og32.out b4)
      clear Og32
      have Os41 := Lib.hid (own_below Os33.out b4)
      clear Os33
      clear HI HS
      have x0 := Rc35.out
      obtain ⟨m, gd, hm⟩ : ∃ m gd, makeT 77 2 a0 50 = (m, gd) := ⟨_, _, rfl⟩
      obtain ⟨l, well, hl2⟩ : ∃ l well, narrowT m act = (l, well) := ⟨_, _, rfl⟩
      have HM := fun wx => (implMake_any 77 2 a0 50 wx).mono (fun e w' k => k.two hm)
      have HN := fun v wx h => (implNarrow_any m act v wx h).mono (fun e w' k => k.two hl2)
      have HHM := Lib.hid hm
      have HHL := Lib.hid hl2
      clear hm hl2
      go_wp2_with fail
      refine (HM _).mono ?_
      rintro e w5 ⟨u5, rfl, o5, b5⟩
      obtain ⟨a5, c5, rfl, _, _⟩ := SlF.shape (own_sl o5)
      have Rc43 := Lib.hid (cellK Rc35.out b5)
      clear Rc35
      have B42 : Below w.heap.size w w5 := Below.via b5 B34
      have z42 := b5.size
      try simp only [World.size_alloc] at z42
      have Kt44 := Kt36.below b5
      clear xt
      clear Kt36
      have xt := Kt44.cell
      have Kg45 := Kg37.below b5
      clear xg
      clear Kg37
      have xg := Kg45.cell
      have Ks46 := Ks38.below b5
      clear xs
      clear Ks38
      have xs := Ks46.cell
      have Ov47 := Lib.hid (own_below Ov39.out b5)
      clear Ov39
      have Og48 := Lib.hid (own_below Og40.out b5)
      clear Og40
      have Os49 := Lib.hid (own_below Os41.out b5)
      clear Os41
      have pm := Lib.hid (show ∀ j, Value.ownBlock (.slice a5 m.acts.length c5) = some j → w4.heap.size ≤ j ∧ j < w5.heap.size from fun j hj => o5.lt j hj)
      have Om50 := Lib.hid o5
      clear o5
      have hA51 : Below w5.heap.size w5 (w5.alloc (.cells #[.int .i64 m.who, .slice a5 m.acts.length c5, .int .i64 m.til, .int .i64 m.sl] 27)) := Below.al (Below.refl _ _) _
      have Rc53 := Lib.hid (cellK Rc43.out hA51)
      clear Rc43
      have B52 : Below w.heap.size w (w5.alloc (.cells #[.int .i64 m.who, .slice a5 m.acts.length c5, .int .i64 m.til, .int .i64 m.sl] 27)) := Below.via hA51 B42
      have z52 := hA51.size
      try simp only [World.size_alloc] at z52
      have Kt54 := Kt44.below hA51
      clear xt
      clear Kt44
      have xt := Kt54.cell
      have Kg55 := Kg45.below hA51
      clear xg
      clear Kg45
      have xg := Kg55.cell
      have Ks56 := Ks46.below hA51
      clear xs
      clear Ks46
      have xs := Ks56.cell
      have Ov57 := Lib.hid (own_below Ov47.out hA51)
      clear Ov47
      have Og58 := Lib.hid (own_below Og48.out hA51)
      clear Og48
      have Os59 := Lib.hid (own_below Os49.out hA51)
      clear Os49
      have Om60 := Lib.hid (own_below Om50.out hA51)
      clear Om50
      clear hA51
      have Km0 := Bk.new (w := w5) (vs := #[.int .i64 m.who, .slice a5 m.acts.length c5, .int .i64 m.til, .int .i64 m.sl]) (t := 27)
      have xm := Km0.cell
      have ym := Km0.lt
      simp only [World.size_alloc] at ym
      clear x0
      go_wp2_with fail
      refine (HN _ _ (own_sl Om60.out)).mono ?_
      rintro e w6 ⟨u6, rfl, o6, b6⟩
      obtain ⟨a6, c6, rfl, _, _⟩ := SlF.shape (own_sl o6)
      have Rc62 := Lib.hid (cellK Rc53.out b6)
      clear Rc53
      have B61 : Below w.heap.size w w6 := Below.via b6 B52
      have z61 := b6.size
      try simp only [World.size_alloc] at z61
      have Kt63 := Kt54.below b6
      clear xt
      clear Kt54
      have xt := Kt63.cell
      have Kg64 := Kg55.below b6
      clear xg
      clear Kg55
      have xg := Kg64.cell
      have Ks65 := Ks56.below b6
      clear xs
      clear Ks56
      have xs := Ks65.cell
      have Km66 := Km0.below b6
      clear xm
      clear Km0
      have xm := Km66.cell
      have Ov67 := Lib.hid (own_below Ov57.out b6)
      clear Ov57
      have Og68 := Lib.hid (own_below Og58.out b6)
      clear Og58
      have Os69 := Lib.hid (own_below Os59.out b6)
      clear Os59
      have Om70 := Lib.hid (own_below Om60.out b6)
      clear Om60
      have pl := Lib.hid (show ∀ j, Value.ownBlock (.slice a6 l.acts.length c6) = some j → (w5.alloc (.cells #[.int .i64 m.who, .slice a5 m.acts.length c5, .int .i64 m.til, .int .i64 m.sl] 27)).heap.size ≤ j ∧ j < w6.heap.size from fun j hj => o6.lt j hj)
      have Ol71 := Lib.hid o6
      clear o6
      have hA72 : Below w6.heap.size w6 (w6.alloc (.cells #[.int .i64 l.who, .slice a6 l.acts.length c6, .int .i64 l.til, .int .i64 l.sl] 27)) := Below.al (Below.refl _ _) _
      have Rc74 := Lib.hid (cellK Rc62.out hA72)
      clear Rc62
      have B73 : Below w.heap.size w (w6.alloc (.cells #[.int .i64 l.who, .slice a6 l.acts.length c6, .int .i64 l.til, .int .i64 l.sl] 27)) := Below.via hA72 B61
      have z73 := hA72.size
      try simp only [World.size_alloc] at z73
      have Kt75 := Kt63.below hA72
      clear xt
      clear Kt63
      have xt := Kt75.cell
      have Kg76 := Kg64.below hA72
      clear xg
      clear Kg64
      have xg := Kg76.cell
      have Ks77 := Ks65.below hA72
      clear xs
      clear Ks65
      have xs := Ks77.cell
      have Km78 := Km66.below hA72
      clear xm
      clear Km66
      have xm := Km78.cell
      have Ov79 := Lib.hid (own_below Ov67.out hA72)
      clear Ov67
      have Og80 := Lib.hid (own_below Og68.out hA72)
      clear Og68
      have Os81 := Lib.hid (own_below Os69.out hA72)
      clear Os69
      have Om82 := Lib.hid (own_below Om70.out hA72)
      clear Om70
      have Ol83 := Lib.hid (own_below Ol71.out hA72)
      clear Ol71
      clear hA72
      have Kl0 := Bk.new (w := w6) (vs := #[.int .i64 l.who, .slice a6 l.acts.length c6, .int .i64 l.til, .int .i64 l.sl]) (t := 27)
      have xl := Kl0.cell
      have yl := Kl0.lt
      simp only [World.size_alloc] at yl
      clear HM HN
      obtain ⟨wz, hwz⟩ : ∃ wz, wz = (w6.alloc (.cells #[.int .i64 l.who, .slice a6 l.acts.length c6, .int .i64 l.til, .int .i64 l.sl] 27)) := ⟨_, rfl⟩
      have HW := Lib.hid hwz
      have OL := Lib.hid (own_sl Ol83.out)
      have C0 := Rc74.out
      have BZ := B73
      rw [← hwz] at Kt75 Kg76 Kl0 C0 BZ
      have OZ : Hid (SlF wz (.slice a6 l.acts.length c6) 1 l.acts.length (cellsI l.acts)) := by rw [hwz]; exact OL
      clear xt xg xs xm xl hwz Ks77 Km78 OL
      have hbz : ¬ (fun _ : Nat => False) 0 := fun h => h
      have hsum : IntKind.i64.wrap ((t.acts.length : Int) + 1) = (t.acts.length : Int) + 1 := IntWalk.i64_in _ (by omega)
      have hle : ((n.acts.length : Int) == (t.acts.length : Int) + 1) = true := by rw [HNL.out]; simp
      have hlt0 : (0 : Int) < (t.acts.length : Int) := by omega
      have hltN : 0 < t.acts.length := by omega
      have heq : ∀ z : Int, (z == z) = true := fun z => by simp
      cases gd
      · go_wp2_with fail
        rw [← HW.out]
        have KXr : KeepB (fun _ => True) ∧ KeepB (fun _ => True) := ⟨keepB_true, keepB_true⟩
        refine wp_region_inv (G := fun s n w_ => RgN (fun _ => False) (fun _ => True) wz w_) (R := RgR (fun _ => False) (fun _ => True))
          (Fs := [Is (fun v => v = .pointer (some ⟨w2.heap.size, 1, none⟩)), Is (fun v => v = .slice a2 n.acts.length c2), Is (fun v => v = .int .i64 (n.acts.length)), Is (fun v => v = .pointer (some ⟨w1.heap.size, 1, none⟩)), Is (fun v => v = .slice (some ⟨g, off, none⟩) t.acts.length cap1), Is (fun v => v = .int .i64 (t.acts.length)), Is (fun v => v = .int .i64 ((t.acts.length : Int) + 1)), Is (fun v => v = .bool true), Is (fun v => v = .bool true), Is (fun v => v = .bool false), Is (fun v => v = .bool true), Is (fun v => v = .bool true), Is (fun v => v = undef), Is (fun v => v = undef), Is (fun v => v = undef), Is (fun v => v = undef), Is (fun v => v = undef), Is (fun v => v = undef), Is (fun v => v = undef), Is (fun v => v = undef), Is (fun v => v = undef), Is (fun v => v = undef), Is (fun v => v = undef), Is (fun v => v = undef), Is (fun v => v = .bool true), Is (fun v => v = .bool true), Is (fun v => v = .bool true)])
          (by kernel_rfl) (by kernel_rfl) (fun _ => RgR.refl _) (fun h k => h.trans k) ?_ (fun _ _ => ⟨(Grow.refl _ _).drew, trivial⟩) ?_
        · (repeat' (first | exact lasts_nil | refine lasts_cons ?_ ?_))
          all_goals (first | exact Lasts.is | exact Lasts.any)
        refine inv_cons 0 (by rfl) (fun wx n_ s_ hn hcl hsi hG hR hd => ?_) (fun v0 => ?_)
        · refine inv_want (by rfl) ?_
          have HG := Lib.hid hG
          clear hG hR hcl hsi hn
          unfold invAt invUpon; go_simp
          exact post_upN (F := Is (fun v => v = .pointer (some ⟨w2.heap.size, 1, none⟩))) HG.out (is_eq rfl)
        simp only [Act.put, List.setIfInBounds_toArray, List.set_cons_zero, List.set_cons_succ, List.nil_append, List.cons_append]
        refine inv_cons 1 (by rfl) (fun wx n_ s_ hn hcl hsi hG hR hd => ?_) (fun v1 => ?_)
        · have d0 : (Is (fun v => v = .pointer (some ⟨w2.heap.size, 1, none⟩))) v0 wx := dep_get hd 0 (by rfl)
          obtain rfl := d0
          have xb := (Bk.grow (Kg76) hG.grow (fun h => h)).cell
          refine inv_want (by rfl) ?_
          have HG := Lib.hid hG
          clear hG hR hcl hsi hn
          unfold invAt invUpon; go_simp
          exact post_upN (F := Is (fun v => v = .slice a2 n.acts.length c2)) HG.out (is_eq rfl)
        simp only [Act.put, List.setIfInBounds_toArray, List.set_cons_zero, List.set_cons_succ, List.nil_append, List.cons_append]
        refine inv_cons 2 (by rfl) (fun wx n_ s_ hn hcl hsi hG hR hd => ?_) (fun v2 => ?_)
        · have d1 : (Is (fun v => v = .slice a2 n.acts.length c2)) v1 wx := dep_get hd 1 (by rfl)
          obtain rfl := d1
          refine inv_want (by rfl) ?_
          have HG := Lib.hid hG
          clear hG hR hcl hsi hn
          unfold invAt invUpon; go_simp
          exact post_upN (F := Is (fun v => v = .int .i64 (n.acts.length))) HG.out (is_eq rfl)
        simp only [Act.put, List.setIfInBounds_toArray, List.set_cons_zero, List.set_cons_succ, List.nil_append, List.cons_append]
        refine inv_cons 3 (by rfl) (fun wx n_ s_ hn hcl hsi hG hR hd => ?_) (fun v3 => ?_)
        · refine inv_want (by rfl) ?_
          have HG := Lib.hid hG
          clear hG hR hcl hsi hn
          unfold invAt invUpon; go_simp
          exact post_upN (F := Is (fun v => v = .pointer (some ⟨w1.heap.size, 1, none⟩))) HG.out (is_eq rfl)
        simp only [Act.put, List.setIfInBounds_toArray, List.set_cons_zero, List.set_cons_succ, List.nil_append, List.cons_append]
        refine inv_cons 4 (by rfl) (fun wx n_ s_ hn hcl hsi hG hR hd => ?_) (fun v4 => ?_)
        · have d3 : (Is (fun v => v = .pointer (some ⟨w1.heap.size, 1, none⟩))) v3 wx := dep_get hd 3 (by rfl)
          obtain rfl := d3
          have xb := (Bk.grow (Kt75) hG.grow (fun h => h)).cell
          refine inv_want (by rfl) ?_
          have HG := Lib.hid hG
          clear hG hR hcl hsi hn
          unfold invAt invUpon; go_simp
          exact post_upN (F := Is (fun v => v = .slice (some ⟨g, off, none⟩) t.acts.length cap1)) HG.out (is_eq rfl)
        simp only [Act.put, List.setIfInBounds_toArray, List.set_cons_zero, List.set_cons_succ, List.nil_append, List.cons_append]
        refine inv_cons 5 (by rfl) (fun wx n_ s_ hn hcl hsi hG hR hd => ?_) (fun v5 => ?_)
        · have d4 : (Is (fun v => v = .slice (some ⟨g, off, none⟩) t.acts.length cap1)) v4 wx := dep_get hd 4 (by rfl)
          obtain rfl := d4
          refine inv_want (by rfl) ?_
          have HG := Lib.hid hG
          clear hG hR hcl hsi hn
          unfold invAt invUpon; go_simp
          exact post_upN (F := Is (fun v => v = .int .i64 (t.acts.length))) HG.out (is_eq rfl)
        simp only [Act.put, List.setIfInBounds_toArray, List.set_cons_zero, List.set_cons_succ, List.nil_append, List.cons_append]
        refine inv_cons 6 (by rfl) (fun wx n_ s_ hn hcl hsi hG hR hd => ?_) (fun v6 => ?_)
        · have d5 : (Is (fun v => v = .int .i64 (t.acts.length))) v5 wx := dep_get hd 5 (by rfl)
          obtain rfl := d5
          refine inv_want (by rfl) ?_
          have HG := Lib.hid hG
          clear hG hR hcl hsi hn
          unfold invAt invUpon; go_simp
          exact post_upN (F := Is (fun v => v = .int .i64 ((t.acts.length : Int) + 1))) HG.out (is_eq rfl)
        simp only [Act.put, List.setIfInBounds_toArray, List.set_cons_zero, List.set_cons_succ, List.nil_append, List.cons_append]
        refine inv_cons 7 (by rfl) (fun wx n_ s_ hn hcl hsi hG hR hd => ?_) (fun v7 => ?_)
        · have d2 : (Is (fun v => v = .int .i64 (n.acts.length))) v2 wx := dep_get hd 2 (by rfl)
          obtain rfl := d2
          have d6 : (Is (fun v => v = .int .i64 ((t.acts.length : Int) + 1))) v6 wx := dep_get hd 6 (by rfl)
          obtain rfl := d6
          refine inv_want (by rfl) ?_
          have HG := Lib.hid hG
          clear hG hR hcl hsi hn
          unfold invAt invUpon; go_simp
          exact post_upN (F := Is (fun v => v = .bool true)) HG.out (is_eq rfl)
        simp only [Act.put, List.setIfInBounds_toArray, List.set_cons_zero, List.set_cons_succ, List.nil_append, List.cons_append]
        refine inv_cons 8 (by rfl) (fun wx n_ s_ hn hcl hsi hG hR hd => ?_) (fun v8 => ?_)
        · have d7 : (Is (fun v => v = .bool true)) v7 wx := dep_get hd 7 (by rfl)
          obtain rfl := d7
          exact inv_want (by rfl) (inv_move (.tmp 72) rfl (post_upN (F := Is (fun v => v = .bool true)) hG (is_eq rfl)))
        simp only [Act.put, List.setIfInBounds_toArray, List.set_cons_zero, List.set_cons_succ, List.nil_append, List.cons_append]
        refine inv_cons 9 (by rfl) (fun wx n_ s_ hn hcl hsi hG hR hd => ?_) (fun v9 => ?_)
        · have dg : (Is (fun v => v = .bool true)) v8 wx := dep_get hd 8 (by rfl)
          obtain rfl := dg
          exact inv_want (by rfl) (inv_move (.tmp 10) rfl (post_upN (F := Is (fun v => v = .bool false)) hG (is_eq rfl)))
        simp only [Act.put, List.setIfInBounds_toArray, List.set_cons_zero, List.set_cons_succ, List.nil_append, List.cons_append]
        refine inv_cons 10 (by rfl) (fun wx n_ s_ hn hcl hsi hG hR hd => ?_) (fun v10 => ?_)
        · have dg : (Is (fun v => v = .bool true)) v8 wx := dep_get hd 8 (by rfl)
          obtain rfl := dg
          have d9 : (Is (fun v => v = .bool false)) v9 wx := dep_get hd 9 (by rfl)
          obtain rfl := d9
          refine inv_want (by rfl) ?_
          have HG := Lib.hid hG
          clear hG hR hcl hsi hn
          unfold invAt invUpon; go_simp
          exact post_upN (F := Is (fun v => v = .bool true)) HG.out (is_eq rfl)
        simp only [Act.put, List.setIfInBounds_toArray, List.set_cons_zero, List.set_cons_succ, List.nil_append, List.cons_append]
        refine inv_cons 11 (by rfl) (fun wx n_ s_ hn hcl hsi hG hR hd => ?_) (fun v11 => ?_)
        · have dg : (Is (fun v => v = .bool true)) v8 wx := dep_get hd 8 (by rfl)
          obtain rfl := dg
          have d10 : (Is (fun v => v = .bool true)) v10 wx := dep_get hd 10 (by rfl)
          obtain rfl := d10
          exact inv_want (by rfl) (inv_move (.tmp 75) rfl (post_upN (F := Is (fun v => v = .bool true)) hG (is_eq rfl)))
        simp only [Act.put, List.setIfInBounds_toArray, List.set_cons_zero, List.set_cons_succ, List.nil_append, List.cons_append]
        refine inv_cons 12 (by rfl) (fun wx n_ s_ hn hcl hsi hG hR hd => ?_) (fun v12 => ?_)
        · have dg : (Is (fun v => v = .bool true)) v11 wx := dep_get hd 11 (by rfl)
          obtain rfl := dg
          exact inv_skip (by rfl) hG (is_eq rfl)
        simp only [Act.put, List.setIfInBounds_toArray, List.set_cons_zero, List.set_cons_succ, List.nil_append, List.cons_append]
        refine inv_cons 13 (by rfl) (fun wx n_ s_ hn hcl hsi hG hR hd => ?_) (fun v13 => ?_)
        · have dg : (Is (fun v => v = .bool true)) v11 wx := dep_get hd 11 (by rfl)
          obtain rfl := dg
          exact inv_skip (by rfl) hG (is_eq rfl)
        simp only [Act.put, List.setIfInBounds_toArray, List.set_cons_zero, List.set_cons_succ, List.nil_append, List.cons_append]
        refine inv_cons 14 (by rfl) (fun wx n_ s_ hn hcl hsi hG hR hd => ?_) (fun v14 => ?_)
        · have dg : (Is (fun v => v = undef)) v13 wx := dep_get hd 13 (by rfl)
          obtain rfl := dg
          exact inv_skip (by rfl) hG (is_eq rfl)
        simp only [Act.put, List.setIfInBounds_toArray, List.set_cons_zero, List.set_cons_succ, List.nil_append, List.cons_append]
        refine inv_cons 15 (by rfl) (fun wx n_ s_ hn hcl hsi hG hR hd => ?_) (fun v15 => ?_)
        · have dg : (Is (fun v => v = undef)) v13 wx := dep_get hd 13 (by rfl)
          obtain rfl := dg
          exact inv_skip (by rfl) hG (is_eq rfl)
        simp only [Act.put, List.setIfInBounds_toArray, List.set_cons_zero, List.set_cons_succ, List.nil_append, List.cons_append]
        refine inv_cons 16 (by rfl) (fun wx n_ s_ hn hcl hsi hG hR hd => ?_) (fun v16 => ?_)
        · have dg : (Is (fun v => v = undef)) v13 wx := dep_get hd 13 (by rfl)
          obtain rfl := dg
          exact inv_skip (by rfl) hG (is_eq rfl)
        simp only [Act.put, List.setIfInBounds_toArray, List.set_cons_zero, List.set_cons_succ, List.nil_append, List.cons_append]
        refine inv_cons 17 (by rfl) (fun wx n_ s_ hn hcl hsi hG hR hd => ?_) (fun v17 => ?_)
        · have dg : (Is (fun v => v = undef)) v13 wx := dep_get hd 13 (by rfl)
          obtain rfl := dg
          exact inv_skip (by rfl) hG (is_eq rfl)
        simp only [Act.put, List.setIfInBounds_toArray, List.set_cons_zero, List.set_cons_succ, List.nil_append, List.cons_append]
        refine inv_cons 18 (by rfl) (fun wx n_ s_ hn hcl hsi hG hR hd => ?_) (fun v18 => ?_)
        · have dg : (Is (fun v => v = undef)) v13 wx := dep_get hd 13 (by rfl)
          obtain rfl := dg
          exact inv_skip (by rfl) hG (is_eq rfl)
        simp only [Act.put, List.setIfInBounds_toArray, List.set_cons_zero, List.set_cons_succ, List.nil_append, List.cons_append]
        refine inv_cons 19 (by rfl) (fun wx n_ s_ hn hcl hsi hG hR hd => ?_) (fun v19 => ?_)
        · have dg : (Is (fun v => v = undef)) v13 wx := dep_get hd 13 (by rfl)
          obtain rfl := dg
          exact inv_skip (by rfl) hG (is_eq rfl)
        simp only [Act.put, List.setIfInBounds_toArray, List.set_cons_zero, List.set_cons_succ, List.nil_append, List.cons_append]
        refine inv_cons 20 (by rfl) (fun wx n_ s_ hn hcl hsi hG hR hd => ?_) (fun v20 => ?_)
        · have dg : (Is (fun v => v = undef)) v13 wx := dep_get hd 13 (by rfl)
          obtain rfl := dg
          exact inv_skip (by rfl) hG (is_eq rfl)
        simp only [Act.put, List.setIfInBounds_toArray, List.set_cons_zero, List.set_cons_succ, List.nil_append, List.cons_append]
        refine inv_cons 21 (by rfl) (fun wx n_ s_ hn hcl hsi hG hR hd => ?_) (fun v21 => ?_)
        · have dg : (Is (fun v => v = undef)) v13 wx := dep_get hd 13 (by rfl)
          obtain rfl := dg
          exact inv_skip (by rfl) hG (is_eq rfl)
        simp only [Act.put, List.setIfInBounds_toArray, List.set_cons_zero, List.set_cons_succ, List.nil_append, List.cons_append]
        refine inv_cons 22 (by rfl) (fun wx n_ s_ hn hcl hsi hG hR hd => ?_) (fun v22 => ?_)
        · have dg : (Is (fun v => v = undef)) v13 wx := dep_get hd 13 (by rfl)
          obtain rfl := dg
          exact inv_skip (by rfl) hG (is_eq rfl)
        simp only [Act.put, List.setIfInBounds_toArray, List.set_cons_zero, List.set_cons_succ, List.nil_append, List.cons_append]
        refine inv_cons 23 (by rfl) (fun wx n_ s_ hn hcl hsi hG hR hd => ?_) (fun v23 => ?_)
        · have dg : (Is (fun v => v = .bool true)) v11 wx := dep_get hd 11 (by rfl)
          obtain rfl := dg
          exact inv_skip (by rfl) hG (is_eq rfl)
        simp only [Act.put, List.setIfInBounds_toArray, List.set_cons_zero, List.set_cons_succ, List.nil_append, List.cons_append]
        refine inv_cons 24 (by rfl) (fun wx n_ s_ hn hcl hsi hG hR hd => ?_) (fun v24 => ?_)
        · have dg : (Is (fun v => v = .bool true)) v8 wx := dep_get hd 8 (by rfl)
          obtain rfl := dg
          have d11 : (Is (fun v => v = .bool true)) v11 wx := dep_get hd 11 (by rfl)
          obtain rfl := d11
          have d23 : (Is (fun v => v = undef)) v23 wx := dep_get hd 23 (by rfl)
          obtain rfl := d23
          refine inv_want (by rfl) ?_
          have HG := Lib.hid hG
          clear hG hR hcl hsi hn
          unfold invAt invUpon; go_simp
          exact post_upN (F := Is (fun v => v = .bool true)) HG.out (is_eq rfl)
        simp only [Act.put, List.setIfInBounds_toArray, List.set_cons_zero, List.set_cons_succ, List.nil_append, List.cons_append]
        refine inv_cons 25 (by rfl) (fun wx n_ s_ hn hcl hsi hG hR hd => ?_) (fun v25 => ?_)
        · have d8 : (Is (fun v => v = .bool true)) v8 wx := dep_get hd 8 (by rfl)
          obtain rfl := d8
          have d24 : (Is (fun v => v = .bool true)) v24 wx := dep_get hd 24 (by rfl)
          obtain rfl := d24
          refine inv_want (by rfl) ?_
          have HG := Lib.hid hG
          clear hG hR hcl hsi hn
          unfold invAt invUpon; go_simp
          exact post_upN (F := Is (fun v => v = .bool true)) HG.out (is_eq rfl)
        simp only [Act.put, List.setIfInBounds_toArray, List.set_cons_zero, List.set_cons_succ, List.nil_append, List.cons_append]
        refine inv_cons 26 (by rfl) (fun wx n_ s_ hn hcl hsi hG hR hd => ?_) (fun v26 => ?_)
        · have d25 : (Is (fun v => v = .bool true)) v25 wx := dep_get hd 25 (by rfl)
          obtain rfl := d25
          exact inv_want (by rfl) (inv_assign (.tmp 90) rfl (post_upN (F := Is (fun v => v = .bool true)) hG (is_eq rfl)))
        simp only [Act.put, List.setIfInBounds_toArray, List.set_cons_zero, List.set_cons_succ, List.nil_append, List.cons_append]
        refine inv_nil (fun wq nq sq hnq hGq hRq hall => ?_)
        obtain ⟨f0, f1, f2, f3, f4, f5, f6, f7, f8, f9, f10, f11, f12, f13, f14, f15, f16, f17, f18, f19, f20, f21, f22, f23, f24, f25, f26, -⟩ := hall
        obtain rfl : v26 = .bool true := f26
        go_wp2_with fail
        go_ret
        exact ⟨rfl, Grow.below hGq.grow BZ (fun _ h => h.elim)⟩
      · obtain ⟨hw, hta⟩ := narrow_law a0 act m l well HHM.out ha HHL.out
        subst hw
        have HT := fun wx (h : SlI wx (.slice a6 l.acts.length c6) l.acts) => implTActs_any 77 l 2 5 _ wx h
        rw [hta] at HT
        clear hta
        go_wp2_with fail
        rw [← HW.out]
        have KXr : KeepB (fun _ => True) ∧ KeepB (fun _ => True) := ⟨keepB_true, keepB_true⟩
        refine wp_region_inv (G := fun s n w_ => RgN (fun _ => False) (fun _ => True) wz w_) (R := RgR (fun _ => False) (fun _ => True))
          (Fs := [Is (fun v => v = .pointer (some ⟨w2.heap.size, 1, none⟩)), Is (fun v => v = .slice a2 n.acts.length c2), Is (fun v => v = .int .i64 (n.acts.length)), Is (fun v => v = .pointer (some ⟨w1.heap.size, 1, none⟩)), Is (fun v => v = .slice (some ⟨g, off, none⟩) t.acts.length cap1), Is (fun v => v = .int .i64 (t.acts.length)), Is (fun v => v = .int .i64 ((t.acts.length : Int) + 1)), Is (fun v => v = .bool true), Is (fun v => v = .bool true), Is (fun v => v = .bool true), Is (fun v => v = .bool false), Is (fun v => v = .bool false), Is (fun v => v = .bool true), Is (fun v => v = .bool true), Is (fun v => v = .agg #[.int .i64 l.who, .slice a6 l.acts.length c6, .int .i64 l.til, .int .i64 l.sl]), Is (fun v => v = .int .i64 (bits .and .i64 a0 act)), Is (fun v => v = .pointer (some ⟨w1.heap.size, 1, none⟩)), Is (fun v => v = .slice (some ⟨g, off, none⟩) t.acts.length cap1), Is (fun v => v = .pointer (some ⟨g, off, none⟩)), Is (fun v => v = .int .i64 a0), Is (fun v => v = .int .i64 act), Is (fun v => v = .int .i64 (bits .and .i64 a0 act)), Is (fun v => v = .bool true), Is (fun v => v = .bool true), Is (fun v => v = .bool true), Is (fun v => v = .bool true), Is (fun v => v = .bool true)])
          (by kernel_rfl) (by kernel_rfl) (fun _ => RgR.refl _) (fun h k => h.trans k) ?_ (fun _ _ => ⟨(Grow.refl _ _).drew, trivial⟩) ?_
        · (repeat' (first | exact lasts_nil | refine lasts_cons ?_ ?_))
          all_goals (first | exact Lasts.is | exact Lasts.any)
        refine inv_cons 0 (by rfl) (fun wx n_ s_ hn hcl hsi hG hR hd => ?_) (fun v0 => ?_)
        · refine inv_want (by rfl) ?_
          have HG := Lib.hid hG
          clear hG hR hcl hsi hn
          unfold invAt invUpon; go_simp
          exact post_upN (F := Is (fun v => v = .pointer (some ⟨w2.heap.size, 1, none⟩))) HG.out (is_eq rfl)
        simp only [Act.put, List.setIfInBounds_toArray, List.set_cons_zero, List.set_cons_succ, List.nil_append, List.cons_append]
        refine inv_cons 1 (by rfl) (fun wx n_ s_ hn hcl hsi hG hR hd => ?_) (fun v1 => ?_)
        · have d0 : (Is (fun v => v = .pointer (some ⟨w2.heap.size, 1, none⟩))) v0 wx := dep_get hd 0 (by rfl)
          obtain rfl := d0
          have xb := (Bk.grow (Kg76) hG.grow (fun h => h)).cell
          refine inv_want (by rfl) ?_
          have HG := Lib.hid hG
          clear hG hR hcl hsi hn
          unfold invAt invUpon; go_simp
          exact post_upN (F := Is (fun v => v = .slice a2 n.acts.length c2)) HG.out (is_eq rfl)
        simp only [Act.put, List.setIfInBounds_toArray, List.set_cons_zero, List.set_cons_succ, List.nil_append, List.cons_append]
        refine inv_cons 2 (by rfl) (fun wx n_ s_ hn hcl hsi hG hR hd => ?_) (fun v2 => ?_)
        · have d1 : (Is (fun v => v = .slice a2 n.acts.length c2)) v1 wx := dep_get hd 1 (by rfl)
          obtain rfl := d1
          refine inv_want (by rfl) ?_
          have HG := Lib.hid hG
          clear hG hR hcl hsi hn
          unfold invAt invUpon; go_simp
          exact post_upN (F := Is (fun v => v = .int .i64 (n.acts.length))) HG.out (is_eq rfl)
        simp only [Act.put, List.setIfInBounds_toArray, List.set_cons_zero, List.set_cons_succ, List.nil_append, List.cons_append]
        refine inv_cons 3 (by rfl) (fun wx n_ s_ hn hcl hsi hG hR hd => ?_) (fun v3 => ?_)
        · refine inv_want (by rfl) ?_
          have HG := Lib.hid hG
          clear hG hR hcl hsi hn
          unfold invAt invUpon; go_simp
          exact post_upN (F := Is (fun v => v = .pointer (some ⟨w1.heap.size, 1, none⟩))) HG.out (is_eq rfl)
        simp only [Act.put, List.setIfInBounds_toArray, List.set_cons_zero, List.set_cons_succ, List.nil_append, List.cons_append]
        refine inv_cons 4 (by rfl) (fun wx n_ s_ hn hcl hsi hG hR hd => ?_) (fun v4 => ?_)
        · have d3 : (Is (fun v => v = .pointer (some ⟨w1.heap.size, 1, none⟩))) v3 wx := dep_get hd 3 (by rfl)
          obtain rfl := d3
          have xb := (Bk.grow (Kt75) hG.grow (fun h => h)).cell
          refine inv_want (by rfl) ?_
          have HG := Lib.hid hG
          clear hG hR hcl hsi hn
          unfold invAt invUpon; go_simp
          exact post_upN (F := Is (fun v => v = .slice (some ⟨g, off, none⟩) t.acts.length cap1)) HG.out (is_eq rfl)
        simp only [Act.put, List.setIfInBounds_toArray, List.set_cons_zero, List.set_cons_succ, List.nil_append, List.cons_append]
        refine inv_cons 5 (by rfl) (fun wx n_ s_ hn hcl hsi hG hR hd => ?_) (fun v5 => ?_)
        · have d4 : (Is (fun v => v = .slice (some ⟨g, off, none⟩) t.acts.length cap1)) v4 wx := dep_get hd 4 (by rfl)
          obtain rfl := d4
          refine inv_want (by rfl) ?_
          have HG := Lib.hid hG
          clear hG hR hcl hsi hn
          unfold invAt invUpon; go_simp
          exact post_upN (F := Is (fun v => v = .int .i64 (t.acts.length))) HG.out (is_eq rfl)
        simp only [Act.put, List.setIfInBounds_toArray, List.set_cons_zero, List.set_cons_succ, List.nil_append, List.cons_append]
        refine inv_cons 6 (by rfl) (fun wx n_ s_ hn hcl hsi hG hR hd => ?_) (fun v6 => ?_)
        · have d5 : (Is (fun v => v = .int .i64 (t.acts.length))) v5 wx := dep_get hd 5 (by rfl)
          obtain rfl := d5
          refine inv_want (by rfl) ?_
          have HG := Lib.hid hG
          clear hG hR hcl hsi hn
          unfold invAt invUpon; go_simp
          exact post_upN (F := Is (fun v => v = .int .i64 ((t.acts.length : Int) + 1))) HG.out (is_eq rfl)
        simp only [Act.put, List.setIfInBounds_toArray, List.set_cons_zero, List.set_cons_succ, List.nil_append, List.cons_append]
        refine inv_cons 7 (by rfl) (fun wx n_ s_ hn hcl hsi hG hR hd => ?_) (fun v7 => ?_)
        · have d2 : (Is (fun v => v = .int .i64 (n.acts.length))) v2 wx := dep_get hd 2 (by rfl)
          obtain rfl := d2
          have d6 : (Is (fun v => v = .int .i64 ((t.acts.length : Int) + 1))) v6 wx := dep_get hd 6 (by rfl)
          obtain rfl := d6
          refine inv_want (by rfl) ?_
          have HG := Lib.hid hG
          clear hG hR hcl hsi hn
          unfold invAt invUpon; go_simp
          exact post_upN (F := Is (fun v => v = .bool true)) HG.out (is_eq rfl)
        simp only [Act.put, List.setIfInBounds_toArray, List.set_cons_zero, List.set_cons_succ, List.nil_append, List.cons_append]
        refine inv_cons 8 (by rfl) (fun wx n_ s_ hn hcl hsi hG hR hd => ?_) (fun v8 => ?_)
        · have d7 : (Is (fun v => v = .bool true)) v7 wx := dep_get hd 7 (by rfl)
          obtain rfl := d7
          exact inv_want (by rfl) (inv_move (.tmp 72) rfl (post_upN (F := Is (fun v => v = .bool true)) hG (is_eq rfl)))
        simp only [Act.put, List.setIfInBounds_toArray, List.set_cons_zero, List.set_cons_succ, List.nil_append, List.cons_append]
        refine inv_cons 9 (by rfl) (fun wx n_ s_ hn hcl hsi hG hR hd => ?_) (fun v9 => ?_)
        · have dg : (Is (fun v => v = .bool true)) v8 wx := dep_get hd 8 (by rfl)
          obtain rfl := dg
          exact inv_want (by rfl) (inv_move (.tmp 10) rfl (post_upN (F := Is (fun v => v = .bool true)) hG (is_eq rfl)))
        simp only [Act.put, List.setIfInBounds_toArray, List.set_cons_zero, List.set_cons_succ, List.nil_append, List.cons_append]
        refine inv_cons 10 (by rfl) (fun wx n_ s_ hn hcl hsi hG hR hd => ?_) (fun v10 => ?_)
        · have dg : (Is (fun v => v = .bool true)) v8 wx := dep_get hd 8 (by rfl)
          obtain rfl := dg
          have d9 : (Is (fun v => v = .bool true)) v9 wx := dep_get hd 9 (by rfl)
          obtain rfl := d9
          refine inv_want (by rfl) ?_
          have HG := Lib.hid hG
          clear hG hR hcl hsi hn
          unfold invAt invUpon; go_simp
          exact post_upN (F := Is (fun v => v = .bool false)) HG.out (is_eq rfl)
        simp only [Act.put, List.setIfInBounds_toArray, List.set_cons_zero, List.set_cons_succ, List.nil_append, List.cons_append]
        refine inv_cons 11 (by rfl) (fun wx n_ s_ hn hcl hsi hG hR hd => ?_) (fun v11 => ?_)
        · have dg : (Is (fun v => v = .bool true)) v8 wx := dep_get hd 8 (by rfl)
          obtain rfl := dg
          have d10 : (Is (fun v => v = .bool false)) v10 wx := dep_get hd 10 (by rfl)
          obtain rfl := d10
          exact inv_want (by rfl) (inv_move (.tmp 75) rfl (post_upN (F := Is (fun v => v = .bool false)) hG (is_eq rfl)))
        simp only [Act.put, List.setIfInBounds_toArray, List.set_cons_zero, List.set_cons_succ, List.nil_append, List.cons_append]
        refine inv_cons 12 (by rfl) (fun wx n_ s_ hn hcl hsi hG hR hd => ?_) (fun v12 => ?_)
        · have dg : (Is (fun v => v = .bool false)) v11 wx := dep_get hd 11 (by rfl)
          obtain rfl := dg
          exact inv_want (by rfl) (inv_move (.tmp 12) rfl (post_upN (F := Is (fun v => v = .bool true)) hG (is_eq rfl)))
        simp only [Act.put, List.setIfInBounds_toArray, List.set_cons_zero, List.set_cons_succ, List.nil_append, List.cons_append]
        refine inv_cons 13 (by rfl) (fun wx n_ s_ hn hcl hsi hG hR hd => ?_) (fun v13 => ?_)
        · have dg : (Is (fun v => v = .bool false)) v11 wx := dep_get hd 11 (by rfl)
          obtain rfl := dg
          have d12 : (Is (fun v => v = .bool true)) v12 wx := dep_get hd 12 (by rfl)
          obtain rfl := d12
          exact inv_want (by rfl) (inv_move (.tmp 77) rfl (post_upN (F := Is (fun v => v = .bool true)) hG (is_eq rfl)))
        simp only [Act.put, List.setIfInBounds_toArray, List.set_cons_zero, List.set_cons_succ, List.nil_append, List.cons_append]
        refine inv_cons 14 (by rfl) (fun wx n_ s_ hn hcl hsi hG hR hd => ?_) (fun v14 => ?_)
        · have dg : (Is (fun v => v = .bool true)) v13 wx := dep_get hd 13 (by rfl)
          obtain rfl := dg
          have xb := (Bk.grow (Kl0) hG.grow (fun h => h)).cell
          refine inv_want (by rfl) ?_
          have HG := Lib.hid hG
          clear hG hR hcl hsi hn
          unfold invAt invUpon; go_simp
          exact post_upN (F := Is (fun v => v = .agg #[.int .i64 l.who, .slice a6 l.acts.length c6, .int .i64 l.til, .int .i64 l.sl])) HG.out (is_eq rfl)
        simp only [Act.put, List.setIfInBounds_toArray, List.set_cons_zero, List.set_cons_succ, List.nil_append, List.cons_append]
        refine inv_cons 15 (by rfl) (fun wx n_ s_ hn hcl hsi hG hR hd => ?_) (fun v15 => ?_)
        · have dg : (Is (fun v => v = .bool true)) v13 wx := dep_get hd 13 (by rfl)
          obtain rfl := dg
          have d14 : (Is (fun v => v = .agg #[.int .i64 l.who, .slice a6 l.acts.length c6, .int .i64 l.til, .int .i64 l.sl])) v14 wx := dep_get hd 14 (by rfl)
          obtain rfl := d14
          refine inv_want (by rfl) ?_
          have HG := Lib.hid hG
          clear hG hR hcl hsi hn
          unfold invAt invUpon; go_simp
          refine (HT wx (SlI.below OZ.out (Grow.below0 HG.out.grow))).mono ?_
          rintro e w' ⟨rfl, hb⟩
          exact ⟨_, rfl, post_newN (F := Is (fun v => v = .int .i64 (bits .and .i64 a0 act))) KXr HG.out hb (is_eq rfl)⟩
        simp only [Act.put, List.setIfInBounds_toArray, List.set_cons_zero, List.set_cons_succ, List.nil_append, List.cons_append]
        refine inv_cons 16 (by rfl) (fun wx n_ s_ hn hcl hsi hG hR hd => ?_) (fun v16 => ?_)
        · have dg : (Is (fun v => v = .bool true)) v13 wx := dep_get hd 13 (by rfl)
          obtain rfl := dg
          refine inv_want (by rfl) ?_
          have HG := Lib.hid hG
          clear hG hR hcl hsi hn
          unfold invAt invUpon; go_simp
          exact post_upN (F := Is (fun v => v = .pointer (some ⟨w1.heap.size, 1, none⟩))) HG.out (is_eq rfl)
        simp only [Act.put, List.setIfInBounds_toArray, List.set_cons_zero, List.set_cons_succ, List.nil_append, List.cons_append]
        refine inv_cons 17 (by rfl) (fun wx n_ s_ hn hcl hsi hG hR hd => ?_) (fun v17 => ?_)
        · have dg : (Is (fun v => v = .bool true)) v13 wx := dep_get hd 13 (by rfl)
          obtain rfl := dg
          have d16 : (Is (fun v => v = .pointer (some ⟨w1.heap.size, 1, none⟩))) v16 wx := dep_get hd 16 (by rfl)
          obtain rfl := d16
          have xb := (Bk.grow (Kt75) hG.grow (fun h => h)).cell
          refine inv_want (by rfl) ?_
          have HG := Lib.hid hG
          clear hG hR hcl hsi hn
          unfold invAt invUpon; go_simp
          exact post_upN (F := Is (fun v => v = .slice (some ⟨g, off, none⟩) t.acts.length cap1)) HG.out (is_eq rfl)
        simp only [Act.put, List.setIfInBounds_toArray, List.set_cons_zero, List.set_cons_succ, List.nil_append, List.cons_append]
        refine inv_cons 18 (by rfl) (fun wx n_ s_ hn hcl hsi hG hR hd => ?_) (fun v18 => ?_)
        · have dg : (Is (fun v => v = .bool true)) v13 wx := dep_get hd 13 (by rfl)
          obtain rfl := dg
          have d17 : (Is (fun v => v = .slice (some ⟨g, off, none⟩) t.acts.length cap1)) v17 wx := dep_get hd 17 (by rfl)
          obtain rfl := d17
          refine inv_want (by rfl) ?_
          have HG := Lib.hid hG
          clear hG hR hcl hsi hn
          unfold invAt invUpon; go_simp
          exact post_upN (F := Is (fun v => v = .pointer (some ⟨g, off, none⟩))) HG.out (is_eq rfl)
        simp only [Act.put, List.setIfInBounds_toArray, List.set_cons_zero, List.set_cons_succ, List.nil_append, List.cons_append]
        refine inv_cons 19 (by rfl) (fun wx n_ s_ hn hcl hsi hG hR hd => ?_) (fun v19 => ?_)
        · have dg : (Is (fun v => v = .bool true)) v13 wx := dep_get hd 13 (by rfl)
          obtain rfl := dg
          have d18 : (Is (fun v => v = .pointer (some ⟨g, off, none⟩))) v18 wx := dep_get hd 18 (by rfl)
          obtain rfl := d18
          have xb := cell_grow (C0) hG.grow (fun h => h)
          refine inv_want (by rfl) ?_
          have HG := Lib.hid hG
          clear hG hR hcl hsi hn
          unfold invAt invUpon; go_simp
          exact post_upN (F := Is (fun v => v = .int .i64 a0)) HG.out (is_eq rfl)
        simp only [Act.put, List.setIfInBounds_toArray, List.set_cons_zero, List.set_cons_succ, List.nil_append, List.cons_append]
        refine inv_cons 20 (by rfl) (fun wx n_ s_ hn hcl hsi hG hR hd => ?_) (fun v20 => ?_)
        · have dg : (Is (fun v => v = .bool true)) v13 wx := dep_get hd 13 (by rfl)
          obtain rfl := dg
          exact inv_want (by rfl) (inv_move (.tmp 4) rfl (post_upN (F := Is (fun v => v = .int .i64 act)) hG (is_eq rfl)))
        simp only [Act.put, List.setIfInBounds_toArray, List.set_cons_zero, List.set_cons_succ, List.nil_append, List.cons_append]
        refine inv_cons 21 (by rfl) (fun wx n_ s_ hn hcl hsi hG hR hd => ?_) (fun v21 => ?_)
        · have dg : (Is (fun v => v = .bool true)) v13 wx := dep_get hd 13 (by rfl)
          obtain rfl := dg
          have d19 : (Is (fun v => v = .int .i64 a0)) v19 wx := dep_get hd 19 (by rfl)
          obtain rfl := d19
          have d20 : (Is (fun v => v = .int .i64 act)) v20 wx := dep_get hd 20 (by rfl)
          obtain rfl := d20
          refine inv_want (by rfl) ?_
          have HG := Lib.hid hG
          clear hG hR hcl hsi hn
          unfold invAt invUpon; go_simp
          exact post_upN (F := Is (fun v => v = .int .i64 (bits .and .i64 a0 act))) HG.out (is_eq rfl)
        simp only [Act.put, List.setIfInBounds_toArray, List.set_cons_zero, List.set_cons_succ, List.nil_append, List.cons_append]
        refine inv_cons 22 (by rfl) (fun wx n_ s_ hn hcl hsi hG hR hd => ?_) (fun v22 => ?_)
        · have dg : (Is (fun v => v = .bool true)) v13 wx := dep_get hd 13 (by rfl)
          obtain rfl := dg
          have d15 : (Is (fun v => v = .int .i64 (bits .and .i64 a0 act))) v15 wx := dep_get hd 15 (by rfl)
          obtain rfl := d15
          have d21 : (Is (fun v => v = .int .i64 (bits .and .i64 a0 act))) v21 wx := dep_get hd 21 (by rfl)
          obtain rfl := d21
          refine inv_want (by rfl) ?_
          have HG := Lib.hid hG
          clear hG hR hcl hsi hn
          unfold invAt invUpon; go_simp
          exact post_upN (F := Is (fun v => v = .bool true)) HG.out (is_eq rfl)
        simp only [Act.put, List.setIfInBounds_toArray, List.set_cons_zero, List.set_cons_succ, List.nil_append, List.cons_append]
        refine inv_cons 23 (by rfl) (fun wx n_ s_ hn hcl hsi hG hR hd => ?_) (fun v23 => ?_)
        · have dg : (Is (fun v => v = .bool false)) v11 wx := dep_get hd 11 (by rfl)
          obtain rfl := dg
          have d13 : (Is (fun v => v = .bool true)) v13 wx := dep_get hd 13 (by rfl)
          obtain rfl := d13
          have d22 : (Is (fun v => v = .bool true)) v22 wx := dep_get hd 22 (by rfl)
          obtain rfl := d22
          refine inv_want (by rfl) ?_
          have HG := Lib.hid hG
          clear hG hR hcl hsi hn
          unfold invAt invUpon; go_simp
          exact post_upN (F := Is (fun v => v = .bool true)) HG.out (is_eq rfl)
        simp only [Act.put, List.setIfInBounds_toArray, List.set_cons_zero, List.set_cons_succ, List.nil_append, List.cons_append]
        refine inv_cons 24 (by rfl) (fun wx n_ s_ hn hcl hsi hG hR hd => ?_) (fun v24 => ?_)
        · have dg : (Is (fun v => v = .bool true)) v8 wx := dep_get hd 8 (by rfl)
          obtain rfl := dg
          have d11 : (Is (fun v => v = .bool false)) v11 wx := dep_get hd 11 (by rfl)
          obtain rfl := d11
          have d23 : (Is (fun v => v = .bool true)) v23 wx := dep_get hd 23 (by rfl)
          obtain rfl := d23
          refine inv_want (by rfl) ?_
          have HG := Lib.hid hG
          clear hG hR hcl hsi hn
          unfold invAt invUpon; go_simp
          exact post_upN (F := Is (fun v => v = .bool true)) HG.out (is_eq rfl)
        simp only [Act.put, List.setIfInBounds_toArray, List.set_cons_zero, List.set_cons_succ, List.nil_append, List.cons_append]
        refine inv_cons 25 (by rfl) (fun wx n_ s_ hn hcl hsi hG hR hd => ?_) (fun v25 => ?_)
        · have d8 : (Is (fun v => v = .bool true)) v8 wx := dep_get hd 8 (by rfl)
          obtain rfl := d8
          have d24 : (Is (fun v => v = .bool true)) v24 wx := dep_get hd 24 (by rfl)
          obtain rfl := d24
          refine inv_want (by rfl) ?_
          have HG := Lib.hid hG
          clear hG hR hcl hsi hn
          unfold invAt invUpon; go_simp
          exact post_upN (F := Is (fun v => v = .bool true)) HG.out (is_eq rfl)
        simp only [Act.put, List.setIfInBounds_toArray, List.set_cons_zero, List.set_cons_succ, List.nil_append, List.cons_append]
        refine inv_cons 26 (by rfl) (fun wx n_ s_ hn hcl hsi hG hR hd => ?_) (fun v26 => ?_)
        · have d25 : (Is (fun v => v = .bool true)) v25 wx := dep_get hd 25 (by rfl)
          obtain rfl := d25
          exact inv_want (by rfl) (inv_assign (.tmp 90) rfl (post_upN (F := Is (fun v => v = .bool true)) hG (is_eq rfl)))
        simp only [Act.put, List.setIfInBounds_toArray, List.set_cons_zero, List.set_cons_succ, List.nil_append, List.cons_append]
        refine inv_nil (fun wq nq sq hnq hGq hRq hall => ?_)
        obtain ⟨f0, f1, f2, f3, f4, f5, f6, f7, f8, f9, f10, f11, f12, f13, f14, f15, f16, f17, f18, f19, f20, f21, f22, f23, f24, f25, f26, -⟩ := hall
        obtain rfl : v26 = .bool true := f26
        go_wp2_with fail
        go_ret
        exact ⟨rfl, Grow.below hGq.grow BZ (fun _ h => h.elim)⟩
end Go.Proofs.Ytnkfhfhioknjeaa
