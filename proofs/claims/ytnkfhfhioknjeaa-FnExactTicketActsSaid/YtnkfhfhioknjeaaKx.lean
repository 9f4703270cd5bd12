/-
  Exact laws on seals, walked: true for every input. Condition: the row of acts can be read.
-/
import Derived.Test.YtnkfhfhioknjeaaKe
import Derived.Test.YtnkfhfhioknjeaaKa
set_option linter.unusedSimpArgs false
set_option linter.unusedVariables false
namespace Go.Proofs.Ytnkfhfhioknjeaa
open Go.RowKit
theorem bb_al {w w1 : World} (h : Below w.heap.size w w1) (o : Obj) : Below w.heap.size w (w1.alloc o) := Below.al h o

set_option maxRecDepth 100000 in
set_option maxHeartbeats 3200000 in
theorem exactTicketSeal_walk (key : Int) (t : Tk) (v : Value) (w : World) (h : SlI w v t.acts) : Calls Try.prog 3 #[.int .i64 key, .agg #[.int .i64 t.who, v, .int .i64 t.til, .int .i64 t.sl]] w fun e w' => e = .returned (.bool true) ∧ Below w.heap.size w w' := by
  obtain ⟨a, cap, rfl, h1, h2⟩ := SlF.shape h
  unfold maxLen at h2
  have k0 := Bk.new (w := w) (vs := #[.int .i64 t.who, .slice a t.acts.length cap, .int .i64 t.til, .int .i64 t.sl]) (t := 24)
  have hB0 : Below w.heap.size w (w.alloc (.cells #[.int .i64 t.who, .slice a t.acts.length cap, .int .i64 t.til, .int .i64 t.sl] 24)) := Below.al (Below.refl _ _) _
  have H0 := Lib.hid (SlI.below h hB0)
  clear h
  have x0 := k0.cell
  by_cases hl : (1048576 : Int) < t.acts.length
  · have HS := fun wx h => szTk_any t 1048576 (.slice a t.acts.length cap) wx h (by omega) (by omega)
    rw [if_pos hl] at HS
    go_enter Try.func3, Try.ntmps3
    go_wp2_with fail
    refine (HS _ H0.out).mono ?_
    rintro e w1 ⟨rfl, b1⟩
    go_wp2_with fail
    go_ret
    exact ⟨rfl, Below.via b1 hB0⟩
  · have HS := fun wx h => szTk_any t 1048576 (.slice a t.acts.length cap) wx h (by omega) (by omega)
    rw [if_neg hl] at HS
    have hlen : t.acts.length ≤ 4194304 := by omega
    have hn0 : decide (1048576 - (t.acts.length : Int) < 0) = false := by simp; omega
    go_enter Try.func3, Try.ntmps3
    go_wp2_with fail
    refine (HS _ H0.out).mono ?_
    rintro e w1 ⟨rfl, b1⟩
    have H1 := Lib.hid (SlI.below H0.out b1)
    have hB1 := Below.via b1 hB0
    replace k0 := k0.below b1
    clear x0 HS H0 hB0 b1
    have x0 := k0.cell
    go_wp2_with fail
    refine (toTk_any t _ _ H1.out hlen).mono ?_
    rintro e w2 ⟨u, rfl, o, b2⟩
    have U2 := Lib.hid (own_sl o)
    have H2 := Lib.hid (SlI.below H1.out b2)
    have hB2 := Below.via b2 hB1
    replace k0 := k0.below b2
    clear x0 H1 hB1 b2 o
    have x0 := k0.cell
    go_wp2_with fail
    refine (specSeal_any key t.who t.til t.sl t.acts _ _ U2.out).mono ?_
    rintro e w3 ⟨rfl, b3⟩
    have H3 := Lib.hid (SlI.below H2.out b3)
    have hB3 := Below.via b3 hB2
    replace k0 := k0.below b3
    clear x0 H2 hB2 b3 U2
    have x0 := k0.cell
    go_wp2_with fail
    refine (toTk_any t _ _ H3.out hlen).mono ?_
    rintro e w4 ⟨u2, rfl, o, b4⟩
    obtain ⟨ua, uc, rfl, _, _⟩ := SlF.shape (own_sl o)
    have hA4 : Below w4.heap.size w4 (w4.alloc (.cells #[.int .i64 t.who, .slice ua t.acts.length uc, .int .i64 t.til, .int .i64 t.sl] 27)) := Below.al (Below.refl _ _) _
    have U4 := Lib.hid (SlI.below (own_sl o) hA4)
    have H4 := Lib.hid (SlI.below (SlI.below H3.out b4) hA4)
    have hB4 := Below.via hA4 (Below.via b4 hB3)
    replace k0 := (k0.below b4).alloc (.cells #[.int .i64 t.who, .slice ua t.acts.length uc, .int .i64 t.til, .int .i64 t.sl] 27)
    have k1 := Bk.new (w := w4) (vs := #[.int .i64 t.who, .slice ua t.acts.length uc, .int .i64 t.til, .int .i64 t.sl]) (t := 27)
    clear x0 H3 hB3 b4 o hA4
    have x0 := k0.cell
    have x1 := k1.cell
    go_wp2_with fail
    refine (implSeal_any key t.who t.til t.sl t.acts _ _ U4.out).mono ?_
    rintro e w5 ⟨rfl, b5⟩
    have H5 := Lib.hid (SlI.below H4.out b5)
    have U5 := Lib.hid (SlI.below U4.out b5)
    have hB5 := Below.via b5 hB4
    replace k0 := k0.below b5
    replace k1 := k1.below b5
    clear x0 x1 H4 hB4 U4 b5
    have x0 := k0.cell
    have x1 := k1.cell
    have hne : ∀ z : Int, (z != z) = false := fun z => by simp
    have hrr := eqTk_refl t
    go_wp2_with fail
    go_region_held3 (fun w' => (∀ o, w'.cell? ⟨w.heap.size, o, none⟩ = (#[.int .i64 t.who, .slice a t.acts.length cap, .int .i64 t.til, .int .i64 t.sl] : Array Value)[o]?) ∧ (∀ o, w'.cell? ⟨w4.heap.size, o, none⟩ = (#[.int .i64 t.who, .slice ua t.acts.length uc, .int .i64 t.til, .int .i64 t.sl] : Array Value)[o]?) ∧ Below w5.heap.size w5 w') (exact keep2 k0 k1 (by (repeat' first | (with_reducible exact Below.refl _ _) | (with_reducible refine Below.rd (by assumption) ?_ ?_) | (with_reducible refine Below.via (by assumption) ?_) | (with_reducible refine Below.al ?_ _) | (with_reducible refine Below.dn ?_ _) | (with_reducible refine Below.dr ?_) | (with_reducible refine Below.setCell ?_ ?_ _) | (dsimp only; omega) | (simp only [World.size_alloc, World.size_drew]; omega) | (simp; done) | omega)))
      (first | (go_at_call 13; (with_reducible refine (toTk_any t _ _ ?_ hlen).mono ?_); (refine SlI.below H5.out ?_; (repeat' first | (with_reducible exact Below.refl _ _) | (with_reducible refine Below.rd (by assumption) ?_ ?_) | (with_reducible refine Below.via (by assumption) ?_) | (with_reducible refine Below.al ?_ _) | (with_reducible refine Below.dn ?_ _) | (with_reducible refine Below.dr ?_) | (with_reducible refine Below.setCell ?_ ?_ _) | (dsimp only; omega) | (simp only [World.size_alloc, World.size_drew]; omega) | (simp; done) | omega)); rintro e w6 ⟨u6, rfl, o6, b6⟩) | (go_at_call 15; (with_reducible refine (eqTk_any t t _ _ _ ?_ ?_).mono ?_); (refine SlI.below U5.out ?_; (repeat' first | (with_reducible exact Below.refl _ _) | (with_reducible refine Below.rd (by assumption) ?_ ?_) | (with_reducible refine Below.via (by assumption) ?_) | (with_reducible refine Below.al ?_ _) | (with_reducible refine Below.dn ?_ _) | (with_reducible refine Below.dr ?_) | (with_reducible refine Below.setCell ?_ ?_ _) | (dsimp only; omega) | (simp only [World.size_alloc, World.size_drew]; omega) | (simp; done) | omega)); (exact own_sl o6); rw [hrr]; rintro e w7 ⟨rfl, b7⟩))
    go_wp2_with fail
    go_ret
    refine ⟨rfl, ?_⟩
    (repeat' first | (with_reducible exact Below.refl _ _) | (with_reducible refine Below.rd (by assumption) ?_ ?_) | (with_reducible refine Below.via (by assumption) ?_) | (with_reducible refine Below.al ?_ _) | (with_reducible refine Below.dn ?_ _) | (with_reducible refine Below.dr ?_) | (with_reducible refine Below.setCell ?_ ?_ _) | (dsimp only; omega) | (simp only [World.size_alloc, World.size_drew]; omega) | (simp; done) | omega)

set_option maxRecDepth 100000 in
set_option maxHeartbeats 3200000 in
theorem exactTicketActs_walk (key : Int) (t : Tk) (v : Value) (who : Int) (now : Int) (w : World) (h : SlI w v t.acts) : Calls Try.prog 9 #[.int .i64 key, .agg #[.int .i64 t.who, v, .int .i64 t.til, .int .i64 t.sl], .int .i64 who, .int .i64 now] w fun e w' => e = .returned (.bool true) ∧ Below w.heap.size w w' := by
  obtain ⟨a, cap, rfl, h1, h2⟩ := SlF.shape h
  unfold maxLen at h2
  have k0 := Bk.new (w := w) (vs := #[.int .i64 t.who, .slice a t.acts.length cap, .int .i64 t.til, .int .i64 t.sl]) (t := 24)
  have hB0 : Below w.heap.size w (w.alloc (.cells #[.int .i64 t.who, .slice a t.acts.length cap, .int .i64 t.til, .int .i64 t.sl] 24)) := Below.al (Below.refl _ _) _
  have H0 := Lib.hid (SlI.below h hB0)
  clear h
  have x0 := k0.cell
  by_cases hl : (1048576 : Int) < t.acts.length
  · have HS := fun wx h => szTk_any t 1048576 (.slice a t.acts.length cap) wx h (by omega) (by omega)
    rw [if_pos hl] at HS
    go_enter Try.func9, Try.ntmps9
    go_wp2_with fail
    refine (HS _ H0.out).mono ?_
    rintro e w1 ⟨rfl, b1⟩
    go_wp2_with fail
    go_ret
    exact ⟨rfl, Below.via b1 hB0⟩
  · have HS := fun wx h => szTk_any t 1048576 (.slice a t.acts.length cap) wx h (by omega) (by omega)
    rw [if_neg hl] at HS
    have hlen : t.acts.length ≤ 4194304 := by omega
    have hn0 : decide (1048576 - (t.acts.length : Int) < 0) = false := by simp; omega
    go_enter Try.func9, Try.ntmps9
    go_wp2_with fail
    refine (HS _ H0.out).mono ?_
    rintro e w1 ⟨rfl, b1⟩
    have H1 := Lib.hid (SlI.below H0.out b1)
    have hB1 := Below.via b1 hB0
    replace k0 := k0.below b1
    clear x0 HS H0 hB0 b1
    have x0 := k0.cell
    go_wp2_with fail
    refine (toTk_any t _ _ H1.out hlen).mono ?_
    rintro e w2 ⟨u, rfl, o, b2⟩
    have U2 := Lib.hid (own_sl o)
    have H2 := Lib.hid (SlI.below H1.out b2)
    have hB2 := Below.via b2 hB1
    replace k0 := k0.below b2
    clear x0 H1 hB1 b2 o
    have x0 := k0.cell
    go_wp2_with fail
    refine (specTActs_any key t who now _ _ U2.out).mono ?_
    rintro e w3 ⟨rfl, b3⟩
    have H3 := Lib.hid (SlI.below H2.out b3)
    have hB3 := Below.via b3 hB2
    replace k0 := k0.below b3
    clear x0 H2 hB2 b3 U2
    have x0 := k0.cell
    go_wp2_with fail
    refine (toTk_any t _ _ H3.out hlen).mono ?_
    rintro e w4 ⟨u2, rfl, o, b4⟩
    obtain ⟨ua, uc, rfl, _, _⟩ := SlF.shape (own_sl o)
    have hA4 : Below w4.heap.size w4 (w4.alloc (.cells #[.int .i64 t.who, .slice ua t.acts.length uc, .int .i64 t.til, .int .i64 t.sl] 27)) := Below.al (Below.refl _ _) _
    have U4 := Lib.hid (SlI.below (own_sl o) hA4)
    have H4 := Lib.hid (SlI.below (SlI.below H3.out b4) hA4)
    have hB4 := Below.via hA4 (Below.via b4 hB3)
    replace k0 := (k0.below b4).alloc (.cells #[.int .i64 t.who, .slice ua t.acts.length uc, .int .i64 t.til, .int .i64 t.sl] 27)
    have k1 := Bk.new (w := w4) (vs := #[.int .i64 t.who, .slice ua t.acts.length uc, .int .i64 t.til, .int .i64 t.sl]) (t := 27)
    clear x0 H3 hB3 b4 o hA4
    have x0 := k0.cell
    have x1 := k1.cell
    go_wp2_with fail
    refine (implTActs_any key t who now _ _ U4.out).mono ?_
    rintro e w5 ⟨rfl, b5⟩
    have H5 := Lib.hid (SlI.below H4.out b5)
    have U5 := Lib.hid (SlI.below U4.out b5)
    have hB5 := Below.via b5 hB4
    replace k0 := k0.below b5
    replace k1 := k1.below b5
    clear x0 x1 H4 hB4 U4 b5
    have x0 := k0.cell
    have x1 := k1.cell
    have hne : ∀ z : Int, (z != z) = false := fun z => by simp
    have hrr := eqTk_refl t
    go_wp2_with fail
    go_region_held3 (fun w' => (∀ o, w'.cell? ⟨w.heap.size, o, none⟩ = (#[.int .i64 t.who, .slice a t.acts.length cap, .int .i64 t.til, .int .i64 t.sl] : Array Value)[o]?) ∧ (∀ o, w'.cell? ⟨w4.heap.size, o, none⟩ = (#[.int .i64 t.who, .slice ua t.acts.length uc, .int .i64 t.til, .int .i64 t.sl] : Array Value)[o]?) ∧ Below w5.heap.size w5 w') (exact keep2 k0 k1 (by (repeat' first | (with_reducible exact Below.refl _ _) | (with_reducible refine Below.rd (by assumption) ?_ ?_) | (with_reducible refine Below.via (by assumption) ?_) | (with_reducible refine Below.al ?_ _) | (with_reducible refine Below.dn ?_ _) | (with_reducible refine Below.dr ?_) | (with_reducible refine Below.setCell ?_ ?_ _) | (dsimp only; omega) | (simp only [World.size_alloc, World.size_drew]; omega) | (simp; done) | omega)))
      (first | (go_at_call 13; (with_reducible refine (toTk_any t _ _ ?_ hlen).mono ?_); (refine SlI.below H5.out ?_; (repeat' first | (with_reducible exact Below.refl _ _) | (with_reducible refine Below.rd (by assumption) ?_ ?_) | (with_reducible refine Below.via (by assumption) ?_) | (with_reducible refine Below.al ?_ _) | (with_reducible refine Below.dn ?_ _) | (with_reducible refine Below.dr ?_) | (with_reducible refine Below.setCell ?_ ?_ _) | (dsimp only; omega) | (simp only [World.size_alloc, World.size_drew]; omega) | (simp; done) | omega)); rintro e w6 ⟨u6, rfl, o6, b6⟩) | (go_at_call 15; (with_reducible refine (eqTk_any t t _ _ _ ?_ ?_).mono ?_); (refine SlI.below U5.out ?_; (repeat' first | (with_reducible exact Below.refl _ _) | (with_reducible refine Below.rd (by assumption) ?_ ?_) | (with_reducible refine Below.via (by assumption) ?_) | (with_reducible refine Below.al ?_ _) | (with_reducible refine Below.dn ?_ _) | (with_reducible refine Below.dr ?_) | (with_reducible refine Below.setCell ?_ ?_ _) | (dsimp only; omega) | (simp only [World.size_alloc, World.size_drew]; omega) | (simp; done) | omega)); (exact own_sl o6); rw [hrr]; rintro e w7 ⟨rfl, b7⟩))
    go_wp2_with fail
    go_ret
    refine ⟨rfl, ?_⟩
    (repeat' first | (with_reducible exact Below.refl _ _) | (with_reducible refine Below.rd (by assumption) ?_ ?_) | (with_reducible refine Below.via (by assumption) ?_) | (with_reducible refine Below.al ?_ _) | (with_reducible refine Below.dn ?_ _) | (with_reducible refine Below.dr ?_) | (with_reducible refine Below.setCell ?_ ?_ _) | (dsimp only; omega) | (simp only [World.size_alloc, World.size_drew]; omega) | (simp; done) | omega)
end Go.Proofs.Ytnkfhfhioknjeaa
