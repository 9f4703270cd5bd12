/-
  The exact laws on labels, walked: each returns true for every input. No condition.
-/
import Derived.Test.YtmjjeiadoajkmaaL
set_option linter.unusedSimpArgs false
set_option linter.unusedVariables false
namespace Go.Proofs.Ytmjjeiadoajkmaa
open Go.RowKit

/-- The two ways to say 'below' agree: areas are at most 31. -/
theorem areas_agree : ∀ a, a < 32 → ∀ b, b < 32 → ((a ^^^ (a &&& b) == 0) = (a &&& b == a)) := by decide +kernel
theorem below_agree (l a m b : Int) : iBel l a m b = sBel l a m b := by
  unfold iBel sBel belB
  cases h1 : labValid l a
  · simp
  cases h2 : labValid m b
  · simp
  simp only [labValid, inR, Bool.and_eq_true, decide_eq_true_eq] at h1 h2
  obtain ⟨⟨_, _⟩, ha0, ha1⟩ := h1
  obtain ⟨⟨_, _⟩, hb0, hb1⟩ := h2
  obtain ⟨x, rfl⟩ := Int.eq_ofNat_of_zero_le ha0
  obtain ⟨y, rfl⟩ := Int.eq_ofNat_of_zero_le hb0
  rw [bits_andNot_nat x y (by omega) (by omega), bits_and_nat x y (by omega) (by omega)]
  have := areas_agree x (by omega) y (by omega)
  have e1 : (((x ^^^ (x &&& y) : Nat) : Int) == 0) = (x ^^^ (x &&& y) == 0) := by rw [Bool.eq_iff_iff]; simp
  have e2 : (((x &&& y : Nat) : Int) == (x : Int)) = (x &&& y == x) := by rw [Bool.eq_iff_iff]; simp; omega
  rw [e1, e2, this]
  simp

theorem exactLabelValid_walk (l a : Int) (w : World) : Calls Try.prog 3 #[.agg #[.int .i64 l, .int .i64 a]] w fun e w' => e = .returned (.bool true) ∧ Below w.heap.size w w' := by
  have k1 := Bk.init1 (w := w) (vs := #[.int .i64 l, .int .i64 a]) (t := 23); have x1 := k1.cell; have f1 := k1.free
  go_enter Try.func3, Try.ntmps3
  go_wp2_with (first | (go_at_call 12; refine (toLabel_any _ _ _).mono ?_; rintro e w' ⟨rfl, hb⟩; replace k1 := k1.below hb; clear x1 f1; have x1 := k1.cell; have f1 := k1.free) | (go_at_call 11; refine (specLabelValid_any _ _ _).mono ?_; rintro e w' ⟨rfl, hb⟩; replace k1 := k1.below hb; clear x1 f1; have x1 := k1.cell; have f1 := k1.free) | (go_at_call 13; refine (implLabelValid_any _ _ _).mono ?_; rintro e w' ⟨rfl, hb⟩; replace k1 := k1.below hb; clear x1 f1; have x1 := k1.cell; have f1 := k1.free))
  go_ret
  refine ⟨rfl, ?_⟩
  (repeat' first | (with_reducible exact Below.refl _ _) | (with_reducible refine Below.via (by assumption) ?_) | (with_reducible refine Below.al ?_ _) | (with_reducible refine Below.dn ?_ _) | (with_reducible refine Below.dr ?_) | (with_reducible refine Below.setCell ?_ ?_ _) | (dsimp only; omega) | (simp only [World.size_alloc, World.size_drew]; omega) | (simp; done) | omega)

theorem exactLabelBelow_walk (l a m b : Int) (w : World) : Calls Try.prog 4 #[.agg #[.int .i64 l, .int .i64 a], .agg #[.int .i64 m, .int .i64 b]] w fun e w' => e = .returned (.bool true) ∧ Below w.heap.size w w' := by
  obtain ⟨k1, k2⟩ := Bk.init2 (w := w) (vs := #[.int .i64 l, .int .i64 a]) (us := #[.int .i64 m, .int .i64 b]) (t := 23) (s := 23); have x1 := k1.cell; have x2 := k2.cell
  clear x1 x2
  have hc := fun wx => implBelow_any l a m b wx
  rw [below_agree] at hc
  go_enter Try.func4, Try.ntmps4
  go_wp2_with fail
  go_region_held3 (fun w' => (∀ o, w'.cell? ⟨w.heap.size, o, none⟩ = (#[.int .i64 l, .int .i64 a] : Array Value)[o]?) ∧ (∀ o, w'.cell? ⟨w.heap.size + 1, o, none⟩ = (#[.int .i64 m, .int .i64 b] : Array Value)[o]?) ∧ Below ((w.alloc (.cells #[.int .i64 l, .int .i64 a] 23)).alloc (.cells #[.int .i64 m, .int .i64 b] 23)).heap.size ((w.alloc (.cells #[.int .i64 l, .int .i64 a] 23)).alloc (.cells #[.int .i64 m, .int .i64 b] 23)) w') (exact keep2 k1 k2 (by (repeat' first | (with_reducible exact Below.refl _ _) | (with_reducible refine Below.via (by assumption) ?_) | (with_reducible refine Below.al ?_ _) | (with_reducible refine Below.dn ?_ _) | (with_reducible refine Below.dr ?_) | (with_reducible refine Below.setCell ?_ ?_ _) | (dsimp only; omega) | (simp only [World.size_alloc, World.size_drew]; omega) | (simp; done) | omega)))
    (first | (go_at_call 12; refine (toLabel_any _ _ _).mono ?_; rintro e w' ⟨rfl, hb⟩; have hz := hb.size; (try simp only [World.size_alloc, World.size_drew] at hz); (try first | (replace kv := Bk.below kv hb; clear xv fv; have xv := kv.cell; have fv := kv.free) | (have kv := Bk.below Bk.new hb; have xv := kv.cell; have fv := kv.free) | (have kv := Bk.below (Bk.drew Bk.new) hb; (try simp only [World.size_alloc] at kv); have xv := kv.cell; have fv := kv.free))) | (go_at_call 14; refine (specBelow_any _ _ _ _ _).mono ?_; rintro e w' ⟨rfl, hb⟩; have hz := hb.size; (try simp only [World.size_alloc, World.size_drew] at hz); (try first | (replace kv := Bk.below kv hb; clear xv fv; have xv := kv.cell; have fv := kv.free) | (have kv := Bk.below Bk.new hb; have xv := kv.cell; have fv := kv.free) | (have kv := Bk.below (Bk.drew Bk.new) hb; (try simp only [World.size_alloc] at kv); have xv := kv.cell; have fv := kv.free))))
  go_wp2_with fail
  go_region_held3 (fun w' => (∀ o, w'.cell? ⟨w.heap.size, o, none⟩ = (#[.int .i64 l, .int .i64 a] : Array Value)[o]?) ∧ (∀ o, w'.cell? ⟨w.heap.size + 1, o, none⟩ = (#[.int .i64 m, .int .i64 b] : Array Value)[o]?) ∧ Below ((w.alloc (.cells #[.int .i64 l, .int .i64 a] 23)).alloc (.cells #[.int .i64 m, .int .i64 b] 23)).heap.size ((w.alloc (.cells #[.int .i64 l, .int .i64 a] 23)).alloc (.cells #[.int .i64 m, .int .i64 b] 23)) w') (exact keep2 k1 k2 (by (repeat' first | (with_reducible exact Below.refl _ _) | (with_reducible refine Below.via (by assumption) ?_) | (with_reducible refine Below.al ?_ _) | (with_reducible refine Below.dn ?_ _) | (with_reducible refine Below.dr ?_) | (with_reducible refine Below.setCell ?_ ?_ _) | (dsimp only; omega) | (simp only [World.size_alloc, World.size_drew]; omega) | (simp; done) | omega)))
    (first | (go_at_call 12; refine (toLabel_any _ _ _).mono ?_; rintro e w' ⟨rfl, hb⟩; have hz := hb.size; (try simp only [World.size_alloc, World.size_drew] at hz); (try first | (replace kv := Bk.below kv hb; clear xv fv; have xv := kv.cell; have fv := kv.free) | (have kv := Bk.below Bk.new hb; have xv := kv.cell; have fv := kv.free) | (have kv := Bk.below (Bk.drew Bk.new) hb; (try simp only [World.size_alloc] at kv); have xv := kv.cell; have fv := kv.free))) | (go_at_call 15; refine (hc _).mono ?_; rintro e w' ⟨rfl, hb⟩; have hz := hb.size; (try simp only [World.size_alloc, World.size_drew] at hz); (try first | (replace kv := Bk.below kv hb; clear xv fv; have xv := kv.cell; have fv := kv.free) | (have kv := Bk.below Bk.new hb; have xv := kv.cell; have fv := kv.free) | (have kv := Bk.below (Bk.drew Bk.new) hb; (try simp only [World.size_alloc] at kv); have xv := kv.cell; have fv := kv.free))))
  go_wp2_with fail
  go_ret
  refine ⟨rfl, ?_⟩
  (repeat' first | (with_reducible exact Below.refl _ _) | (with_reducible refine Below.via (by assumption) ?_) | (with_reducible refine Below.al ?_ _) | (with_reducible refine Below.dn ?_ _) | (with_reducible refine Below.dr ?_) | (with_reducible refine Below.setCell ?_ ?_ _) | (dsimp only; omega) | (simp only [World.size_alloc, World.size_drew]; omega) | (simp; done) | omega)

theorem exactLabelMeet_walk (l a m b : Int) (w : World) : Calls Try.prog 5 #[.agg #[.int .i64 l, .int .i64 a], .agg #[.int .i64 m, .int .i64 b]] w fun e w' => e = .returned (.bool true) ∧ Below w.heap.size w w' := by
  obtain ⟨k1, k2⟩ := Bk.init2 (w := w) (vs := #[.int .i64 l, .int .i64 a]) (us := #[.int .i64 m, .int .i64 b]) (t := 23) (s := 23); have x1 := k1.cell; have x2 := k2.cell
  clear x1 x2
  have hn : (meet1 l a m b == meet1 l a m b && meet2 l a m b == meet2 l a m b) = true := by simp
  go_enter Try.func5, Try.ntmps5
  go_upto_region 1 with (fail)
  go_cut [5] (fun s5 wx => ∃ g : Nat, s5 = .pointer (some ⟨g, 0, none⟩) ∧ Bk wx g #[.int .i64 (meet1 l a m b), .int .i64 (meet2 l a m b)] 25 ∧ Below ((w.alloc (.cells #[.int .i64 l, .int .i64 a] 23)).alloc (.cells #[.int .i64 m, .int .i64 b] 23)).heap.size ((w.alloc (.cells #[.int .i64 l, .int .i64 a] 23)).alloc (.cells #[.int .i64 m, .int .i64 b] 23)) wx)
  case first =>
    go_region_held3 (fun w' => (∀ o, w'.cell? ⟨w.heap.size, o, none⟩ = (#[.int .i64 l, .int .i64 a] : Array Value)[o]?) ∧ (∀ o, w'.cell? ⟨w.heap.size + 1, o, none⟩ = (#[.int .i64 m, .int .i64 b] : Array Value)[o]?) ∧ Below ((w.alloc (.cells #[.int .i64 l, .int .i64 a] 23)).alloc (.cells #[.int .i64 m, .int .i64 b] 23)).heap.size ((w.alloc (.cells #[.int .i64 l, .int .i64 a] 23)).alloc (.cells #[.int .i64 m, .int .i64 b] 23)) w') (exact keep2 k1 k2 (by (repeat' first | (with_reducible exact Below.refl _ _) | (with_reducible refine Below.via (by assumption) ?_) | (with_reducible refine Below.al ?_ _) | (with_reducible refine Below.dn ?_ _) | (with_reducible refine Below.dr ?_) | (with_reducible refine Below.setCell ?_ ?_ _) | (dsimp only; omega) | (simp only [World.size_alloc, World.size_drew]; omega) | (simp; done) | omega)))
      (first | (go_at_call 12; refine (toLabel_any _ _ _).mono ?_; rintro e w' ⟨rfl, hb⟩; have hz := hb.size; (try simp only [World.size_alloc, World.size_drew] at hz); (try first | (replace kv := Bk.below kv hb; clear xv fv; have xv := kv.cell; have fv := kv.free) | (have kv := Bk.below Bk.new hb; have xv := kv.cell; have fv := kv.free) | (have kv := Bk.below (Bk.drew Bk.new) hb; (try simp only [World.size_alloc] at kv); have xv := kv.cell; have fv := kv.free))) | (go_at_call 16; refine (specMeet_any _ _ _ _ _).mono ?_; rintro e w' ⟨rfl, hb⟩; have hz := hb.size; (try simp only [World.size_alloc, World.size_drew] at hz); (try first | (replace kv := Bk.below kv hb; clear xv fv; have xv := kv.cell; have fv := kv.free) | (have kv := Bk.below Bk.new hb; have xv := kv.cell; have fv := kv.free) | (have kv := Bk.below (Bk.drew Bk.new) hb; (try simp only [World.size_alloc] at kv); have xv := kv.cell; have fv := kv.free))))
    all_goals
      go_wp2_with fail
      go_meet
      refine ⟨_, rfl, ?_, ?_⟩
      · first | exact Bk.new | exact (kv.same 0 _).same 1 _
      · (repeat' first | (with_reducible exact Below.refl _ _) | (with_reducible refine Below.via (by assumption) ?_) | (with_reducible refine Below.al ?_ _) | (with_reducible refine Below.dn ?_ _) | (with_reducible refine Below.dr ?_) | (with_reducible refine Below.setCell ?_ ?_ _) | (dsimp only; omega) | (simp only [World.size_alloc, World.size_drew]; omega) | (simp; done) | omega)
  case rest =>
    obtain ⟨g, rfl, k3, hB⟩ := hcut
    have hzB := hB.size
    simp only [World.size_alloc] at hzB
    go_upto_region 2 with (fail)
    go_cut [6] (fun s6 wx => ∃ g6 : Nat, s6 = .pointer (some ⟨g6, 0, none⟩) ∧ Bk wx g6 #[.int .i64 (meet1 l a m b), .int .i64 (meet2 l a m b)] 25 ∧ Below wc.heap.size wc wx)
    case first =>
      go_region_held3 (fun w' => (∀ o, w'.cell? ⟨w.heap.size, o, none⟩ = (#[.int .i64 l, .int .i64 a] : Array Value)[o]?) ∧ (∀ o, w'.cell? ⟨w.heap.size + 1, o, none⟩ = (#[.int .i64 m, .int .i64 b] : Array Value)[o]?) ∧ Below ((w.alloc (.cells #[.int .i64 l, .int .i64 a] 23)).alloc (.cells #[.int .i64 m, .int .i64 b] 23)).heap.size ((w.alloc (.cells #[.int .i64 l, .int .i64 a] 23)).alloc (.cells #[.int .i64 m, .int .i64 b] 23)) w') (exact keep2 k1 k2 (by (repeat' first | (with_reducible exact Below.refl _ _) | (with_reducible refine Below.via (by assumption) ?_) | (with_reducible refine Below.al ?_ _) | (with_reducible refine Below.dn ?_ _) | (with_reducible refine Below.dr ?_) | (with_reducible refine Below.setCell ?_ ?_ _) | (dsimp only; omega) | (simp only [World.size_alloc, World.size_drew]; omega) | (simp; done) | omega)))
        (first | (go_at_call 12; refine (toLabel_any _ _ _).mono ?_; rintro e w' ⟨rfl, hb⟩; have hz := hb.size; (try simp only [World.size_alloc, World.size_drew] at hz); (try first | (replace kv := Bk.below kv hb; clear xv fv; have xv := kv.cell; have fv := kv.free) | (have kv := Bk.below Bk.new hb; have xv := kv.cell; have fv := kv.free) | (have kv := Bk.below (Bk.drew Bk.new) hb; (try simp only [World.size_alloc] at kv); have xv := kv.cell; have fv := kv.free))) | (go_at_call 17; refine (implMeet_any _ _ _ _ _).mono ?_; rintro e w' ⟨rfl, hb⟩; have hz := hb.size; (try simp only [World.size_alloc, World.size_drew] at hz); (try first | (replace kv := Bk.below kv hb; clear xv fv; have xv := kv.cell; have fv := kv.free) | (have kv := Bk.below Bk.new hb; have xv := kv.cell; have fv := kv.free) | (have kv := Bk.below (Bk.drew Bk.new) hb; (try simp only [World.size_alloc] at kv); have xv := kv.cell; have fv := kv.free))))
      all_goals
        go_wp2_with fail
        go_meet
        refine ⟨_, rfl, ?_, ?_⟩
        · first | exact Bk.new | exact (kv.same 0 _).same 1 _
        · (repeat' first | (with_reducible exact Below.refl _ _) | (with_reducible refine Below.via (by assumption) ?_) | (with_reducible refine Below.al ?_ _) | (with_reducible refine Below.dn ?_ _) | (with_reducible refine Below.dr ?_) | (with_reducible refine Below.setCell ?_ ?_ _) | (dsimp only; omega) | (simp only [World.size_alloc, World.size_drew]; omega) | (simp; done) | omega)
    case rest =>
      obtain ⟨g6, rfl, k4, hB2⟩ := hcut
      replace k3 := k3.below hB2
      have x3 := k3.cell
      have x4 := k4.cell
      clear k1 k2
      go_wp2_with (first | (go_at_call 18; refine (eqLabel_any _ _ _ _ _).mono ?_; rintro e w' ⟨rfl, hb⟩; clear x3 x4))
      go_ret
      refine ⟨rfl, ?_⟩
      (repeat' first | (with_reducible exact Below.refl _ _) | (with_reducible refine Below.via (by assumption) ?_) | (with_reducible refine Below.al ?_ _) | (with_reducible refine Below.dn ?_ _) | (with_reducible refine Below.dr ?_) | (with_reducible refine Below.setCell ?_ ?_ _) | (dsimp only; omega) | (simp only [World.size_alloc, World.size_drew]; omega) | (simp; done) | omega)

theorem exactLabelJoin_walk (l a m b : Int) (w : World) : Calls Try.prog 6 #[.agg #[.int .i64 l, .int .i64 a], .agg #[.int .i64 m, .int .i64 b]] w fun e w' => e = .returned (.bool true) ∧ Below w.heap.size w w' := by
  obtain ⟨k1, k2⟩ := Bk.init2 (w := w) (vs := #[.int .i64 l, .int .i64 a]) (us := #[.int .i64 m, .int .i64 b]) (t := 23) (s := 23); have x1 := k1.cell; have x2 := k2.cell
  clear x1 x2
  have hn : (join1 l a m b == join1 l a m b && join2 l a m b == join2 l a m b) = true := by simp
  go_enter Try.func6, Try.ntmps6
  go_upto_region 1 with (fail)
  go_cut [5] (fun s5 wx => ∃ g : Nat, s5 = .pointer (some ⟨g, 0, none⟩) ∧ Bk wx g #[.int .i64 (join1 l a m b), .int .i64 (join2 l a m b)] 25 ∧ Below ((w.alloc (.cells #[.int .i64 l, .int .i64 a] 23)).alloc (.cells #[.int .i64 m, .int .i64 b] 23)).heap.size ((w.alloc (.cells #[.int .i64 l, .int .i64 a] 23)).alloc (.cells #[.int .i64 m, .int .i64 b] 23)) wx)
  case first =>
    go_region_held3 (fun w' => (∀ o, w'.cell? ⟨w.heap.size, o, none⟩ = (#[.int .i64 l, .int .i64 a] : Array Value)[o]?) ∧ (∀ o, w'.cell? ⟨w.heap.size + 1, o, none⟩ = (#[.int .i64 m, .int .i64 b] : Array Value)[o]?) ∧ Below ((w.alloc (.cells #[.int .i64 l, .int .i64 a] 23)).alloc (.cells #[.int .i64 m, .int .i64 b] 23)).heap.size ((w.alloc (.cells #[.int .i64 l, .int .i64 a] 23)).alloc (.cells #[.int .i64 m, .int .i64 b] 23)) w') (exact keep2 k1 k2 (by (repeat' first | (with_reducible exact Below.refl _ _) | (with_reducible refine Below.via (by assumption) ?_) | (with_reducible refine Below.al ?_ _) | (with_reducible refine Below.dn ?_ _) | (with_reducible refine Below.dr ?_) | (with_reducible refine Below.setCell ?_ ?_ _) | (dsimp only; omega) | (simp only [World.size_alloc, World.size_drew]; omega) | (simp; done) | omega)))
      (first | (go_at_call 12; refine (toLabel_any _ _ _).mono ?_; rintro e w' ⟨rfl, hb⟩; have hz := hb.size; (try simp only [World.size_alloc, World.size_drew] at hz); (try first | (replace kv := Bk.below kv hb; clear xv fv; have xv := kv.cell; have fv := kv.free) | (have kv := Bk.below Bk.new hb; have xv := kv.cell; have fv := kv.free) | (have kv := Bk.below (Bk.drew Bk.new) hb; (try simp only [World.size_alloc] at kv); have xv := kv.cell; have fv := kv.free))) | (go_at_call 19; refine (specJoin_any _ _ _ _ _).mono ?_; rintro e w' ⟨rfl, hb⟩; have hz := hb.size; (try simp only [World.size_alloc, World.size_drew] at hz); (try first | (replace kv := Bk.below kv hb; clear xv fv; have xv := kv.cell; have fv := kv.free) | (have kv := Bk.below Bk.new hb; have xv := kv.cell; have fv := kv.free) | (have kv := Bk.below (Bk.drew Bk.new) hb; (try simp only [World.size_alloc] at kv); have xv := kv.cell; have fv := kv.free))))
    all_goals
      go_wp2_with fail
      go_meet
      refine ⟨_, rfl, ?_, ?_⟩
      · first | exact Bk.new | exact (kv.same 0 _).same 1 _
      · (repeat' first | (with_reducible exact Below.refl _ _) | (with_reducible refine Below.via (by assumption) ?_) | (with_reducible refine Below.al ?_ _) | (with_reducible refine Below.dn ?_ _) | (with_reducible refine Below.dr ?_) | (with_reducible refine Below.setCell ?_ ?_ _) | (dsimp only; omega) | (simp only [World.size_alloc, World.size_drew]; omega) | (simp; done) | omega)
  case rest =>
    obtain ⟨g, rfl, k3, hB⟩ := hcut
    have hzB := hB.size
    simp only [World.size_alloc] at hzB
    go_upto_region 2 with (fail)
    go_cut [6] (fun s6 wx => ∃ g6 : Nat, s6 = .pointer (some ⟨g6, 0, none⟩) ∧ Bk wx g6 #[.int .i64 (join1 l a m b), .int .i64 (join2 l a m b)] 25 ∧ Below wc.heap.size wc wx)
    case first =>
      go_region_held3 (fun w' => (∀ o, w'.cell? ⟨w.heap.size, o, none⟩ = (#[.int .i64 l, .int .i64 a] : Array Value)[o]?) ∧ (∀ o, w'.cell? ⟨w.heap.size + 1, o, none⟩ = (#[.int .i64 m, .int .i64 b] : Array Value)[o]?) ∧ Below ((w.alloc (.cells #[.int .i64 l, .int .i64 a] 23)).alloc (.cells #[.int .i64 m, .int .i64 b] 23)).heap.size ((w.alloc (.cells #[.int .i64 l, .int .i64 a] 23)).alloc (.cells #[.int .i64 m, .int .i64 b] 23)) w') (exact keep2 k1 k2 (by (repeat' first | (with_reducible exact Below.refl _ _) | (with_reducible refine Below.via (by assumption) ?_) | (with_reducible refine Below.al ?_ _) | (with_reducible refine Below.dn ?_ _) | (with_reducible refine Below.dr ?_) | (with_reducible refine Below.setCell ?_ ?_ _) | (dsimp only; omega) | (simp only [World.size_alloc, World.size_drew]; omega) | (simp; done) | omega)))
        (first | (go_at_call 12; refine (toLabel_any _ _ _).mono ?_; rintro e w' ⟨rfl, hb⟩; have hz := hb.size; (try simp only [World.size_alloc, World.size_drew] at hz); (try first | (replace kv := Bk.below kv hb; clear xv fv; have xv := kv.cell; have fv := kv.free) | (have kv := Bk.below Bk.new hb; have xv := kv.cell; have fv := kv.free) | (have kv := Bk.below (Bk.drew Bk.new) hb; (try simp only [World.size_alloc] at kv); have xv := kv.cell; have fv := kv.free))) | (go_at_call 20; refine (implJoin_any _ _ _ _ _).mono ?_; rintro e w' ⟨rfl, hb⟩; have hz := hb.size; (try simp only [World.size_alloc, World.size_drew] at hz); (try first | (replace kv := Bk.below kv hb; clear xv fv; have xv := kv.cell; have fv := kv.free) | (have kv := Bk.below Bk.new hb; have xv := kv.cell; have fv := kv.free) | (have kv := Bk.below (Bk.drew Bk.new) hb; (try simp only [World.size_alloc] at kv); have xv := kv.cell; have fv := kv.free))))
      all_goals
        go_wp2_with fail
        go_meet
        refine ⟨_, rfl, ?_, ?_⟩
        · first | exact Bk.new | exact (kv.same 0 _).same 1 _
        · (repeat' first | (with_reducible exact Below.refl _ _) | (with_reducible refine Below.via (by assumption) ?_) | (with_reducible refine Below.al ?_ _) | (with_reducible refine Below.dn ?_ _) | (with_reducible refine Below.dr ?_) | (with_reducible refine Below.setCell ?_ ?_ _) | (dsimp only; omega) | (simp only [World.size_alloc, World.size_drew]; omega) | (simp; done) | omega)
    case rest =>
      obtain ⟨g6, rfl, k4, hB2⟩ := hcut
      replace k3 := k3.below hB2
      have x3 := k3.cell
      have x4 := k4.cell
      clear k1 k2
      go_wp2_with (first | (go_at_call 18; refine (eqLabel_any _ _ _ _ _).mono ?_; rintro e w' ⟨rfl, hb⟩; clear x3 x4))
      go_ret
      refine ⟨rfl, ?_⟩
      (repeat' first | (with_reducible exact Below.refl _ _) | (with_reducible refine Below.via (by assumption) ?_) | (with_reducible refine Below.al ?_ _) | (with_reducible refine Below.dn ?_ _) | (with_reducible refine Below.dr ?_) | (with_reducible refine Below.setCell ?_ ?_ _) | (dsimp only; omega) | (simp only [World.size_alloc, World.size_drew]; omega) | (simp; done) | omega)
end Go.Proofs.Ytmjjeiadoajkmaa
