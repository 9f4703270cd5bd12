/-
  The laws on made tickets and on what tickets allow, walked. Condition: the bytes can be read.
-/
import Derived.Test.YtnkfhfhioknjeaaKr
import Derived.Test.YtnkfhfhioknjeaaKp
set_option linter.unusedSimpArgs false
set_option linter.unusedVariables false
namespace Go.Proofs.Ytnkfhfhioknjeaa
open Go.RowKit
set_option maxRecDepth 100000 in
set_option maxHeartbeats 6400000 in
theorem makeTicket_walk (a : Option Addr) (len cap : Nat) (w : World) (h : Bytes w a len cap) : Calls Try.prog 6 #[.slice a len cap] w fun e w' => e = .returned (.bool true) ∧ Below w.heap.size w w' := by
  have h1 := h.1
  have h2 := h.2.1
  unfold maxLen at h2
  have H := Lib.hid h
  clear h
  by_cases hl : 1048576 < len
  · go_enter Try.func6, Try.ntmps6
    go_wp2_with fail
    go_ret
    exact ⟨rfl, Below.refl _ _⟩
  · go_enter Try.func6, Try.ntmps6
    go_wp2_with fail
    refine (drawMakeTicket_any a len cap _ H.out).mono ?_
    rintro e w1 ⟨key, who, act, til, rfl, hk0, hk1, hw0, hw1, ha0, ha1, ht0, ht1, b1⟩
    have B1 : Below w.heap.size w w1 := Below.via b1 (Below.refl _ _)
    have z1 := b1.size
    try simp only [World.size_alloc] at z1
    obtain ⟨t, ok, hr⟩ : ∃ t ok, makeT key who act til = (t, ok) := ⟨_, _, rfl⟩
    have hlen : t.acts.length ≤ 1 := by have := makeT_len key who act til; rw [hr] at this; exact this
    have HS := fun wx => (specMake_any key who act til wx).mono (fun e w' k => k.two hr)
    have HI := fun wx => (implMake_any key who act til wx).mono (fun e w' k => k.two hr)
    have HR := Lib.hid hr
    clear hr
    have hrr := eqTk_refl t
    have hnb : ∀ z : Bool, (z != z) = false := fun z => by simp
    go_wp2_with fail
    refine (HI _).mono ?_
    rintro e w2 ⟨u2, rfl, o2, b2⟩
    obtain ⟨a2, c2, rfl, _, _⟩ := SlF.shape (own_sl o2)
    have B2 : Below w.heap.size w w2 := Below.via b2 B1
    have z2 := b2.size
    try simp only [World.size_alloc] at z2
    have pg := Lib.hid (show ∀ j, Value.ownBlock (.slice a2 t.acts.length c2) = some j → w1.heap.size ≤ j ∧ j < w2.heap.size from fun j hj => o2.lt j hj)
    have Og3 := Lib.hid o2
    clear o2
    have hA4 : Below w2.heap.size w2 (w2.alloc (.cells #[.int .i64 t.who, .slice a2 t.acts.length c2, .int .i64 t.til, .int .i64 t.sl] 27)) := Below.al (Below.refl _ _) _
    have B5 : Below w.heap.size w (w2.alloc (.cells #[.int .i64 t.who, .slice a2 t.acts.length c2, .int .i64 t.til, .int .i64 t.sl] 27)) := Below.via hA4 B2
    have z5 := hA4.size
    try simp only [World.size_alloc] at z5
    have Og6 := Lib.hid (own_below Og3.out hA4)
    clear Og3
    clear hA4
    have Kg0 := Bk.new (w := w2) (vs := #[.int .i64 t.who, .slice a2 t.acts.length c2, .int .i64 t.til, .int .i64 t.sl]) (t := 27)
    have xg := Kg0.cell
    have yg := Kg0.lt
    simp only [World.size_alloc] at yg
    go_wp2_with fail
    refine (HS _).mono ?_
    rintro e w3 ⟨u3, rfl, o3, b3⟩
    obtain ⟨a3, c3, rfl, _, _⟩ := SlF.shape (own_sl o3)
    have B7 : Below w.heap.size w w3 := Below.via b3 B5
    have z7 := b3.size
    try simp only [World.size_alloc] at z7
    have Kg8 := Kg0.below b3
    clear xg
    clear Kg0
    have xg := Kg8.cell
    have Og9 := Lib.hid (own_below Og6.out b3)
    clear Og6
    have ps := Lib.hid (show ∀ j, Value.ownBlock (.slice a3 t.acts.length c3) = some j → (w2.alloc (.cells #[.int .i64 t.who, .slice a2 t.acts.length c2, .int .i64 t.til, .int .i64 t.sl] 27)).heap.size ≤ j ∧ j < w3.heap.size from fun j hj => o3.lt j hj)
    have Os10 := Lib.hid o3
    clear o3
    have hA11 : Below w3.heap.size w3 (w3.alloc (.cells #[.int .i64 t.who, .slice a3 t.acts.length c3, .int .i64 t.til, .int .i64 t.sl] 27)) := Below.al (Below.refl _ _) _
    have B12 : Below w.heap.size w (w3.alloc (.cells #[.int .i64 t.who, .slice a3 t.acts.length c3, .int .i64 t.til, .int .i64 t.sl] 27)) := Below.via hA11 B7
    have z12 := hA11.size
    try simp only [World.size_alloc] at z12
    have Kg13 := Kg8.below hA11
    clear xg
    clear Kg8
    have xg := Kg13.cell
    have Og14 := Lib.hid (own_below Og9.out hA11)
    clear Og9
    have Os15 := Lib.hid (own_below Os10.out hA11)
    clear Os10
    clear hA11
    have Ks0 := Bk.new (w := w3) (vs := #[.int .i64 t.who, .slice a3 t.acts.length c3, .int .i64 t.til, .int .i64 t.sl]) (t := 27)
    have xs := Ks0.cell
    have ys := Ks0.lt
    simp only [World.size_alloc] at ys
    go_wp2_with fail
    refine (sameTk_any t t _ _ _ (own_sl Og14.out) (own_sl Os15.out)).mono ?_
    rintro e w4 ⟨rfl, b4⟩
    rw [hrr]
    have B16 : Below w.heap.size w w4 := Below.via b4 B12
    have z16 := b4.size
    try simp only [World.size_alloc] at z16
    have Kg17 := Kg13.below b4
    clear xg
    clear Kg13
    have xg := Kg17.cell
    have Ks18 := Ks0.below b4
    clear xs
    clear Ks0
    have xs := Ks18.cell
    have Og19 := Lib.hid (own_below Og14.out b4)
    clear Og14
    have Os20 := Lib.hid (own_below Os15.out b4)
    clear Os15
    cases ok
    · have hz : ((t.acts.length : Int) == 0) = true := by rw [make_false HR.out]; rfl
      go_wp2_with ((go_at_call 17; refine (alive_any _).mono ?_; rintro e w' ⟨rfl, rfl⟩))
      go_ret
      exact ⟨rfl, B16⟩
    · obtain ⟨e1, e2, e3⟩ := make_law key who act til t HR.out
      have e4 := e3 (who + 1) (by omega)
      have A1 := fun v wx h => implTActs_any key t who (til - 1) v wx h
      have A2 := fun v wx h => implTActs_any key t who til v wx h
      have A3 := fun v wx h => implTActs_any key t (who + 1) (til - 1) v wx h
      rw [e1] at A1
      rw [e2] at A2
      rw [e4] at A3
      have heq : ∀ z : Int, (z == z) = true := fun z => by simp
      clear e1 e2 e3 e4 HI HS
      go_wp2_with fail
      refine (A1 _ _ (own_sl Og19.out)).mono ?_
      rintro e w5 ⟨rfl, b5⟩
      have B21 : Below w.heap.size w w5 := Below.via b5 B16
      have z21 := b5.size
      try simp only [World.size_alloc] at z21
      have Kg22 := Kg17.below b5
      clear xg
      clear Kg17
      have xg := Kg22.cell
      have Ks23 := Ks18.below b5
      clear xs
      clear Ks18
      have xs := Ks23.cell
      have Og24 := Lib.hid (own_below Og19.out b5)
      clear Og19
      have Os25 := Lib.hid (own_below Os20.out b5)
      clear Os20
      go_wp2_with fail
      refine (A2 _ _ (own_sl Og24.out)).mono ?_
      rintro e w6 ⟨rfl, b6⟩
      have B26 : Below w.heap.size w w6 := Below.via b6 B21
      have z26 := b6.size
      try simp only [World.size_alloc] at z26
      have Kg27 := Kg22.below b6
      clear xg
      clear Kg22
      have xg := Kg27.cell
      have Ks28 := Ks23.below b6
      clear xs
      clear Ks23
      have xs := Ks28.cell
      have Og29 := Lib.hid (own_below Og24.out b6)
      clear Og24
      have Os30 := Lib.hid (own_below Os25.out b6)
      clear Os25
      go_wp2_with fail
      refine (A3 _ _ (own_sl Og29.out)).mono ?_
      rintro e w7 ⟨rfl, b7⟩
      have B31 : Below w.heap.size w w7 := Below.via b7 B26
      have z31 := b7.size
      try simp only [World.size_alloc] at z31
      have Kg32 := Kg27.below b7
      clear xg
      clear Kg27
      have xg := Kg32.cell
      have Ks33 := Ks28.below b7
      clear xs
      clear Ks28
      have xs := Ks33.cell
      have Og34 := Lib.hid (own_below Og29.out b7)
      clear Og29
      have Os35 := Lib.hid (own_below Os30.out b7)
      clear Os30
      go_wp2_with fail
      go_ret
      exact ⟨rfl, B31⟩
set_option maxRecDepth 100000 in
set_option maxHeartbeats 6400000 in
theorem ticketActs_walk (a : Option Addr) (len cap : Nat) (w : World) (h : Bytes w a len cap) : Calls Try.prog 10 #[.slice a len cap] w fun e w' => e = .returned (.bool true) ∧ Below w.heap.size w w' := by
  have h1 := h.1
  have h2 := h.2.1
  unfold maxLen at h2
  have H := Lib.hid h
  clear h
  by_cases hl : 1048576 < len
  · go_enter Try.func10, Try.ntmps10
    go_wp2_with fail
    go_ret
    exact ⟨rfl, Below.refl _ _⟩
  · go_enter Try.func10, Try.ntmps10
    go_wp2_with fail
    refine (drawTicketActs_any a len cap _ H.out).mono ?_
    rintro e w1 ⟨key, who, now, t, u1, rfl, HB, hn0, hn1, o1, b1⟩
    obtain ⟨a1, c1, rfl, _, _⟩ := SlF.shape (own_sl o1)
    have B1 : Below w.heap.size w w1 := Below.via b1 (Below.refl _ _)
    have z1 := b1.size
    try simp only [World.size_alloc] at z1
    have pv := Lib.hid (show ∀ j, Value.ownBlock (.slice a1 t.acts.length c1) = some j → w.heap.size ≤ j ∧ j < w1.heap.size from fun j hj => o1.lt j hj)
    have Ov2 := Lib.hid o1
    clear o1
    have hA3 : Below w1.heap.size w1 (w1.alloc (.cells #[.int .i64 t.who, .slice a1 t.acts.length c1, .int .i64 t.til, .int .i64 t.sl] 27)) := Below.al (Below.refl _ _) _
    have B4 : Below w.heap.size w (w1.alloc (.cells #[.int .i64 t.who, .slice a1 t.acts.length c1, .int .i64 t.til, .int .i64 t.sl] 27)) := Below.via hA3 B1
    have z4 := hA3.size
    try simp only [World.size_alloc] at z4
    have Ov5 := Lib.hid (own_below Ov2.out hA3)
    clear Ov2
    clear hA3
    have Kt0 := Bk.new (w := w1) (vs := #[.int .i64 t.who, .slice a1 t.acts.length c1, .int .i64 t.til, .int .i64 t.sl]) (t := 27)
    have xt := Kt0.cell
    have yt := Kt0.lt
    simp only [World.size_alloc] at yt
    have hln := HB.ln
    have HI := fun v wx h => implTActs_any key t who now v wx h
    have HS := fun v wx h => specTActs_any key t who now v wx h
    have HL := fun v wx h => implTActs_any key t who (now + 1) v wx h
    have hc := tActs_cases key t who now
    have hlt := tActs_later key t who now
    obtain ⟨S, hS⟩ : ∃ S, tActs key t who now = S := ⟨_, rfl⟩
    obtain ⟨S2, hS2⟩ : ∃ S, tActs key t who (now + 1) = S := ⟨_, rfl⟩
    simp only [hS] at HI HS hc hlt
    simp only [hS2] at HL hlt
    clear hS hS2
    have hne : ∀ z : Int, (z != z) = false := fun z => by simp
    have heq : ∀ z : Int, (z == z) = true := fun z => by simp
    go_wp2_with fail
    refine (HI _ _ (own_sl Ov5.out)).mono ?_
    rintro e w2 ⟨rfl, b2⟩
    have B6 : Below w.heap.size w w2 := Below.via b2 B4
    have z6 := b2.size
    try simp only [World.size_alloc] at z6
    have Kt7 := Kt0.below b2
    clear xt
    clear Kt0
    have xt := Kt7.cell
    have Ov8 := Lib.hid (own_below Ov5.out b2)
    clear Ov5
    go_wp2_with fail
    refine (HS _ _ (own_sl Ov8.out)).mono ?_
    rintro e w3 ⟨rfl, b3⟩
    have B9 : Below w.heap.size w w3 := Below.via b3 B6
    have z9 := b3.size
    try simp only [World.size_alloc] at z9
    have Kt10 := Kt7.below b3
    clear xt
    clear Kt7
    have xt := Kt10.cell
    have Ov11 := Lib.hid (own_below Ov8.out b3)
    clear Ov8
    clear HI HS
    by_cases hS0 : 0 < S
    · obtain ⟨hS, hv, hwho⟩ : S = (actFold t.acts : Nat) ∧ t.acts.all actOk = true ∧ t.who = who := by
        rcases hc with h | h
        · omega
        · exact h
      have hsub := Lib.hid (fun k h => act_sub t.acts k h hv)
      have hw : (who == t.who) = true := by simp [hwho]
      have hf0 := actFold_le t.acts
      have hSb : 0 ≤ S ∧ S ≤ 15 := by omega
      rw [← hS] at hsub
      have HC := Lib.hid (own_sl Ov11.out)
      clear hS hwho hc
      have hz0 : (S == 0) = false := by simp; omega
      go_wp2_with fail
      go_loop [8] (fun i => ∃ k : Nat, k ≤ t.acts.length ∧ i = .int .i64 k) (fun i => t.acts.length - (intOf i).toNat)
      case atStart => exact ⟨0, Nat.zero_le _, rfl⟩
      case round =>
        obtain ⟨k, hk, rfl⟩ := hrel
        by_cases hlt2 : k < t.acts.length
        · obtain ⟨g, off, cap2, he, _, _, hcell⟩ := SlI.cell HC.out k hlt2
          have hx := Lib.hid (hsub.out k hlt2)
          simp only [Value.slice.injEq] at he
          obtain ⟨rfl, _, rfl⟩ := he
          have hltI : (k : Int) < t.acts.length := by omega
          generalize t.acts[k] = x at hx hcell
          have hb : (bits .and .i64 x S != S) = false := by rw [hx.out]; simp
          go_wp2_with fail
          go_round
          case rel => exact ⟨k + 1, by omega, by go_num⟩
          case measure => simp [intOf]; omega
        · go_wp2_with fail
          skip
          refine (HL _ _ (own_sl Ov11.out)).mono ?_
          rintro e w4 ⟨rfl, b4⟩
          have B12 : Below w.heap.size w w4 := Below.via b4 B9
          have z12 := b4.size
          try simp only [World.size_alloc] at z12
          have Kt13 := Kt10.below b4
          clear xt
          clear Kt10
          have xt := Kt13.cell
          have Ov14 := Lib.hid (own_below Ov11.out b4)
          clear Ov11
          cases hq : (S2 == S)
          · have hz : (S2 == 0) = true := by rcases hlt with rfl | rfl <;> simp_all
            go_wp2_with ((go_at_call 17; refine (alive_any _).mono ?_; rintro e w' ⟨rfl, rfl⟩))
            go_ret
            exact ⟨rfl, B12⟩
          · go_wp2_with ((go_at_call 17; refine (alive_any _).mono ?_; rintro e w' ⟨rfl, rfl⟩))
            go_ret
            exact ⟨rfl, B12⟩
    · obtain rfl : S = 0 := by
        rcases hc with h | ⟨h, _⟩
        · exact h
        · omega
      by_cases h0 : (0 : Int) < t.acts.length
      · have hg : decide ((0 : Int) < (0 : Int)) = false := by simp
        go_wp2_with fail
        go_loop [8] (fun i => i = .int .i64 0) (fun _ => 0)
        case atStart => rfl
        case round =>
          subst hrel
          go_wp2_with fail
          skip
          refine (HL _ _ (own_sl Ov11.out)).mono ?_
          rintro e w4 ⟨rfl, b4⟩
          have B12 : Below w.heap.size w w4 := Below.via b4 B9
          have z12 := b4.size
          try simp only [World.size_alloc] at z12
          have Kt13 := Kt10.below b4
          clear xt
          clear Kt10
          have xt := Kt13.cell
          have Ov14 := Lib.hid (own_below Ov11.out b4)
          clear Ov11
          obtain rfl : S2 = 0 := by rcases hlt with h | h <;> exact h
          go_wp2_with ((go_at_call 17; refine (alive_any _).mono ?_; rintro e w' ⟨rfl, rfl⟩))
          go_ret
          exact ⟨rfl, B12⟩
      · go_wp2_with fail
        go_loop [8] (fun i => i = .int .i64 0) (fun _ => 0)
        case atStart => rfl
        case round =>
          subst hrel
          go_wp2_with fail
          skip
          refine (HL _ _ (own_sl Ov11.out)).mono ?_
          rintro e w4 ⟨rfl, b4⟩
          have B12 : Below w.heap.size w w4 := Below.via b4 B9
          have z12 := b4.size
          try simp only [World.size_alloc] at z12
          have Kt13 := Kt10.below b4
          clear xt
          clear Kt10
          have xt := Kt13.cell
          have Ov14 := Lib.hid (own_below Ov11.out b4)
          clear Ov11
          obtain rfl : S2 = 0 := by rcases hlt with h | h <;> exact h
          go_wp2_with ((go_at_call 17; refine (alive_any _).mono ?_; rintro e w' ⟨rfl, rfl⟩))
          go_ret
          exact ⟨rfl, B12⟩
end Go.Proofs.Ytnkfhfhioknjeaa
