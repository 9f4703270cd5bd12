/-
  The law on seals, walked. Condition: the bytes can be read.
-/
import Derived.Test.YtnkfhfhioknjeaaKf
import Derived.Test.YtnkfhfhioknjeaaKp
set_option linter.unusedSimpArgs false
set_option linter.unusedVariables false
namespace Go.Proofs.Ytnkfhfhioknjeaa
open Go.RowKit
set_option maxRecDepth 100000 in
set_option maxHeartbeats 6400000 in
theorem ticketSeal_walk (a : Option Addr) (len cap : Nat) (w : World) (h : Bytes w a len cap) : Calls Try.prog 4 #[.slice a len cap] w fun e w' => e = .returned (.bool true) ∧ Below w.heap.size w w' := by
  have h1 := h.1
  have h2 := h.2.1
  unfold maxLen at h2
  have H := Lib.hid h
  clear h
  by_cases hl : 1048576 < len
  · go_enter Try.func4, Try.ntmps4
    go_wp2_with fail
    go_ret
    exact ⟨rfl, Below.refl _ _⟩
  · go_enter Try.func4, Try.ntmps4
    go_wp2_with fail
    refine (drawTicketSeal_any a len cap _ H.out).mono ?_
    rintro e w1 ⟨key, t, v1, rfl, HB, o1, b1⟩
    obtain ⟨a1, c1, rfl, _, _⟩ := SlF.shape (own_sl o1)
    have B1 : Below w.heap.size w w1 := Below.via b1 (Below.refl _ _)
    have z1 := b1.size
    try simp only [World.size_alloc] at z1
    have pv := Lib.hid (show ∀ j, Value.ownBlock (.slice a1 t.acts.length c1) = some j → w.heap.size ≤ j ∧ j < w1.heap.size from fun j hj => o1.lt j hj)
    have Ov2 := Lib.hid o1
    clear o1
    have hA3 : Below w1.heap.size w1 (w1.alloc (.cells #[.int .i64 t.who, .slice a1 t.acts.length c1, .int .i64 t.til, .int .i64 t.sl] 27)) := Below.al (Below.refl _ _) _
    have B4 : Below w.heap.size w (w1.alloc (.cells #[.int .i64 t.who, .slice a1 t.acts.length c1, .int .i64 t.til, .int .i64 t.sl] 27)) := Below.via hA3 B1
    have z4 := hA3.size
    try simp only [World.size_alloc] at z4
    have Ov5 := Lib.hid (own_below Ov2.out hA3)
    clear Ov2
    clear hA3
    have Kt0 := Bk.new (w := w1) (vs := #[.int .i64 t.who, .slice a1 t.acts.length c1, .int .i64 t.til, .int .i64 t.sl]) (t := 27)
    have xt := Kt0.cell
    have yt := Kt0.lt
    simp only [World.size_alloc] at yt
    have HI := fun v wx h => implSeal_any key t.who t.til t.sl t.acts v wx h
    have HS := fun v wx h => specSeal_any key t.who t.til t.sl t.acts v wx h
    have hsb := sealOf_bd key t.who t.til t.acts
    obtain ⟨S, hS⟩ : ∃ S, sealOf key t.who t.til t.acts = S := ⟨_, rfl⟩
    rw [hS] at hsb
    simp only [hS] at HI HS
    have HSE := Lib.hid hS
    clear hS
    go_wp2_with fail
    refine (HI _ _ (own_sl Ov5.out)).mono ?_
    rintro e w2 ⟨rfl, b2⟩
    have B6 : Below w.heap.size w w2 := Below.via b2 B4
    have z6 := b2.size
    try simp only [World.size_alloc] at z6
    have Kt7 := Kt0.below b2
    clear xt
    clear Kt0
    have xt := Kt7.cell
    have Ov8 := Lib.hid (own_below Ov5.out b2)
    clear Ov5
    go_wp2_with fail
    refine (HS _ _ (own_sl Ov8.out)).mono ?_
    rintro e w3 ⟨rfl, b3⟩
    have B9 : Below w.heap.size w w3 := Below.via b3 B6
    have z9 := b3.size
    try simp only [World.size_alloc] at z9
    have Kt10 := Kt7.below b3
    clear xt
    clear Kt7
    have xt := Kt10.cell
    have Ov11 := Lib.hid (own_below Ov8.out b3)
    clear Ov8
    have hne : ∀ z : Int, (z != z) = false := fun z => by simp
    by_cases hneg : S < 0
    · obtain rfl : S = -1 := by omega
      go_wp2_with ((go_at_call 17; refine (alive_any _).mono ?_; rintro e w' ⟨rfl, rfl⟩))
      go_ret
      exact ⟨rfl, B9⟩
    · have hn1 : decide (S < 0) = false := by simp; omega
      obtain ⟨n, ok, hn⟩ : ∃ n ok, narrowT ⟨t.who, t.acts, t.til, S⟩ 5 = (n, ok) := ⟨_, _, rfl⟩
      have HN := fun v wx h => (implNarrow_any ⟨t.who, t.acts, t.til, S⟩ 5 v wx h).mono (fun e w' k => k.two hn)
      have fbt := Kt10.free
      have OS : Hid ((World.setCell w3 ⟨w1.heap.size, 3, none⟩ (.int .i64 S)).ownsRow w.heap.size 3 1 (.slice a1 t.acts.length c1) t.acts.length (cellsI t.acts)) := Lib.hid (own_setne Ov11.out (fun j hj => by have := pv.out j hj; omega) _ _)
      have BS : Below w.heap.size w (World.setCell w3 ⟨w1.heap.size, 3, none⟩ (.int .i64 S)) := (B9).setCell (by have := b1.size; omega) _
      go_wp2_with fail
      refine (HN _ _ (own_sl OS.out)).mono ?_
      rintro e w6 ⟨v6, rfl, o6, b6⟩
      obtain ⟨a6, c6, rfl, _, _⟩ := SlF.shape (own_sl o6)
      have B6 := Below.via b6 BS
      have hA6 : Below w6.heap.size w6 (w6.alloc (.cells #[.int .i64 n.who, .slice a6 n.acts.length c6, .int .i64 n.til, .int .i64 n.sl] 27)) := Below.al (Below.refl _ _) _
      have ON := Lib.hid (SlI.below (own_sl o6) hA6)
      have B7 := Below.via hA6 B6
      have k7 := Bk.new (w := w6) (vs := #[.int .i64 n.who, .slice a6 n.acts.length c6, .int .i64 n.til, .int .i64 n.sl]) (t := 27)
      clear o6 b6
      obtain ⟨w7, hw7⟩ : ∃ w7, w7 = (w6.alloc (.cells #[.int .i64 n.who, .slice a6 n.acts.length c6, .int .i64 n.til, .int .i64 n.sl] 27)) := ⟨_, rfl⟩
      rw [← hw7] at k7 ON B7
      have lx : ∀ wx, Below w7.heap.size w7 wx → ∀ o, wx.cell? ⟨w6.heap.size, o, none⟩ = (#[.int .i64 n.who, .slice a6 n.acts.length c6, .int .i64 n.til, .int .i64 n.sl] : Array Value)[o]? := fun wx h => (k7.below h).cell
      have x7 := k7.cell
      have HW := Lib.hid hw7
      clear k7 hw7 hA6
      have hlt : decide (S < 1000003) = true := by simp; omega
      cases ok
      · clear HN hn lx
        go_wp2_with fail
        rw [← HW.out]
        go_quiet (fail)
        go_wp2_with fail
        go_ret
        exact ⟨rfl, Below.dn B7 _⟩
      · have hE := seal_more key t n 5 S HSE.out (by omega) hn
        have HT := fun wx (h : SlI wx (.slice a6 n.acts.length c6) n.acts) => implSeal_any key n.who n.til n.sl n.acts _ wx h
        simp only [hE] at HT
        have heq : ∀ z : Int, (z == z) = true := fun z => by simp
        clear HN hn hE HI HS
        go_wp2_with fail
        rw [← HW.out]
        clear x7
        refine wp_region_cls (C := Below w7.heap.size w7) (by kernel_rfl) (by kernel_rfl) (Below.refl _ _).drew ?_; (repeat ((first | (refine q_step ?_ (by rfl) (fun wx hx => ?_) ?_; rotate_left; (focus (go_simp; first | done | (with_reducible rfl) | first | (go_at_call 14; with_reducible refine (HT _ (SlI.below ON.out hx)).mono ?_; rintro e w' ⟨rfl, hb⟩; refine ⟨?_, Below.via hb hx⟩; with_reducible rfl)))) | (refine BigFrame.wpQuiet_skip (by rfl) ?_)); (try simp only [Act.put, List.setIfInBounds_toArray, List.set_cons_zero, List.set_cons_succ]))); refine wpQuiet_nil ?_; intro wq hq
        go_wp2_with fail
        go_ret
        exact ⟨rfl, Below.via hq B7⟩
end Go.Proofs.Ytnkfhfhioknjeaa
