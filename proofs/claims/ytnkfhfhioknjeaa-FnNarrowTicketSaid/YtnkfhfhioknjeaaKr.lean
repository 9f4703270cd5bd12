/-
  Tickets and what is asked of them are drawn from bytes: regions that draw their order, by invariants. Condition: the bytes can be read.
-/
import Derived.Test.YtnkfhfhioknjeaaKf
import Derived.Test.YtnkfhfhioknjeaaRg
set_option linter.unusedSimpArgs false
set_option linter.unusedVariables false
namespace Go.Proofs.Ytnkfhfhioknjeaa
open Go.RowKit
/-- A key, someone, acts and a time are drawn from bytes. -/
def TkM (w : World) (e : Ending) (w' : World) : Prop :=
  ∃ key who act til : Int, e = .returned (.tuple #[.int .i64 key, .int .i64 who, .int .i64 act, .int .i64 til]) ∧ -1 ≤ key ∧ key ≤ 100000 ∧ -1 ≤ who ∧ who ≤ 14 ∧ -15 ≤ act ∧ act ≤ 15 ∧ 0 ≤ til ∧ til ≤ 1001 ∧ Below w.heap.size w w'
set_option maxRecDepth 100000 in
set_option maxHeartbeats 6400000 in
theorem drawNarrowTicket_any (a : Option Addr) (len cap : Nat) (w : World) (h : Bytes w a len cap) : Calls Try.prog 27 #[.slice a len cap] w (TkN w) := by
  have H := Lib.hid h
  clear h
  have HZ := Lib.hid (Bytes.below H.out (show Below w.heap.size w (w.alloc (.cells #[.int .i64 0, .slice none 0 0, .int .i64 0, .int .i64 0] 27)) from Below.al (Below.refl _ _) _))
  have KO0 := Bk.new (w := w) (vs := #[.int .i64 0, .slice none 0 0, .int .i64 0, .int .i64 0]) (t := 27)
  go_enter Try.func27, Try.ntmps27
  go_wp2_with fail
  refine (open_any a len cap _ HZ.out).mono ?_
  rintro e w1 ⟨rfl, r1, h1⟩
  (try simp only [World.size_alloc, World.size_drew] at r1)
  have zb := r1.lt
  have hz1 := h1.size
  (try simp only [World.size_alloc, World.size_drew] at hz1)
  have KO := KO0.below h1
  go_wp2_with fail
  refine (l20Ticket_any _ 6 _ _ r1 (by omega) (by omega) (by omega)).mono ?_
  rintro e w2 ⟨key, t, v2, rfl, hk0, hk1, HB, o2, P2⟩
  obtain ⟨a2, c2, rfl, _, _⟩ := SlF.shape (own_sl o2)
  have O2 := Lib.hid o2
  have z2 := P2.size
  clear o2
  have KO2 := KO.rdn P2 (by omega)
  have KO3 := KO2.alloc (.cells #[.int .i64 t.who, .slice a2 t.acts.length c2, .int .i64 t.til, .int .i64 t.sl] 27)
  have KT := Bk.new (w := w2) (vs := #[.int .i64 t.who, .slice a2 t.acts.length c2, .int .i64 t.til, .int .i64 t.sl]) (t := 27)
  have P3 := Reads.mono (M2 := 20) (Reads.al P2 (.cells #[.int .i64 t.who, .slice a2 t.acts.length c2, .int .i64 t.til, .int .i64 t.sl] 27)) (by omega)
  have hw0 := HB.w0
  have hw1 := HB.w1
  have hu0 := HB.u0
  have hu1 := HB.u1
  go_wp2_with fail
  have KXr : KeepX (w.heap.size + 1) (fun wz => Bk wz (w.heap.size) #[.int .i64 t.who, .slice a2 t.acts.length c2, .int .i64 t.til, .int .i64 t.sl] 27) ∧ KeepX (w.heap.size + 1) (OwnBox (w.heap.size) 4 27) := ⟨keepX_bk (by omega), keepX_own (by omega)⟩
  refine wp_region_inv (G := fun s n w_ => RgG (w.heap.size + 1) (fun i => i = w.heap.size + 1 ∨ i = w.heap.size) (OwnBox (w.heap.size) 4 27) (s 11 = false) (w2.alloc (.cells #[.int .i64 t.who, .slice a2 t.acts.length c2, .int .i64 t.til, .int .i64 t.sl] 27)) (20) n w_) (R := RgR (fun i => i = w.heap.size + 1 ∨ i = w.heap.size) (fun wz => Bk wz (w.heap.size) #[.int .i64 t.who, .slice a2 t.acts.length c2, .int .i64 t.til, .int .i64 t.sl] 27))
    (Fs := [Is (fun v => v = .agg #[.int .i64 t.who, .slice a2 t.acts.length c2, .int .i64 t.til, .int .i64 t.sl]), Is (fun v => v = .pointer (some ⟨w.heap.size + 1, 0, none⟩)), Is (IntIn (0) (15)), IsRow w2.heap.size 3 (IntIn (-1) (16)), IsRow w2.heap.size 6 (IntIn (0) (2)), Is (fun v => v = .pointer (some ⟨w.heap.size + 1, 0, none⟩)), Is (IntIn (0) (5)), IsPtr w2.heap.size (IntIn (0) (2)), Is (IntIn (0) (2)), IsPtr w2.heap.size (IntIn (-1) (16)), Is (IntIn (-1) (16)), (fun _ wz => Bk wz (w.heap.size) #[.int .i64 t.who, .slice a2 t.acts.length c2, .int .i64 t.til, .int .i64 t.sl] 27), Is (IntIn (-1) (16))])
    (by kernel_rfl) (by kernel_rfl) (fun _ => RgR.refl _) (fun h k => h.trans k) ?_ (fun _ _ => ⟨fun _ => (P3.rd.below (Below.dr (Below.refl _ _))).mono (by omega), (Grow.refl _ _).drew, ⟨_, rfl, KO3⟩⟩) ?_
  · (repeat' (first | exact lasts_nil | refine lasts_cons ?_ ?_))
    all_goals (first | exact Lasts.is | exact Lasts.any | exact Lasts.x | exact Lasts.row (fun i hi => by (try dsimp only at hi); omega) | exact Lasts.ptr (fun i hi => by (try dsimp only at hi); omega))
  refine inv_cons 0 (by rfl) (fun wx n s hn hcl hsi hG hR hd => ?_) (fun v0 => ?_)
  · replace hn : n < 13 := hn
    refine inv_want (by rfl) ?_
    have kt := KT.grow hG.grow (by (try dsimp only); omega)
    have xt := kt.cell
    unfold invAt invUpon; go_simp
    exact post_up (F := Is (fun v => v = .agg #[.int .i64 t.who, .slice a2 t.acts.length c2, .int .i64 t.til, .int .i64 t.sl])) (fun h => h) hG (is_eq rfl)
  simp only [Act.put, List.setIfInBounds_toArray, List.set_cons_zero, List.set_cons_succ, List.nil_append, List.cons_append]
  refine inv_cons 1 (by rfl) (fun wx n s hn hcl hsi hG hR hd => ?_) (fun v1 => ?_)
  · replace hn : n < 13 := hn
    refine inv_want (by rfl) ?_
    exact inv_move (.tmp 4) rfl (post_up (F := Is (fun v => v = .pointer (some ⟨w.heap.size + 1, 0, none⟩))) (fun h => h) hG (is_eq rfl))
  simp only [Act.put, List.setIfInBounds_toArray, List.set_cons_zero, List.set_cons_succ, List.nil_append, List.cons_append]
  refine inv_cons 2 (by rfl) (fun wx n s hn hcl hsi hG hR hd => ?_) (fun v2 => ?_)
  · replace hn : n < 13 := hn
    refine inv_want (by rfl) ?_
    have d1 : (Is (fun v => v = .pointer (some ⟨w.heap.size + 1, 0, none⟩))) v1 wx := dep_get hd 1 (by rfl)
    obtain rfl := d1
    unfold invAt invUpon; go_simp
    have hrd := hG.rd (not_yet hcl hsi 13 11 (by rfl))
    refine (pick_any _ _ _ _ hrd (by omega) (by omega)).mono ?_
    rintro e w' ⟨x, rfl, lo, hi, r⟩
    exact ⟨_, rfl, post_read (F := Is (IntIn (0) (15))) KXr (Or.inl rfl) hG r (by omega) ⟨x, rfl, by omega, by omega⟩⟩
  simp only [Act.put, List.setIfInBounds_toArray, List.set_cons_zero, List.set_cons_succ, List.nil_append, List.cons_append]
  refine inv_cons 3 (by rfl) (fun wx n s hn hcl hsi hG hR hd => ?_) (fun v3 => ?_)
  · replace hn : n < 13 := hn
    refine inv_want (by rfl) ?_
    have d2 : (Is (IntIn (0) (15))) v2 wx := dep_get hd 2 (by rfl)
    obtain ⟨x_2, rfl, lo_2, hi_2⟩ := d2
    unfold invAt invUpon; go_simp
    exact post_new (F := IsRow w2.heap.size 3 (IntIn (-1) (16))) (fun h => h) KXr hG (below_al _ _) ⟨_, _, _, rfl, by have := hG.grow.size; (try simp only [World.size_alloc, World.size_drew] at this); omega, Bk.new, allL_at rfl ⟨⟨_, rfl, by omega, by omega⟩, ⟨_, rfl, by omega, by omega⟩, ⟨_, rfl, by omega, by omega⟩, trivial⟩⟩
  simp only [Act.put, List.setIfInBounds_toArray, List.set_cons_zero, List.set_cons_succ, List.nil_append, List.cons_append]
  refine inv_cons 4 (by rfl) (fun wx n s hn hcl hsi hG hR hd => ?_) (fun v4 => ?_)
  · replace hn : n < 13 := hn
    refine inv_want (by rfl) ?_
    unfold invAt invUpon; go_simp
    exact post_new (F := IsRow w2.heap.size 6 (IntIn (0) (2))) (fun h => h) KXr hG (below_al _ _) ⟨_, _, _, rfl, by have := hG.grow.size; (try simp only [World.size_alloc, World.size_drew] at this); omega, Bk.new, allL_at rfl ⟨⟨_, rfl, by omega, by omega⟩, ⟨_, rfl, by omega, by omega⟩, ⟨_, rfl, by omega, by omega⟩, ⟨_, rfl, by omega, by omega⟩, ⟨_, rfl, by omega, by omega⟩, ⟨_, rfl, by omega, by omega⟩, trivial⟩⟩
  simp only [Act.put, List.setIfInBounds_toArray, List.set_cons_zero, List.set_cons_succ, List.nil_append, List.cons_append]
  refine inv_cons 5 (by rfl) (fun wx n s hn hcl hsi hG hR hd => ?_) (fun v5 => ?_)
  · replace hn : n < 13 := hn
    refine inv_want (by rfl) ?_
    exact inv_move (.tmp 4) rfl (post_up (F := Is (fun v => v = .pointer (some ⟨w.heap.size + 1, 0, none⟩))) (fun h => h) hG (is_eq rfl))
  simp only [Act.put, List.setIfInBounds_toArray, List.set_cons_zero, List.set_cons_succ, List.nil_append, List.cons_append]
  refine inv_cons 6 (by rfl) (fun wx n s hn hcl hsi hG hR hd => ?_) (fun v6 => ?_)
  · replace hn : n < 13 := hn
    refine inv_want (by rfl) ?_
    have d5 : (Is (fun v => v = .pointer (some ⟨w.heap.size + 1, 0, none⟩))) v5 wx := dep_get hd 5 (by rfl)
    obtain rfl := d5
    unfold invAt invUpon; go_simp
    have hrd := hG.rd (not_yet hcl hsi 13 11 (by rfl))
    refine (pick_any _ _ _ _ hrd (by omega) (by omega)).mono ?_
    rintro e w' ⟨x, rfl, lo, hi, r⟩
    exact ⟨_, rfl, post_read (F := Is (IntIn (0) (5))) KXr (Or.inl rfl) hG r (by omega) ⟨x, rfl, by omega, by omega⟩⟩
  simp only [Act.put, List.setIfInBounds_toArray, List.set_cons_zero, List.set_cons_succ, List.nil_append, List.cons_append]
  refine inv_cons 7 (by rfl) (fun wx n s hn hcl hsi hG hR hd => ?_) (fun v7 => ?_)
  · replace hn : n < 13 := hn
    refine inv_want (by rfl) ?_
    have d4 : (IsRow w2.heap.size 6 (IntIn (0) (2))) v4 wx := dep_get hd 4 (by rfl)
    obtain ⟨g_4, t_4, c_4, rfl, hl_4, hb_4, hc_4⟩ := d4
    have d6 : (Is (IntIn (0) (5))) v6 wx := dep_get hd 6 (by rfl)
    obtain ⟨x_6, rfl, lo_6, hi_6⟩ := d6
    obtain ⟨m, hm⟩ : ∃ m : Nat, x_6 = m := ⟨x_6.toNat, by omega⟩
    subst hm
    have hm6 : (m : Int) < 6 := by omega
    obtain ⟨y, hy, he⟩ := hc_4 m (by omega)
    unfold invAt invUpon; go_simp
    exact post_up (F := IsPtr w2.heap.size (IntIn (0) (2))) (fun h => h) hG ⟨_, _, y, rfl, hl_4, ((hb_4).cell m).trans hy, he⟩
  simp only [Act.put, List.setIfInBounds_toArray, List.set_cons_zero, List.set_cons_succ, List.nil_append, List.cons_append]
  refine inv_cons 8 (by rfl) (fun wx n s hn hcl hsi hG hR hd => ?_) (fun v8 => ?_)
  · replace hn : n < 13 := hn
    refine inv_want (by rfl) ?_
    have d7 : (IsPtr w2.heap.size (IntIn (0) (2))) v7 wx := dep_get hd 7 (by rfl)
    obtain ⟨g_7, o_7, y_7, rfl, hl_7, hc_7, he_7⟩ := d7; obtain ⟨x_7, rfl, lo_7, hi_7⟩ := he_7
    unfold invAt invUpon; go_simp
    exact post_up (F := Is (IntIn (0) (2))) (fun h => h) hG ⟨_, rfl, by omega, by omega⟩
  simp only [Act.put, List.setIfInBounds_toArray, List.set_cons_zero, List.set_cons_succ, List.nil_append, List.cons_append]
  refine inv_cons 9 (by rfl) (fun wx n s hn hcl hsi hG hR hd => ?_) (fun v9 => ?_)
  · replace hn : n < 13 := hn
    refine inv_want (by rfl) ?_
    have d3 : (IsRow w2.heap.size 3 (IntIn (-1) (16))) v3 wx := dep_get hd 3 (by rfl)
    obtain ⟨g_3, t_3, c_3, rfl, hl_3, hb_3, hc_3⟩ := d3
    have d8 : (Is (IntIn (0) (2))) v8 wx := dep_get hd 8 (by rfl)
    obtain ⟨x_8, rfl, lo_8, hi_8⟩ := d8
    obtain ⟨m, hm⟩ : ∃ m : Nat, x_8 = m := ⟨x_8.toNat, by omega⟩
    subst hm
    have hm6 : (m : Int) < 3 := by omega
    obtain ⟨y, hy, he⟩ := hc_3 m (by omega)
    unfold invAt invUpon; go_simp
    exact post_up (F := IsPtr w2.heap.size (IntIn (-1) (16))) (fun h => h) hG ⟨_, _, y, rfl, hl_3, ((hb_3).cell m).trans hy, he⟩
  simp only [Act.put, List.setIfInBounds_toArray, List.set_cons_zero, List.set_cons_succ, List.nil_append, List.cons_append]
  refine inv_cons 10 (by rfl) (fun wx n s hn hcl hsi hG hR hd => ?_) (fun v10 => ?_)
  · replace hn : n < 13 := hn
    refine inv_want (by rfl) ?_
    have d9 : (IsPtr w2.heap.size (IntIn (-1) (16))) v9 wx := dep_get hd 9 (by rfl)
    obtain ⟨g_9, o_9, y_9, rfl, hl_9, hc_9, he_9⟩ := d9; obtain ⟨x_9, rfl, lo_9, hi_9⟩ := he_9
    unfold invAt invUpon; go_simp
    exact post_up (F := Is (IntIn (-1) (16))) (fun h => h) hG ⟨_, rfl, by omega, by omega⟩
  simp only [Act.put, List.setIfInBounds_toArray, List.set_cons_zero, List.set_cons_succ, List.nil_append, List.cons_append]
  refine inv_cons 11 (by rfl) (fun wx n s hn hcl hsi hG hR hd => ?_) (fun v11 => ?_)
  · replace hn : n < 13 := hn
    refine inv_want (by rfl) ?_
    have d0 : (Is (fun v => v = .agg #[.int .i64 t.who, .slice a2 t.acts.length c2, .int .i64 t.til, .int .i64 t.sl])) v0 wx := dep_get hd 0 (by rfl)
    obtain rfl := d0
    obtain ⟨vs, hvs, ko⟩ := hG.own
    obtain ⟨z0, z1, z2, z3, rfl⟩ := arr4 hvs
    have xo := ko.cell
    have fo := ko.free
    unfold invAt invUpon; go_simp
    exact post_set (F := fun _ wz => Bk wz (w.heap.size) #[.int .i64 t.who, .slice a2 t.acts.length c2, .int .i64 t.til, .int .i64 t.sl] 27) (v := undef) (c := w.heap.size) (.inl (fun h => by simp [upd] at h)) (Or.inr rfl) hG (gby_set (gby_set (gby_set (gby_set (grownBy_refl _ _) 0 _) 1 _) 2 _) 3 _) ((((ko.same 0 _).same 1 _).same 2 _).same 3 _) ⟨_, rfl, ((((ko.same 0 _).same 1 _).same 2 _).same 3 _)⟩ ((((ko.same 0 _).same 1 _).same 2 _).same 3 _)
  simp only [Act.put, List.setIfInBounds_toArray, List.set_cons_zero, List.set_cons_succ, List.nil_append, List.cons_append]
  refine inv_cons 12 (by rfl) (fun wx n s hn hcl hsi hG hR hd => ?_) (fun v12 => ?_)
  · replace hn : n < 13 := hn
    refine inv_want (by rfl) ?_
    exact inv_assign (.tmp 24) rfl (post_up (F := Is (IntIn (-1) (16))) (fun h => h) hG (dep_get hd 10 (by rfl)))
  simp only [Act.put, List.setIfInBounds_toArray, List.set_cons_zero, List.set_cons_succ, List.nil_append, List.cons_append]
  refine inv_nil (fun wq nq sq hnq hGq hRq hall => ?_)
  replace hnq : nq ≤ 13 := hnq
  obtain ⟨f0, f1, f2, f3, f4, f5, f6, f7, f8, f9, f10, f11, f12, -⟩ := hall
  replace f12 : (Is (IntIn (-1) (16))) v12 wq := f12
  obtain ⟨xa, rfl, loa, hia⟩ := f12
  have xo9 := (show Bk wq (w.heap.size) #[.int .i64 t.who, .slice a2 t.acts.length c2, .int .i64 t.til, .int .i64 t.sl] 27 from f11).cell
  go_wp2_with fail
  (try simp only [Exit.inBlock, Exit.then]); refine bodyPost_ret (by simp [results, Try.results27, go_sem, xo9]; try rfl) rfl ?_
  have OQ := own_grow (own_drew (own_alloc O2.out (.cells #[.int .i64 t.who, .slice a2 t.acts.length c2, .int .i64 t.til, .int .i64 t.sl] 27))) hRq.1 (fun j hj => by have := own_gt O2.out j hj; (try dsimp only); omega)
  refine ⟨_, t, _, rfl, HB, own_lo OQ (by omega), ?_⟩
  have hB := Grow.below (w := w) hGq.grow (Below.al (below_rds (show Below w.heap.size w w1 from Below.via h1 (Below.al (Below.refl _ _) _)) P2 (by omega)) _) (fun i hi => by (try dsimp only at hi); omega)
  exact hB
set_option maxRecDepth 100000 in
set_option maxHeartbeats 6400000 in
theorem drawTicketActs_any (a : Option Addr) (len cap : Nat) (w : World) (h : Bytes w a len cap) : Calls Try.prog 29 #[.slice a len cap] w (TkA w) := by
  have H := Lib.hid h
  clear h
  have HZ := Lib.hid (Bytes.below H.out (show Below w.heap.size w (w.alloc (.cells #[.int .i64 0, .slice none 0 0, .int .i64 0, .int .i64 0] 27)) from Below.al (Below.refl _ _) _))
  have KO0 := Bk.new (w := w) (vs := #[.int .i64 0, .slice none 0 0, .int .i64 0, .int .i64 0]) (t := 27)
  go_enter Try.func29, Try.ntmps29
  go_wp2_with fail
  refine (open_any a len cap _ HZ.out).mono ?_
  rintro e w1 ⟨rfl, r1, h1⟩
  (try simp only [World.size_alloc, World.size_drew] at r1)
  have zb := r1.lt
  have hz1 := h1.size
  (try simp only [World.size_alloc, World.size_drew] at hz1)
  have KO := KO0.below h1
  go_wp2_with fail
  refine (l20Ticket_any _ 4 _ _ r1 (by omega) (by omega) (by omega)).mono ?_
  rintro e w2 ⟨key, t, v2, rfl, hk0, hk1, HB, o2, P2⟩
  obtain ⟨a2, c2, rfl, _, _⟩ := SlF.shape (own_sl o2)
  have O2 := Lib.hid o2
  have z2 := P2.size
  clear o2
  have KO2 := KO.rdn P2 (by omega)
  have KO3 := KO2.alloc (.cells #[.int .i64 t.who, .slice a2 t.acts.length c2, .int .i64 t.til, .int .i64 t.sl] 27)
  have KT := Bk.new (w := w2) (vs := #[.int .i64 t.who, .slice a2 t.acts.length c2, .int .i64 t.til, .int .i64 t.sl]) (t := 27)
  have P3 := Reads.mono (M2 := 20) (Reads.al P2 (.cells #[.int .i64 t.who, .slice a2 t.acts.length c2, .int .i64 t.til, .int .i64 t.sl] 27)) (by omega)
  have hw0 := HB.w0
  have hw1 := HB.w1
  have hu0 := HB.u0
  have hu1 := HB.u1
  go_wp2_with fail
  have KXr : KeepX (w.heap.size + 1) (fun wz => Bk wz (w.heap.size) #[.int .i64 t.who, .slice a2 t.acts.length c2, .int .i64 t.til, .int .i64 t.sl] 27) ∧ KeepX (w.heap.size + 1) (OwnBox (w.heap.size) 4 27) := ⟨keepX_bk (by omega), keepX_own (by omega)⟩
  refine wp_region_inv (G := fun s n w_ => RgG (w.heap.size + 1) (fun i => i = w.heap.size + 1 ∨ i = w.heap.size) (OwnBox (w.heap.size) 4 27) (s 30 = false) (w2.alloc (.cells #[.int .i64 t.who, .slice a2 t.acts.length c2, .int .i64 t.til, .int .i64 t.sl] 27)) (20) n w_) (R := RgR (fun i => i = w.heap.size + 1 ∨ i = w.heap.size) (fun wz => Bk wz (w.heap.size) #[.int .i64 t.who, .slice a2 t.acts.length c2, .int .i64 t.til, .int .i64 t.sl] 27))
    (Fs := [Is (fun v => v = .int .i64 key), Is (fun v => v = .pointer (some ⟨w.heap.size + 1, 0, none⟩)), Is (IntIn (0) (8)), Is (IntIn (0) (1)), Is (IntIn (-1) (100001)), Is (fun v => v = .agg #[.int .i64 t.who, .slice a2 t.acts.length c2, .int .i64 t.til, .int .i64 t.sl]), Is (fun v => v = .pointer (some ⟨w2.heap.size, 0, none⟩)), Is (fun v => v = .int .i64 t.who), Is (fun v => v = .pointer (some ⟨w.heap.size + 1, 0, none⟩)), Is (IntIn (0) (3)), IsRow w2.heap.size 2 (IntIn (-1) (7)), Is (fun v => v = .pointer (some ⟨w.heap.size + 1, 0, none⟩)), Is (IntIn (0) (3)), Is (IntIn (0) (1)), IsPtr w2.heap.size (IntIn (-1) (7)), Is (IntIn (-1) (7)), Is (fun v => v = .pointer (some ⟨w.heap.size + 1, 0, none⟩)), Is (IntIn (0) (19)), Is (fun v => v = .pointer (some ⟨w2.heap.size, 2, none⟩)), Is (fun v => v = .int .i64 t.til), Is (fun v => v = .pointer (some ⟨w.heap.size + 1, 0, none⟩)), Is (IntIn (0) (1)), Is (IntIn (-2) (1001)), IsRow w2.heap.size 2 (IntIn (-2) (1001)), Is (fun v => v = .pointer (some ⟨w.heap.size + 1, 0, none⟩)), Is (IntIn (0) (2)), Is (IntIn (0) (1)), IsPtr w2.heap.size (IntIn (-2) (1001)), Is (IntIn (-2) (1001)), Is (IntIn (-1) (100001)), (fun _ wz => Bk wz (w.heap.size) #[.int .i64 t.who, .slice a2 t.acts.length c2, .int .i64 t.til, .int .i64 t.sl] 27), Is (IntIn (-1) (7)), Is (IntIn (-2) (1001))])
    (by kernel_rfl) (by kernel_rfl) (fun _ => RgR.refl _) (fun h k => h.trans k) ?_ (fun _ _ => ⟨fun _ => (P3.rd.below (Below.dr (Below.refl _ _))).mono (by omega), (Grow.refl _ _).drew, ⟨_, rfl, KO3⟩⟩) ?_
  · (repeat' (first | exact lasts_nil | refine lasts_cons ?_ ?_))
    all_goals (first | exact Lasts.is | exact Lasts.any | exact Lasts.x | exact Lasts.row (fun i hi => by (try dsimp only at hi); omega) | exact Lasts.ptr (fun i hi => by (try dsimp only at hi); omega))
  refine inv_cons 0 (by rfl) (fun wx n s hn hcl hsi hG hR hd => ?_) (fun v0 => ?_)
  · replace hn : n < 33 := hn
    refine inv_want (by rfl) ?_
    exact inv_move (.tmp 7) rfl (post_up (F := Is (fun v => v = .int .i64 key)) (fun h => h) hG (is_eq rfl))
  simp only [Act.put, List.setIfInBounds_toArray, List.set_cons_zero, List.set_cons_succ, List.nil_append, List.cons_append]
  refine inv_cons 1 (by rfl) (fun wx n s hn hcl hsi hG hR hd => ?_) (fun v1 => ?_)
  · replace hn : n < 33 := hn
    refine inv_want (by rfl) ?_
    exact inv_move (.tmp 6) rfl (post_up (F := Is (fun v => v = .pointer (some ⟨w.heap.size + 1, 0, none⟩))) (fun h => h) hG (is_eq rfl))
  simp only [Act.put, List.setIfInBounds_toArray, List.set_cons_zero, List.set_cons_succ, List.nil_append, List.cons_append]
  refine inv_cons 2 (by rfl) (fun wx n s hn hcl hsi hG hR hd => ?_) (fun v2 => ?_)
  · replace hn : n < 33 := hn
    refine inv_want (by rfl) ?_
    have d1 : (Is (fun v => v = .pointer (some ⟨w.heap.size + 1, 0, none⟩))) v1 wx := dep_get hd 1 (by rfl)
    obtain rfl := d1
    unfold invAt invUpon; go_simp
    have hrd := hG.rd (not_yet hcl hsi 33 30 (by rfl))
    refine (pick_any _ _ _ _ hrd (by omega) (by omega)).mono ?_
    rintro e w' ⟨x, rfl, lo, hi, r⟩
    exact ⟨_, rfl, post_read (F := Is (IntIn (0) (8))) KXr (Or.inl rfl) hG r (by omega) ⟨x, rfl, by omega, by omega⟩⟩
  simp only [Act.put, List.setIfInBounds_toArray, List.set_cons_zero, List.set_cons_succ, List.nil_append, List.cons_append]
  refine inv_cons 3 (by rfl) (fun wx n s hn hcl hsi hG hR hd => ?_) (fun v3 => ?_)
  · replace hn : n < 33 := hn
    refine inv_want (by rfl) ?_
    have d2 : (Is (IntIn (0) (8))) v2 wx := dep_get hd 2 (by rfl)
    obtain ⟨x_2, rfl, lo_2, hi_2⟩ := d2
    unfold invAt invUpon; go_simp
    try rw [Int.tdiv_eq_ediv_of_nonneg (by omega)]
    try rw [IntWalk.i64_in _ (by omega)]
    exact post_up (F := Is (IntIn (0) (1))) (fun h => h) hG ⟨_, rfl, by omega, by omega⟩
  simp only [Act.put, List.setIfInBounds_toArray, List.set_cons_zero, List.set_cons_succ, List.nil_append, List.cons_append]
  refine inv_cons 4 (by rfl) (fun wx n s hn hcl hsi hG hR hd => ?_) (fun v4 => ?_)
  · replace hn : n < 33 := hn
    refine inv_want (by rfl) ?_
    have d0 : (Is (fun v => v = .int .i64 key)) v0 wx := dep_get hd 0 (by rfl)
    obtain rfl := d0
    have d3 : (Is (IntIn (0) (1))) v3 wx := dep_get hd 3 (by rfl)
    obtain ⟨x_3, rfl, lo_3, hi_3⟩ := d3
    unfold invAt invUpon; go_simp
    try rw [IntWalk.i64_in _ (by omega)]
    exact post_up (F := Is (IntIn (-1) (100001))) (fun h => h) hG ⟨_, rfl, by omega, by omega⟩
  simp only [Act.put, List.setIfInBounds_toArray, List.set_cons_zero, List.set_cons_succ, List.nil_append, List.cons_append]
  refine inv_cons 5 (by rfl) (fun wx n s hn hcl hsi hG hR hd => ?_) (fun v5 => ?_)
  · replace hn : n < 33 := hn
    refine inv_want (by rfl) ?_
    have kt := KT.grow hG.grow (by (try dsimp only); omega)
    have xt := kt.cell
    unfold invAt invUpon; go_simp
    exact post_up (F := Is (fun v => v = .agg #[.int .i64 t.who, .slice a2 t.acts.length c2, .int .i64 t.til, .int .i64 t.sl])) (fun h => h) hG (is_eq rfl)
  simp only [Act.put, List.setIfInBounds_toArray, List.set_cons_zero, List.set_cons_succ, List.nil_append, List.cons_append]
  refine inv_cons 6 (by rfl) (fun wx n s hn hcl hsi hG hR hd => ?_) (fun v6 => ?_)
  · replace hn : n < 33 := hn
    refine inv_want (by rfl) ?_
    unfold invAt invUpon; go_simp
    exact post_up (F := Is (fun v => v = .pointer (some ⟨w2.heap.size, 0, none⟩))) (fun h => h) hG (is_eq rfl)
  simp only [Act.put, List.setIfInBounds_toArray, List.set_cons_zero, List.set_cons_succ, List.nil_append, List.cons_append]
  refine inv_cons 7 (by rfl) (fun wx n s hn hcl hsi hG hR hd => ?_) (fun v7 => ?_)
  · replace hn : n < 33 := hn
    refine inv_want (by rfl) ?_
    have d6 : (Is (fun v => v = .pointer (some ⟨w2.heap.size, 0, none⟩))) v6 wx := dep_get hd 6 (by rfl)
    obtain rfl := d6
    have kt := KT.grow hG.grow (by (try dsimp only); omega)
    have xt := kt.cell
    unfold invAt invUpon; go_simp
    exact post_up (F := Is (fun v => v = .int .i64 t.who)) (fun h => h) hG (is_eq rfl)
  simp only [Act.put, List.setIfInBounds_toArray, List.set_cons_zero, List.set_cons_succ, List.nil_append, List.cons_append]
  refine inv_cons 8 (by rfl) (fun wx n s hn hcl hsi hG hR hd => ?_) (fun v8 => ?_)
  · replace hn : n < 33 := hn
    refine inv_want (by rfl) ?_
    exact inv_move (.tmp 6) rfl (post_up (F := Is (fun v => v = .pointer (some ⟨w.heap.size + 1, 0, none⟩))) (fun h => h) hG (is_eq rfl))
  simp only [Act.put, List.setIfInBounds_toArray, List.set_cons_zero, List.set_cons_succ, List.nil_append, List.cons_append]
  refine inv_cons 9 (by rfl) (fun wx n s hn hcl hsi hG hR hd => ?_) (fun v9 => ?_)
  · replace hn : n < 33 := hn
    refine inv_want (by rfl) ?_
    have d8 : (Is (fun v => v = .pointer (some ⟨w.heap.size + 1, 0, none⟩))) v8 wx := dep_get hd 8 (by rfl)
    obtain rfl := d8
    unfold invAt invUpon; go_simp
    have hrd := hG.rd (not_yet hcl hsi 33 30 (by rfl))
    refine (pick_any _ _ _ _ hrd (by omega) (by omega)).mono ?_
    rintro e w' ⟨x, rfl, lo, hi, r⟩
    exact ⟨_, rfl, post_read (F := Is (IntIn (0) (3))) KXr (Or.inl rfl) hG r (by omega) ⟨x, rfl, by omega, by omega⟩⟩
  simp only [Act.put, List.setIfInBounds_toArray, List.set_cons_zero, List.set_cons_succ, List.nil_append, List.cons_append]
  refine inv_cons 10 (by rfl) (fun wx n s hn hcl hsi hG hR hd => ?_) (fun v10 => ?_)
  · replace hn : n < 33 := hn
    refine inv_want (by rfl) ?_
    have d7 : (Is (fun v => v = .int .i64 t.who)) v7 wx := dep_get hd 7 (by rfl)
    obtain rfl := d7
    have d9 : (Is (IntIn (0) (3))) v9 wx := dep_get hd 9 (by rfl)
    obtain ⟨x_9, rfl, lo_9, hi_9⟩ := d9
    unfold invAt invUpon; go_simp
    exact post_new (F := IsRow w2.heap.size 2 (IntIn (-1) (7))) (fun h => h) KXr hG (below_al _ _) ⟨_, _, _, rfl, by have := hG.grow.size; (try simp only [World.size_alloc, World.size_drew] at this); omega, Bk.new, allL_at rfl ⟨⟨_, rfl, by omega, by omega⟩, ⟨_, rfl, by omega, by omega⟩, trivial⟩⟩
  simp only [Act.put, List.setIfInBounds_toArray, List.set_cons_zero, List.set_cons_succ, List.nil_append, List.cons_append]
  refine inv_cons 11 (by rfl) (fun wx n s hn hcl hsi hG hR hd => ?_) (fun v11 => ?_)
  · replace hn : n < 33 := hn
    refine inv_want (by rfl) ?_
    exact inv_move (.tmp 6) rfl (post_up (F := Is (fun v => v = .pointer (some ⟨w.heap.size + 1, 0, none⟩))) (fun h => h) hG (is_eq rfl))
  simp only [Act.put, List.setIfInBounds_toArray, List.set_cons_zero, List.set_cons_succ, List.nil_append, List.cons_append]
  refine inv_cons 12 (by rfl) (fun wx n s hn hcl hsi hG hR hd => ?_) (fun v12 => ?_)
  · replace hn : n < 33 := hn
    refine inv_want (by rfl) ?_
    have d11 : (Is (fun v => v = .pointer (some ⟨w.heap.size + 1, 0, none⟩))) v11 wx := dep_get hd 11 (by rfl)
    obtain rfl := d11
    unfold invAt invUpon; go_simp
    have hrd := hG.rd (not_yet hcl hsi 33 30 (by rfl))
    refine (pick_any _ _ _ _ hrd (by omega) (by omega)).mono ?_
    rintro e w' ⟨x, rfl, lo, hi, r⟩
    exact ⟨_, rfl, post_read (F := Is (IntIn (0) (3))) KXr (Or.inl rfl) hG r (by omega) ⟨x, rfl, by omega, by omega⟩⟩
  simp only [Act.put, List.setIfInBounds_toArray, List.set_cons_zero, List.set_cons_succ, List.nil_append, List.cons_append]
  refine inv_cons 13 (by rfl) (fun wx n s hn hcl hsi hG hR hd => ?_) (fun v13 => ?_)
  · replace hn : n < 33 := hn
    refine inv_want (by rfl) ?_
    have d12 : (Is (IntIn (0) (3))) v12 wx := dep_get hd 12 (by rfl)
    obtain ⟨x_12, rfl, lo_12, hi_12⟩ := d12
    unfold invAt invUpon; go_simp
    try rw [Int.tdiv_eq_ediv_of_nonneg (by omega)]
    try rw [IntWalk.i64_in _ (by omega)]
    exact post_up (F := Is (IntIn (0) (1))) (fun h => h) hG ⟨_, rfl, by omega, by omega⟩
  simp only [Act.put, List.setIfInBounds_toArray, List.set_cons_zero, List.set_cons_succ, List.nil_append, List.cons_append]
  refine inv_cons 14 (by rfl) (fun wx n s hn hcl hsi hG hR hd => ?_) (fun v14 => ?_)
  · replace hn : n < 33 := hn
    refine inv_want (by rfl) ?_
    have d10 : (IsRow w2.heap.size 2 (IntIn (-1) (7))) v10 wx := dep_get hd 10 (by rfl)
    obtain ⟨g_10, t_10, c_10, rfl, hl_10, hb_10, hc_10⟩ := d10
    have d13 : (Is (IntIn (0) (1))) v13 wx := dep_get hd 13 (by rfl)
    obtain ⟨x_13, rfl, lo_13, hi_13⟩ := d13
    obtain ⟨m, hm⟩ : ∃ m : Nat, x_13 = m := ⟨x_13.toNat, by omega⟩
    subst hm
    have hm6 : (m : Int) < 2 := by omega
    obtain ⟨y, hy, he⟩ := hc_10 m (by omega)
    unfold invAt invUpon; go_simp
    exact post_up (F := IsPtr w2.heap.size (IntIn (-1) (7))) (fun h => h) hG ⟨_, _, y, rfl, hl_10, ((hb_10).cell m).trans hy, he⟩
  simp only [Act.put, List.setIfInBounds_toArray, List.set_cons_zero, List.set_cons_succ, List.nil_append, List.cons_append]
  refine inv_cons 15 (by rfl) (fun wx n s hn hcl hsi hG hR hd => ?_) (fun v15 => ?_)
  · replace hn : n < 33 := hn
    refine inv_want (by rfl) ?_
    have d14 : (IsPtr w2.heap.size (IntIn (-1) (7))) v14 wx := dep_get hd 14 (by rfl)
    obtain ⟨g_14, o_14, y_14, rfl, hl_14, hc_14, he_14⟩ := d14; obtain ⟨x_14, rfl, lo_14, hi_14⟩ := he_14
    unfold invAt invUpon; go_simp
    exact post_up (F := Is (IntIn (-1) (7))) (fun h => h) hG ⟨_, rfl, by omega, by omega⟩
  simp only [Act.put, List.setIfInBounds_toArray, List.set_cons_zero, List.set_cons_succ, List.nil_append, List.cons_append]
  refine inv_cons 16 (by rfl) (fun wx n s hn hcl hsi hG hR hd => ?_) (fun v16 => ?_)
  · replace hn : n < 33 := hn
    refine inv_want (by rfl) ?_
    exact inv_move (.tmp 6) rfl (post_up (F := Is (fun v => v = .pointer (some ⟨w.heap.size + 1, 0, none⟩))) (fun h => h) hG (is_eq rfl))
  simp only [Act.put, List.setIfInBounds_toArray, List.set_cons_zero, List.set_cons_succ, List.nil_append, List.cons_append]
  refine inv_cons 17 (by rfl) (fun wx n s hn hcl hsi hG hR hd => ?_) (fun v17 => ?_)
  · replace hn : n < 33 := hn
    refine inv_want (by rfl) ?_
    have d16 : (Is (fun v => v = .pointer (some ⟨w.heap.size + 1, 0, none⟩))) v16 wx := dep_get hd 16 (by rfl)
    obtain rfl := d16
    unfold invAt invUpon; go_simp
    have hrd := hG.rd (not_yet hcl hsi 33 30 (by rfl))
    refine (pick_any _ _ _ _ hrd (by omega) (by omega)).mono ?_
    rintro e w' ⟨x, rfl, lo, hi, r⟩
    exact ⟨_, rfl, post_read (F := Is (IntIn (0) (19))) KXr (Or.inl rfl) hG r (by omega) ⟨x, rfl, by omega, by omega⟩⟩
  simp only [Act.put, List.setIfInBounds_toArray, List.set_cons_zero, List.set_cons_succ, List.nil_append, List.cons_append]
  refine inv_cons 18 (by rfl) (fun wx n s hn hcl hsi hG hR hd => ?_) (fun v18 => ?_)
  · replace hn : n < 33 := hn
    refine inv_want (by rfl) ?_
    unfold invAt invUpon; go_simp
    exact post_up (F := Is (fun v => v = .pointer (some ⟨w2.heap.size, 2, none⟩))) (fun h => h) hG (is_eq rfl)
  simp only [Act.put, List.setIfInBounds_toArray, List.set_cons_zero, List.set_cons_succ, List.nil_append, List.cons_append]
  refine inv_cons 19 (by rfl) (fun wx n s hn hcl hsi hG hR hd => ?_) (fun v19 => ?_)
  · replace hn : n < 33 := hn
    refine inv_want (by rfl) ?_
    have d18 : (Is (fun v => v = .pointer (some ⟨w2.heap.size, 2, none⟩))) v18 wx := dep_get hd 18 (by rfl)
    obtain rfl := d18
    have kt := KT.grow hG.grow (by (try dsimp only); omega)
    have xt := kt.cell
    unfold invAt invUpon; go_simp
    exact post_up (F := Is (fun v => v = .int .i64 t.til)) (fun h => h) hG (is_eq rfl)
  simp only [Act.put, List.setIfInBounds_toArray, List.set_cons_zero, List.set_cons_succ, List.nil_append, List.cons_append]
  refine inv_cons 20 (by rfl) (fun wx n s hn hcl hsi hG hR hd => ?_) (fun v20 => ?_)
  · replace hn : n < 33 := hn
    refine inv_want (by rfl) ?_
    exact inv_move (.tmp 6) rfl (post_up (F := Is (fun v => v = .pointer (some ⟨w.heap.size + 1, 0, none⟩))) (fun h => h) hG (is_eq rfl))
  simp only [Act.put, List.setIfInBounds_toArray, List.set_cons_zero, List.set_cons_succ, List.nil_append, List.cons_append]
  refine inv_cons 21 (by rfl) (fun wx n s hn hcl hsi hG hR hd => ?_) (fun v21 => ?_)
  · replace hn : n < 33 := hn
    refine inv_want (by rfl) ?_
    have d20 : (Is (fun v => v = .pointer (some ⟨w.heap.size + 1, 0, none⟩))) v20 wx := dep_get hd 20 (by rfl)
    obtain rfl := d20
    unfold invAt invUpon; go_simp
    have hrd := hG.rd (not_yet hcl hsi 33 30 (by rfl))
    refine (pick_any _ _ _ _ hrd (by omega) (by omega)).mono ?_
    rintro e w' ⟨x, rfl, lo, hi, r⟩
    exact ⟨_, rfl, post_read (F := Is (IntIn (0) (1))) KXr (Or.inl rfl) hG r (by omega) ⟨x, rfl, by omega, by omega⟩⟩
  simp only [Act.put, List.setIfInBounds_toArray, List.set_cons_zero, List.set_cons_succ, List.nil_append, List.cons_append]
  refine inv_cons 22 (by rfl) (fun wx n s hn hcl hsi hG hR hd => ?_) (fun v22 => ?_)
  · replace hn : n < 33 := hn
    refine inv_want (by rfl) ?_
    have d19 : (Is (fun v => v = .int .i64 t.til)) v19 wx := dep_get hd 19 (by rfl)
    obtain rfl := d19
    have d21 : (Is (IntIn (0) (1))) v21 wx := dep_get hd 21 (by rfl)
    obtain ⟨x_21, rfl, lo_21, hi_21⟩ := d21
    unfold invAt invUpon; go_simp
    try rw [IntWalk.i64_in _ (by omega)]
    exact post_up (F := Is (IntIn (-2) (1001))) (fun h => h) hG ⟨_, rfl, by omega, by omega⟩
  simp only [Act.put, List.setIfInBounds_toArray, List.set_cons_zero, List.set_cons_succ, List.nil_append, List.cons_append]
  refine inv_cons 23 (by rfl) (fun wx n s hn hcl hsi hG hR hd => ?_) (fun v23 => ?_)
  · replace hn : n < 33 := hn
    refine inv_want (by rfl) ?_
    have d17 : (Is (IntIn (0) (19))) v17 wx := dep_get hd 17 (by rfl)
    obtain ⟨x_17, rfl, lo_17, hi_17⟩ := d17
    have d22 : (Is (IntIn (-2) (1001))) v22 wx := dep_get hd 22 (by rfl)
    obtain ⟨x_22, rfl, lo_22, hi_22⟩ := d22
    unfold invAt invUpon; go_simp
    exact post_new (F := IsRow w2.heap.size 2 (IntIn (-2) (1001))) (fun h => h) KXr hG (below_al _ _) ⟨_, _, _, rfl, by have := hG.grow.size; (try simp only [World.size_alloc, World.size_drew] at this); omega, Bk.new, allL_at rfl ⟨⟨_, rfl, by omega, by omega⟩, ⟨_, rfl, by omega, by omega⟩, trivial⟩⟩
  simp only [Act.put, List.setIfInBounds_toArray, List.set_cons_zero, List.set_cons_succ, List.nil_append, List.cons_append]
  refine inv_cons 24 (by rfl) (fun wx n s hn hcl hsi hG hR hd => ?_) (fun v24 => ?_)
  · replace hn : n < 33 := hn
    refine inv_want (by rfl) ?_
    exact inv_move (.tmp 6) rfl (post_up (F := Is (fun v => v = .pointer (some ⟨w.heap.size + 1, 0, none⟩))) (fun h => h) hG (is_eq rfl))
  simp only [Act.put, List.setIfInBounds_toArray, List.set_cons_zero, List.set_cons_succ, List.nil_append, List.cons_append]
  refine inv_cons 25 (by rfl) (fun wx n s hn hcl hsi hG hR hd => ?_) (fun v25 => ?_)
  · replace hn : n < 33 := hn
    refine inv_want (by rfl) ?_
    have d24 : (Is (fun v => v = .pointer (some ⟨w.heap.size + 1, 0, none⟩))) v24 wx := dep_get hd 24 (by rfl)
    obtain rfl := d24
    unfold invAt invUpon; go_simp
    have hrd := hG.rd (not_yet hcl hsi 33 30 (by rfl))
    refine (pick_any _ _ _ _ hrd (by omega) (by omega)).mono ?_
    rintro e w' ⟨x, rfl, lo, hi, r⟩
    exact ⟨_, rfl, post_read (F := Is (IntIn (0) (2))) KXr (Or.inl rfl) hG r (by omega) ⟨x, rfl, by omega, by omega⟩⟩
  simp only [Act.put, List.setIfInBounds_toArray, List.set_cons_zero, List.set_cons_succ, List.nil_append, List.cons_append]
  refine inv_cons 26 (by rfl) (fun wx n s hn hcl hsi hG hR hd => ?_) (fun v26 => ?_)
  · replace hn : n < 33 := hn
    refine inv_want (by rfl) ?_
    have d25 : (Is (IntIn (0) (2))) v25 wx := dep_get hd 25 (by rfl)
    obtain ⟨x_25, rfl, lo_25, hi_25⟩ := d25
    unfold invAt invUpon; go_simp
    try rw [Int.tdiv_eq_ediv_of_nonneg (by omega)]
    try rw [IntWalk.i64_in _ (by omega)]
    exact post_up (F := Is (IntIn (0) (1))) (fun h => h) hG ⟨_, rfl, by omega, by omega⟩
  simp only [Act.put, List.setIfInBounds_toArray, List.set_cons_zero, List.set_cons_succ, List.nil_append, List.cons_append]
  refine inv_cons 27 (by rfl) (fun wx n s hn hcl hsi hG hR hd => ?_) (fun v27 => ?_)
  · replace hn : n < 33 := hn
    refine inv_want (by rfl) ?_
    have d23 : (IsRow w2.heap.size 2 (IntIn (-2) (1001))) v23 wx := dep_get hd 23 (by rfl)
    obtain ⟨g_23, t_23, c_23, rfl, hl_23, hb_23, hc_23⟩ := d23
    have d26 : (Is (IntIn (0) (1))) v26 wx := dep_get hd 26 (by rfl)
    obtain ⟨x_26, rfl, lo_26, hi_26⟩ := d26
    obtain ⟨m, hm⟩ : ∃ m : Nat, x_26 = m := ⟨x_26.toNat, by omega⟩
    subst hm
    have hm6 : (m : Int) < 2 := by omega
    obtain ⟨y, hy, he⟩ := hc_23 m (by omega)
    unfold invAt invUpon; go_simp
    exact post_up (F := IsPtr w2.heap.size (IntIn (-2) (1001))) (fun h => h) hG ⟨_, _, y, rfl, hl_23, ((hb_23).cell m).trans hy, he⟩
  simp only [Act.put, List.setIfInBounds_toArray, List.set_cons_zero, List.set_cons_succ, List.nil_append, List.cons_append]
  refine inv_cons 28 (by rfl) (fun wx n s hn hcl hsi hG hR hd => ?_) (fun v28 => ?_)
  · replace hn : n < 33 := hn
    refine inv_want (by rfl) ?_
    have d27 : (IsPtr w2.heap.size (IntIn (-2) (1001))) v27 wx := dep_get hd 27 (by rfl)
    obtain ⟨g_27, o_27, y_27, rfl, hl_27, hc_27, he_27⟩ := d27; obtain ⟨x_27, rfl, lo_27, hi_27⟩ := he_27
    unfold invAt invUpon; go_simp
    exact post_up (F := Is (IntIn (-2) (1001))) (fun h => h) hG ⟨_, rfl, by omega, by omega⟩
  simp only [Act.put, List.setIfInBounds_toArray, List.set_cons_zero, List.set_cons_succ, List.nil_append, List.cons_append]
  refine inv_cons 29 (by rfl) (fun wx n s hn hcl hsi hG hR hd => ?_) (fun v29 => ?_)
  · replace hn : n < 33 := hn
    refine inv_want (by rfl) ?_
    exact inv_assign (.tmp 20) rfl (post_up (F := Is (IntIn (-1) (100001))) (fun h => h) hG (dep_get hd 4 (by rfl)))
  simp only [Act.put, List.setIfInBounds_toArray, List.set_cons_zero, List.set_cons_succ, List.nil_append, List.cons_append]
  refine inv_cons 30 (by rfl) (fun wx n s hn hcl hsi hG hR hd => ?_) (fun v30 => ?_)
  · replace hn : n < 33 := hn
    refine inv_want (by rfl) ?_
    have d5 : (Is (fun v => v = .agg #[.int .i64 t.who, .slice a2 t.acts.length c2, .int .i64 t.til, .int .i64 t.sl])) v5 wx := dep_get hd 5 (by rfl)
    obtain rfl := d5
    obtain ⟨vs, hvs, ko⟩ := hG.own
    obtain ⟨z0, z1, z2, z3, rfl⟩ := arr4 hvs
    have xo := ko.cell
    have fo := ko.free
    unfold invAt invUpon; go_simp
    exact post_set (F := fun _ wz => Bk wz (w.heap.size) #[.int .i64 t.who, .slice a2 t.acts.length c2, .int .i64 t.til, .int .i64 t.sl] 27) (v := undef) (c := w.heap.size) (.inl (fun h => by simp [upd] at h)) (Or.inr rfl) hG (gby_set (gby_set (gby_set (gby_set (grownBy_refl _ _) 0 _) 1 _) 2 _) 3 _) ((((ko.same 0 _).same 1 _).same 2 _).same 3 _) ⟨_, rfl, ((((ko.same 0 _).same 1 _).same 2 _).same 3 _)⟩ ((((ko.same 0 _).same 1 _).same 2 _).same 3 _)
  simp only [Act.put, List.setIfInBounds_toArray, List.set_cons_zero, List.set_cons_succ, List.nil_append, List.cons_append]
  refine inv_cons 31 (by rfl) (fun wx n s hn hcl hsi hG hR hd => ?_) (fun v31 => ?_)
  · replace hn : n < 33 := hn
    refine inv_want (by rfl) ?_
    exact inv_assign (.tmp 31) rfl (post_up (F := Is (IntIn (-1) (7))) (fun h => h) hG (dep_get hd 15 (by rfl)))
  simp only [Act.put, List.setIfInBounds_toArray, List.set_cons_zero, List.set_cons_succ, List.nil_append, List.cons_append]
  refine inv_cons 32 (by rfl) (fun wx n s hn hcl hsi hG hR hd => ?_) (fun v32 => ?_)
  · replace hn : n < 33 := hn
    refine inv_want (by rfl) ?_
    exact inv_assign (.tmp 44) rfl (post_up (F := Is (IntIn (-2) (1001))) (fun h => h) hG (dep_get hd 28 (by rfl)))
  simp only [Act.put, List.setIfInBounds_toArray, List.set_cons_zero, List.set_cons_succ, List.nil_append, List.cons_append]
  refine inv_nil (fun wq nq sq hnq hGq hRq hall => ?_)
  replace hnq : nq ≤ 33 := hnq
  obtain ⟨f0, f1, f2, f3, f4, f5, f6, f7, f8, f9, f10, f11, f12, f13, f14, f15, f16, f17, f18, f19, f20, f21, f22, f23, f24, f25, f26, f27, f28, f29, f30, f31, f32, -⟩ := hall
  replace f29 : (Is (IntIn (-1) (100001))) v29 wq := f29
  obtain ⟨xk, rfl, lok, hik⟩ := f29
  replace f31 : (Is (IntIn (-1) (7))) v31 wq := f31
  obtain ⟨xp, rfl, lop, hip⟩ := f31
  replace f32 : (Is (IntIn (-2) (1001))) v32 wq := f32
  obtain ⟨xn, rfl, lon, hin⟩ := f32
  have xo9 := (show Bk wq (w.heap.size) #[.int .i64 t.who, .slice a2 t.acts.length c2, .int .i64 t.til, .int .i64 t.sl] 27 from f30).cell
  go_wp2_with fail
  (try simp only [Exit.inBlock, Exit.then]); refine bodyPost_ret (by simp [results, Try.results29, go_sem, xo9]; try rfl) rfl ?_
  have OQ := own_grow (own_drew (own_alloc O2.out (.cells #[.int .i64 t.who, .slice a2 t.acts.length c2, .int .i64 t.til, .int .i64 t.sl] 27))) hRq.1 (fun j hj => by have := own_gt O2.out j hj; (try dsimp only); omega)
  refine ⟨_, _, _, t, _, rfl, HB, (by omega), (by omega), own_lo OQ (by omega), ?_⟩
  have hB := Grow.below (w := w) hGq.grow (Below.al (below_rds (show Below w.heap.size w w1 from Below.via h1 (Below.al (Below.refl _ _) _)) P2 (by omega)) _) (fun i hi => by (try dsimp only at hi); omega)
  exact hB
set_option maxRecDepth 100000 in
set_option maxHeartbeats 6400000 in
theorem drawMakeTicket_any (a : Option Addr) (len cap : Nat) (w : World) (h : Bytes w a len cap) : Calls Try.prog 23 #[.slice a len cap] w (TkM w) := by
  have H := Lib.hid h
  clear h
  go_enter Try.func23, Try.ntmps23
  go_wp2_with fail
  refine (open_any a len cap _ H.out).mono ?_
  rintro e w1 ⟨rfl, r1, h1⟩
  (try simp only [World.size_alloc, World.size_drew] at r1)
  have zb := r1.lt
  have hz1 := h1.size
  (try simp only [World.size_alloc, World.size_drew] at hz1)
  go_wp2_with fail
  refine (l20Ticket_any _ 0 _ _ r1 (by omega) (by omega) (by omega)).mono ?_
  rintro e w2 ⟨key, t, v2, rfl, hk0, hk1, HB, o2, P2⟩
  obtain ⟨a2, c2, rfl, _, _⟩ := SlF.shape (own_sl o2)
  have O2 := Lib.hid o2
  have z2 := P2.size
  clear o2
  have KT := Bk.new (w := w2) (vs := #[.int .i64 t.who, .slice a2 t.acts.length c2, .int .i64 t.til, .int .i64 t.sl]) (t := 27)
  have P3 := Reads.mono (M2 := 20) (Reads.al P2 (.cells #[.int .i64 t.who, .slice a2 t.acts.length c2, .int .i64 t.til, .int .i64 t.sl] 27)) (by omega)
  have hw0 := HB.w0
  have hw1 := HB.w1
  have hu0 := HB.u0
  have hu1 := HB.u1
  go_wp2_with fail
  have KXr : KeepX (w.heap.size) (fun _ => True) ∧ KeepX (w.heap.size) (fun _ => True) := ⟨keepX_true _, keepX_true _⟩
  refine wp_region_inv (G := fun s n w_ => RgG (w.heap.size) (fun i => i = w.heap.size) (fun _ => True) (True) (w2.alloc (.cells #[.int .i64 t.who, .slice a2 t.acts.length c2, .int .i64 t.til, .int .i64 t.sl] 27)) (20) n w_) (R := RgR (fun i => i = w.heap.size) (fun _ => True))
    (Fs := [Is (fun v => v = .int .i64 key), Is (fun v => v = .pointer (some ⟨w2.heap.size, 0, none⟩)), Is (fun v => v = .int .i64 t.who), Is (fun v => v = .pointer (some ⟨w.heap.size, 0, none⟩)), Is (IntIn (0) (8)), Is (IntIn (0) (1)), Is (IntIn (0) (7)), Is (IntIn (-1) (14)), Is (fun v => v = .pointer (some ⟨w.heap.size, 0, none⟩)), Is (IntIn (0) (15)), Is (fun v => v = .pointer (some ⟨w.heap.size, 0, none⟩)), Is (IntIn (0) (13)), Is (IntIn (0) (1)), Is (IntIn (0) (15)), Is (IntIn (-15) (15)), Is (fun v => v = .pointer (some ⟨w.heap.size, 0, none⟩)), Is (IntIn (0) (255)), IsRow w2.heap.size 3 (IntIn (0) (1001)), IsRow w2.heap.size 5 (IntIn (0) (2)), Is (fun v => v = .pointer (some ⟨w.heap.size, 0, none⟩)), Is (IntIn (0) (4)), IsPtr w2.heap.size (IntIn (0) (2)), Is (IntIn (0) (2)), IsPtr w2.heap.size (IntIn (0) (1001)), Is (IntIn (0) (1001)), Is (fun v => v = .int .i64 key), Is (IntIn (-1) (14)), Is (IntIn (-15) (15)), Is (IntIn (0) (1001))])
    (by kernel_rfl) (by kernel_rfl) (fun _ => RgR.refl _) (fun h k => h.trans k) ?_ (fun _ _ => ⟨fun _ => (P3.rd.below (Below.dr (Below.refl _ _))).mono (by omega), (Grow.refl _ _).drew, trivial⟩) ?_
  · (repeat' (first | exact lasts_nil | refine lasts_cons ?_ ?_))
    all_goals (first | exact Lasts.is | exact Lasts.any | exact Lasts.x | exact Lasts.row (fun i hi => by (try dsimp only at hi); omega) | exact Lasts.ptr (fun i hi => by (try dsimp only at hi); omega))
  refine inv_cons 0 (by rfl) (fun wx n s hn hcl hsi hG hR hd => ?_) (fun v0 => ?_)
  · replace hn : n < 29 := hn
    refine inv_want (by rfl) ?_
    exact inv_move (.tmp 7) rfl (post_up (F := Is (fun v => v = .int .i64 key)) (fun _ => trivial) hG (is_eq rfl))
  simp only [Act.put, List.setIfInBounds_toArray, List.set_cons_zero, List.set_cons_succ, List.nil_append, List.cons_append]
  refine inv_cons 1 (by rfl) (fun wx n s hn hcl hsi hG hR hd => ?_) (fun v1 => ?_)
  · replace hn : n < 29 := hn
    refine inv_want (by rfl) ?_
    unfold invAt invUpon; go_simp
    exact post_up (F := Is (fun v => v = .pointer (some ⟨w2.heap.size, 0, none⟩))) (fun _ => trivial) hG (is_eq rfl)
  simp only [Act.put, List.setIfInBounds_toArray, List.set_cons_zero, List.set_cons_succ, List.nil_append, List.cons_append]
  refine inv_cons 2 (by rfl) (fun wx n s hn hcl hsi hG hR hd => ?_) (fun v2 => ?_)
  · replace hn : n < 29 := hn
    refine inv_want (by rfl) ?_
    have d1 : (Is (fun v => v = .pointer (some ⟨w2.heap.size, 0, none⟩))) v1 wx := dep_get hd 1 (by rfl)
    obtain rfl := d1
    have kt := KT.grow hG.grow (by (try dsimp only); omega)
    have xt := kt.cell
    unfold invAt invUpon; go_simp
    exact post_up (F := Is (fun v => v = .int .i64 t.who)) (fun _ => trivial) hG (is_eq rfl)
  simp only [Act.put, List.setIfInBounds_toArray, List.set_cons_zero, List.set_cons_succ, List.nil_append, List.cons_append]
  refine inv_cons 3 (by rfl) (fun wx n s hn hcl hsi hG hR hd => ?_) (fun v3 => ?_)
  · replace hn : n < 29 := hn
    refine inv_want (by rfl) ?_
    exact inv_move (.tmp 6) rfl (post_up (F := Is (fun v => v = .pointer (some ⟨w.heap.size, 0, none⟩))) (fun _ => trivial) hG (is_eq rfl))
  simp only [Act.put, List.setIfInBounds_toArray, List.set_cons_zero, List.set_cons_succ, List.nil_append, List.cons_append]
  refine inv_cons 4 (by rfl) (fun wx n s hn hcl hsi hG hR hd => ?_) (fun v4 => ?_)
  · replace hn : n < 29 := hn
    refine inv_want (by rfl) ?_
    have d3 : (Is (fun v => v = .pointer (some ⟨w.heap.size, 0, none⟩))) v3 wx := dep_get hd 3 (by rfl)
    obtain rfl := d3
    unfold invAt invUpon; go_simp
    have hrd := hG.rd trivial
    refine (pick_any _ _ _ _ hrd (by omega) (by omega)).mono ?_
    rintro e w' ⟨x, rfl, lo, hi, r⟩
    exact ⟨_, rfl, post_read (F := Is (IntIn (0) (8))) KXr rfl hG r (by omega) ⟨x, rfl, by omega, by omega⟩⟩
  simp only [Act.put, List.setIfInBounds_toArray, List.set_cons_zero, List.set_cons_succ, List.nil_append, List.cons_append]
  refine inv_cons 5 (by rfl) (fun wx n s hn hcl hsi hG hR hd => ?_) (fun v5 => ?_)
  · replace hn : n < 29 := hn
    refine inv_want (by rfl) ?_
    have d4 : (Is (IntIn (0) (8))) v4 wx := dep_get hd 4 (by rfl)
    obtain ⟨x_4, rfl, lo_4, hi_4⟩ := d4
    unfold invAt invUpon; go_simp
    try rw [Int.tdiv_eq_ediv_of_nonneg (by omega)]
    try rw [IntWalk.i64_in _ (by omega)]
    exact post_up (F := Is (IntIn (0) (1))) (fun _ => trivial) hG ⟨_, rfl, by omega, by omega⟩
  simp only [Act.put, List.setIfInBounds_toArray, List.set_cons_zero, List.set_cons_succ, List.nil_append, List.cons_append]
  refine inv_cons 6 (by rfl) (fun wx n s hn hcl hsi hG hR hd => ?_) (fun v6 => ?_)
  · replace hn : n < 29 := hn
    refine inv_want (by rfl) ?_
    have d5 : (Is (IntIn (0) (1))) v5 wx := dep_get hd 5 (by rfl)
    obtain ⟨x_5, rfl, lo_5, hi_5⟩ := d5
    unfold invAt invUpon; go_simp
    try rw [IntWalk.i64_in _ (by omega)]
    exact post_up (F := Is (IntIn (0) (7))) (fun _ => trivial) hG ⟨_, rfl, by omega, by omega⟩
  simp only [Act.put, List.setIfInBounds_toArray, List.set_cons_zero, List.set_cons_succ, List.nil_append, List.cons_append]
  refine inv_cons 7 (by rfl) (fun wx n s hn hcl hsi hG hR hd => ?_) (fun v7 => ?_)
  · replace hn : n < 29 := hn
    refine inv_want (by rfl) ?_
    have d2 : (Is (fun v => v = .int .i64 t.who)) v2 wx := dep_get hd 2 (by rfl)
    obtain rfl := d2
    have d6 : (Is (IntIn (0) (7))) v6 wx := dep_get hd 6 (by rfl)
    obtain ⟨x_6, rfl, lo_6, hi_6⟩ := d6
    unfold invAt invUpon; go_simp
    try rw [IntWalk.i64_in _ (by omega)]
    exact post_up (F := Is (IntIn (-1) (14))) (fun _ => trivial) hG ⟨_, rfl, by omega, by omega⟩
  simp only [Act.put, List.setIfInBounds_toArray, List.set_cons_zero, List.set_cons_succ, List.nil_append, List.cons_append]
  refine inv_cons 8 (by rfl) (fun wx n s hn hcl hsi hG hR hd => ?_) (fun v8 => ?_)
  · replace hn : n < 29 := hn
    refine inv_want (by rfl) ?_
    exact inv_move (.tmp 6) rfl (post_up (F := Is (fun v => v = .pointer (some ⟨w.heap.size, 0, none⟩))) (fun _ => trivial) hG (is_eq rfl))
  simp only [Act.put, List.setIfInBounds_toArray, List.set_cons_zero, List.set_cons_succ, List.nil_append, List.cons_append]
  refine inv_cons 9 (by rfl) (fun wx n s hn hcl hsi hG hR hd => ?_) (fun v9 => ?_)
  · replace hn : n < 29 := hn
    refine inv_want (by rfl) ?_
    have d8 : (Is (fun v => v = .pointer (some ⟨w.heap.size, 0, none⟩))) v8 wx := dep_get hd 8 (by rfl)
    obtain rfl := d8
    unfold invAt invUpon; go_simp
    have hrd := hG.rd trivial
    refine (pick_any _ _ _ _ hrd (by omega) (by omega)).mono ?_
    rintro e w' ⟨x, rfl, lo, hi, r⟩
    exact ⟨_, rfl, post_read (F := Is (IntIn (0) (15))) KXr rfl hG r (by omega) ⟨x, rfl, by omega, by omega⟩⟩
  simp only [Act.put, List.setIfInBounds_toArray, List.set_cons_zero, List.set_cons_succ, List.nil_append, List.cons_append]
  refine inv_cons 10 (by rfl) (fun wx n s hn hcl hsi hG hR hd => ?_) (fun v10 => ?_)
  · replace hn : n < 29 := hn
    refine inv_want (by rfl) ?_
    exact inv_move (.tmp 6) rfl (post_up (F := Is (fun v => v = .pointer (some ⟨w.heap.size, 0, none⟩))) (fun _ => trivial) hG (is_eq rfl))
  simp only [Act.put, List.setIfInBounds_toArray, List.set_cons_zero, List.set_cons_succ, List.nil_append, List.cons_append]
  refine inv_cons 11 (by rfl) (fun wx n s hn hcl hsi hG hR hd => ?_) (fun v11 => ?_)
  · replace hn : n < 29 := hn
    refine inv_want (by rfl) ?_
    have d10 : (Is (fun v => v = .pointer (some ⟨w.heap.size, 0, none⟩))) v10 wx := dep_get hd 10 (by rfl)
    obtain rfl := d10
    unfold invAt invUpon; go_simp
    have hrd := hG.rd trivial
    refine (pick_any _ _ _ _ hrd (by omega) (by omega)).mono ?_
    rintro e w' ⟨x, rfl, lo, hi, r⟩
    exact ⟨_, rfl, post_read (F := Is (IntIn (0) (13))) KXr rfl hG r (by omega) ⟨x, rfl, by omega, by omega⟩⟩
  simp only [Act.put, List.setIfInBounds_toArray, List.set_cons_zero, List.set_cons_succ, List.nil_append, List.cons_append]
  refine inv_cons 12 (by rfl) (fun wx n s hn hcl hsi hG hR hd => ?_) (fun v12 => ?_)
  · replace hn : n < 29 := hn
    refine inv_want (by rfl) ?_
    have d11 : (Is (IntIn (0) (13))) v11 wx := dep_get hd 11 (by rfl)
    obtain ⟨x_11, rfl, lo_11, hi_11⟩ := d11
    unfold invAt invUpon; go_simp
    try rw [Int.tdiv_eq_ediv_of_nonneg (by omega)]
    try rw [IntWalk.i64_in _ (by omega)]
    exact post_up (F := Is (IntIn (0) (1))) (fun _ => trivial) hG ⟨_, rfl, by omega, by omega⟩
  simp only [Act.put, List.setIfInBounds_toArray, List.set_cons_zero, List.set_cons_succ, List.nil_append, List.cons_append]
  refine inv_cons 13 (by rfl) (fun wx n s hn hcl hsi hG hR hd => ?_) (fun v13 => ?_)
  · replace hn : n < 29 := hn
    refine inv_want (by rfl) ?_
    have d12 : (Is (IntIn (0) (1))) v12 wx := dep_get hd 12 (by rfl)
    obtain ⟨x_12, rfl, lo_12, hi_12⟩ := d12
    unfold invAt invUpon; go_simp
    try rw [IntWalk.i64_in _ (by omega)]
    exact post_up (F := Is (IntIn (0) (15))) (fun _ => trivial) hG ⟨_, rfl, by omega, by omega⟩
  simp only [Act.put, List.setIfInBounds_toArray, List.set_cons_zero, List.set_cons_succ, List.nil_append, List.cons_append]
  refine inv_cons 14 (by rfl) (fun wx n s hn hcl hsi hG hR hd => ?_) (fun v14 => ?_)
  · replace hn : n < 29 := hn
    refine inv_want (by rfl) ?_
    have d9 : (Is (IntIn (0) (15))) v9 wx := dep_get hd 9 (by rfl)
    obtain ⟨x_9, rfl, lo_9, hi_9⟩ := d9
    have d13 : (Is (IntIn (0) (15))) v13 wx := dep_get hd 13 (by rfl)
    obtain ⟨x_13, rfl, lo_13, hi_13⟩ := d13
    unfold invAt invUpon; go_simp
    try rw [IntWalk.i64_in _ (by omega)]
    exact post_up (F := Is (IntIn (-15) (15))) (fun _ => trivial) hG ⟨_, rfl, by omega, by omega⟩
  simp only [Act.put, List.setIfInBounds_toArray, List.set_cons_zero, List.set_cons_succ, List.nil_append, List.cons_append]
  refine inv_cons 15 (by rfl) (fun wx n s hn hcl hsi hG hR hd => ?_) (fun v15 => ?_)
  · replace hn : n < 29 := hn
    refine inv_want (by rfl) ?_
    exact inv_move (.tmp 6) rfl (post_up (F := Is (fun v => v = .pointer (some ⟨w.heap.size, 0, none⟩))) (fun _ => trivial) hG (is_eq rfl))
  simp only [Act.put, List.setIfInBounds_toArray, List.set_cons_zero, List.set_cons_succ, List.nil_append, List.cons_append]
  refine inv_cons 16 (by rfl) (fun wx n s hn hcl hsi hG hR hd => ?_) (fun v16 => ?_)
  · replace hn : n < 29 := hn
    refine inv_want (by rfl) ?_
    have d15 : (Is (fun v => v = .pointer (some ⟨w.heap.size, 0, none⟩))) v15 wx := dep_get hd 15 (by rfl)
    obtain rfl := d15
    unfold invAt invUpon; go_simp
    have hrd := hG.rd trivial
    refine (pick_any _ _ _ _ hrd (by omega) (by omega)).mono ?_
    rintro e w' ⟨x, rfl, lo, hi, r⟩
    exact ⟨_, rfl, post_read (F := Is (IntIn (0) (255))) KXr rfl hG r (by omega) ⟨x, rfl, by omega, by omega⟩⟩
  simp only [Act.put, List.setIfInBounds_toArray, List.set_cons_zero, List.set_cons_succ, List.nil_append, List.cons_append]
  refine inv_cons 17 (by rfl) (fun wx n s hn hcl hsi hG hR hd => ?_) (fun v17 => ?_)
  · replace hn : n < 29 := hn
    refine inv_want (by rfl) ?_
    have d16 : (Is (IntIn (0) (255))) v16 wx := dep_get hd 16 (by rfl)
    obtain ⟨x_16, rfl, lo_16, hi_16⟩ := d16
    unfold invAt invUpon; go_simp
    exact post_new (F := IsRow w2.heap.size 3 (IntIn (0) (1001))) (fun _ => trivial) KXr hG (below_al _ _) ⟨_, _, _, rfl, by have := hG.grow.size; (try simp only [World.size_alloc, World.size_drew] at this); omega, Bk.new, allL_at rfl ⟨⟨_, rfl, by omega, by omega⟩, ⟨_, rfl, by omega, by omega⟩, ⟨_, rfl, by omega, by omega⟩, trivial⟩⟩
  simp only [Act.put, List.setIfInBounds_toArray, List.set_cons_zero, List.set_cons_succ, List.nil_append, List.cons_append]
  refine inv_cons 18 (by rfl) (fun wx n s hn hcl hsi hG hR hd => ?_) (fun v18 => ?_)
  · replace hn : n < 29 := hn
    refine inv_want (by rfl) ?_
    unfold invAt invUpon; go_simp
    exact post_new (F := IsRow w2.heap.size 5 (IntIn (0) (2))) (fun _ => trivial) KXr hG (below_al _ _) ⟨_, _, _, rfl, by have := hG.grow.size; (try simp only [World.size_alloc, World.size_drew] at this); omega, Bk.new, allL_at rfl ⟨⟨_, rfl, by omega, by omega⟩, ⟨_, rfl, by omega, by omega⟩, ⟨_, rfl, by omega, by omega⟩, ⟨_, rfl, by omega, by omega⟩, ⟨_, rfl, by omega, by omega⟩, trivial⟩⟩
  simp only [Act.put, List.setIfInBounds_toArray, List.set_cons_zero, List.set_cons_succ, List.nil_append, List.cons_append]
  refine inv_cons 19 (by rfl) (fun wx n s hn hcl hsi hG hR hd => ?_) (fun v19 => ?_)
  · replace hn : n < 29 := hn
    refine inv_want (by rfl) ?_
    exact inv_move (.tmp 6) rfl (post_up (F := Is (fun v => v = .pointer (some ⟨w.heap.size, 0, none⟩))) (fun _ => trivial) hG (is_eq rfl))
  simp only [Act.put, List.setIfInBounds_toArray, List.set_cons_zero, List.set_cons_succ, List.nil_append, List.cons_append]
  refine inv_cons 20 (by rfl) (fun wx n s hn hcl hsi hG hR hd => ?_) (fun v20 => ?_)
  · replace hn : n < 29 := hn
    refine inv_want (by rfl) ?_
    have d19 : (Is (fun v => v = .pointer (some ⟨w.heap.size, 0, none⟩))) v19 wx := dep_get hd 19 (by rfl)
    obtain rfl := d19
    unfold invAt invUpon; go_simp
    have hrd := hG.rd trivial
    refine (pick_any _ _ _ _ hrd (by omega) (by omega)).mono ?_
    rintro e w' ⟨x, rfl, lo, hi, r⟩
    exact ⟨_, rfl, post_read (F := Is (IntIn (0) (4))) KXr rfl hG r (by omega) ⟨x, rfl, by omega, by omega⟩⟩
  simp only [Act.put, List.setIfInBounds_toArray, List.set_cons_zero, List.set_cons_succ, List.nil_append, List.cons_append]
  refine inv_cons 21 (by rfl) (fun wx n s hn hcl hsi hG hR hd => ?_) (fun v21 => ?_)
  · replace hn : n < 29 := hn
    refine inv_want (by rfl) ?_
    have d18 : (IsRow w2.heap.size 5 (IntIn (0) (2))) v18 wx := dep_get hd 18 (by rfl)
    obtain ⟨g_18, t_18, c_18, rfl, hl_18, hb_18, hc_18⟩ := d18
    have d20 : (Is (IntIn (0) (4))) v20 wx := dep_get hd 20 (by rfl)
    obtain ⟨x_20, rfl, lo_20, hi_20⟩ := d20
    obtain ⟨m, hm⟩ : ∃ m : Nat, x_20 = m := ⟨x_20.toNat, by omega⟩
    subst hm
    have hm6 : (m : Int) < 5 := by omega
    obtain ⟨y, hy, he⟩ := hc_18 m (by omega)
    unfold invAt invUpon; go_simp
    exact post_up (F := IsPtr w2.heap.size (IntIn (0) (2))) (fun _ => trivial) hG ⟨_, _, y, rfl, hl_18, ((hb_18).cell m).trans hy, he⟩
  simp only [Act.put, List.setIfInBounds_toArray, List.set_cons_zero, List.set_cons_succ, List.nil_append, List.cons_append]
  refine inv_cons 22 (by rfl) (fun wx n s hn hcl hsi hG hR hd => ?_) (fun v22 => ?_)
  · replace hn : n < 29 := hn
    refine inv_want (by rfl) ?_
    have d21 : (IsPtr w2.heap.size (IntIn (0) (2))) v21 wx := dep_get hd 21 (by rfl)
    obtain ⟨g_21, o_21, y_21, rfl, hl_21, hc_21, he_21⟩ := d21; obtain ⟨x_21, rfl, lo_21, hi_21⟩ := he_21
    unfold invAt invUpon; go_simp
    exact post_up (F := Is (IntIn (0) (2))) (fun _ => trivial) hG ⟨_, rfl, by omega, by omega⟩
  simp only [Act.put, List.setIfInBounds_toArray, List.set_cons_zero, List.set_cons_succ, List.nil_append, List.cons_append]
  refine inv_cons 23 (by rfl) (fun wx n s hn hcl hsi hG hR hd => ?_) (fun v23 => ?_)
  · replace hn : n < 29 := hn
    refine inv_want (by rfl) ?_
    have d17 : (IsRow w2.heap.size 3 (IntIn (0) (1001))) v17 wx := dep_get hd 17 (by rfl)
    obtain ⟨g_17, t_17, c_17, rfl, hl_17, hb_17, hc_17⟩ := d17
    have d22 : (Is (IntIn (0) (2))) v22 wx := dep_get hd 22 (by rfl)
    obtain ⟨x_22, rfl, lo_22, hi_22⟩ := d22
    obtain ⟨m, hm⟩ : ∃ m : Nat, x_22 = m := ⟨x_22.toNat, by omega⟩
    subst hm
    have hm6 : (m : Int) < 3 := by omega
    obtain ⟨y, hy, he⟩ := hc_17 m (by omega)
    unfold invAt invUpon; go_simp
    exact post_up (F := IsPtr w2.heap.size (IntIn (0) (1001))) (fun _ => trivial) hG ⟨_, _, y, rfl, hl_17, ((hb_17).cell m).trans hy, he⟩
  simp only [Act.put, List.setIfInBounds_toArray, List.set_cons_zero, List.set_cons_succ, List.nil_append, List.cons_append]
  refine inv_cons 24 (by rfl) (fun wx n s hn hcl hsi hG hR hd => ?_) (fun v24 => ?_)
  · replace hn : n < 29 := hn
    refine inv_want (by rfl) ?_
    have d23 : (IsPtr w2.heap.size (IntIn (0) (1001))) v23 wx := dep_get hd 23 (by rfl)
    obtain ⟨g_23, o_23, y_23, rfl, hl_23, hc_23, he_23⟩ := d23; obtain ⟨x_23, rfl, lo_23, hi_23⟩ := he_23
    unfold invAt invUpon; go_simp
    exact post_up (F := Is (IntIn (0) (1001))) (fun _ => trivial) hG ⟨_, rfl, by omega, by omega⟩
  simp only [Act.put, List.setIfInBounds_toArray, List.set_cons_zero, List.set_cons_succ, List.nil_append, List.cons_append]
  refine inv_cons 25 (by rfl) (fun wx n s hn hcl hsi hG hR hd => ?_) (fun v25 => ?_)
  · replace hn : n < 29 := hn
    refine inv_want (by rfl) ?_
    exact inv_assign (.tmp 16) rfl (post_up (F := Is (fun v => v = .int .i64 key)) (fun _ => trivial) hG (dep_get hd 0 (by rfl)))
  simp only [Act.put, List.setIfInBounds_toArray, List.set_cons_zero, List.set_cons_succ, List.nil_append, List.cons_append]
  refine inv_cons 26 (by rfl) (fun wx n s hn hcl hsi hG hR hd => ?_) (fun v26 => ?_)
  · replace hn : n < 29 := hn
    refine inv_want (by rfl) ?_
    exact inv_assign (.tmp 23) rfl (post_up (F := Is (IntIn (-1) (14))) (fun _ => trivial) hG (dep_get hd 7 (by rfl)))
  simp only [Act.put, List.setIfInBounds_toArray, List.set_cons_zero, List.set_cons_succ, List.nil_append, List.cons_append]
  refine inv_cons 27 (by rfl) (fun wx n s hn hcl hsi hG hR hd => ?_) (fun v27 => ?_)
  · replace hn : n < 29 := hn
    refine inv_want (by rfl) ?_
    exact inv_assign (.tmp 30) rfl (post_up (F := Is (IntIn (-15) (15))) (fun _ => trivial) hG (dep_get hd 14 (by rfl)))
  simp only [Act.put, List.setIfInBounds_toArray, List.set_cons_zero, List.set_cons_succ, List.nil_append, List.cons_append]
  refine inv_cons 28 (by rfl) (fun wx n s hn hcl hsi hG hR hd => ?_) (fun v28 => ?_)
  · replace hn : n < 29 := hn
    refine inv_want (by rfl) ?_
    exact inv_assign (.tmp 40) rfl (post_up (F := Is (IntIn (0) (1001))) (fun _ => trivial) hG (dep_get hd 24 (by rfl)))
  simp only [Act.put, List.setIfInBounds_toArray, List.set_cons_zero, List.set_cons_succ, List.nil_append, List.cons_append]
  refine inv_nil (fun wq nq sq hnq hGq hRq hall => ?_)
  replace hnq : nq ≤ 29 := hnq
  obtain ⟨f0, f1, f2, f3, f4, f5, f6, f7, f8, f9, f10, f11, f12, f13, f14, f15, f16, f17, f18, f19, f20, f21, f22, f23, f24, f25, f26, f27, f28, -⟩ := hall
  replace f25 : (Is (fun v => v = .int .i64 key)) v25 wq := f25
  obtain rfl := f25
  replace f26 : (Is (IntIn (-1) (14))) v26 wq := f26
  obtain ⟨xp, rfl, lop, hip⟩ := f26
  replace f27 : (Is (IntIn (-15) (15))) v27 wq := f27
  obtain ⟨xc, rfl, loc, hic⟩ := f27
  replace f28 : (Is (IntIn (0) (1001))) v28 wq := f28
  obtain ⟨xn, rfl, lon, hin⟩ := f28
  go_wp2_with fail
  (try simp only [Exit.inBlock, Exit.then]); refine bodyPost_ret (by simp [results, Try.results23, go_sem]; try rfl) rfl ?_
  refine ⟨_, _, _, _, rfl, by omega, by omega, by omega, by omega, by omega, by omega, by omega, by omega, ?_⟩
  exact Grow.below (w := w) hGq.grow (Below.al (below_rds h1 P2 (by omega)) _) (fun i hi => by (try dsimp only at hi); omega)
end Go.Proofs.Ytnkfhfhioknjeaa
