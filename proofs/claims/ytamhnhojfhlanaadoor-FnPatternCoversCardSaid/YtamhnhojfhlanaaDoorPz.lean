/-
  Two texts drawn from a law's bytes: a path and a pattern, or two patterns. Condition: the bytes can be read.
-/
import Derived.Test.YtamhnhojfhlanaaDoorPd
import Derived.Test.YtamhnhojfhlanaaDoorPg
import Derived.Test.YtamhnhojfhlanaaDoorRg
set_option linter.unusedSimpArgs false
set_option linter.unusedVariables false
namespace Go.Proofs.YtamhnhojfhlanaaDoor
open Go.RowKit
def Sh16 (s : ByteArray) : Prop := s.size ≤ 16
def Tx1 (b : Nat) (M : Int) (w : World) (e : Ending) (w' : World) : Prop := ∃ s : ByteArray, e = .returned (.string s) ∧ Sh16 s ∧ Reads b M (M + 1) w w'
theorem l20Bad1_any (b : Nat) (M : Int) (w : World) (h : Rd w b M) (hM : M ≤ 1099511627776 - 10) :
    Calls Tryd.prog 32 #[.pointer (some ⟨b, 0, none⟩)] w (Tx1 b M w) := by
  have hlt := h.lt
  have H := Lib.hid h
  clear h
  go_enter Tryd.func32, Tryd.ntmps32
  go_wp2_with fail
  refine (pick_any b 10 M _ (H.out.below (below_al _ _)) (by omega) (by omega)).mono ?_
  rintro e w5 ⟨y, rfl, lo5, hi5, r5⟩
  have ks := Bk.new.rd r5 hlt
  have xs := ks.cell
  rcases (show y = 0 ∨ y = 1 ∨ y = 2 ∨ y = 3 ∨ y = 4 ∨ y = 5 ∨ y = 6 ∨ y = 7 ∨ y = 8 ∨ y = 9 by omega) with rfl | rfl | rfl | rfl | rfl | rfl | rfl | rfl | rfl | rfl
  all_goals
    go_wp2_with fail
    go_ret
    refine ⟨_, rfl, (by unfold Sh16; decide), ?_⟩
    (refine Reads.mono (M' := ?_) ?_ ?_; rotate_left; (repeat' first | (with_reducible exact Reads.refl H.out) | (with_reducible refine Reads.via (by assumption) ?_) | (with_reducible refine Reads.grow (by assumption) ?_) | (with_reducible refine Reads.al ?_ _) | (with_reducible refine Reads.dr ?_) | (with_reducible refine Reads.set ?_ hlt ?_ _ _) | omega))
/-- Two texts are drawn. -/
def Text2 (w : World) (e : Ending) (w' : World) : Prop := ∃ s t : ByteArray, e = .returned (.tuple #[.string s, .string t]) ∧ s.size ≤ 16 ∧ t.size ≤ 16 ∧ Below w.heap.size w w'
theorem below_rdq {w w1 w2 : World} {M M' : Int} (h : Below w.heap.size w w1) (r : Reads w.heap.size M M' w1 w2) : Below w.heap.size w w2 := Below.rd r h (Nat.le_refl _)
set_option maxRecDepth 100000 in
set_option maxHeartbeats 3200000 in
theorem drawPathFits_any (a : Option Addr) (len cap : Nat) (w : World) (h : Bytes w a len cap) : Calls Tryd.prog 20 #[.slice a len cap] w (Text2 w) := by
  have H := Lib.hid h
  clear h
  go_enter Tryd.func20, Tryd.ntmps20
  go_wp2_with fail
  refine (open_any a len cap _ H.out).mono ?_
  rintro e w1 ⟨rfl, r1, h1⟩
  go_wp2_with fail
  refine (l20Path_any _ _ _ _ r1 (by omega)).mono ?_
  rintro e w2 ⟨s, rfl, hs, r2⟩
  have h2 := below_rdq h1 r2
  go_wp2_with fail
  refine (l20Path_any _ _ _ _ r2.rd (by omega)).mono ?_
  rintro e w3 ⟨t, rfl, ht, r3⟩
  have h3 := below_rdq h2 r3
  go_wp2_with fail
  refine (odd_any _ 9 _ _ r3.rd (by omega) (by omega) (by omega)).mono ?_
  rintro e w4 ⟨o, rfl, r4⟩
  have h4 := below_rdq h3 r4
  have hzz := h4.size
  have zb := r4.rd.lt
  have P4 := Reads.mono (M2 := 30) r4 (by omega)
  have hs' : Sh16 s := hs
  have ht' : Sh16 t := ht
  cases o
  · go_wp2_with fail
    (try simp only [Exit.inBlock, Exit.then]); refine bodyPost_ret (by simp [results, Tryd.results20, go_sem]; try rfl) rfl ?_
    exact ⟨s, t, rfl, hs, ht, h4⟩
  · go_wp2_with fail
    have KXr : KeepX (w.heap.size) (fun _ => True) ∧ KeepX (w.heap.size) (fun _ => True) := ⟨keepX_true _, keepX_true _⟩
    refine wp_region_inv (G := fun s n w_ => RgG (w.heap.size) (fun i => i = w.heap.size) (fun _ => True) (True) w4 (30) n w_) (R := RgR (fun i => i = w.heap.size) (fun _ => True))
      (Fs := [Is (fun z_ => z_ = .string s), Is (fun z_ => z_ = .pointer (some ⟨w.heap.size, 0, none⟩)), Is (StrIn Sh16), IsRow (w.heap.size + 1) 2 (StrIn Sh16), Is (fun z_ => z_ = .pointer (some ⟨w.heap.size, 0, none⟩)), Is (IntIn (0) (1)), IsPtr (w.heap.size + 1) (StrIn Sh16), Is (StrIn Sh16), Is (fun z_ => z_ = .string t), Is (fun z_ => z_ = .pointer (some ⟨w.heap.size, 0, none⟩)), Is (StrIn Sh16), IsRow (w.heap.size + 1) 2 (StrIn Sh16), Is (fun z_ => z_ = .pointer (some ⟨w.heap.size, 0, none⟩)), Is (IntIn (0) (1)), IsPtr (w.heap.size + 1) (StrIn Sh16), Is (StrIn Sh16), Is (StrIn Sh16), Is (StrIn Sh16)])
      (by kernel_rfl) (by kernel_rfl) (fun _ => RgR.refl _) (fun h k => h.trans k) ?_ (fun _ _ => ⟨fun _ => (P4.rd.below (Below.dr (Below.refl _ _))).mono (by omega), (Grow.refl _ _).drew, trivial⟩) ?_
    · (repeat' (first | exact lasts_nil | refine lasts_cons ?_ ?_))
      all_goals (first | exact Lasts.is | exact Lasts.any | exact Lasts.x | exact Lasts.row (fun i hi => by (try dsimp only at hi); omega) | exact Lasts.box (fun i hi => by (try dsimp only at hi); omega) | exact Lasts.ptr (fun i hi => by (try dsimp only at hi); omega))
    refine inv_cons 0 (by rfl) (fun wx n_ s_ hn hcl hsi hG hR hd => ?_) (fun v0 => ?_)
    · replace hn : n_ < 18 := hn
      refine inv_want (by rfl) ?_
      exact inv_move (.tmp 5) rfl (post_up (F := Is (fun z_ => z_ = .string s)) (fun _ => trivial) hG (is_eq rfl))
    simp only [Act.put, List.setIfInBounds_toArray, List.set_cons_zero, List.set_cons_succ, List.nil_append, List.cons_append]
    refine inv_cons 1 (by rfl) (fun wx n_ s_ hn hcl hsi hG hR hd => ?_) (fun v1 => ?_)
    · replace hn : n_ < 18 := hn
      refine inv_want (by rfl) ?_
      exact inv_move (.tmp 4) rfl (post_up (F := Is (fun z_ => z_ = .pointer (some ⟨w.heap.size, 0, none⟩))) (fun _ => trivial) hG (is_eq rfl))
    simp only [Act.put, List.setIfInBounds_toArray, List.set_cons_zero, List.set_cons_succ, List.nil_append, List.cons_append]
    refine inv_cons 2 (by rfl) (fun wx n_ s_ hn hcl hsi hG hR hd => ?_) (fun v2 => ?_)
    · replace hn : n_ < 18 := hn
      refine inv_want (by rfl) ?_
      have d1 : (Is (fun z_ => z_ = .pointer (some ⟨w.heap.size, 0, none⟩))) v1 wx := dep_get hd 1 (by rfl)
      obtain rfl := d1
      unfold invAt invUpon; go_simp
      have hrd := hG.rd trivial
      refine (l20Bad1_any _ _ _ hrd (by omega)).mono ?_
      rintro e w' ⟨x, rfl, hx, r⟩
      exact ⟨_, rfl, post_read (F := Is (StrIn Sh16)) KXr rfl hG r (by omega) ⟨x, rfl, hx⟩⟩
    simp only [Act.put, List.setIfInBounds_toArray, List.set_cons_zero, List.set_cons_succ, List.nil_append, List.cons_append]
    refine inv_cons 3 (by rfl) (fun wx n_ s_ hn hcl hsi hG hR hd => ?_) (fun v3 => ?_)
    · replace hn : n_ < 18 := hn
      refine inv_want (by rfl) ?_
      have d0 : (Is (fun z_ => z_ = .string s)) v0 wx := dep_get hd 0 (by rfl)
      obtain rfl := d0
      have d2 : (Is (StrIn Sh16)) v2 wx := dep_get hd 2 (by rfl)
      obtain ⟨s_2, rfl, q_2⟩ := d2
      unfold invAt invUpon; go_simp
      exact post_new (F := IsRow (w.heap.size + 1) 2 (StrIn Sh16)) (fun _ => trivial) KXr hG (below_al _ _) ⟨_, _, _, rfl, by have := hG.grow.size; (try simp only [World.size_alloc, World.size_drew] at this); omega, Bk.new, allL_at rfl ⟨⟨_, rfl, by assumption⟩, ⟨_, rfl, by assumption⟩, trivial⟩⟩
    simp only [Act.put, List.setIfInBounds_toArray, List.set_cons_zero, List.set_cons_succ, List.nil_append, List.cons_append]
    refine inv_cons 4 (by rfl) (fun wx n_ s_ hn hcl hsi hG hR hd => ?_) (fun v4 => ?_)
    · replace hn : n_ < 18 := hn
      refine inv_want (by rfl) ?_
      exact inv_move (.tmp 4) rfl (post_up (F := Is (fun z_ => z_ = .pointer (some ⟨w.heap.size, 0, none⟩))) (fun _ => trivial) hG (is_eq rfl))
    simp only [Act.put, List.setIfInBounds_toArray, List.set_cons_zero, List.set_cons_succ, List.nil_append, List.cons_append]
    refine inv_cons 5 (by rfl) (fun wx n_ s_ hn hcl hsi hG hR hd => ?_) (fun v5 => ?_)
    · replace hn : n_ < 18 := hn
      refine inv_want (by rfl) ?_
      have d4 : (Is (fun z_ => z_ = .pointer (some ⟨w.heap.size, 0, none⟩))) v4 wx := dep_get hd 4 (by rfl)
      obtain rfl := d4
      unfold invAt invUpon; go_simp
      have hrd := hG.rd trivial
      refine (pick_any _ _ _ _ hrd (by omega) (by omega)).mono ?_
      rintro e w' ⟨x, rfl, lo, hi, r⟩
      exact ⟨_, rfl, post_read (F := Is (IntIn (0) (1))) KXr rfl hG r (by omega) ⟨x, rfl, by omega, by omega⟩⟩
    simp only [Act.put, List.setIfInBounds_toArray, List.set_cons_zero, List.set_cons_succ, List.nil_append, List.cons_append]
    refine inv_cons 6 (by rfl) (fun wx n_ s_ hn hcl hsi hG hR hd => ?_) (fun v6 => ?_)
    · replace hn : n_ < 18 := hn
      refine inv_want (by rfl) ?_
      have d3 : (IsRow (w.heap.size + 1) 2 (StrIn Sh16)) v3 wx := dep_get hd 3 (by rfl)
      obtain ⟨g_3, t_3, c_3, rfl, hl_3, hb_3, hc_3⟩ := d3
      have d5 : (Is (IntIn (0) (1))) v5 wx := dep_get hd 5 (by rfl)
      obtain ⟨x_5, rfl, lo_5, hi_5⟩ := d5
      obtain ⟨m, hm⟩ : ∃ m : Nat, x_5 = m := ⟨x_5.toNat, by omega⟩
      subst hm
      have hm6 : (m : Int) < 2 := by omega
      obtain ⟨y, hy, he⟩ := hc_3 m (by omega)
      unfold invAt invUpon; go_simp
      exact post_up (F := IsPtr (w.heap.size + 1) (StrIn Sh16)) (fun _ => trivial) hG ⟨_, _, y, rfl, hl_3, ((hb_3).cell m).trans hy, he⟩
    simp only [Act.put, List.setIfInBounds_toArray, List.set_cons_zero, List.set_cons_succ, List.nil_append, List.cons_append]
    refine inv_cons 7 (by rfl) (fun wx n_ s_ hn hcl hsi hG hR hd => ?_) (fun v7 => ?_)
    · replace hn : n_ < 18 := hn
      refine inv_want (by rfl) ?_
      have d6 : (IsPtr (w.heap.size + 1) (StrIn Sh16)) v6 wx := dep_get hd 6 (by rfl)
      obtain ⟨g_6, o_6, y_6, rfl, hl_6, hc_6, he_6⟩ := d6; obtain ⟨s_6, rfl, q_6⟩ := he_6
      unfold invAt invUpon; go_simp
      exact post_up (F := Is (StrIn Sh16)) (fun _ => trivial) hG ⟨_, rfl, by assumption⟩
    simp only [Act.put, List.setIfInBounds_toArray, List.set_cons_zero, List.set_cons_succ, List.nil_append, List.cons_append]
    refine inv_cons 8 (by rfl) (fun wx n_ s_ hn hcl hsi hG hR hd => ?_) (fun v8 => ?_)
    · replace hn : n_ < 18 := hn
      refine inv_want (by rfl) ?_
      exact inv_move (.tmp 6) rfl (post_up (F := Is (fun z_ => z_ = .string t)) (fun _ => trivial) hG (is_eq rfl))
    simp only [Act.put, List.setIfInBounds_toArray, List.set_cons_zero, List.set_cons_succ, List.nil_append, List.cons_append]
    refine inv_cons 9 (by rfl) (fun wx n_ s_ hn hcl hsi hG hR hd => ?_) (fun v9 => ?_)
    · replace hn : n_ < 18 := hn
      refine inv_want (by rfl) ?_
      exact inv_move (.tmp 4) rfl (post_up (F := Is (fun z_ => z_ = .pointer (some ⟨w.heap.size, 0, none⟩))) (fun _ => trivial) hG (is_eq rfl))
    simp only [Act.put, List.setIfInBounds_toArray, List.set_cons_zero, List.set_cons_succ, List.nil_append, List.cons_append]
    refine inv_cons 10 (by rfl) (fun wx n_ s_ hn hcl hsi hG hR hd => ?_) (fun v10 => ?_)
    · replace hn : n_ < 18 := hn
      refine inv_want (by rfl) ?_
      have d9 : (Is (fun z_ => z_ = .pointer (some ⟨w.heap.size, 0, none⟩))) v9 wx := dep_get hd 9 (by rfl)
      obtain rfl := d9
      unfold invAt invUpon; go_simp
      have hrd := hG.rd trivial
      refine (l20Bad1_any _ _ _ hrd (by omega)).mono ?_
      rintro e w' ⟨x, rfl, hx, r⟩
      exact ⟨_, rfl, post_read (F := Is (StrIn Sh16)) KXr rfl hG r (by omega) ⟨x, rfl, hx⟩⟩
    simp only [Act.put, List.setIfInBounds_toArray, List.set_cons_zero, List.set_cons_succ, List.nil_append, List.cons_append]
    refine inv_cons 11 (by rfl) (fun wx n_ s_ hn hcl hsi hG hR hd => ?_) (fun v11 => ?_)
    · replace hn : n_ < 18 := hn
      refine inv_want (by rfl) ?_
      have d8 : (Is (fun z_ => z_ = .string t)) v8 wx := dep_get hd 8 (by rfl)
      obtain rfl := d8
      have d10 : (Is (StrIn Sh16)) v10 wx := dep_get hd 10 (by rfl)
      obtain ⟨s_10, rfl, q_10⟩ := d10
      unfold invAt invUpon; go_simp
      exact post_new (F := IsRow (w.heap.size + 1) 2 (StrIn Sh16)) (fun _ => trivial) KXr hG (below_al _ _) ⟨_, _, _, rfl, by have := hG.grow.size; (try simp only [World.size_alloc, World.size_drew] at this); omega, Bk.new, allL_at rfl ⟨⟨_, rfl, by assumption⟩, ⟨_, rfl, by assumption⟩, trivial⟩⟩
    simp only [Act.put, List.setIfInBounds_toArray, List.set_cons_zero, List.set_cons_succ, List.nil_append, List.cons_append]
    refine inv_cons 12 (by rfl) (fun wx n_ s_ hn hcl hsi hG hR hd => ?_) (fun v12 => ?_)
    · replace hn : n_ < 18 := hn
      refine inv_want (by rfl) ?_
      exact inv_move (.tmp 4) rfl (post_up (F := Is (fun z_ => z_ = .pointer (some ⟨w.heap.size, 0, none⟩))) (fun _ => trivial) hG (is_eq rfl))
    simp only [Act.put, List.setIfInBounds_toArray, List.set_cons_zero, List.set_cons_succ, List.nil_append, List.cons_append]
    refine inv_cons 13 (by rfl) (fun wx n_ s_ hn hcl hsi hG hR hd => ?_) (fun v13 => ?_)
    · replace hn : n_ < 18 := hn
      refine inv_want (by rfl) ?_
      have d12 : (Is (fun z_ => z_ = .pointer (some ⟨w.heap.size, 0, none⟩))) v12 wx := dep_get hd 12 (by rfl)
      obtain rfl := d12
      unfold invAt invUpon; go_simp
      have hrd := hG.rd trivial
      refine (pick_any _ _ _ _ hrd (by omega) (by omega)).mono ?_
      rintro e w' ⟨x, rfl, lo, hi, r⟩
      exact ⟨_, rfl, post_read (F := Is (IntIn (0) (1))) KXr rfl hG r (by omega) ⟨x, rfl, by omega, by omega⟩⟩
    simp only [Act.put, List.setIfInBounds_toArray, List.set_cons_zero, List.set_cons_succ, List.nil_append, List.cons_append]
    refine inv_cons 14 (by rfl) (fun wx n_ s_ hn hcl hsi hG hR hd => ?_) (fun v14 => ?_)
    · replace hn : n_ < 18 := hn
      refine inv_want (by rfl) ?_
      have d11 : (IsRow (w.heap.size + 1) 2 (StrIn Sh16)) v11 wx := dep_get hd 11 (by rfl)
      obtain ⟨g_11, t_11, c_11, rfl, hl_11, hb_11, hc_11⟩ := d11
      have d13 : (Is (IntIn (0) (1))) v13 wx := dep_get hd 13 (by rfl)
      obtain ⟨x_13, rfl, lo_13, hi_13⟩ := d13
      obtain ⟨m, hm⟩ : ∃ m : Nat, x_13 = m := ⟨x_13.toNat, by omega⟩
      subst hm
      have hm6 : (m : Int) < 2 := by omega
      obtain ⟨y, hy, he⟩ := hc_11 m (by omega)
      unfold invAt invUpon; go_simp
      exact post_up (F := IsPtr (w.heap.size + 1) (StrIn Sh16)) (fun _ => trivial) hG ⟨_, _, y, rfl, hl_11, ((hb_11).cell m).trans hy, he⟩
    simp only [Act.put, List.setIfInBounds_toArray, List.set_cons_zero, List.set_cons_succ, List.nil_append, List.cons_append]
    refine inv_cons 15 (by rfl) (fun wx n_ s_ hn hcl hsi hG hR hd => ?_) (fun v15 => ?_)
    · replace hn : n_ < 18 := hn
      refine inv_want (by rfl) ?_
      have d14 : (IsPtr (w.heap.size + 1) (StrIn Sh16)) v14 wx := dep_get hd 14 (by rfl)
      obtain ⟨g_14, o_14, y_14, rfl, hl_14, hc_14, he_14⟩ := d14; obtain ⟨s_14, rfl, q_14⟩ := he_14
      unfold invAt invUpon; go_simp
      exact post_up (F := Is (StrIn Sh16)) (fun _ => trivial) hG ⟨_, rfl, by assumption⟩
    simp only [Act.put, List.setIfInBounds_toArray, List.set_cons_zero, List.set_cons_succ, List.nil_append, List.cons_append]
    refine inv_cons 16 (by rfl) (fun wx n_ s_ hn hcl hsi hG hR hd => ?_) (fun v16 => ?_)
    · replace hn : n_ < 18 := hn
      refine inv_want (by rfl) ?_
      exact inv_assign (.tmp 22) rfl (post_up (F := Is (StrIn Sh16)) (fun _ => trivial) hG (dep_get hd 7 (by rfl)))
    simp only [Act.put, List.setIfInBounds_toArray, List.set_cons_zero, List.set_cons_succ, List.nil_append, List.cons_append]
    refine inv_cons 17 (by rfl) (fun wx n_ s_ hn hcl hsi hG hR hd => ?_) (fun v17 => ?_)
    · replace hn : n_ < 18 := hn
      refine inv_want (by rfl) ?_
      exact inv_assign (.tmp 30) rfl (post_up (F := Is (StrIn Sh16)) (fun _ => trivial) hG (dep_get hd 15 (by rfl)))
    simp only [Act.put, List.setIfInBounds_toArray, List.set_cons_zero, List.set_cons_succ, List.nil_append, List.cons_append]
    refine inv_nil (fun wq nq sq hnq hGq hRq hall => ?_)
    replace hnq : nq ≤ 18 := hnq
    obtain ⟨f0, f1, f2, f3, f4, f5, f6, f7, f8, f9, f10, f11, f12, f13, f14, f15, f16, f17, -⟩ := hall
    replace f16 : (Is (StrIn Sh16)) v16 wq := f16
    obtain ⟨sp, rfl, qp⟩ := f16
    replace f17 : (Is (StrIn Sh16)) v17 wq := f17
    obtain ⟨sq, rfl, qq⟩ := f17
    go_wp2_with fail
    (try simp only [Exit.inBlock, Exit.then]); refine bodyPost_ret (by simp [results, Tryd.results20, go_sem]; try rfl) rfl ?_
    refine ⟨_, _, rfl, qp, qq, ?_⟩
    exact Grow.below (w := w) hGq.grow h4 (fun i hi => by (try dsimp only at hi); omega)
set_option maxRecDepth 100000 in
set_option maxHeartbeats 3200000 in
theorem drawPatternCovers_any (a : Option Addr) (len cap : Nat) (w : World) (h : Bytes w a len cap) : Calls Tryd.prog 23 #[.slice a len cap] w (Text2 w) := by
  have H := Lib.hid h
  clear h
  go_enter Tryd.func23, Tryd.ntmps23
  go_wp2_with fail
  refine (open_any a len cap _ H.out).mono ?_
  rintro e w1 ⟨rfl, r1, h1⟩
  go_wp2_with fail
  refine (l20Path_any _ _ _ _ r1 (by omega)).mono ?_
  rintro e w2 ⟨s, rfl, hs, r2⟩
  have h2 := below_rdq h1 r2
  go_wp2_with fail
  refine (l20Path_any _ _ _ _ r2.rd (by omega)).mono ?_
  rintro e w3 ⟨t, rfl, ht, r3⟩
  have h3 := below_rdq h2 r3
  go_wp2_with fail
  refine (odd_any _ 9 _ _ r3.rd (by omega) (by omega) (by omega)).mono ?_
  rintro e w4 ⟨o, rfl, r4⟩
  have h4 := below_rdq h3 r4
  have hzz := h4.size
  have zb := r4.rd.lt
  have P4 := Reads.mono (M2 := 30) r4 (by omega)
  have hs' : Sh16 s := hs
  have ht' : Sh16 t := ht
  cases o
  · go_wp2_with fail
    (try simp only [Exit.inBlock, Exit.then]); refine bodyPost_ret (by simp [results, Tryd.results23, go_sem]; try rfl) rfl ?_
    exact ⟨s, t, rfl, hs, ht, h4⟩
  · go_wp2_with fail
    have KXr : KeepX (w.heap.size) (fun _ => True) ∧ KeepX (w.heap.size) (fun _ => True) := ⟨keepX_true _, keepX_true _⟩
    refine wp_region_inv (G := fun s n w_ => RgG (w.heap.size) (fun i => i = w.heap.size) (fun _ => True) (True) w4 (30) n w_) (R := RgR (fun i => i = w.heap.size) (fun _ => True))
      (Fs := [Is (fun z_ => z_ = .string s), Is (fun z_ => z_ = .pointer (some ⟨w.heap.size, 0, none⟩)), Is (StrIn Sh16), IsRow (w.heap.size + 1) 2 (StrIn Sh16), Is (fun z_ => z_ = .pointer (some ⟨w.heap.size, 0, none⟩)), Is (IntIn (0) (1)), IsPtr (w.heap.size + 1) (StrIn Sh16), Is (StrIn Sh16), Is (fun z_ => z_ = .string t), Is (fun z_ => z_ = .pointer (some ⟨w.heap.size, 0, none⟩)), Is (StrIn Sh16), IsRow (w.heap.size + 1) 2 (StrIn Sh16), Is (fun z_ => z_ = .pointer (some ⟨w.heap.size, 0, none⟩)), Is (IntIn (0) (1)), IsPtr (w.heap.size + 1) (StrIn Sh16), Is (StrIn Sh16), Is (StrIn Sh16), Is (StrIn Sh16)])
      (by kernel_rfl) (by kernel_rfl) (fun _ => RgR.refl _) (fun h k => h.trans k) ?_ (fun _ _ => ⟨fun _ => (P4.rd.below (Below.dr (Below.refl _ _))).mono (by omega), (Grow.refl _ _).drew, trivial⟩) ?_
    · (repeat' (first | exact lasts_nil | refine lasts_cons ?_ ?_))
      all_goals (first | exact Lasts.is | exact Lasts.any | exact Lasts.x | exact Lasts.row (fun i hi => by (try dsimp only at hi); omega) | exact Lasts.box (fun i hi => by (try dsimp only at hi); omega) | exact Lasts.ptr (fun i hi => by (try dsimp only at hi); omega))
    refine inv_cons 0 (by rfl) (fun wx n_ s_ hn hcl hsi hG hR hd => ?_) (fun v0 => ?_)
    · replace hn : n_ < 18 := hn
      refine inv_want (by rfl) ?_
      exact inv_move (.tmp 5) rfl (post_up (F := Is (fun z_ => z_ = .string s)) (fun _ => trivial) hG (is_eq rfl))
    simp only [Act.put, List.setIfInBounds_toArray, List.set_cons_zero, List.set_cons_succ, List.nil_append, List.cons_append]
    refine inv_cons 1 (by rfl) (fun wx n_ s_ hn hcl hsi hG hR hd => ?_) (fun v1 => ?_)
    · replace hn : n_ < 18 := hn
      refine inv_want (by rfl) ?_
      exact inv_move (.tmp 4) rfl (post_up (F := Is (fun z_ => z_ = .pointer (some ⟨w.heap.size, 0, none⟩))) (fun _ => trivial) hG (is_eq rfl))
    simp only [Act.put, List.setIfInBounds_toArray, List.set_cons_zero, List.set_cons_succ, List.nil_append, List.cons_append]
    refine inv_cons 2 (by rfl) (fun wx n_ s_ hn hcl hsi hG hR hd => ?_) (fun v2 => ?_)
    · replace hn : n_ < 18 := hn
      refine inv_want (by rfl) ?_
      have d1 : (Is (fun z_ => z_ = .pointer (some ⟨w.heap.size, 0, none⟩))) v1 wx := dep_get hd 1 (by rfl)
      obtain rfl := d1
      unfold invAt invUpon; go_simp
      have hrd := hG.rd trivial
      refine (l20Bad1_any _ _ _ hrd (by omega)).mono ?_
      rintro e w' ⟨x, rfl, hx, r⟩
      exact ⟨_, rfl, post_read (F := Is (StrIn Sh16)) KXr rfl hG r (by omega) ⟨x, rfl, hx⟩⟩
    simp only [Act.put, List.setIfInBounds_toArray, List.set_cons_zero, List.set_cons_succ, List.nil_append, List.cons_append]
    refine inv_cons 3 (by rfl) (fun wx n_ s_ hn hcl hsi hG hR hd => ?_) (fun v3 => ?_)
    · replace hn : n_ < 18 := hn
      refine inv_want (by rfl) ?_
      have d0 : (Is (fun z_ => z_ = .string s)) v0 wx := dep_get hd 0 (by rfl)
      obtain rfl := d0
      have d2 : (Is (StrIn Sh16)) v2 wx := dep_get hd 2 (by rfl)
      obtain ⟨s_2, rfl, q_2⟩ := d2
      unfold invAt invUpon; go_simp
      exact post_new (F := IsRow (w.heap.size + 1) 2 (StrIn Sh16)) (fun _ => trivial) KXr hG (below_al _ _) ⟨_, _, _, rfl, by have := hG.grow.size; (try simp only [World.size_alloc, World.size_drew] at this); omega, Bk.new, allL_at rfl ⟨⟨_, rfl, by assumption⟩, ⟨_, rfl, by assumption⟩, trivial⟩⟩
    simp only [Act.put, List.setIfInBounds_toArray, List.set_cons_zero, List.set_cons_succ, List.nil_append, List.cons_append]
    refine inv_cons 4 (by rfl) (fun wx n_ s_ hn hcl hsi hG hR hd => ?_) (fun v4 => ?_)
    · replace hn : n_ < 18 := hn
      refine inv_want (by rfl) ?_
      exact inv_move (.tmp 4) rfl (post_up (F := Is (fun z_ => z_ = .pointer (some ⟨w.heap.size, 0, none⟩))) (fun _ => trivial) hG (is_eq rfl))
    simp only [Act.put, List.setIfInBounds_toArray, List.set_cons_zero, List.set_cons_succ, List.nil_append, List.cons_append]
    refine inv_cons 5 (by rfl) (fun wx n_ s_ hn hcl hsi hG hR hd => ?_) (fun v5 => ?_)
    · replace hn : n_ < 18 := hn
      refine inv_want (by rfl) ?_
      have d4 : (Is (fun z_ => z_ = .pointer (some ⟨w.heap.size, 0, none⟩))) v4 wx := dep_get hd 4 (by rfl)
      obtain rfl := d4
      unfold invAt invUpon; go_simp
      have hrd := hG.rd trivial
      refine (pick_any _ _ _ _ hrd (by omega) (by omega)).mono ?_
      rintro e w' ⟨x, rfl, lo, hi, r⟩
      exact ⟨_, rfl, post_read (F := Is (IntIn (0) (1))) KXr rfl hG r (by omega) ⟨x, rfl, by omega, by omega⟩⟩
    simp only [Act.put, List.setIfInBounds_toArray, List.set_cons_zero, List.set_cons_succ, List.nil_append, List.cons_append]
    refine inv_cons 6 (by rfl) (fun wx n_ s_ hn hcl hsi hG hR hd => ?_) (fun v6 => ?_)
    · replace hn : n_ < 18 := hn
      refine inv_want (by rfl) ?_
      have d3 : (IsRow (w.heap.size + 1) 2 (StrIn Sh16)) v3 wx := dep_get hd 3 (by rfl)
      obtain ⟨g_3, t_3, c_3, rfl, hl_3, hb_3, hc_3⟩ := d3
      have d5 : (Is (IntIn (0) (1))) v5 wx := dep_get hd 5 (by rfl)
      obtain ⟨x_5, rfl, lo_5, hi_5⟩ := d5
      obtain ⟨m, hm⟩ : ∃ m : Nat, x_5 = m := ⟨x_5.toNat, by omega⟩
      subst hm
      have hm6 : (m : Int) < 2 := by omega
      obtain ⟨y, hy, he⟩ := hc_3 m (by omega)
      unfold invAt invUpon; go_simp
      exact post_up (F := IsPtr (w.heap.size + 1) (StrIn Sh16)) (fun _ => trivial) hG ⟨_, _, y, rfl, hl_3, ((hb_3).cell m).trans hy, he⟩
    simp only [Act.put, List.setIfInBounds_toArray, List.set_cons_zero, List.set_cons_succ, List.nil_append, List.cons_append]
    refine inv_cons 7 (by rfl) (fun wx n_ s_ hn hcl hsi hG hR hd => ?_) (fun v7 => ?_)
    · replace hn : n_ < 18 := hn
      refine inv_want (by rfl) ?_
      have d6 : (IsPtr (w.heap.size + 1) (StrIn Sh16)) v6 wx := dep_get hd 6 (by rfl)
      obtain ⟨g_6, o_6, y_6, rfl, hl_6, hc_6, he_6⟩ := d6; obtain ⟨s_6, rfl, q_6⟩ := he_6
      unfold invAt invUpon; go_simp
      exact post_up (F := Is (StrIn Sh16)) (fun _ => trivial) hG ⟨_, rfl, by assumption⟩
    simp only [Act.put, List.setIfInBounds_toArray, List.set_cons_zero, List.set_cons_succ, List.nil_append, List.cons_append]
    refine inv_cons 8 (by rfl) (fun wx n_ s_ hn hcl hsi hG hR hd => ?_) (fun v8 => ?_)
    · replace hn : n_ < 18 := hn
      refine inv_want (by rfl) ?_
      exact inv_move (.tmp 6) rfl (post_up (F := Is (fun z_ => z_ = .string t)) (fun _ => trivial) hG (is_eq rfl))
    simp only [Act.put, List.setIfInBounds_toArray, List.set_cons_zero, List.set_cons_succ, List.nil_append, List.cons_append]
    refine inv_cons 9 (by rfl) (fun wx n_ s_ hn hcl hsi hG hR hd => ?_) (fun v9 => ?_)
    · replace hn : n_ < 18 := hn
      refine inv_want (by rfl) ?_
      exact inv_move (.tmp 4) rfl (post_up (F := Is (fun z_ => z_ = .pointer (some ⟨w.heap.size, 0, none⟩))) (fun _ => trivial) hG (is_eq rfl))
    simp only [Act.put, List.setIfInBounds_toArray, List.set_cons_zero, List.set_cons_succ, List.nil_append, List.cons_append]
    refine inv_cons 10 (by rfl) (fun wx n_ s_ hn hcl hsi hG hR hd => ?_) (fun v10 => ?_)
    · replace hn : n_ < 18 := hn
      refine inv_want (by rfl) ?_
      have d9 : (Is (fun z_ => z_ = .pointer (some ⟨w.heap.size, 0, none⟩))) v9 wx := dep_get hd 9 (by rfl)
      obtain rfl := d9
      unfold invAt invUpon; go_simp
      have hrd := hG.rd trivial
      refine (l20Bad1_any _ _ _ hrd (by omega)).mono ?_
      rintro e w' ⟨x, rfl, hx, r⟩
      exact ⟨_, rfl, post_read (F := Is (StrIn Sh16)) KXr rfl hG r (by omega) ⟨x, rfl, hx⟩⟩
    simp only [Act.put, List.setIfInBounds_toArray, List.set_cons_zero, List.set_cons_succ, List.nil_append, List.cons_append]
    refine inv_cons 11 (by rfl) (fun wx n_ s_ hn hcl hsi hG hR hd => ?_) (fun v11 => ?_)
    · replace hn : n_ < 18 := hn
      refine inv_want (by rfl) ?_
      have d8 : (Is (fun z_ => z_ = .string t)) v8 wx := dep_get hd 8 (by rfl)
      obtain rfl := d8
      have d10 : (Is (StrIn Sh16)) v10 wx := dep_get hd 10 (by rfl)
      obtain ⟨s_10, rfl, q_10⟩ := d10
      unfold invAt invUpon; go_simp
      exact post_new (F := IsRow (w.heap.size + 1) 2 (StrIn Sh16)) (fun _ => trivial) KXr hG (below_al _ _) ⟨_, _, _, rfl, by have := hG.grow.size; (try simp only [World.size_alloc, World.size_drew] at this); omega, Bk.new, allL_at rfl ⟨⟨_, rfl, by assumption⟩, ⟨_, rfl, by assumption⟩, trivial⟩⟩
    simp only [Act.put, List.setIfInBounds_toArray, List.set_cons_zero, List.set_cons_succ, List.nil_append, List.cons_append]
    refine inv_cons 12 (by rfl) (fun wx n_ s_ hn hcl hsi hG hR hd => ?_) (fun v12 => ?_)
    · replace hn : n_ < 18 := hn
      refine inv_want (by rfl) ?_
      exact inv_move (.tmp 4) rfl (post_up (F := Is (fun z_ => z_ = .pointer (some ⟨w.heap.size, 0, none⟩))) (fun _ => trivial) hG (is_eq rfl))
    simp only [Act.put, List.setIfInBounds_toArray, List.set_cons_zero, List.set_cons_succ, List.nil_append, List.cons_append]
    refine inv_cons 13 (by rfl) (fun wx n_ s_ hn hcl hsi hG hR hd => ?_) (fun v13 => ?_)
    · replace hn : n_ < 18 := hn
      refine inv_want (by rfl) ?_
      have d12 : (Is (fun z_ => z_ = .pointer (some ⟨w.heap.size, 0, none⟩))) v12 wx := dep_get hd 12 (by rfl)
      obtain rfl := d12
      unfold invAt invUpon; go_simp
      have hrd := hG.rd trivial
      refine (pick_any _ _ _ _ hrd (by omega) (by omega)).mono ?_
      rintro e w' ⟨x, rfl, lo, hi, r⟩
      exact ⟨_, rfl, post_read (F := Is (IntIn (0) (1))) KXr rfl hG r (by omega) ⟨x, rfl, by omega, by omega⟩⟩
    simp only [Act.put, List.setIfInBounds_toArray, List.set_cons_zero, List.set_cons_succ, List.nil_append, List.cons_append]
    refine inv_cons 14 (by rfl) (fun wx n_ s_ hn hcl hsi hG hR hd => ?_) (fun v14 => ?_)
    · replace hn : n_ < 18 := hn
      refine inv_want (by rfl) ?_
      have d11 : (IsRow (w.heap.size + 1) 2 (StrIn Sh16)) v11 wx := dep_get hd 11 (by rfl)
      obtain ⟨g_11, t_11, c_11, rfl, hl_11, hb_11, hc_11⟩ := d11
      have d13 : (Is (IntIn (0) (1))) v13 wx := dep_get hd 13 (by rfl)
      obtain ⟨x_13, rfl, lo_13, hi_13⟩ := d13
      obtain ⟨m, hm⟩ : ∃ m : Nat, x_13 = m := ⟨x_13.toNat, by omega⟩
      subst hm
      have hm6 : (m : Int) < 2 := by omega
      obtain ⟨y, hy, he⟩ := hc_11 m (by omega)
      unfold invAt invUpon; go_simp
      exact post_up (F := IsPtr (w.heap.size + 1) (StrIn Sh16)) (fun _ => trivial) hG ⟨_, _, y, rfl, hl_11, ((hb_11).cell m).trans hy, he⟩
    simp only [Act.put, List.setIfInBounds_toArray, List.set_cons_zero, List.set_cons_succ, List.nil_append, List.cons_append]
    refine inv_cons 15 (by rfl) (fun wx n_ s_ hn hcl hsi hG hR hd => ?_) (fun v15 => ?_)
    · replace hn : n_ < 18 := hn
      refine inv_want (by rfl) ?_
      have d14 : (IsPtr (w.heap.size + 1) (StrIn Sh16)) v14 wx := dep_get hd 14 (by rfl)
      obtain ⟨g_14, o_14, y_14, rfl, hl_14, hc_14, he_14⟩ := d14; obtain ⟨s_14, rfl, q_14⟩ := he_14
      unfold invAt invUpon; go_simp
      exact post_up (F := Is (StrIn Sh16)) (fun _ => trivial) hG ⟨_, rfl, by assumption⟩
    simp only [Act.put, List.setIfInBounds_toArray, List.set_cons_zero, List.set_cons_succ, List.nil_append, List.cons_append]
    refine inv_cons 16 (by rfl) (fun wx n_ s_ hn hcl hsi hG hR hd => ?_) (fun v16 => ?_)
    · replace hn : n_ < 18 := hn
      refine inv_want (by rfl) ?_
      exact inv_assign (.tmp 22) rfl (post_up (F := Is (StrIn Sh16)) (fun _ => trivial) hG (dep_get hd 7 (by rfl)))
    simp only [Act.put, List.setIfInBounds_toArray, List.set_cons_zero, List.set_cons_succ, List.nil_append, List.cons_append]
    refine inv_cons 17 (by rfl) (fun wx n_ s_ hn hcl hsi hG hR hd => ?_) (fun v17 => ?_)
    · replace hn : n_ < 18 := hn
      refine inv_want (by rfl) ?_
      exact inv_assign (.tmp 30) rfl (post_up (F := Is (StrIn Sh16)) (fun _ => trivial) hG (dep_get hd 15 (by rfl)))
    simp only [Act.put, List.setIfInBounds_toArray, List.set_cons_zero, List.set_cons_succ, List.nil_append, List.cons_append]
    refine inv_nil (fun wq nq sq hnq hGq hRq hall => ?_)
    replace hnq : nq ≤ 18 := hnq
    obtain ⟨f0, f1, f2, f3, f4, f5, f6, f7, f8, f9, f10, f11, f12, f13, f14, f15, f16, f17, -⟩ := hall
    replace f16 : (Is (StrIn Sh16)) v16 wq := f16
    obtain ⟨sp, rfl, qp⟩ := f16
    replace f17 : (Is (StrIn Sh16)) v17 wq := f17
    obtain ⟨sq, rfl, qq⟩ := f17
    go_wp2_with fail
    (try simp only [Exit.inBlock, Exit.then]); refine bodyPost_ret (by simp [results, Tryd.results23, go_sem]; try rfl) rfl ?_
    refine ⟨_, _, rfl, qp, qq, ?_⟩
    exact Grow.below (w := w) hGq.grow h4 (fun i hi => by (try dsimp only at hi); omega)
end Go.Proofs.YtamhnhojfhlanaaDoor
