/-
  Tuples and what is asked of them are drawn from bytes. Condition: the bytes can be read.
-/
import Derived.Test.YtfeaclnbkmaeeaaTue
set_option linter.unusedSimpArgs false
set_option linter.unusedVariables false
namespace Go.Proofs.Ytfeaclnbkmaeeaa
open Go.RowKit
theorem below_rdq {w w1 w2 : World} {M M' : Int} (h : Below w.heap.size w w1) (r : Reads w.heap.size M M' w1 w2) : Below w.heap.size w w2 := Below.rd r h (Nat.le_refl _)
def TuA (w : World) (e : Ending) (w' : World) : Prop :=
  ∃ (v : Value) (ds : List Tup) (about : Int) (nm : ByteArray), e = .returned (.tuple #[v, .int .i64 about, .string nm]) ∧ v ≠ .slice none 0 0 ∧ ds.length ≤ 9 ∧ (∀ d ∈ ds, TuBd d) ∧ Short nm ∧ w'.ownsRow w.heap.size 32 4 v ds.length (cellsT ds) ∧ Below w.heap.size w w'
def TuI (w : World) (e : Ending) (w' : World) : Prop :=
  ∃ (v : Value) (ds : List Tup) (about : Int) (nm : ByteArray) (other : Int), e = .returned (.tuple #[v, .int .i64 about, .string nm, .int .i64 other]) ∧ v ≠ .slice none 0 0 ∧ ds.length ≤ 9 ∧ (∀ d ∈ ds, TuBd d) ∧ Short nm ∧ 0 ≤ other ∧ other ≤ 4 ∧ w'.ownsRow w.heap.size 32 4 v ds.length (cellsT ds) ∧ Below w.heap.size w w'
set_option maxRecDepth 100000 in
set_option maxHeartbeats 3200000 in
theorem drawRelatedThings_any (a : Option Addr) (len cap : Nat) (w : World) (h : Bytes w a len cap) : Calls Try.prog 25 #[.slice a len cap] w (TuA w) := by
  have H := Lib.hid h
  clear h
  go_enter Try.func25, Try.ntmps25
  go_wp2_with fail
  refine (open_any a len cap _ H.out).mono ?_
  rintro e w1 ⟨rfl, r1, h1⟩
  have zb := r1.lt
  have hz1 := h1.size
  go_wp2_with fail
  refine (l20Tuples_any _ 9 _ _ r1 (by omega) (by omega) (by omega)).mono ?_
  rintro e w2 ⟨v, ds, rfl, hv, hl, hbd, ho, P2⟩
  have HO := Lib.hid ho
  have z2 := P2.size
  clear ho
  have P3 := Reads.mono (M2 := 240) P2 (by omega)
  go_wp2_with fail
  have KXr : KeepX (w.heap.size) (fun _ => True) ∧ KeepX (w.heap.size) (fun _ => True) := ⟨keepX_true _, keepX_true _⟩
  refine wp_region_inv (G := fun s n w_ => RgG (w.heap.size) (fun i => i = w.heap.size) (fun _ => True) (True) w2 (240) n w_) (R := RgR (fun i => i = w.heap.size) (fun _ => True))
    (Fs := [Is (fun z_ => z_ = v), Is (fun z_ => z_ = .pointer (some ⟨w.heap.size, 0, none⟩)), Is (IntIn (0) (4)), IsRow (w2.heap.size) 3 (StrIn Short), Is (fun z_ => z_ = .pointer (some ⟨w.heap.size, 0, none⟩)), Is (IntIn (0) (2)), IsPtr (w2.heap.size) (StrIn Short), Is (StrIn Short), Is (fun z_ => z_ = v), Is (IntIn (0) (4)), Is (StrIn Short)])
    (by kernel_rfl) (by kernel_rfl) (fun _ => RgR.refl _) (fun h k => h.trans k) ?_ (fun _ _ => ⟨fun _ => (P3.rd.below (Below.dr (Below.refl _ _))).mono (by omega), (Grow.refl _ _).drew, trivial⟩) ?_
  · (repeat' (first | exact lasts_nil | refine lasts_cons ?_ ?_))
    all_goals (first | exact Lasts.is | exact Lasts.any | exact Lasts.x | exact Lasts.row (fun i hi => by (try dsimp only at hi); omega) | exact Lasts.box (fun i hi => by (try dsimp only at hi); omega) | exact Lasts.ptr (fun i hi => by (try dsimp only at hi); omega))
  refine inv_cons 0 (by rfl) (fun wx n_ s_ hn hcl hsi hG hR hd => ?_) (fun v0 => ?_)
  · replace hn : n_ < 11 := hn
    refine inv_want (by rfl) ?_
    exact inv_move (.tmp 6) rfl (post_up (F := Is (fun z_ => z_ = v)) (fun _ => trivial) hG (is_eq rfl))
  simp only [Act.put, List.setIfInBounds_toArray, List.set_cons_zero, List.set_cons_succ, List.nil_append, List.cons_append]
  refine inv_cons 1 (by rfl) (fun wx n_ s_ hn hcl hsi hG hR hd => ?_) (fun v1 => ?_)
  · replace hn : n_ < 11 := hn
    refine inv_want (by rfl) ?_
    exact inv_move (.tmp 5) rfl (post_up (F := Is (fun z_ => z_ = .pointer (some ⟨w.heap.size, 0, none⟩))) (fun _ => trivial) hG (is_eq rfl))
  simp only [Act.put, List.setIfInBounds_toArray, List.set_cons_zero, List.set_cons_succ, List.nil_append, List.cons_append]
  refine inv_cons 2 (by rfl) (fun wx n_ s_ hn hcl hsi hG hR hd => ?_) (fun v2 => ?_)
  · replace hn : n_ < 11 := hn
    refine inv_want (by rfl) ?_
    have d1 : (Is (fun z_ => z_ = .pointer (some ⟨w.heap.size, 0, none⟩))) v1 wx := dep_get hd 1 (by rfl)
    obtain rfl := d1
    unfold invAt invUpon; go_simp
    have hrd := hG.rd trivial
    refine (pick_any _ _ _ _ hrd (by omega) (by omega)).mono ?_
    rintro e w' ⟨x, rfl, lo, hi, r⟩
    exact ⟨_, rfl, post_read (F := Is (IntIn (0) (4))) KXr rfl hG r (by omega) ⟨x, rfl, by omega, by omega⟩⟩
  simp only [Act.put, List.setIfInBounds_toArray, List.set_cons_zero, List.set_cons_succ, List.nil_append, List.cons_append]
  refine inv_cons 3 (by rfl) (fun wx n_ s_ hn hcl hsi hG hR hd => ?_) (fun v3 => ?_)
  · replace hn : n_ < 11 := hn
    refine inv_want (by rfl) ?_
    unfold invAt invUpon; go_simp
    exact post_new (F := IsRow (w2.heap.size) 3 (StrIn Short)) (fun _ => trivial) KXr hG (below_al _ _) ⟨_, _, _, rfl, by have := hG.grow.size; (try simp only [World.size_alloc, World.size_drew] at this); omega, Bk.new, allL_at rfl ⟨⟨_, rfl, by unfold Short; decide⟩, ⟨_, rfl, by unfold Short; decide⟩, ⟨_, rfl, by unfold Short; decide⟩, trivial⟩⟩
  simp only [Act.put, List.setIfInBounds_toArray, List.set_cons_zero, List.set_cons_succ, List.nil_append, List.cons_append]
  refine inv_cons 4 (by rfl) (fun wx n_ s_ hn hcl hsi hG hR hd => ?_) (fun v4 => ?_)
  · replace hn : n_ < 11 := hn
    refine inv_want (by rfl) ?_
    exact inv_move (.tmp 5) rfl (post_up (F := Is (fun z_ => z_ = .pointer (some ⟨w.heap.size, 0, none⟩))) (fun _ => trivial) hG (is_eq rfl))
  simp only [Act.put, List.setIfInBounds_toArray, List.set_cons_zero, List.set_cons_succ, List.nil_append, List.cons_append]
  refine inv_cons 5 (by rfl) (fun wx n_ s_ hn hcl hsi hG hR hd => ?_) (fun v5 => ?_)
  · replace hn : n_ < 11 := hn
    refine inv_want (by rfl) ?_
    have d4 : (Is (fun z_ => z_ = .pointer (some ⟨w.heap.size, 0, none⟩))) v4 wx := dep_get hd 4 (by rfl)
    obtain rfl := d4
    unfold invAt invUpon; go_simp
    have hrd := hG.rd trivial
    refine (pick_any _ _ _ _ hrd (by omega) (by omega)).mono ?_
    rintro e w' ⟨x, rfl, lo, hi, r⟩
    exact ⟨_, rfl, post_read (F := Is (IntIn (0) (2))) KXr rfl hG r (by omega) ⟨x, rfl, by omega, by omega⟩⟩
  simp only [Act.put, List.setIfInBounds_toArray, List.set_cons_zero, List.set_cons_succ, List.nil_append, List.cons_append]
  refine inv_cons 6 (by rfl) (fun wx n_ s_ hn hcl hsi hG hR hd => ?_) (fun v6 => ?_)
  · replace hn : n_ < 11 := hn
    refine inv_want (by rfl) ?_
    have d3 : (IsRow (w2.heap.size) 3 (StrIn Short)) v3 wx := dep_get hd 3 (by rfl)
    obtain ⟨g_3, t_3, c_3, rfl, hl_3, hb_3, hc_3⟩ := d3
    have d5 : (Is (IntIn (0) (2))) v5 wx := dep_get hd 5 (by rfl)
    obtain ⟨x_5, rfl, lo_5, hi_5⟩ := d5
    obtain ⟨m, hm⟩ : ∃ m : Nat, x_5 = m := ⟨x_5.toNat, by omega⟩
    subst hm
    have hm6 : (m : Int) < 3 := by omega
    obtain ⟨y, hy, he⟩ := hc_3 m (by omega)
    unfold invAt invUpon; go_simp
    exact post_up (F := IsPtr (w2.heap.size) (StrIn Short)) (fun _ => trivial) hG ⟨_, _, y, rfl, hl_3, ((hb_3).cell m).trans hy, he⟩
  simp only [Act.put, List.setIfInBounds_toArray, List.set_cons_zero, List.set_cons_succ, List.nil_append, List.cons_append]
  refine inv_cons 7 (by rfl) (fun wx n_ s_ hn hcl hsi hG hR hd => ?_) (fun v7 => ?_)
  · replace hn : n_ < 11 := hn
    refine inv_want (by rfl) ?_
    have d6 : (IsPtr (w2.heap.size) (StrIn Short)) v6 wx := dep_get hd 6 (by rfl)
    obtain ⟨g_6, o_6, y_6, rfl, hl_6, hc_6, he_6⟩ := d6; obtain ⟨s_6, rfl, q_6⟩ := he_6
    unfold invAt invUpon; go_simp
    exact post_up (F := Is (StrIn Short)) (fun _ => trivial) hG ⟨_, rfl, by assumption⟩
  simp only [Act.put, List.setIfInBounds_toArray, List.set_cons_zero, List.set_cons_succ, List.nil_append, List.cons_append]
  refine inv_cons 8 (by rfl) (fun wx n_ s_ hn hcl hsi hG hR hd => ?_) (fun v8 => ?_)
  · replace hn : n_ < 11 := hn
    refine inv_want (by rfl) ?_
    exact inv_assign (.tmp 11) rfl (post_up (F := Is (fun z_ => z_ = v)) (fun _ => trivial) hG (dep_get hd 0 (by rfl)))
  simp only [Act.put, List.setIfInBounds_toArray, List.set_cons_zero, List.set_cons_succ, List.nil_append, List.cons_append]
  refine inv_cons 9 (by rfl) (fun wx n_ s_ hn hcl hsi hG hR hd => ?_) (fun v9 => ?_)
  · replace hn : n_ < 11 := hn
    refine inv_want (by rfl) ?_
    exact inv_assign (.tmp 13) rfl (post_up (F := Is (IntIn (0) (4))) (fun _ => trivial) hG (dep_get hd 2 (by rfl)))
  simp only [Act.put, List.setIfInBounds_toArray, List.set_cons_zero, List.set_cons_succ, List.nil_append, List.cons_append]
  refine inv_cons 10 (by rfl) (fun wx n_ s_ hn hcl hsi hG hR hd => ?_) (fun v10 => ?_)
  · replace hn : n_ < 11 := hn
    refine inv_want (by rfl) ?_
    exact inv_assign (.tmp 18) rfl (post_up (F := Is (StrIn Short)) (fun _ => trivial) hG (dep_get hd 7 (by rfl)))
  simp only [Act.put, List.setIfInBounds_toArray, List.set_cons_zero, List.set_cons_succ, List.nil_append, List.cons_append]
  refine inv_nil (fun wq nq sq hnq hGq hRq hall => ?_)
  replace hnq : nq ≤ 11 := hnq
  obtain ⟨f0, f1, f2, f3, f4, f5, f6, f7, f8, f9, f10, -⟩ := hall
  replace f9 : (Is (IntIn (0) (4))) v9 wq := f9
  obtain ⟨xa, rfl, loa, hia⟩ := f9
  replace f10 : (Is (StrIn Short)) v10 wq := f10
  obtain ⟨sn, rfl, qn⟩ := f10
  obtain rfl : v8 = v := f8
  go_wp2_with fail
  (try simp only [Exit.inBlock, Exit.then]); refine bodyPost_ret (by simp [results, Try.results25, go_sem]; try rfl) rfl ?_
  refine ⟨_, ds, _, _, rfl, hv, hl, hbd, qn, own_lo (own_grow HO.out hGq.grow (fun j hj => by have := own_gt HO.out j hj; (try dsimp only); omega)) (by omega), ?_⟩
  exact Grow.below (w := w) hGq.grow (below_rdq h1 P2) (fun i hi => by (try dsimp only at hi); omega)
set_option maxRecDepth 100000 in
set_option maxHeartbeats 3200000 in
theorem drawIsRelated_any (a : Option Addr) (len cap : Nat) (w : World) (h : Bytes w a len cap) : Calls Try.prog 18 #[.slice a len cap] w (TuI w) := by
  have H := Lib.hid h
  clear h
  go_enter Try.func18, Try.ntmps18
  go_wp2_with fail
  refine (open_any a len cap _ H.out).mono ?_
  rintro e w1 ⟨rfl, r1, h1⟩
  have zb := r1.lt
  have hz1 := h1.size
  go_wp2_with fail
  refine (l20Tuples_any _ 9 _ _ r1 (by omega) (by omega) (by omega)).mono ?_
  rintro e w2 ⟨v, ds, rfl, hv, hl, hbd, ho, P2⟩
  have HO := Lib.hid ho
  have z2 := P2.size
  clear ho
  have P3 := Reads.mono (M2 := 240) P2 (by omega)
  go_wp2_with fail
  have KXr : KeepX (w.heap.size) (fun _ => True) ∧ KeepX (w.heap.size) (fun _ => True) := ⟨keepX_true _, keepX_true _⟩
  refine wp_region_inv (G := fun s n w_ => RgG (w.heap.size) (fun i => i = w.heap.size) (fun _ => True) (True) w2 (240) n w_) (R := RgR (fun i => i = w.heap.size) (fun _ => True))
    (Fs := [Is (fun z_ => z_ = v), Is (fun z_ => z_ = .pointer (some ⟨w.heap.size, 0, none⟩)), Is (IntIn (0) (4)), IsRow (w2.heap.size) 3 (StrIn Short), Is (fun z_ => z_ = .pointer (some ⟨w.heap.size, 0, none⟩)), Is (IntIn (0) (2)), IsPtr (w2.heap.size) (StrIn Short), Is (StrIn Short), Is (fun z_ => z_ = .pointer (some ⟨w.heap.size, 0, none⟩)), Is (IntIn (0) (4)), Is (fun z_ => z_ = v), Is (IntIn (0) (4)), Is (StrIn Short), Is (IntIn (0) (4))])
    (by kernel_rfl) (by kernel_rfl) (fun _ => RgR.refl _) (fun h k => h.trans k) ?_ (fun _ _ => ⟨fun _ => (P3.rd.below (Below.dr (Below.refl _ _))).mono (by omega), (Grow.refl _ _).drew, trivial⟩) ?_
  · (repeat' (first | exact lasts_nil | refine lasts_cons ?_ ?_))
    all_goals (first | exact Lasts.is | exact Lasts.any | exact Lasts.x | exact Lasts.row (fun i hi => by (try dsimp only at hi); omega) | exact Lasts.box (fun i hi => by (try dsimp only at hi); omega) | exact Lasts.ptr (fun i hi => by (try dsimp only at hi); omega))
  refine inv_cons 0 (by rfl) (fun wx n_ s_ hn hcl hsi hG hR hd => ?_) (fun v0 => ?_)
  · replace hn : n_ < 14 := hn
    refine inv_want (by rfl) ?_
    exact inv_move (.tmp 7) rfl (post_up (F := Is (fun z_ => z_ = v)) (fun _ => trivial) hG (is_eq rfl))
  simp only [Act.put, List.setIfInBounds_toArray, List.set_cons_zero, List.set_cons_succ, List.nil_append, List.cons_append]
  refine inv_cons 1 (by rfl) (fun wx n_ s_ hn hcl hsi hG hR hd => ?_) (fun v1 => ?_)
  · replace hn : n_ < 14 := hn
    refine inv_want (by rfl) ?_
    exact inv_move (.tmp 6) rfl (post_up (F := Is (fun z_ => z_ = .pointer (some ⟨w.heap.size, 0, none⟩))) (fun _ => trivial) hG (is_eq rfl))
  simp only [Act.put, List.setIfInBounds_toArray, List.set_cons_zero, List.set_cons_succ, List.nil_append, List.cons_append]
  refine inv_cons 2 (by rfl) (fun wx n_ s_ hn hcl hsi hG hR hd => ?_) (fun v2 => ?_)
  · replace hn : n_ < 14 := hn
    refine inv_want (by rfl) ?_
    have d1 : (Is (fun z_ => z_ = .pointer (some ⟨w.heap.size, 0, none⟩))) v1 wx := dep_get hd 1 (by rfl)
    obtain rfl := d1
    unfold invAt invUpon; go_simp
    have hrd := hG.rd trivial
    refine (pick_any _ _ _ _ hrd (by omega) (by omega)).mono ?_
    rintro e w' ⟨x, rfl, lo, hi, r⟩
    exact ⟨_, rfl, post_read (F := Is (IntIn (0) (4))) KXr rfl hG r (by omega) ⟨x, rfl, by omega, by omega⟩⟩
  simp only [Act.put, List.setIfInBounds_toArray, List.set_cons_zero, List.set_cons_succ, List.nil_append, List.cons_append]
  refine inv_cons 3 (by rfl) (fun wx n_ s_ hn hcl hsi hG hR hd => ?_) (fun v3 => ?_)
  · replace hn : n_ < 14 := hn
    refine inv_want (by rfl) ?_
    unfold invAt invUpon; go_simp
    exact post_new (F := IsRow (w2.heap.size) 3 (StrIn Short)) (fun _ => trivial) KXr hG (below_al _ _) ⟨_, _, _, rfl, by have := hG.grow.size; (try simp only [World.size_alloc, World.size_drew] at this); omega, Bk.new, allL_at rfl ⟨⟨_, rfl, by unfold Short; decide⟩, ⟨_, rfl, by unfold Short; decide⟩, ⟨_, rfl, by unfold Short; decide⟩, trivial⟩⟩
  simp only [Act.put, List.setIfInBounds_toArray, List.set_cons_zero, List.set_cons_succ, List.nil_append, List.cons_append]
  refine inv_cons 4 (by rfl) (fun wx n_ s_ hn hcl hsi hG hR hd => ?_) (fun v4 => ?_)
  · replace hn : n_ < 14 := hn
    refine inv_want (by rfl) ?_
    exact inv_move (.tmp 6) rfl (post_up (F := Is (fun z_ => z_ = .pointer (some ⟨w.heap.size, 0, none⟩))) (fun _ => trivial) hG (is_eq rfl))
  simp only [Act.put, List.setIfInBounds_toArray, List.set_cons_zero, List.set_cons_succ, List.nil_append, List.cons_append]
  refine inv_cons 5 (by rfl) (fun wx n_ s_ hn hcl hsi hG hR hd => ?_) (fun v5 => ?_)
  · replace hn : n_ < 14 := hn
    refine inv_want (by rfl) ?_
    have d4 : (Is (fun z_ => z_ = .pointer (some ⟨w.heap.size, 0, none⟩))) v4 wx := dep_get hd 4 (by rfl)
    obtain rfl := d4
    unfold invAt invUpon; go_simp
    have hrd := hG.rd trivial
    refine (pick_any _ _ _ _ hrd (by omega) (by omega)).mono ?_
    rintro e w' ⟨x, rfl, lo, hi, r⟩
    exact ⟨_, rfl, post_read (F := Is (IntIn (0) (2))) KXr rfl hG r (by omega) ⟨x, rfl, by omega, by omega⟩⟩
  simp only [Act.put, List.setIfInBounds_toArray, List.set_cons_zero, List.set_cons_succ, List.nil_append, List.cons_append]
  refine inv_cons 6 (by rfl) (fun wx n_ s_ hn hcl hsi hG hR hd => ?_) (fun v6 => ?_)
  · replace hn : n_ < 14 := hn
    refine inv_want (by rfl) ?_
    have d3 : (IsRow (w2.heap.size) 3 (StrIn Short)) v3 wx := dep_get hd 3 (by rfl)
    obtain ⟨g_3, t_3, c_3, rfl, hl_3, hb_3, hc_3⟩ := d3
    have d5 : (Is (IntIn (0) (2))) v5 wx := dep_get hd 5 (by rfl)
    obtain ⟨x_5, rfl, lo_5, hi_5⟩ := d5
    obtain ⟨m, hm⟩ : ∃ m : Nat, x_5 = m := ⟨x_5.toNat, by omega⟩
    subst hm
    have hm6 : (m : Int) < 3 := by omega
    obtain ⟨y, hy, he⟩ := hc_3 m (by omega)
    unfold invAt invUpon; go_simp
    exact post_up (F := IsPtr (w2.heap.size) (StrIn Short)) (fun _ => trivial) hG ⟨_, _, y, rfl, hl_3, ((hb_3).cell m).trans hy, he⟩
  simp only [Act.put, List.setIfInBounds_toArray, List.set_cons_zero, List.set_cons_succ, List.nil_append, List.cons_append]
  refine inv_cons 7 (by rfl) (fun wx n_ s_ hn hcl hsi hG hR hd => ?_) (fun v7 => ?_)
  · replace hn : n_ < 14 := hn
    refine inv_want (by rfl) ?_
    have d6 : (IsPtr (w2.heap.size) (StrIn Short)) v6 wx := dep_get hd 6 (by rfl)
    obtain ⟨g_6, o_6, y_6, rfl, hl_6, hc_6, he_6⟩ := d6; obtain ⟨s_6, rfl, q_6⟩ := he_6
    unfold invAt invUpon; go_simp
    exact post_up (F := Is (StrIn Short)) (fun _ => trivial) hG ⟨_, rfl, by assumption⟩
  simp only [Act.put, List.setIfInBounds_toArray, List.set_cons_zero, List.set_cons_succ, List.nil_append, List.cons_append]
  refine inv_cons 8 (by rfl) (fun wx n_ s_ hn hcl hsi hG hR hd => ?_) (fun v8 => ?_)
  · replace hn : n_ < 14 := hn
    refine inv_want (by rfl) ?_
    exact inv_move (.tmp 6) rfl (post_up (F := Is (fun z_ => z_ = .pointer (some ⟨w.heap.size, 0, none⟩))) (fun _ => trivial) hG (is_eq rfl))
  simp only [Act.put, List.setIfInBounds_toArray, List.set_cons_zero, List.set_cons_succ, List.nil_append, List.cons_append]
  refine inv_cons 9 (by rfl) (fun wx n_ s_ hn hcl hsi hG hR hd => ?_) (fun v9 => ?_)
  · replace hn : n_ < 14 := hn
    refine inv_want (by rfl) ?_
    have d8 : (Is (fun z_ => z_ = .pointer (some ⟨w.heap.size, 0, none⟩))) v8 wx := dep_get hd 8 (by rfl)
    obtain rfl := d8
    unfold invAt invUpon; go_simp
    have hrd := hG.rd trivial
    refine (pick_any _ _ _ _ hrd (by omega) (by omega)).mono ?_
    rintro e w' ⟨x, rfl, lo, hi, r⟩
    exact ⟨_, rfl, post_read (F := Is (IntIn (0) (4))) KXr rfl hG r (by omega) ⟨x, rfl, by omega, by omega⟩⟩
  simp only [Act.put, List.setIfInBounds_toArray, List.set_cons_zero, List.set_cons_succ, List.nil_append, List.cons_append]
  refine inv_cons 10 (by rfl) (fun wx n_ s_ hn hcl hsi hG hR hd => ?_) (fun v10 => ?_)
  · replace hn : n_ < 14 := hn
    refine inv_want (by rfl) ?_
    exact inv_assign (.tmp 12) rfl (post_up (F := Is (fun z_ => z_ = v)) (fun _ => trivial) hG (dep_get hd 0 (by rfl)))
  simp only [Act.put, List.setIfInBounds_toArray, List.set_cons_zero, List.set_cons_succ, List.nil_append, List.cons_append]
  refine inv_cons 11 (by rfl) (fun wx n_ s_ hn hcl hsi hG hR hd => ?_) (fun v11 => ?_)
  · replace hn : n_ < 14 := hn
    refine inv_want (by rfl) ?_
    exact inv_assign (.tmp 14) rfl (post_up (F := Is (IntIn (0) (4))) (fun _ => trivial) hG (dep_get hd 2 (by rfl)))
  simp only [Act.put, List.setIfInBounds_toArray, List.set_cons_zero, List.set_cons_succ, List.nil_append, List.cons_append]
  refine inv_cons 12 (by rfl) (fun wx n_ s_ hn hcl hsi hG hR hd => ?_) (fun v12 => ?_)
  · replace hn : n_ < 14 := hn
    refine inv_want (by rfl) ?_
    exact inv_assign (.tmp 19) rfl (post_up (F := Is (StrIn Short)) (fun _ => trivial) hG (dep_get hd 7 (by rfl)))
  simp only [Act.put, List.setIfInBounds_toArray, List.set_cons_zero, List.set_cons_succ, List.nil_append, List.cons_append]
  refine inv_cons 13 (by rfl) (fun wx n_ s_ hn hcl hsi hG hR hd => ?_) (fun v13 => ?_)
  · replace hn : n_ < 14 := hn
    refine inv_want (by rfl) ?_
    exact inv_assign (.tmp 21) rfl (post_up (F := Is (IntIn (0) (4))) (fun _ => trivial) hG (dep_get hd 9 (by rfl)))
  simp only [Act.put, List.setIfInBounds_toArray, List.set_cons_zero, List.set_cons_succ, List.nil_append, List.cons_append]
  refine inv_nil (fun wq nq sq hnq hGq hRq hall => ?_)
  replace hnq : nq ≤ 14 := hnq
  obtain ⟨f0, f1, f2, f3, f4, f5, f6, f7, f8, f9, f10, f11, f12, f13, -⟩ := hall
  replace f11 : (Is (IntIn (0) (4))) v11 wq := f11
  obtain ⟨xa, rfl, loa, hia⟩ := f11
  replace f12 : (Is (StrIn Short)) v12 wq := f12
  obtain ⟨sn, rfl, qn⟩ := f12
  replace f13 : (Is (IntIn (0) (4))) v13 wq := f13
  obtain ⟨xo, rfl, loo, hio⟩ := f13
  obtain rfl : v10 = v := f10
  go_wp2_with fail
  (try simp only [Exit.inBlock, Exit.then]); refine bodyPost_ret (by simp [results, Try.results18, go_sem]; try rfl) rfl ?_
  refine ⟨_, ds, _, _, _, rfl, hv, hl, hbd, qn, by omega, by omega, own_lo (own_grow HO.out hGq.grow (fun j hj => by have := own_gt HO.out j hj; (try dsimp only); omega)) (by omega), ?_⟩
  exact Grow.below (w := w) hGq.grow (below_rdq h1 P2) (fun i hi => by (try dsimp only at hi); omega)
end Go.Proofs.Ytfeaclnbkmaeeaa
