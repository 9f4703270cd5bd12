/-
  The law on whether a thing is related, walked. Condition: the bytes can be read.
-/
import Derived.Test.YtfeaclnbkmaeeaaTuq
import Derived.Test.YtfeaclnbkmaeeaaTuy
import Derived.Test.YtfeaclnbkmaeeaaTup
set_option linter.unusedSimpArgs false
set_option linter.unusedVariables false
namespace Go.Proofs.Ytfeaclnbkmaeeaa
open Go.RowKit
set_option maxRecDepth 100000 in
set_option maxHeartbeats 6400000 in
theorem isRelated_walk (a : Option Addr) (len cap : Nat) (w : World) (h : Bytes w a len cap) : Calls Try.prog 6 #[.slice a len cap] w fun e w' => e = .returned (.bool true) ∧ Below w.heap.size w w' := by
  have h1 := h.1
  have h2 := h.2.1
  unfold maxLen at h2
  have H := Lib.hid h
  clear h
  by_cases hl : 1048576 < len
  · go_enter Try.func6, Try.ntmps6
    go_wp2_with fail
    go_ret
    exact ⟨rfl, Below.refl _ _⟩
  · go_enter Try.func6, Try.ntmps6
    go_wp2_with fail
    refine (drawIsRelated_any a len cap _ H.out).mono ?_
    rintro e w1 ⟨v, ds, about, nm, other, rfl, hv, hlen, hbd, hq, ho0, ho6, ho, b1⟩
    obtain ⟨g, c, rfl, hg, hn, hc, _⟩ := own_ad ho hv
    have HS1 := Lib.hid (show SlT w1 (.slice (some ⟨g, 0, none⟩) ds.length c) ds from own_sl ho)
    have HT := Lib.hid (tuStr hbd)
    clear ho hv hbd
    unfold maxLen at hc
    have hbad := isRel_bad ds about nm other
    have CS := fun vx wx h => specIs_any ds about nm other vx wx h HT.out
    have CI := fun vx wx h => implIs_any ds about nm other vx wx h HT.out
    generalize isRel ds about nm other = R at hbad CS CI
    have hne : (R != R) = false := by simp
    go_wp2_with fail
    refine (CI _ _ HS1.out).mono ?_
    rintro e w2 ⟨rfl, b2⟩
    go_wp2_with fail
    refine (CS _ _ (SlF.below HS1.out b2)).mono ?_
    rintro e w3 ⟨rfl, b3⟩
    have HS3 := Lib.hid (SlF.below (SlF.below HS1.out b2) b3)
    have hB3 := Below.via b3 (Below.via b2 b1)
    clear CS CI b2 b3 HS1
    cases hval : tValid ds
    · obtain rfl : R = false := hbad hval
      have HVA := Lib.hid hval
      clear hbad hval
      by_cases hl0 : 0 < ds.length
      all_goals
        go_wp2_with fail
        go_loopw [8] (fun i wr => i = .int .i64 0 ∧ wr = w3) (fun _ _ => 0)
        case atStart => exact ⟨rfl, rfl⟩
        case round =>
          obtain ⟨rfl, rfl⟩ := hrel
          go_wp2_with fail
          first
            | (refine (implTValid_any ds _ _ HS3.out HT.out).mono ?_
               rintro e w4 ⟨rfl, b4⟩
               rw [HVA.out]
               go_wp2_with ((go_at_call 15; refine (alive_any _).mono ?_; rintro e w' ⟨rfl, rfl⟩))
               go_ret
               exact ⟨rfl, Below.via b4 hB3⟩)
            | (refine (alive_any _).mono ?_
               rintro e w4 ⟨rfl, rfl⟩
               go_wp2_with fail
               go_ret
               exact ⟨rfl, hB3⟩)
    · have HVA := Lib.hid hval
      have HDR := Lib.hid (rel_direct ds hval)
      clear hbad hval
      go_wp2_with fail
      go_loopw [8] (fun i wr => ∃ k : Nat, k ≤ ds.length ∧ i = .int .i64 k ∧ Below w3.heap.size w3 wr) (fun i _ => ds.length - (intOf i).toNat)
      case atStart => exact ⟨0, Nat.zero_le _, rfl, Below.refl _ _⟩
      case round =>
        obtain ⟨k, hk, rfl, hB⟩ := hrel
        by_cases hlt : k < ds.length
        · go_wp2_with fail
          refine (implTValid_any ds _ _ (SlF.below HS3.out hB) HT.out).mono ?_
          rintro e w4 ⟨rfl, b4⟩
          rw [HVA.out]
          have hB4 := Below.via b4 hB
          have HS4 := Lib.hid (show SlT w4 (.slice (some ⟨g, 0, none⟩) ds.length c) ds from SlF.below (SlF.below HS3.out hB) b4)
          obtain ⟨g', off, cap', hvv, _, _, c0, c1, c2, c3⟩ := SlT.cells HS4.out k hlt
          simp only [Value.slice.injEq, Option.some.injEq, Addr.mk.injEq, and_true, true_and] at hvv
          obtain ⟨⟨rfl, rfl⟩, rfl⟩ := hvv
          simp only [Nat.zero_add] at c0 c1 c2 c3
          have hdr := Lib.hid (HDR.out k hlt)
          generalize ds[k] = d at c0 c1 c2 c3 hdr
          cases he : d.f3.toList.isEmpty
          · go_wp2_with fail
            have KXr : KeepB (fun _ => True) ∧ KeepB (fun _ => True) := ⟨keepB_true, keepB_true⟩
            refine wp_region_inv (G := fun s n w_ => RgN (fun _ => False) (fun _ => True) w4 w_) (R := RgR (fun _ => False) (fun _ => True))
              (Fs := [Is (fun z_ => z_ = .slice (some ⟨g, 0, none⟩) ds.length c), Is (fun z_ => z_ = .int .i64 k), Is (fun z_ => z_ = .pointer (some ⟨g, k * 4, none⟩)), Is (fun z_ => z_ = .pointer (some ⟨g, k * 4 + 3, none⟩)), Is (fun z_ => z_ = .string d.f3), Is (fun z_ => z_ = .bool false), Is (fun z_ => z_ = .bool false), Is (fun z_ => z_ = undef), Is (fun z_ => z_ = undef), Is (fun z_ => z_ = undef), Is (fun z_ => z_ = undef), Is (fun z_ => z_ = undef), Is (fun z_ => z_ = undef), Is (fun z_ => z_ = undef), Is (fun z_ => z_ = undef), Is (fun z_ => z_ = undef), Is (fun z_ => z_ = undef), Is (fun z_ => z_ = undef), Is (fun z_ => z_ = undef), Is (fun z_ => z_ = undef), Is (fun z_ => z_ = undef), Is (fun z_ => z_ = undef), Is (fun z_ => z_ = undef), Is (fun z_ => z_ = undef), Is (fun z_ => z_ = undef), Is (fun z_ => z_ = .bool false)])
              (by kernel_rfl) (by kernel_rfl) (fun _ => RgR.refl _) (fun h k => h.trans k) ?_ (fun _ _ => ⟨(Grow.refl _ _).drew, trivial⟩) ?_
            · (repeat' (first | exact lasts_nil | refine lasts_cons ?_ ?_))
              all_goals (first | exact Lasts.is | exact Lasts.any)
            refine inv_cons 0 (by rfl) (fun wx n_ s_ hn hcl hsi hG hR hd => ?_) (fun v0 => ?_)
            · exact inv_want (by rfl) (inv_move (.tmp 3) rfl (post_upN (F := Is (fun z_ => z_ = .slice (some ⟨g, 0, none⟩) ds.length c)) hG (is_eq rfl)))
            simp only [Act.put, List.setIfInBounds_toArray, List.set_cons_zero, List.set_cons_succ, List.nil_append, List.cons_append]
            refine inv_cons 1 (by rfl) (fun wx n_ s_ hn hcl hsi hG hR hd => ?_) (fun v1 => ?_)
            · exact inv_want (by rfl) (inv_move (.tmp 8) rfl (post_upN (F := Is (fun z_ => z_ = .int .i64 k)) hG (is_eq rfl)))
            simp only [Act.put, List.setIfInBounds_toArray, List.set_cons_zero, List.set_cons_succ, List.nil_append, List.cons_append]
            refine inv_cons 2 (by rfl) (fun wx n_ s_ hn hcl hsi hG hR hd => ?_) (fun v2 => ?_)
            · have d0 : (Is (fun z_ => z_ = .slice (some ⟨g, 0, none⟩) ds.length c)) v0 wx := dep_get hd 0 (by rfl)
              obtain rfl := d0
              have d1 : (Is (fun z_ => z_ = .int .i64 k)) v1 wx := dep_get hd 1 (by rfl)
              obtain rfl := d1
              refine inv_want (by rfl) ?_
              have HG := Lib.hid hG
              clear hG hR hcl hsi hn
              unfold invAt invUpon; go_simp
              exact post_upN (F := Is (fun z_ => z_ = .pointer (some ⟨g, k * 4, none⟩))) HG.out (is_eq rfl)
            simp only [Act.put, List.setIfInBounds_toArray, List.set_cons_zero, List.set_cons_succ, List.nil_append, List.cons_append]
            refine inv_cons 3 (by rfl) (fun wx n_ s_ hn hcl hsi hG hR hd => ?_) (fun v3 => ?_)
            · have d2 : (Is (fun z_ => z_ = .pointer (some ⟨g, k * 4, none⟩))) v2 wx := dep_get hd 2 (by rfl)
              obtain rfl := d2
              refine inv_want (by rfl) ?_
              have HG := Lib.hid hG
              clear hG hR hcl hsi hn
              unfold invAt invUpon; go_simp
              exact post_upN (F := Is (fun z_ => z_ = .pointer (some ⟨g, k * 4 + 3, none⟩))) HG.out (is_eq rfl)
            simp only [Act.put, List.setIfInBounds_toArray, List.set_cons_zero, List.set_cons_succ, List.nil_append, List.cons_append]
            refine inv_cons 4 (by rfl) (fun wx n_ s_ hn hcl hsi hG hR hd => ?_) (fun v4 => ?_)
            · have d3 : (Is (fun z_ => z_ = .pointer (some ⟨g, k * 4 + 3, none⟩))) v3 wx := dep_get hd 3 (by rfl)
              obtain rfl := d3
              have xb := cell_grow (c3) hG.grow (fun h => h)
              refine inv_want (by rfl) ?_
              have HG := Lib.hid hG
              clear hG hR hcl hsi hn
              unfold invAt invUpon; go_simp
              exact post_upN (F := Is (fun z_ => z_ = .string d.f3)) HG.out (is_eq rfl)
            simp only [Act.put, List.setIfInBounds_toArray, List.set_cons_zero, List.set_cons_succ, List.nil_append, List.cons_append]
            refine inv_cons 5 (by rfl) (fun wx n_ s_ hn hcl hsi hG hR hd => ?_) (fun v5 => ?_)
            · have d4 : (Is (fun z_ => z_ = .string d.f3)) v4 wx := dep_get hd 4 (by rfl)
              obtain rfl := d4
              refine inv_want (by rfl) ?_
              have HG := Lib.hid hG
              clear hG hR hcl hsi hn
              unfold invAt invUpon; go_simp
              exact post_upN (F := Is (fun z_ => z_ = .bool false)) HG.out (is_eq rfl)
            simp only [Act.put, List.setIfInBounds_toArray, List.set_cons_zero, List.set_cons_succ, List.nil_append, List.cons_append]
            refine inv_cons 6 (by rfl) (fun wx n_ s_ hn hcl hsi hG hR hd => ?_) (fun v6 => ?_)
            · have d5 : (Is (fun z_ => z_ = .bool false)) v5 wx := dep_get hd 5 (by rfl)
              obtain rfl := d5
              exact inv_want (by rfl) (inv_move (.tmp 46) rfl (post_upN (F := Is (fun z_ => z_ = .bool false)) hG (is_eq rfl)))
            simp only [Act.put, List.setIfInBounds_toArray, List.set_cons_zero, List.set_cons_succ, List.nil_append, List.cons_append]
            refine inv_cons 7 (by rfl) (fun wx n_ s_ hn hcl hsi hG hR hd => ?_) (fun v7 => ?_)
            · have dg : (Is (fun z_ => z_ = .bool false)) v6 wx := dep_get hd 6 (by rfl)
              obtain rfl := dg
              exact inv_skip (by rfl) hG (is_eq rfl)
            simp only [Act.put, List.setIfInBounds_toArray, List.set_cons_zero, List.set_cons_succ, List.nil_append, List.cons_append]
            refine inv_cons 8 (by rfl) (fun wx n_ s_ hn hcl hsi hG hR hd => ?_) (fun v8 => ?_)
            · have dg : (Is (fun z_ => z_ = .bool false)) v6 wx := dep_get hd 6 (by rfl)
              obtain rfl := dg
              exact inv_skip (by rfl) hG (is_eq rfl)
            simp only [Act.put, List.setIfInBounds_toArray, List.set_cons_zero, List.set_cons_succ, List.nil_append, List.cons_append]
            refine inv_cons 9 (by rfl) (fun wx n_ s_ hn hcl hsi hG hR hd => ?_) (fun v9 => ?_)
            · have dg : (Is (fun z_ => z_ = .bool false)) v6 wx := dep_get hd 6 (by rfl)
              obtain rfl := dg
              exact inv_skip (by rfl) hG (is_eq rfl)
            simp only [Act.put, List.setIfInBounds_toArray, List.set_cons_zero, List.set_cons_succ, List.nil_append, List.cons_append]
            refine inv_cons 10 (by rfl) (fun wx n_ s_ hn hcl hsi hG hR hd => ?_) (fun v10 => ?_)
            · have dg : (Is (fun z_ => z_ = .bool false)) v6 wx := dep_get hd 6 (by rfl)
              obtain rfl := dg
              exact inv_skip (by rfl) hG (is_eq rfl)
            simp only [Act.put, List.setIfInBounds_toArray, List.set_cons_zero, List.set_cons_succ, List.nil_append, List.cons_append]
            refine inv_cons 11 (by rfl) (fun wx n_ s_ hn hcl hsi hG hR hd => ?_) (fun v11 => ?_)
            · have dg : (Is (fun z_ => z_ = .bool false)) v6 wx := dep_get hd 6 (by rfl)
              obtain rfl := dg
              exact inv_skip (by rfl) hG (is_eq rfl)
            simp only [Act.put, List.setIfInBounds_toArray, List.set_cons_zero, List.set_cons_succ, List.nil_append, List.cons_append]
            refine inv_cons 12 (by rfl) (fun wx n_ s_ hn hcl hsi hG hR hd => ?_) (fun v12 => ?_)
            · have dg : (Is (fun z_ => z_ = .bool false)) v6 wx := dep_get hd 6 (by rfl)
              obtain rfl := dg
              exact inv_skip (by rfl) hG (is_eq rfl)
            simp only [Act.put, List.setIfInBounds_toArray, List.set_cons_zero, List.set_cons_succ, List.nil_append, List.cons_append]
            refine inv_cons 13 (by rfl) (fun wx n_ s_ hn hcl hsi hG hR hd => ?_) (fun v13 => ?_)
            · have dg : (Is (fun z_ => z_ = .bool false)) v6 wx := dep_get hd 6 (by rfl)
              obtain rfl := dg
              exact inv_skip (by rfl) hG (is_eq rfl)
            simp only [Act.put, List.setIfInBounds_toArray, List.set_cons_zero, List.set_cons_succ, List.nil_append, List.cons_append]
            refine inv_cons 14 (by rfl) (fun wx n_ s_ hn hcl hsi hG hR hd => ?_) (fun v14 => ?_)
            · have dg : (Is (fun z_ => z_ = .bool false)) v6 wx := dep_get hd 6 (by rfl)
              obtain rfl := dg
              exact inv_skip (by rfl) hG (is_eq rfl)
            simp only [Act.put, List.setIfInBounds_toArray, List.set_cons_zero, List.set_cons_succ, List.nil_append, List.cons_append]
            refine inv_cons 15 (by rfl) (fun wx n_ s_ hn hcl hsi hG hR hd => ?_) (fun v15 => ?_)
            · have dg : (Is (fun z_ => z_ = .bool false)) v6 wx := dep_get hd 6 (by rfl)
              obtain rfl := dg
              exact inv_skip (by rfl) hG (is_eq rfl)
            simp only [Act.put, List.setIfInBounds_toArray, List.set_cons_zero, List.set_cons_succ, List.nil_append, List.cons_append]
            refine inv_cons 16 (by rfl) (fun wx n_ s_ hn hcl hsi hG hR hd => ?_) (fun v16 => ?_)
            · have dg : (Is (fun z_ => z_ = .bool false)) v6 wx := dep_get hd 6 (by rfl)
              obtain rfl := dg
              exact inv_skip (by rfl) hG (is_eq rfl)
            simp only [Act.put, List.setIfInBounds_toArray, List.set_cons_zero, List.set_cons_succ, List.nil_append, List.cons_append]
            refine inv_cons 17 (by rfl) (fun wx n_ s_ hn hcl hsi hG hR hd => ?_) (fun v17 => ?_)
            · have dg : (Is (fun z_ => z_ = .bool false)) v6 wx := dep_get hd 6 (by rfl)
              obtain rfl := dg
              exact inv_skip (by rfl) hG (is_eq rfl)
            simp only [Act.put, List.setIfInBounds_toArray, List.set_cons_zero, List.set_cons_succ, List.nil_append, List.cons_append]
            refine inv_cons 18 (by rfl) (fun wx n_ s_ hn hcl hsi hG hR hd => ?_) (fun v18 => ?_)
            · have dg : (Is (fun z_ => z_ = .bool false)) v6 wx := dep_get hd 6 (by rfl)
              obtain rfl := dg
              exact inv_skip (by rfl) hG (is_eq rfl)
            simp only [Act.put, List.setIfInBounds_toArray, List.set_cons_zero, List.set_cons_succ, List.nil_append, List.cons_append]
            refine inv_cons 19 (by rfl) (fun wx n_ s_ hn hcl hsi hG hR hd => ?_) (fun v19 => ?_)
            · have dg : (Is (fun z_ => z_ = .bool false)) v6 wx := dep_get hd 6 (by rfl)
              obtain rfl := dg
              exact inv_skip (by rfl) hG (is_eq rfl)
            simp only [Act.put, List.setIfInBounds_toArray, List.set_cons_zero, List.set_cons_succ, List.nil_append, List.cons_append]
            refine inv_cons 20 (by rfl) (fun wx n_ s_ hn hcl hsi hG hR hd => ?_) (fun v20 => ?_)
            · have dg : (Is (fun z_ => z_ = .bool false)) v6 wx := dep_get hd 6 (by rfl)
              obtain rfl := dg
              exact inv_skip (by rfl) hG (is_eq rfl)
            simp only [Act.put, List.setIfInBounds_toArray, List.set_cons_zero, List.set_cons_succ, List.nil_append, List.cons_append]
            refine inv_cons 21 (by rfl) (fun wx n_ s_ hn hcl hsi hG hR hd => ?_) (fun v21 => ?_)
            · have dg : (Is (fun z_ => z_ = .bool false)) v6 wx := dep_get hd 6 (by rfl)
              obtain rfl := dg
              exact inv_skip (by rfl) hG (is_eq rfl)
            simp only [Act.put, List.setIfInBounds_toArray, List.set_cons_zero, List.set_cons_succ, List.nil_append, List.cons_append]
            refine inv_cons 22 (by rfl) (fun wx n_ s_ hn hcl hsi hG hR hd => ?_) (fun v22 => ?_)
            · have dg : (Is (fun z_ => z_ = .bool false)) v6 wx := dep_get hd 6 (by rfl)
              obtain rfl := dg
              exact inv_skip (by rfl) hG (is_eq rfl)
            simp only [Act.put, List.setIfInBounds_toArray, List.set_cons_zero, List.set_cons_succ, List.nil_append, List.cons_append]
            refine inv_cons 23 (by rfl) (fun wx n_ s_ hn hcl hsi hG hR hd => ?_) (fun v23 => ?_)
            · have dg : (Is (fun z_ => z_ = .bool false)) v6 wx := dep_get hd 6 (by rfl)
              obtain rfl := dg
              exact inv_skip (by rfl) hG (is_eq rfl)
            simp only [Act.put, List.setIfInBounds_toArray, List.set_cons_zero, List.set_cons_succ, List.nil_append, List.cons_append]
            refine inv_cons 24 (by rfl) (fun wx n_ s_ hn hcl hsi hG hR hd => ?_) (fun v24 => ?_)
            · have dg : (Is (fun z_ => z_ = .bool false)) v6 wx := dep_get hd 6 (by rfl)
              obtain rfl := dg
              exact inv_skip (by rfl) hG (is_eq rfl)
            simp only [Act.put, List.setIfInBounds_toArray, List.set_cons_zero, List.set_cons_succ, List.nil_append, List.cons_append]
            refine inv_cons 25 (by rfl) (fun wx n_ s_ hn hcl hsi hG hR hd => ?_) (fun v25 => ?_)
            · have d6 : (Is (fun z_ => z_ = .bool false)) v6 wx := dep_get hd 6 (by rfl)
              obtain rfl := d6
              have d24 : (Is (fun z_ => z_ = undef)) v24 wx := dep_get hd 24 (by rfl)
              obtain rfl := d24
              refine inv_want (by rfl) ?_
              have HG := Lib.hid hG
              clear hG hR hcl hsi hn
              unfold invAt invUpon; go_simp
              exact post_upN (F := Is (fun z_ => z_ = .bool false)) HG.out (is_eq rfl)
            simp only [Act.put, List.setIfInBounds_toArray, List.set_cons_zero, List.set_cons_succ, List.nil_append, List.cons_append]
            refine inv_nil (fun wq nq sq hnq hGq hRq hall => ?_)
            obtain ⟨f0, f1, f2, f3, f4, f5, f6, f7, f8, f9, f10, f11, f12, f13, f14, f15, f16, f17, f18, f19, f20, f21, f22, f23, f24, f25, -⟩ := hall
            obtain rfl : v25 = .bool false := f25
            have hBq := Below.via (Grow.below0 hGq.grow) hB4
            go_wp2_with fail
            go_roundw
            case rel => exact ⟨k + 1, by omega, by go_num, hBq⟩
            case measure => simp [intOf]; omega
          · have HD := fun wx h => implIs_any ds d.f0 d.f1 d.f2 (.slice (some ⟨g, 0, none⟩) ds.length c) wx h HT.out
            rw [hdr.out he] at HD
            go_wp2_with fail
            have KXr : KeepB (fun _ => True) ∧ KeepB (fun _ => True) := ⟨keepB_true, keepB_true⟩
            refine wp_region_inv (G := fun s n w_ => RgN (fun _ => False) (fun _ => True) w4 w_) (R := RgR (fun _ => False) (fun _ => True))
              (Fs := [Is (fun z_ => z_ = .slice (some ⟨g, 0, none⟩) ds.length c), Is (fun z_ => z_ = .int .i64 k), Is (fun z_ => z_ = .pointer (some ⟨g, k * 4, none⟩)), Is (fun z_ => z_ = .pointer (some ⟨g, k * 4 + 3, none⟩)), Is (fun z_ => z_ = .string d.f3), Is (fun z_ => z_ = .bool true), Is (fun z_ => z_ = .bool true), Is (fun z_ => z_ = .slice (some ⟨g, 0, none⟩) ds.length c), Is (fun z_ => z_ = .slice (some ⟨g, 0, none⟩) ds.length c), Is (fun z_ => z_ = .int .i64 k), Is (fun z_ => z_ = .pointer (some ⟨g, k * 4, none⟩)), Is (fun z_ => z_ = .pointer (some ⟨g, k * 4, none⟩)), Is (fun z_ => z_ = .int .i64 d.f0), Is (fun z_ => z_ = .slice (some ⟨g, 0, none⟩) ds.length c), Is (fun z_ => z_ = .int .i64 k), Is (fun z_ => z_ = .pointer (some ⟨g, k * 4, none⟩)), Is (fun z_ => z_ = .pointer (some ⟨g, k * 4 + 1, none⟩)), Is (fun z_ => z_ = .string d.f1), Is (fun z_ => z_ = .slice (some ⟨g, 0, none⟩) ds.length c), Is (fun z_ => z_ = .int .i64 k), Is (fun z_ => z_ = .pointer (some ⟨g, k * 4, none⟩)), Is (fun z_ => z_ = .pointer (some ⟨g, k * 4 + 2, none⟩)), Is (fun z_ => z_ = .int .i64 d.f2), Is (fun z_ => z_ = .bool true), Is (fun z_ => z_ = .bool false), Is (fun z_ => z_ = .bool false)])
              (by kernel_rfl) (by kernel_rfl) (fun _ => RgR.refl _) (fun h k => h.trans k) ?_ (fun _ _ => ⟨(Grow.refl _ _).drew, trivial⟩) ?_
            · (repeat' (first | exact lasts_nil | refine lasts_cons ?_ ?_))
              all_goals (first | exact Lasts.is | exact Lasts.any)
            refine inv_cons 0 (by rfl) (fun wx n_ s_ hn hcl hsi hG hR hd => ?_) (fun v0 => ?_)
            · exact inv_want (by rfl) (inv_move (.tmp 3) rfl (post_upN (F := Is (fun z_ => z_ = .slice (some ⟨g, 0, none⟩) ds.length c)) hG (is_eq rfl)))
            simp only [Act.put, List.setIfInBounds_toArray, List.set_cons_zero, List.set_cons_succ, List.nil_append, List.cons_append]
            refine inv_cons 1 (by rfl) (fun wx n_ s_ hn hcl hsi hG hR hd => ?_) (fun v1 => ?_)
            · exact inv_want (by rfl) (inv_move (.tmp 8) rfl (post_upN (F := Is (fun z_ => z_ = .int .i64 k)) hG (is_eq rfl)))
            simp only [Act.put, List.setIfInBounds_toArray, List.set_cons_zero, List.set_cons_succ, List.nil_append, List.cons_append]
            refine inv_cons 2 (by rfl) (fun wx n_ s_ hn hcl hsi hG hR hd => ?_) (fun v2 => ?_)
            · have d0 : (Is (fun z_ => z_ = .slice (some ⟨g, 0, none⟩) ds.length c)) v0 wx := dep_get hd 0 (by rfl)
              obtain rfl := d0
              have d1 : (Is (fun z_ => z_ = .int .i64 k)) v1 wx := dep_get hd 1 (by rfl)
              obtain rfl := d1
              refine inv_want (by rfl) ?_
              have HG := Lib.hid hG
              clear hG hR hcl hsi hn
              unfold invAt invUpon; go_simp
              exact post_upN (F := Is (fun z_ => z_ = .pointer (some ⟨g, k * 4, none⟩))) HG.out (is_eq rfl)
            simp only [Act.put, List.setIfInBounds_toArray, List.set_cons_zero, List.set_cons_succ, List.nil_append, List.cons_append]
            refine inv_cons 3 (by rfl) (fun wx n_ s_ hn hcl hsi hG hR hd => ?_) (fun v3 => ?_)
            · have d2 : (Is (fun z_ => z_ = .pointer (some ⟨g, k * 4, none⟩))) v2 wx := dep_get hd 2 (by rfl)
              obtain rfl := d2
              refine inv_want (by rfl) ?_
              have HG := Lib.hid hG
              clear hG hR hcl hsi hn
              unfold invAt invUpon; go_simp
              exact post_upN (F := Is (fun z_ => z_ = .pointer (some ⟨g, k * 4 + 3, none⟩))) HG.out (is_eq rfl)
            simp only [Act.put, List.setIfInBounds_toArray, List.set_cons_zero, List.set_cons_succ, List.nil_append, List.cons_append]
            refine inv_cons 4 (by rfl) (fun wx n_ s_ hn hcl hsi hG hR hd => ?_) (fun v4 => ?_)
            · have d3 : (Is (fun z_ => z_ = .pointer (some ⟨g, k * 4 + 3, none⟩))) v3 wx := dep_get hd 3 (by rfl)
              obtain rfl := d3
              have xb := cell_grow (c3) hG.grow (fun h => h)
              refine inv_want (by rfl) ?_
              have HG := Lib.hid hG
              clear hG hR hcl hsi hn
              unfold invAt invUpon; go_simp
              exact post_upN (F := Is (fun z_ => z_ = .string d.f3)) HG.out (is_eq rfl)
            simp only [Act.put, List.setIfInBounds_toArray, List.set_cons_zero, List.set_cons_succ, List.nil_append, List.cons_append]
            refine inv_cons 5 (by rfl) (fun wx n_ s_ hn hcl hsi hG hR hd => ?_) (fun v5 => ?_)
            · have d4 : (Is (fun z_ => z_ = .string d.f3)) v4 wx := dep_get hd 4 (by rfl)
              obtain rfl := d4
              refine inv_want (by rfl) ?_
              have HG := Lib.hid hG
              clear hG hR hcl hsi hn
              unfold invAt invUpon; go_simp
              exact post_upN (F := Is (fun z_ => z_ = .bool true)) HG.out (is_eq rfl)
            simp only [Act.put, List.setIfInBounds_toArray, List.set_cons_zero, List.set_cons_succ, List.nil_append, List.cons_append]
            refine inv_cons 6 (by rfl) (fun wx n_ s_ hn hcl hsi hG hR hd => ?_) (fun v6 => ?_)
            · have d5 : (Is (fun z_ => z_ = .bool true)) v5 wx := dep_get hd 5 (by rfl)
              obtain rfl := d5
              exact inv_want (by rfl) (inv_move (.tmp 46) rfl (post_upN (F := Is (fun z_ => z_ = .bool true)) hG (is_eq rfl)))
            simp only [Act.put, List.setIfInBounds_toArray, List.set_cons_zero, List.set_cons_succ, List.nil_append, List.cons_append]
            refine inv_cons 7 (by rfl) (fun wx n_ s_ hn hcl hsi hG hR hd => ?_) (fun v7 => ?_)
            · have dg : (Is (fun z_ => z_ = .bool true)) v6 wx := dep_get hd 6 (by rfl)
              obtain rfl := dg
              exact inv_want (by rfl) (inv_move (.tmp 3) rfl (post_upN (F := Is (fun z_ => z_ = .slice (some ⟨g, 0, none⟩) ds.length c)) hG (is_eq rfl)))
            simp only [Act.put, List.setIfInBounds_toArray, List.set_cons_zero, List.set_cons_succ, List.nil_append, List.cons_append]
            refine inv_cons 8 (by rfl) (fun wx n_ s_ hn hcl hsi hG hR hd => ?_) (fun v8 => ?_)
            · have dg : (Is (fun z_ => z_ = .bool true)) v6 wx := dep_get hd 6 (by rfl)
              obtain rfl := dg
              exact inv_want (by rfl) (inv_move (.tmp 3) rfl (post_upN (F := Is (fun z_ => z_ = .slice (some ⟨g, 0, none⟩) ds.length c)) hG (is_eq rfl)))
            simp only [Act.put, List.setIfInBounds_toArray, List.set_cons_zero, List.set_cons_succ, List.nil_append, List.cons_append]
            refine inv_cons 9 (by rfl) (fun wx n_ s_ hn hcl hsi hG hR hd => ?_) (fun v9 => ?_)
            · have dg : (Is (fun z_ => z_ = .bool true)) v6 wx := dep_get hd 6 (by rfl)
              obtain rfl := dg
              exact inv_want (by rfl) (inv_move (.tmp 8) rfl (post_upN (F := Is (fun z_ => z_ = .int .i64 k)) hG (is_eq rfl)))
            simp only [Act.put, List.setIfInBounds_toArray, List.set_cons_zero, List.set_cons_succ, List.nil_append, List.cons_append]
            refine inv_cons 10 (by rfl) (fun wx n_ s_ hn hcl hsi hG hR hd => ?_) (fun v10 => ?_)
            · have dg : (Is (fun z_ => z_ = .bool true)) v6 wx := dep_get hd 6 (by rfl)
              obtain rfl := dg
              have d8 : (Is (fun z_ => z_ = .slice (some ⟨g, 0, none⟩) ds.length c)) v8 wx := dep_get hd 8 (by rfl)
              obtain rfl := d8
              have d9 : (Is (fun z_ => z_ = .int .i64 k)) v9 wx := dep_get hd 9 (by rfl)
              obtain rfl := d9
              refine inv_want (by rfl) ?_
              have HG := Lib.hid hG
              clear hG hR hcl hsi hn
              unfold invAt invUpon; go_simp
              exact post_upN (F := Is (fun z_ => z_ = .pointer (some ⟨g, k * 4, none⟩))) HG.out (is_eq rfl)
            simp only [Act.put, List.setIfInBounds_toArray, List.set_cons_zero, List.set_cons_succ, List.nil_append, List.cons_append]
            refine inv_cons 11 (by rfl) (fun wx n_ s_ hn hcl hsi hG hR hd => ?_) (fun v11 => ?_)
            · have dg : (Is (fun z_ => z_ = .bool true)) v6 wx := dep_get hd 6 (by rfl)
              obtain rfl := dg
              have d10 : (Is (fun z_ => z_ = .pointer (some ⟨g, k * 4, none⟩))) v10 wx := dep_get hd 10 (by rfl)
              obtain rfl := d10
              refine inv_want (by rfl) ?_
              have HG := Lib.hid hG
              clear hG hR hcl hsi hn
              unfold invAt invUpon; go_simp
              exact post_upN (F := Is (fun z_ => z_ = .pointer (some ⟨g, k * 4, none⟩))) HG.out (is_eq rfl)
            simp only [Act.put, List.setIfInBounds_toArray, List.set_cons_zero, List.set_cons_succ, List.nil_append, List.cons_append]
            refine inv_cons 12 (by rfl) (fun wx n_ s_ hn hcl hsi hG hR hd => ?_) (fun v12 => ?_)
            · have dg : (Is (fun z_ => z_ = .bool true)) v6 wx := dep_get hd 6 (by rfl)
              obtain rfl := dg
              have d11 : (Is (fun z_ => z_ = .pointer (some ⟨g, k * 4, none⟩))) v11 wx := dep_get hd 11 (by rfl)
              obtain rfl := d11
              have xb := cell_grow (c0) hG.grow (fun h => h)
              refine inv_want (by rfl) ?_
              have HG := Lib.hid hG
              clear hG hR hcl hsi hn
              unfold invAt invUpon; go_simp
              exact post_upN (F := Is (fun z_ => z_ = .int .i64 d.f0)) HG.out (is_eq rfl)
            simp only [Act.put, List.setIfInBounds_toArray, List.set_cons_zero, List.set_cons_succ, List.nil_append, List.cons_append]
            refine inv_cons 13 (by rfl) (fun wx n_ s_ hn hcl hsi hG hR hd => ?_) (fun v13 => ?_)
            · have dg : (Is (fun z_ => z_ = .bool true)) v6 wx := dep_get hd 6 (by rfl)
              obtain rfl := dg
              exact inv_want (by rfl) (inv_move (.tmp 3) rfl (post_upN (F := Is (fun z_ => z_ = .slice (some ⟨g, 0, none⟩) ds.length c)) hG (is_eq rfl)))
            simp only [Act.put, List.setIfInBounds_toArray, List.set_cons_zero, List.set_cons_succ, List.nil_append, List.cons_append]
            refine inv_cons 14 (by rfl) (fun wx n_ s_ hn hcl hsi hG hR hd => ?_) (fun v14 => ?_)
            · have dg : (Is (fun z_ => z_ = .bool true)) v6 wx := dep_get hd 6 (by rfl)
              obtain rfl := dg
              exact inv_want (by rfl) (inv_move (.tmp 8) rfl (post_upN (F := Is (fun z_ => z_ = .int .i64 k)) hG (is_eq rfl)))
            simp only [Act.put, List.setIfInBounds_toArray, List.set_cons_zero, List.set_cons_succ, List.nil_append, List.cons_append]
            refine inv_cons 15 (by rfl) (fun wx n_ s_ hn hcl hsi hG hR hd => ?_) (fun v15 => ?_)
            · have dg : (Is (fun z_ => z_ = .bool true)) v6 wx := dep_get hd 6 (by rfl)
              obtain rfl := dg
              have d13 : (Is (fun z_ => z_ = .slice (some ⟨g, 0, none⟩) ds.length c)) v13 wx := dep_get hd 13 (by rfl)
              obtain rfl := d13
              have d14 : (Is (fun z_ => z_ = .int .i64 k)) v14 wx := dep_get hd 14 (by rfl)
              obtain rfl := d14
              refine inv_want (by rfl) ?_
              have HG := Lib.hid hG
              clear hG hR hcl hsi hn
              unfold invAt invUpon; go_simp
              exact post_upN (F := Is (fun z_ => z_ = .pointer (some ⟨g, k * 4, none⟩))) HG.out (is_eq rfl)
            simp only [Act.put, List.setIfInBounds_toArray, List.set_cons_zero, List.set_cons_succ, List.nil_append, List.cons_append]
            refine inv_cons 16 (by rfl) (fun wx n_ s_ hn hcl hsi hG hR hd => ?_) (fun v16 => ?_)
            · have dg : (Is (fun z_ => z_ = .bool true)) v6 wx := dep_get hd 6 (by rfl)
              obtain rfl := dg
              have d15 : (Is (fun z_ => z_ = .pointer (some ⟨g, k * 4, none⟩))) v15 wx := dep_get hd 15 (by rfl)
              obtain rfl := d15
              refine inv_want (by rfl) ?_
              have HG := Lib.hid hG
              clear hG hR hcl hsi hn
              unfold invAt invUpon; go_simp
              exact post_upN (F := Is (fun z_ => z_ = .pointer (some ⟨g, k * 4 + 1, none⟩))) HG.out (is_eq rfl)
            simp only [Act.put, List.setIfInBounds_toArray, List.set_cons_zero, List.set_cons_succ, List.nil_append, List.cons_append]
            refine inv_cons 17 (by rfl) (fun wx n_ s_ hn hcl hsi hG hR hd => ?_) (fun v17 => ?_)
            · have dg : (Is (fun z_ => z_ = .bool true)) v6 wx := dep_get hd 6 (by rfl)
              obtain rfl := dg
              have d16 : (Is (fun z_ => z_ = .pointer (some ⟨g, k * 4 + 1, none⟩))) v16 wx := dep_get hd 16 (by rfl)
              obtain rfl := d16
              have xb := cell_grow (c1) hG.grow (fun h => h)
              refine inv_want (by rfl) ?_
              have HG := Lib.hid hG
              clear hG hR hcl hsi hn
              unfold invAt invUpon; go_simp
              exact post_upN (F := Is (fun z_ => z_ = .string d.f1)) HG.out (is_eq rfl)
            simp only [Act.put, List.setIfInBounds_toArray, List.set_cons_zero, List.set_cons_succ, List.nil_append, List.cons_append]
            refine inv_cons 18 (by rfl) (fun wx n_ s_ hn hcl hsi hG hR hd => ?_) (fun v18 => ?_)
            · have dg : (Is (fun z_ => z_ = .bool true)) v6 wx := dep_get hd 6 (by rfl)
              obtain rfl := dg
              exact inv_want (by rfl) (inv_move (.tmp 3) rfl (post_upN (F := Is (fun z_ => z_ = .slice (some ⟨g, 0, none⟩) ds.length c)) hG (is_eq rfl)))
            simp only [Act.put, List.setIfInBounds_toArray, List.set_cons_zero, List.set_cons_succ, List.nil_append, List.cons_append]
            refine inv_cons 19 (by rfl) (fun wx n_ s_ hn hcl hsi hG hR hd => ?_) (fun v19 => ?_)
            · have dg : (Is (fun z_ => z_ = .bool true)) v6 wx := dep_get hd 6 (by rfl)
              obtain rfl := dg
              exact inv_want (by rfl) (inv_move (.tmp 8) rfl (post_upN (F := Is (fun z_ => z_ = .int .i64 k)) hG (is_eq rfl)))
            simp only [Act.put, List.setIfInBounds_toArray, List.set_cons_zero, List.set_cons_succ, List.nil_append, List.cons_append]
            refine inv_cons 20 (by rfl) (fun wx n_ s_ hn hcl hsi hG hR hd => ?_) (fun v20 => ?_)
            · have dg : (Is (fun z_ => z_ = .bool true)) v6 wx := dep_get hd 6 (by rfl)
              obtain rfl := dg
              have d18 : (Is (fun z_ => z_ = .slice (some ⟨g, 0, none⟩) ds.length c)) v18 wx := dep_get hd 18 (by rfl)
              obtain rfl := d18
              have d19 : (Is (fun z_ => z_ = .int .i64 k)) v19 wx := dep_get hd 19 (by rfl)
              obtain rfl := d19
              refine inv_want (by rfl) ?_
              have HG := Lib.hid hG
              clear hG hR hcl hsi hn
              unfold invAt invUpon; go_simp
              exact post_upN (F := Is (fun z_ => z_ = .pointer (some ⟨g, k * 4, none⟩))) HG.out (is_eq rfl)
            simp only [Act.put, List.setIfInBounds_toArray, List.set_cons_zero, List.set_cons_succ, List.nil_append, List.cons_append]
            refine inv_cons 21 (by rfl) (fun wx n_ s_ hn hcl hsi hG hR hd => ?_) (fun v21 => ?_)
            · have dg : (Is (fun z_ => z_ = .bool true)) v6 wx := dep_get hd 6 (by rfl)
              obtain rfl := dg
              have d20 : (Is (fun z_ => z_ = .pointer (some ⟨g, k * 4, none⟩))) v20 wx := dep_get hd 20 (by rfl)
              obtain rfl := d20
              refine inv_want (by rfl) ?_
              have HG := Lib.hid hG
              clear hG hR hcl hsi hn
              unfold invAt invUpon; go_simp
              exact post_upN (F := Is (fun z_ => z_ = .pointer (some ⟨g, k * 4 + 2, none⟩))) HG.out (is_eq rfl)
            simp only [Act.put, List.setIfInBounds_toArray, List.set_cons_zero, List.set_cons_succ, List.nil_append, List.cons_append]
            refine inv_cons 22 (by rfl) (fun wx n_ s_ hn hcl hsi hG hR hd => ?_) (fun v22 => ?_)
            · have dg : (Is (fun z_ => z_ = .bool true)) v6 wx := dep_get hd 6 (by rfl)
              obtain rfl := dg
              have d21 : (Is (fun z_ => z_ = .pointer (some ⟨g, k * 4 + 2, none⟩))) v21 wx := dep_get hd 21 (by rfl)
              obtain rfl := d21
              have xb := cell_grow (c2) hG.grow (fun h => h)
              refine inv_want (by rfl) ?_
              have HG := Lib.hid hG
              clear hG hR hcl hsi hn
              unfold invAt invUpon; go_simp
              exact post_upN (F := Is (fun z_ => z_ = .int .i64 d.f2)) HG.out (is_eq rfl)
            simp only [Act.put, List.setIfInBounds_toArray, List.set_cons_zero, List.set_cons_succ, List.nil_append, List.cons_append]
            refine inv_cons 23 (by rfl) (fun wx n_ s_ hn hcl hsi hG hR hd => ?_) (fun v23 => ?_)
            · have dg : (Is (fun z_ => z_ = .bool true)) v6 wx := dep_get hd 6 (by rfl)
              obtain rfl := dg
              have d7 : (Is (fun z_ => z_ = .slice (some ⟨g, 0, none⟩) ds.length c)) v7 wx := dep_get hd 7 (by rfl)
              obtain rfl := d7
              have d12 : (Is (fun z_ => z_ = .int .i64 d.f0)) v12 wx := dep_get hd 12 (by rfl)
              obtain rfl := d12
              have d17 : (Is (fun z_ => z_ = .string d.f1)) v17 wx := dep_get hd 17 (by rfl)
              obtain rfl := d17
              have d22 : (Is (fun z_ => z_ = .int .i64 d.f2)) v22 wx := dep_get hd 22 (by rfl)
              obtain rfl := d22
              refine inv_want (by rfl) ?_
              have HG := Lib.hid hG
              clear hG hR hcl hsi hn
              unfold invAt invUpon; go_simp
              refine (HD wx (SlF.below HS4.out (Grow.below0 HG.out.grow))).mono ?_
              rintro e w' ⟨rfl, hb⟩
              exact ⟨_, rfl, post_newN (F := Is (fun z_ => z_ = .bool true)) KXr HG.out hb (is_eq rfl)⟩
            simp only [Act.put, List.setIfInBounds_toArray, List.set_cons_zero, List.set_cons_succ, List.nil_append, List.cons_append]
            refine inv_cons 24 (by rfl) (fun wx n_ s_ hn hcl hsi hG hR hd => ?_) (fun v24 => ?_)
            · have dg : (Is (fun z_ => z_ = .bool true)) v6 wx := dep_get hd 6 (by rfl)
              obtain rfl := dg
              have d23 : (Is (fun z_ => z_ = .bool true)) v23 wx := dep_get hd 23 (by rfl)
              obtain rfl := d23
              refine inv_want (by rfl) ?_
              have HG := Lib.hid hG
              clear hG hR hcl hsi hn
              unfold invAt invUpon; go_simp
              exact post_upN (F := Is (fun z_ => z_ = .bool false)) HG.out (is_eq rfl)
            simp only [Act.put, List.setIfInBounds_toArray, List.set_cons_zero, List.set_cons_succ, List.nil_append, List.cons_append]
            refine inv_cons 25 (by rfl) (fun wx n_ s_ hn hcl hsi hG hR hd => ?_) (fun v25 => ?_)
            · have d6 : (Is (fun z_ => z_ = .bool true)) v6 wx := dep_get hd 6 (by rfl)
              obtain rfl := d6
              have d24 : (Is (fun z_ => z_ = .bool false)) v24 wx := dep_get hd 24 (by rfl)
              obtain rfl := d24
              refine inv_want (by rfl) ?_
              have HG := Lib.hid hG
              clear hG hR hcl hsi hn
              unfold invAt invUpon; go_simp
              exact post_upN (F := Is (fun z_ => z_ = .bool false)) HG.out (is_eq rfl)
            simp only [Act.put, List.setIfInBounds_toArray, List.set_cons_zero, List.set_cons_succ, List.nil_append, List.cons_append]
            refine inv_nil (fun wq nq sq hnq hGq hRq hall => ?_)
            obtain ⟨f0, f1, f2, f3, f4, f5, f6, f7, f8, f9, f10, f11, f12, f13, f14, f15, f16, f17, f18, f19, f20, f21, f22, f23, f24, f25, -⟩ := hall
            obtain rfl : v25 = .bool false := f25
            have hBq := Below.via (Grow.below0 hGq.grow) hB4
            go_wp2_with fail
            go_roundw
            case rel => exact ⟨k + 1, by omega, by go_num, hBq⟩
            case measure => simp [intOf]; omega
        · cases R
          · go_wp2_with ((go_at_call 15; refine (alive_any _).mono ?_; rintro e w' ⟨rfl, rfl⟩))
            go_ret
            exact ⟨rfl, Below.via hB hB3⟩
          · go_wp2_with fail
            refine (implTValid_any ds _ _ (SlF.below HS3.out hB) HT.out).mono ?_
            rintro e w4 ⟨rfl, b4⟩
            rw [HVA.out]
            go_wp2_with ((go_at_call 15; refine (alive_any _).mono ?_; rintro e w' ⟨rfl, rfl⟩))
            go_ret
            exact ⟨rfl, Below.via b4 (Below.via hB hB3)⟩
end Go.Proofs.Ytfeaclnbkmaeeaa
