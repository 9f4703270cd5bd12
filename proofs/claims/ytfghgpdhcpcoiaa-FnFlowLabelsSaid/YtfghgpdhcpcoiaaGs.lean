/-
  The law on flows of labels, walked. Condition: the bytes can be read.
-/
import Derived.Test.YtfghgpdhcpcoiaaGr
import Derived.Test.YtfghgpdhcpcoiaaGo
set_option linter.unusedSimpArgs false
set_option linter.unusedVariables false
namespace Go.Proofs.Ytfghgpdhcpcoiaa
open Go.RowKit
set_option maxRecDepth 100000 in
set_option maxHeartbeats 6400000 in
theorem flowLabels_walk (a : Option Addr) (len cap : Nat) (w : World) (h : Bytes w a len cap) : Calls Try.prog 6 #[.slice a len cap] w fun e w' => e = .returned (.bool true) ∧ Below w.heap.size w w' := by
  have h1 := h.1
  have h2 := h.2.1
  unfold maxLen at h2
  have H := Lib.hid h
  clear h
  by_cases hl : 1048576 < len
  · go_enter Try.func6, Try.ntmps6
    go_wp2_with fail
    go_ret
    exact ⟨rfl, Below.refl _ _⟩
  · go_enter Try.func6, Try.ntmps6
    go_wp2_with fail
    refine (drawFlowLabels_any a len cap _ H.out).mono ?_
    rintro e w1 ⟨v, u, ls, ms, rfl, hv, hu, hl4, hm6, hov, hou, b1⟩
    obtain ⟨g, c, rfl, hg, hn, hc, _⟩ := own_ad hov hv
    obtain ⟨g2, c2, rfl, hg2, hn2, hc2, _⟩ : ∃ g2 c2, u = .slice (some ⟨g2, 0, none⟩) ms.length c2 ∧ w.heap.size ≤ g2 ∧ ms.length ≤ c2 ∧ c2 ≤ maxLen ∧ True := by
      obtain ⟨us, _, ho, _, _⟩ := hou
      obtain ⟨g2, c2, e, q1, q2, q3, _⟩ := own_ad ho hu
      exact ⟨g2, c2, e, q1, q2, q3, trivial⟩
    have HS1 := Lib.hid (show SlB w1 (.slice (some ⟨g, 0, none⟩) ls.length c) ls from own_sl hov)
    have HM1 := Lib.hid (OwnM.sl hou)
    clear hov hou hv hu
    unfold maxLen at hc hc2
    have CI := fun wx h hm => implFlow_any ls ms (.slice (some ⟨g, 0, none⟩) ls.length c) (.slice (some ⟨g2, 0, none⟩) ms.length c2) wx h hm
    have CS := fun wx h hm => specFlow_any ls ms (.slice (some ⟨g, 0, none⟩) ls.length c) (.slice (some ⟨g2, 0, none⟩) ms.length c2) wx h hm
    cases hok : flowOk ls ms
    · have hR : flowR ls ms = [] := by simp [flowR, hok]
      rw [hR] at CI CS
      clear hR
      go_wp2_with fail
      refine (CI _ HS1.out HM1.out).mono ?_
      rintro e w2 ⟨v2, rfl, ho2, b2⟩
      go_wp2_with fail
      refine (CS _ (SlF.below HS1.out b2) (SlM.below HM1.out b2)).mono ?_
      rintro e w3 ⟨v3, rfl, ho3, b3⟩
      have hB3 := Below.via b3 (Below.via b2 b1)
      have O2 := Lib.hid (own_sl (own_below ho2 b3))
      have O3 := Lib.hid (own_sl ho3)
      clear ho2 ho3
      obtain ⟨xa, xc, rfl, _, _⟩ := SlF.shape O2.out
      go_wp2_with fail
      refine (sameL_any [] _ _ _ O2.out O3.out).mono ?_
      rintro e w4 ⟨rfl, b4⟩
      have hB4 := Below.via b4 hB3
      go_wp2_with ((go_at_call 17; refine (alive_any _).mono ?_; rintro e w' ⟨rfl, rfl⟩))
      go_ret
      exact ⟨rfl, hB4⟩
    · have hR : flowR ls ms = flow ls ms := by simp [flowR, hok]
      rw [hR] at CI CS
      have hfn := flow_len ms ls
      have F := flowOk_of hok
      have hlo := F.lo
      have HKP := Lib.hid (fun k => flow_kept ls ms k hok)
      obtain ⟨hh, hhe⟩ : ∃ hh : Nat, hh = ms.length / 2 := ⟨_, rfl⟩
      have hdv : (ms.length : Int) / 2 = (hh : Int) := by omega
      have HTW := Lib.hid (flowR_two ls ms hh hok)
      have hh1 : hh ≤ ms.length := by omega
      have hh2 : (hh : Int) ≤ (ms.length : Int) := by omega
      have hh3 : (hh : Int) ≤ (c2 : Int) := by omega
      clear hhe
      clear F hR hok
      generalize flow ls ms = X at CI CS HKP HTW hfn
      have hz0 : ¬ ((ls.length : Int) = 0) := by omega
      go_wp2_with fail
      refine (CI _ HS1.out HM1.out).mono ?_
      rintro e w2 ⟨v2, rfl, ho2, b2⟩
      go_wp2_with fail
      refine (CS _ (SlF.below HS1.out b2) (SlM.below HM1.out b2)).mono ?_
      rintro e w3 ⟨v3, rfl, ho3, b3⟩
      have b13 := Below.via b3 b2
      have hB3 := Below.via b13 b1
      have O2 := Lib.hid (own_sl (own_below ho2 b3))
      have O3 := Lib.hid (own_sl ho3)
      clear ho2 ho3
      obtain ⟨xa, xc, rfl, hx1, hx2⟩ := SlF.shape O2.out
      have HX3 : Hid (SlB w3 (.slice xa ls.length xc) X) := Lib.hid (by unfold SlB; have q := O2.out; rw [hfn] at q ⊢; exact q)
      rw [hfn] at hx1 ⊢
      unfold maxLen at hx2
      clear O2
      go_wp2_with fail
      refine (sameL_any X _ _ _ HX3.out O3.out).mono ?_
      rintro e w4 ⟨rfl, b4⟩
      have hB4 := Below.via b4 hB3
      have HX4 := Lib.hid (SlB.below HX3.out b4)
      have HS4 := Lib.hid (SlB.below HS1.out (Below.via b4 b13))
      have HM4 := Lib.hid (SlM.below HM1.out (Below.via b4 b13))
      clear CI CS O3 HX3 HS1 HM1 b2 b3 b4 b13
      go_wp2_with fail
      go_loopw [7] (fun i wr => ∃ k : Nat, k ≤ ls.length ∧ i = .int .i64 k ∧ Hid (Below w4.heap.size w4 wr) ∧ Below w.heap.size w wr) (fun i _ => ls.length - (intOf i).toNat)
      case atStart => exact ⟨0, Nat.zero_le _, rfl, Below.refl _ _, hB4⟩
      case round =>
        obtain ⟨k, hk, rfl, hBo, hB⟩ := hrel
        obtain ⟨wo, hwo⟩ : ∃ wo : World, wo = wr := ⟨_, rfl⟩
        subst hwo
        by_cases hlt : k < ls.length
        · have hlt2 : (k : Int) < (ls.length : Int) := by omega
          go_wp2_with fail
          go_loopw [8, 9] (fun b i wr => ∃ j : Nat, j ≤ ms.length ∧ i = .int .i64 j ∧ b = .bool (wrB ms k j) ∧ wr = wo) (fun _ i _ => ms.length - (intOf i).toNat)
          case atStart => exact ⟨0, Nat.zero_le _, rfl, rfl, rfl⟩
          case round =>
            obtain ⟨j, hj, rfl, rfl, rfl⟩ := hrel
            by_cases hjl : j < ms.length
            · have hjl2 : (j : Int) < (ms.length : Int) := by omega
              obtain ⟨gm, om, cm, au, cu, hvv, _, _, c0, c1, _, hcu, hcm⟩ := SlM.cells (SlM.below HM4.out hBo.out) j hjl
              simp only [Value.slice.injEq, Option.some.injEq, Addr.mk.injEq, and_true] at hvv
              obtain ⟨⟨rfl, rfl⟩, -, rfl⟩ := hvv
              simp only [Nat.zero_add] at c0 c1
              have hst := Lib.hid (wrB_step ms k j hjl)
              clear c0 hcu
              generalize ms[j] = d at c1 hst
              cases hw : wrB ms k j
              · rw [hw] at hst
                by_cases he : d.n = (k : Int)
                · have hf := Lib.hid (hst.out.trans (show (false || d.n == (k : Int)) = true by simp [he]))
                  rw [he] at c1
                  clear hst he
                  go_wp2_with fail
                  go_roundw
                  case rel => exact ⟨j + 1, by omega, by go_num, by rw [hf.out], trivial⟩
                  case measure => simp [intOf]; omega
                · have hf := Lib.hid (hst.out.trans (show (false || d.n == (k : Int)) = false by simp [he]))
                  clear hst
                  go_wp2_with fail
                  go_roundw
                  case rel => exact ⟨j + 1, by omega, by go_num, by rw [hf.out]; simp [he], trivial⟩
                  case measure => simp [intOf]; omega
              · rw [hw, Bool.true_or] at hst
                go_wp2_with fail
                go_roundw
                case rel => exact ⟨j + 1, by omega, by go_num, by rw [hst.out], trivial⟩
                case measure => simp [intOf]; omega
            · obtain rfl : j = ms.length := by omega
              have hjl2 : ¬ ((ms.length : Nat) : Int) < (ms.length : Int) := by omega
              have hlx : k < X.length := by omega
              obtain ⟨gx, ox, cx2, hvx, _, _, x0, x1⟩ := SlB.cells (SlF.below HX4.out hBo.out) k hlx
              rw [hfn] at hvx
              simp only [Value.slice.injEq] at hvx
              obtain ⟨rfl, -, rfl⟩ := hvx
              obtain ⟨gl, ol, cl, hvl, _, _, p0, p1⟩ := SlB.cells (SlF.below HS4.out hBo.out) k hlt
              simp only [Value.slice.injEq, Option.some.injEq, Addr.mk.injEq, and_true] at hvl
              obtain ⟨⟨rfl, rfl⟩, -, rfl⟩ := hvl
              simp only [Nat.zero_add] at p0 p1
              have hkp := Lib.hid (fun hw => HKP.out k hw hlt hlx)
              cases hw : wrB ms k ms.length
              · have hq := hkp.out hw
                rw [hq] at x0 x1
                clear hkp hq
                generalize ls[k] = q at x0 x1 p0 p1
                go_wp2_with fail
                have KXr : KeepB (fun _ => True) ∧ KeepB (fun _ => True) := ⟨keepB_true, keepB_true⟩
                refine wp_region_inv (G := fun s n w_ => RgN (fun _ => False) (fun _ => True) wr w_) (R := RgR (fun _ => False) (fun _ => True))
                  (Fs := [Is (fun z_ => z_ = .bool false), Is (fun z_ => z_ = .bool true), Is (fun z_ => z_ = .bool true), Is (fun z_ => z_ = .slice (some ⟨gx, ox, none⟩) ls.length xc), Is (fun z_ => z_ = .int .i64 k), Is (fun z_ => z_ = .pointer (some ⟨gx, ox + k * 2, none⟩)), Is (fun z_ => z_ = .agg #[.int .i64 q.f0, .int .i64 q.f1]), Is (fun z_ => z_ = .slice (some ⟨g, 0, none⟩) ls.length c), Is (fun z_ => z_ = .int .i64 k), Is (fun z_ => z_ = .pointer (some ⟨g, k * 2, none⟩)), Is (fun z_ => z_ = .agg #[.int .i64 q.f0, .int .i64 q.f1]), Is (fun z_ => z_ = .bool false), Is (fun z_ => z_ = .bool false)])
                  (by kernel_rfl) (by kernel_rfl) (fun _ => RgR.refl _) (fun h k => h.trans k) ?_ (fun _ _ => ⟨(Grow.refl _ _).drew, trivial⟩) ?_
                · (repeat' (first | exact lasts_nil | refine lasts_cons ?_ ?_))
                  all_goals (first | exact Lasts.is | exact Lasts.any)
                refine inv_cons 0 (by rfl) (fun wx n_ s_ hn hcl hsi hG hR hd => ?_) (fun v0 => ?_)
                · exact inv_want (by rfl) (inv_move (.tmp 8) rfl (post_upN (F := Is (fun z_ => z_ = .bool false)) hG (is_eq rfl)))
                simp only [Act.put, List.setIfInBounds_toArray, List.set_cons_zero, List.set_cons_succ, List.nil_append, List.cons_append]
                refine inv_cons 1 (by rfl) (fun wx n_ s_ hn hcl hsi hG hR hd => ?_) (fun v1 => ?_)
                · have d0 : (Is (fun z_ => z_ = .bool false)) v0 wx := dep_get hd 0 (by rfl)
                  obtain rfl := d0
                  refine inv_want (by rfl) ?_
                  have HG := Lib.hid hG
                  clear hG hR hcl hsi hn
                  unfold invAt invUpon; go_simp
                  exact post_upN (F := Is (fun z_ => z_ = .bool true)) HG.out (is_eq rfl)
                simp only [Act.put, List.setIfInBounds_toArray, List.set_cons_zero, List.set_cons_succ, List.nil_append, List.cons_append]
                refine inv_cons 2 (by rfl) (fun wx n_ s_ hn hcl hsi hG hR hd => ?_) (fun v2 => ?_)
                · have d1 : (Is (fun z_ => z_ = .bool true)) v1 wx := dep_get hd 1 (by rfl)
                  obtain rfl := d1
                  exact inv_want (by rfl) (inv_move (.tmp 63) rfl (post_upN (F := Is (fun z_ => z_ = .bool true)) hG (is_eq rfl)))
                simp only [Act.put, List.setIfInBounds_toArray, List.set_cons_zero, List.set_cons_succ, List.nil_append, List.cons_append]
                refine inv_cons 3 (by rfl) (fun wx n_ s_ hn hcl hsi hG hR hd => ?_) (fun v3 => ?_)
                · have dg : (Is (fun z_ => z_ = .bool true)) v2 wx := dep_get hd 2 (by rfl)
                  obtain rfl := dg
                  exact inv_want (by rfl) (inv_move (.tmp 5) rfl (post_upN (F := Is (fun z_ => z_ = .slice (some ⟨gx, ox, none⟩) ls.length xc)) hG (is_eq rfl)))
                simp only [Act.put, List.setIfInBounds_toArray, List.set_cons_zero, List.set_cons_succ, List.nil_append, List.cons_append]
                refine inv_cons 4 (by rfl) (fun wx n_ s_ hn hcl hsi hG hR hd => ?_) (fun v4 => ?_)
                · have dg : (Is (fun z_ => z_ = .bool true)) v2 wx := dep_get hd 2 (by rfl)
                  obtain rfl := dg
                  exact inv_want (by rfl) (inv_move (.tmp 7) rfl (post_upN (F := Is (fun z_ => z_ = .int .i64 k)) hG (is_eq rfl)))
                simp only [Act.put, List.setIfInBounds_toArray, List.set_cons_zero, List.set_cons_succ, List.nil_append, List.cons_append]
                refine inv_cons 5 (by rfl) (fun wx n_ s_ hn hcl hsi hG hR hd => ?_) (fun v5 => ?_)
                · have dg : (Is (fun z_ => z_ = .bool true)) v2 wx := dep_get hd 2 (by rfl)
                  obtain rfl := dg
                  have d3 : (Is (fun z_ => z_ = .slice (some ⟨gx, ox, none⟩) ls.length xc)) v3 wx := dep_get hd 3 (by rfl)
                  obtain rfl := d3
                  have d4 : (Is (fun z_ => z_ = .int .i64 k)) v4 wx := dep_get hd 4 (by rfl)
                  obtain rfl := d4
                  refine inv_want (by rfl) ?_
                  have HG := Lib.hid hG
                  clear hG hR hcl hsi hn
                  unfold invAt invUpon; go_simp
                  exact post_upN (F := Is (fun z_ => z_ = .pointer (some ⟨gx, ox + k * 2, none⟩))) HG.out (is_eq rfl)
                simp only [Act.put, List.setIfInBounds_toArray, List.set_cons_zero, List.set_cons_succ, List.nil_append, List.cons_append]
                refine inv_cons 6 (by rfl) (fun wx n_ s_ hn hcl hsi hG hR hd => ?_) (fun v6 => ?_)
                · have dg : (Is (fun z_ => z_ = .bool true)) v2 wx := dep_get hd 2 (by rfl)
                  obtain rfl := dg
                  have d5 : (Is (fun z_ => z_ = .pointer (some ⟨gx, ox + k * 2, none⟩))) v5 wx := dep_get hd 5 (by rfl)
                  obtain rfl := d5
                  have xb0 := cell_grow (x0) hG.grow (fun h => h)
                  have xb1 := cell_grow (x1) hG.grow (fun h => h)
                  refine inv_want (by rfl) ?_
                  have HG := Lib.hid hG
                  clear hG hR hcl hsi hn
                  unfold invAt invUpon; go_simp
                  exact post_upN (F := Is (fun z_ => z_ = .agg #[.int .i64 q.f0, .int .i64 q.f1])) HG.out (is_eq rfl)
                simp only [Act.put, List.setIfInBounds_toArray, List.set_cons_zero, List.set_cons_succ, List.nil_append, List.cons_append]
                refine inv_cons 7 (by rfl) (fun wx n_ s_ hn hcl hsi hG hR hd => ?_) (fun v7 => ?_)
                · have dg : (Is (fun z_ => z_ = .bool true)) v2 wx := dep_get hd 2 (by rfl)
                  obtain rfl := dg
                  exact inv_want (by rfl) (inv_move (.tmp 3) rfl (post_upN (F := Is (fun z_ => z_ = .slice (some ⟨g, 0, none⟩) ls.length c)) hG (is_eq rfl)))
                simp only [Act.put, List.setIfInBounds_toArray, List.set_cons_zero, List.set_cons_succ, List.nil_append, List.cons_append]
                refine inv_cons 8 (by rfl) (fun wx n_ s_ hn hcl hsi hG hR hd => ?_) (fun v8 => ?_)
                · have dg : (Is (fun z_ => z_ = .bool true)) v2 wx := dep_get hd 2 (by rfl)
                  obtain rfl := dg
                  exact inv_want (by rfl) (inv_move (.tmp 7) rfl (post_upN (F := Is (fun z_ => z_ = .int .i64 k)) hG (is_eq rfl)))
                simp only [Act.put, List.setIfInBounds_toArray, List.set_cons_zero, List.set_cons_succ, List.nil_append, List.cons_append]
                refine inv_cons 9 (by rfl) (fun wx n_ s_ hn hcl hsi hG hR hd => ?_) (fun v9 => ?_)
                · have dg : (Is (fun z_ => z_ = .bool true)) v2 wx := dep_get hd 2 (by rfl)
                  obtain rfl := dg
                  have d7 : (Is (fun z_ => z_ = .slice (some ⟨g, 0, none⟩) ls.length c)) v7 wx := dep_get hd 7 (by rfl)
                  obtain rfl := d7
                  have d8 : (Is (fun z_ => z_ = .int .i64 k)) v8 wx := dep_get hd 8 (by rfl)
                  obtain rfl := d8
                  refine inv_want (by rfl) ?_
                  have HG := Lib.hid hG
                  clear hG hR hcl hsi hn
                  unfold invAt invUpon; go_simp
                  exact post_upN (F := Is (fun z_ => z_ = .pointer (some ⟨g, k * 2, none⟩))) HG.out (is_eq rfl)
                simp only [Act.put, List.setIfInBounds_toArray, List.set_cons_zero, List.set_cons_succ, List.nil_append, List.cons_append]
                refine inv_cons 10 (by rfl) (fun wx n_ s_ hn hcl hsi hG hR hd => ?_) (fun v10 => ?_)
                · have dg : (Is (fun z_ => z_ = .bool true)) v2 wx := dep_get hd 2 (by rfl)
                  obtain rfl := dg
                  have d9 : (Is (fun z_ => z_ = .pointer (some ⟨g, k * 2, none⟩))) v9 wx := dep_get hd 9 (by rfl)
                  obtain rfl := d9
                  have xb0 := cell_grow (p0) hG.grow (fun h => h)
                  have xb1 := cell_grow (p1) hG.grow (fun h => h)
                  refine inv_want (by rfl) ?_
                  have HG := Lib.hid hG
                  clear hG hR hcl hsi hn
                  unfold invAt invUpon; go_simp
                  exact post_upN (F := Is (fun z_ => z_ = .agg #[.int .i64 q.f0, .int .i64 q.f1])) HG.out (is_eq rfl)
                simp only [Act.put, List.setIfInBounds_toArray, List.set_cons_zero, List.set_cons_succ, List.nil_append, List.cons_append]
                refine inv_cons 11 (by rfl) (fun wx n_ s_ hn hcl hsi hG hR hd => ?_) (fun v11 => ?_)
                · have dg : (Is (fun z_ => z_ = .bool true)) v2 wx := dep_get hd 2 (by rfl)
                  obtain rfl := dg
                  have d6 : (Is (fun z_ => z_ = .agg #[.int .i64 q.f0, .int .i64 q.f1])) v6 wx := dep_get hd 6 (by rfl)
                  obtain rfl := d6
                  have d10 : (Is (fun z_ => z_ = .agg #[.int .i64 q.f0, .int .i64 q.f1])) v10 wx := dep_get hd 10 (by rfl)
                  obtain rfl := d10
                  refine inv_want (by rfl) ?_
                  have HG := Lib.hid hG
                  clear hG hR hcl hsi hn
                  unfold invAt invUpon; go_simp
                  exact post_upN (F := Is (fun z_ => z_ = .bool false)) HG.out (is_eq rfl)
                simp only [Act.put, List.setIfInBounds_toArray, List.set_cons_zero, List.set_cons_succ, List.nil_append, List.cons_append]
                refine inv_cons 12 (by rfl) (fun wx n_ s_ hn hcl hsi hG hR hd => ?_) (fun v12 => ?_)
                · have d2 : (Is (fun z_ => z_ = .bool true)) v2 wx := dep_get hd 2 (by rfl)
                  obtain rfl := d2
                  have d11 : (Is (fun z_ => z_ = .bool false)) v11 wx := dep_get hd 11 (by rfl)
                  obtain rfl := d11
                  refine inv_want (by rfl) ?_
                  have HG := Lib.hid hG
                  clear hG hR hcl hsi hn
                  unfold invAt invUpon; go_simp
                  exact post_upN (F := Is (fun z_ => z_ = .bool false)) HG.out (is_eq rfl)
                simp only [Act.put, List.setIfInBounds_toArray, List.set_cons_zero, List.set_cons_succ, List.nil_append, List.cons_append]
                refine inv_nil (fun wq nq sq hnq hGq hRq hall => ?_)
                obtain ⟨f0, f1, f2, f3, f4, f5, f6, f7, f8, f9, f10, f11, f12, -⟩ := hall
                obtain rfl : v12 = .bool false := f12
                have hBq := Below.via (Grow.below0 hGq.grow) hB
                have hBoq := Lib.hid (Below.via (Grow.below0 hGq.grow) hBo.out)
                go_wp2_with fail
                go_roundw
                case rel => first | exact ⟨k + 1, by omega, by go_num, hBoq, hBq⟩ | exact ⟨k + 1, by omega, by omega⟩
                case measure => simp [intOf]; omega
              · clear hkp x0 x1 p0 p1
                go_wp2_with fail
                have KXr : KeepB (fun _ => True) ∧ KeepB (fun _ => True) := ⟨keepB_true, keepB_true⟩
                refine wp_region_inv (G := fun s n w_ => RgN (fun _ => False) (fun _ => True) wr w_) (R := RgR (fun _ => False) (fun _ => True))
                  (Fs := [Is (fun z_ => z_ = .bool true), Is (fun z_ => z_ = .bool false), Is (fun z_ => z_ = .bool false), Is (fun z_ => z_ = undef), Is (fun z_ => z_ = undef), Is (fun z_ => z_ = undef), Is (fun z_ => z_ = undef), Is (fun z_ => z_ = undef), Is (fun z_ => z_ = undef), Is (fun z_ => z_ = undef), Is (fun z_ => z_ = undef), Is (fun z_ => z_ = undef), Is (fun z_ => z_ = .bool false)])
                  (by kernel_rfl) (by kernel_rfl) (fun _ => RgR.refl _) (fun h k => h.trans k) ?_ (fun _ _ => ⟨(Grow.refl _ _).drew, trivial⟩) ?_
                · (repeat' (first | exact lasts_nil | refine lasts_cons ?_ ?_))
                  all_goals (first | exact Lasts.is | exact Lasts.any)
                refine inv_cons 0 (by rfl) (fun wx n_ s_ hn hcl hsi hG hR hd => ?_) (fun v0 => ?_)
                · exact inv_want (by rfl) (inv_move (.tmp 8) rfl (post_upN (F := Is (fun z_ => z_ = .bool true)) hG (is_eq rfl)))
                simp only [Act.put, List.setIfInBounds_toArray, List.set_cons_zero, List.set_cons_succ, List.nil_append, List.cons_append]
                refine inv_cons 1 (by rfl) (fun wx n_ s_ hn hcl hsi hG hR hd => ?_) (fun v1 => ?_)
                · have d0 : (Is (fun z_ => z_ = .bool true)) v0 wx := dep_get hd 0 (by rfl)
                  obtain rfl := d0
                  refine inv_want (by rfl) ?_
                  have HG := Lib.hid hG
                  clear hG hR hcl hsi hn
                  unfold invAt invUpon; go_simp
                  exact post_upN (F := Is (fun z_ => z_ = .bool false)) HG.out (is_eq rfl)
                simp only [Act.put, List.setIfInBounds_toArray, List.set_cons_zero, List.set_cons_succ, List.nil_append, List.cons_append]
                refine inv_cons 2 (by rfl) (fun wx n_ s_ hn hcl hsi hG hR hd => ?_) (fun v2 => ?_)
                · have d1 : (Is (fun z_ => z_ = .bool false)) v1 wx := dep_get hd 1 (by rfl)
                  obtain rfl := d1
                  exact inv_want (by rfl) (inv_move (.tmp 63) rfl (post_upN (F := Is (fun z_ => z_ = .bool false)) hG (is_eq rfl)))
                simp only [Act.put, List.setIfInBounds_toArray, List.set_cons_zero, List.set_cons_succ, List.nil_append, List.cons_append]
                refine inv_cons 3 (by rfl) (fun wx n_ s_ hn hcl hsi hG hR hd => ?_) (fun v3 => ?_)
                · have dg : (Is (fun z_ => z_ = .bool false)) v2 wx := dep_get hd 2 (by rfl)
                  obtain rfl := dg
                  exact inv_skip (by rfl) hG (is_eq rfl)
                simp only [Act.put, List.setIfInBounds_toArray, List.set_cons_zero, List.set_cons_succ, List.nil_append, List.cons_append]
                refine inv_cons 4 (by rfl) (fun wx n_ s_ hn hcl hsi hG hR hd => ?_) (fun v4 => ?_)
                · have dg : (Is (fun z_ => z_ = .bool false)) v2 wx := dep_get hd 2 (by rfl)
                  obtain rfl := dg
                  exact inv_skip (by rfl) hG (is_eq rfl)
                simp only [Act.put, List.setIfInBounds_toArray, List.set_cons_zero, List.set_cons_succ, List.nil_append, List.cons_append]
                refine inv_cons 5 (by rfl) (fun wx n_ s_ hn hcl hsi hG hR hd => ?_) (fun v5 => ?_)
                · have dg : (Is (fun z_ => z_ = .bool false)) v2 wx := dep_get hd 2 (by rfl)
                  obtain rfl := dg
                  exact inv_skip (by rfl) hG (is_eq rfl)
                simp only [Act.put, List.setIfInBounds_toArray, List.set_cons_zero, List.set_cons_succ, List.nil_append, List.cons_append]
                refine inv_cons 6 (by rfl) (fun wx n_ s_ hn hcl hsi hG hR hd => ?_) (fun v6 => ?_)
                · have dg : (Is (fun z_ => z_ = .bool false)) v2 wx := dep_get hd 2 (by rfl)
                  obtain rfl := dg
                  exact inv_skip (by rfl) hG (is_eq rfl)
                simp only [Act.put, List.setIfInBounds_toArray, List.set_cons_zero, List.set_cons_succ, List.nil_append, List.cons_append]
                refine inv_cons 7 (by rfl) (fun wx n_ s_ hn hcl hsi hG hR hd => ?_) (fun v7 => ?_)
                · have dg : (Is (fun z_ => z_ = .bool false)) v2 wx := dep_get hd 2 (by rfl)
                  obtain rfl := dg
                  exact inv_skip (by rfl) hG (is_eq rfl)
                simp only [Act.put, List.setIfInBounds_toArray, List.set_cons_zero, List.set_cons_succ, List.nil_append, List.cons_append]
                refine inv_cons 8 (by rfl) (fun wx n_ s_ hn hcl hsi hG hR hd => ?_) (fun v8 => ?_)
                · have dg : (Is (fun z_ => z_ = .bool false)) v2 wx := dep_get hd 2 (by rfl)
                  obtain rfl := dg
                  exact inv_skip (by rfl) hG (is_eq rfl)
                simp only [Act.put, List.setIfInBounds_toArray, List.set_cons_zero, List.set_cons_succ, List.nil_append, List.cons_append]
                refine inv_cons 9 (by rfl) (fun wx n_ s_ hn hcl hsi hG hR hd => ?_) (fun v9 => ?_)
                · have dg : (Is (fun z_ => z_ = .bool false)) v2 wx := dep_get hd 2 (by rfl)
                  obtain rfl := dg
                  exact inv_skip (by rfl) hG (is_eq rfl)
                simp only [Act.put, List.setIfInBounds_toArray, List.set_cons_zero, List.set_cons_succ, List.nil_append, List.cons_append]
                refine inv_cons 10 (by rfl) (fun wx n_ s_ hn hcl hsi hG hR hd => ?_) (fun v10 => ?_)
                · have dg : (Is (fun z_ => z_ = .bool false)) v2 wx := dep_get hd 2 (by rfl)
                  obtain rfl := dg
                  exact inv_skip (by rfl) hG (is_eq rfl)
                simp only [Act.put, List.setIfInBounds_toArray, List.set_cons_zero, List.set_cons_succ, List.nil_append, List.cons_append]
                refine inv_cons 11 (by rfl) (fun wx n_ s_ hn hcl hsi hG hR hd => ?_) (fun v11 => ?_)
                · have dg : (Is (fun z_ => z_ = .bool false)) v2 wx := dep_get hd 2 (by rfl)
                  obtain rfl := dg
                  exact inv_skip (by rfl) hG (is_eq rfl)
                simp only [Act.put, List.setIfInBounds_toArray, List.set_cons_zero, List.set_cons_succ, List.nil_append, List.cons_append]
                refine inv_cons 12 (by rfl) (fun wx n_ s_ hn hcl hsi hG hR hd => ?_) (fun v12 => ?_)
                · have d2 : (Is (fun z_ => z_ = .bool false)) v2 wx := dep_get hd 2 (by rfl)
                  obtain rfl := d2
                  have d11 : (Is (fun z_ => z_ = undef)) v11 wx := dep_get hd 11 (by rfl)
                  obtain rfl := d11
                  refine inv_want (by rfl) ?_
                  have HG := Lib.hid hG
                  clear hG hR hcl hsi hn
                  unfold invAt invUpon; go_simp
                  exact post_upN (F := Is (fun z_ => z_ = .bool false)) HG.out (is_eq rfl)
                simp only [Act.put, List.setIfInBounds_toArray, List.set_cons_zero, List.set_cons_succ, List.nil_append, List.cons_append]
                refine inv_nil (fun wq nq sq hnq hGq hRq hall => ?_)
                obtain ⟨f0, f1, f2, f3, f4, f5, f6, f7, f8, f9, f10, f11, f12, -⟩ := hall
                obtain rfl : v12 = .bool false := f12
                have hBq := Below.via (Grow.below0 hGq.grow) hB
                have hBoq := Lib.hid (Below.via (Grow.below0 hGq.grow) hBo.out)
                go_wp2_with fail
                go_roundw
                case rel => first | exact ⟨k + 1, by omega, by go_num, hBoq, hBq⟩ | exact ⟨k + 1, by omega, by omega⟩
                case measure => simp [intOf]; omega
        · obtain rfl : k = ls.length := by omega
          have hlt2 : ¬ ((ls.length : Nat) : Int) < (ls.length : Int) := by omega
          have S1 := Lib.hid (SlM.take2 (SlM.below HM4.out hBo.out) hh (by omega))
          have C1 := Lib.hid (fun wx (h : Below wo.heap.size wo wx) => implFlow_any ls (ms.take hh) (.slice (some ⟨g, 0, none⟩) ls.length c) (.slice (some ⟨g2, 0, none⟩) hh c2) wx (SlF.below (SlF.below HS4.out hBo.out) h) (SlM.below S1.out h))
          have C3 := Lib.hid (fun vx wx (h : Below wo.heap.size wo wx) (hx : SlB wx vx X) => sameL_any X vx (.slice xa ls.length xc) wx hx (SlB.below (SlB.below HX4.out hBo.out) h))
          have S2 := SlM.drop (SlM.below HM4.out hBo.out) hh (by omega)
          have S2' : SlM wo (.slice (if c2 = hh then some (⟨g2, 0, none⟩ : Addr) else some ⟨g2, hh * 2, none⟩) (ms.length - hh) (c2 - hh)) (ms.drop hh) := by
            simp only [sliced, Option.map_some, addr_add, Nat.zero_add] at S2
            exact S2
          obtain ⟨a3, ha3⟩ : ∃ a3, (if c2 = hh then some (⟨g2, 0, none⟩ : Addr) else some ⟨g2, hh * 2, none⟩) = a3 := ⟨_, rfl⟩
          rw [ha3] at S2'
          have S2h := Lib.hid S2'
          clear S2 S2'
          have C2 := Lib.hid (fun vx wx (h : Below wo.heap.size wo wx) (hx : SlB wx vx (flowR ls (ms.take hh))) => HTW.out ▸ implFlow_any (flowR ls (ms.take hh)) (ms.drop hh) vx _ wx hx (SlM.below S2h.out h))
          generalize flowR ls (ms.take hh) = Y at C1 C2
          clear HKP HTW HX4 HS4 HM4 S1 S2h
          go_wp2_with fail
          have KXr : KeepB (fun _ => True) ∧ KeepB (fun _ => True) := ⟨keepB_true, keepB_true⟩
          refine wp_region_inv (G := fun s n w_ => RgN (fun _ => False) (fun _ => True) wo w_) (R := RgR (fun _ => False) (fun _ => True))
            (Fs := [Is (fun z_ => z_ = .slice xa ls.length xc), Is (fun z_ => z_ = .int .i64 (ls.length)), Is (fun z_ => z_ = .slice (some ⟨g, 0, none⟩) ls.length c), Is (fun z_ => z_ = .int .i64 (ls.length)), Is (fun z_ => z_ = .bool true), Is (fun z_ => z_ = .bool true), Is (fun z_ => z_ = .slice (some ⟨g, 0, none⟩) ls.length c), Is (fun z_ => z_ = .slice (some ⟨g2, 0, none⟩) ms.length c2), Is (fun z_ => z_ = .int .i64 (hh : Int)), Is (fun z_ => z_ = .slice (some ⟨g2, 0, none⟩) hh c2), (fun z_ w_ => SlB w_ z_ Y), Is (fun z_ => z_ = .slice (some ⟨g2, 0, none⟩) ms.length c2), Is (fun z_ => z_ = .int .i64 (hh : Int)), Is (fun z_ => z_ = .slice a3 (ms.length - hh) (c2 - hh)), (fun z_ w_ => SlB w_ z_ X), Is (fun z_ => z_ = .slice xa ls.length xc), Is (fun z_ => z_ = .bool true), Is (fun z_ => z_ = .bool true), Is (fun z_ => z_ = .bool true)])
            (by kernel_rfl) (by kernel_rfl) (fun _ => RgR.refl _) (fun h k => h.trans k) ?_ (fun _ _ => ⟨(Grow.refl _ _).drew, trivial⟩) ?_
          · (repeat' (first | exact lasts_nil | refine lasts_cons ?_ ?_))
            all_goals (first | exact Lasts.is | exact Lasts.any | exact fun v w w' r h => SlB.below h (Grow.below0 r.1))
          refine inv_cons 0 (by rfl) (fun wx n_ s_ hn hcl hsi hG hR hd => ?_) (fun v0 => ?_)
          · exact inv_want (by rfl) (inv_move (.tmp 5) rfl (post_upN (F := Is (fun z_ => z_ = .slice xa ls.length xc)) hG (is_eq rfl)))
          simp only [Act.put, List.setIfInBounds_toArray, List.set_cons_zero, List.set_cons_succ, List.nil_append, List.cons_append]
          refine inv_cons 1 (by rfl) (fun wx n_ s_ hn hcl hsi hG hR hd => ?_) (fun v1 => ?_)
          · have d0 : (Is (fun z_ => z_ = .slice xa ls.length xc)) v0 wx := dep_get hd 0 (by rfl)
            obtain rfl := d0
            refine inv_want (by rfl) ?_
            have HG := Lib.hid hG
            clear hG hR hcl hsi hn
            unfold invAt invUpon; go_simp
            exact post_upN (F := Is (fun z_ => z_ = .int .i64 (ls.length))) HG.out (is_eq rfl)
          simp only [Act.put, List.setIfInBounds_toArray, List.set_cons_zero, List.set_cons_succ, List.nil_append, List.cons_append]
          refine inv_cons 2 (by rfl) (fun wx n_ s_ hn hcl hsi hG hR hd => ?_) (fun v2 => ?_)
          · exact inv_want (by rfl) (inv_move (.tmp 3) rfl (post_upN (F := Is (fun z_ => z_ = .slice (some ⟨g, 0, none⟩) ls.length c)) hG (is_eq rfl)))
          simp only [Act.put, List.setIfInBounds_toArray, List.set_cons_zero, List.set_cons_succ, List.nil_append, List.cons_append]
          refine inv_cons 3 (by rfl) (fun wx n_ s_ hn hcl hsi hG hR hd => ?_) (fun v3 => ?_)
          · have d2 : (Is (fun z_ => z_ = .slice (some ⟨g, 0, none⟩) ls.length c)) v2 wx := dep_get hd 2 (by rfl)
            obtain rfl := d2
            refine inv_want (by rfl) ?_
            have HG := Lib.hid hG
            clear hG hR hcl hsi hn
            unfold invAt invUpon; go_simp
            exact post_upN (F := Is (fun z_ => z_ = .int .i64 (ls.length))) HG.out (is_eq rfl)
          simp only [Act.put, List.setIfInBounds_toArray, List.set_cons_zero, List.set_cons_succ, List.nil_append, List.cons_append]
          refine inv_cons 4 (by rfl) (fun wx n_ s_ hn hcl hsi hG hR hd => ?_) (fun v4 => ?_)
          · have d1 : (Is (fun z_ => z_ = .int .i64 (ls.length))) v1 wx := dep_get hd 1 (by rfl)
            obtain rfl := d1
            have d3 : (Is (fun z_ => z_ = .int .i64 (ls.length))) v3 wx := dep_get hd 3 (by rfl)
            obtain rfl := d3
            refine inv_want (by rfl) ?_
            have HG := Lib.hid hG
            clear hG hR hcl hsi hn
            unfold invAt invUpon; go_simp
            exact post_upN (F := Is (fun z_ => z_ = .bool true)) HG.out (is_eq rfl)
          simp only [Act.put, List.setIfInBounds_toArray, List.set_cons_zero, List.set_cons_succ, List.nil_append, List.cons_append]
          refine inv_cons 5 (by rfl) (fun wx n_ s_ hn hcl hsi hG hR hd => ?_) (fun v5 => ?_)
          · have d4 : (Is (fun z_ => z_ = .bool true)) v4 wx := dep_get hd 4 (by rfl)
            obtain rfl := d4
            exact inv_want (by rfl) (inv_move (.tmp 79) rfl (post_upN (F := Is (fun z_ => z_ = .bool true)) hG (is_eq rfl)))
          simp only [Act.put, List.setIfInBounds_toArray, List.set_cons_zero, List.set_cons_succ, List.nil_append, List.cons_append]
          refine inv_cons 6 (by rfl) (fun wx n_ s_ hn hcl hsi hG hR hd => ?_) (fun v6 => ?_)
          · have dg : (Is (fun z_ => z_ = .bool true)) v5 wx := dep_get hd 5 (by rfl)
            obtain rfl := dg
            exact inv_want (by rfl) (inv_move (.tmp 3) rfl (post_upN (F := Is (fun z_ => z_ = .slice (some ⟨g, 0, none⟩) ls.length c)) hG (is_eq rfl)))
          simp only [Act.put, List.setIfInBounds_toArray, List.set_cons_zero, List.set_cons_succ, List.nil_append, List.cons_append]
          refine inv_cons 7 (by rfl) (fun wx n_ s_ hn hcl hsi hG hR hd => ?_) (fun v7 => ?_)
          · have dg : (Is (fun z_ => z_ = .bool true)) v5 wx := dep_get hd 5 (by rfl)
            obtain rfl := dg
            exact inv_want (by rfl) (inv_move (.tmp 4) rfl (post_upN (F := Is (fun z_ => z_ = .slice (some ⟨g2, 0, none⟩) ms.length c2)) hG (is_eq rfl)))
          simp only [Act.put, List.setIfInBounds_toArray, List.set_cons_zero, List.set_cons_succ, List.nil_append, List.cons_append]
          refine inv_cons 8 (by rfl) (fun wx n_ s_ hn hcl hsi hG hR hd => ?_) (fun v8 => ?_)
          · have dg : (Is (fun z_ => z_ = .bool true)) v5 wx := dep_get hd 5 (by rfl)
            obtain rfl := dg
            exact inv_want (by rfl) (inv_move (.tmp 6) rfl (post_upN (F := Is (fun z_ => z_ = .int .i64 (hh : Int))) hG (is_eq rfl)))
          simp only [Act.put, List.setIfInBounds_toArray, List.set_cons_zero, List.set_cons_succ, List.nil_append, List.cons_append]
          refine inv_cons 9 (by rfl) (fun wx n_ s_ hn hcl hsi hG hR hd => ?_) (fun v9 => ?_)
          · have dg : (Is (fun z_ => z_ = .bool true)) v5 wx := dep_get hd 5 (by rfl)
            obtain rfl := dg
            have d7 : (Is (fun z_ => z_ = .slice (some ⟨g2, 0, none⟩) ms.length c2)) v7 wx := dep_get hd 7 (by rfl)
            obtain rfl := d7
            have d8 : (Is (fun z_ => z_ = .int .i64 (hh : Int))) v8 wx := dep_get hd 8 (by rfl)
            obtain rfl := d8
            refine inv_want (by rfl) ?_
            have HG := Lib.hid hG
            clear hG hR hcl hsi hn
            unfold invAt invUpon; go_simp
            exact post_upN (F := Is (fun z_ => z_ = .slice (some ⟨g2, 0, none⟩) hh c2)) HG.out (is_eq rfl)
          simp only [Act.put, List.setIfInBounds_toArray, List.set_cons_zero, List.set_cons_succ, List.nil_append, List.cons_append]
          refine inv_cons 10 (by rfl) (fun wx n_ s_ hn hcl hsi hG hR hd => ?_) (fun v10 => ?_)
          · have dg : (Is (fun z_ => z_ = .bool true)) v5 wx := dep_get hd 5 (by rfl)
            obtain rfl := dg
            have d6 : (Is (fun z_ => z_ = .slice (some ⟨g, 0, none⟩) ls.length c)) v6 wx := dep_get hd 6 (by rfl)
            obtain rfl := d6
            have d9 : (Is (fun z_ => z_ = .slice (some ⟨g2, 0, none⟩) hh c2)) v9 wx := dep_get hd 9 (by rfl)
            obtain rfl := d9
            refine inv_want (by rfl) ?_
            have HG := Lib.hid hG
            clear hG hR hcl hsi hn
            unfold invAt invUpon; go_simp
            refine (C1.out wx (Grow.below0 HG.out.grow)).mono ?_
            rintro e w' ⟨vq, rfl, hoq, hb⟩
            exact ⟨_, rfl, post_newN (F := (fun z_ w_ => SlB w_ z_ Y)) KXr HG.out hb (own_sl hoq)⟩
          simp only [Act.put, List.setIfInBounds_toArray, List.set_cons_zero, List.set_cons_succ, List.nil_append, List.cons_append]
          refine inv_cons 11 (by rfl) (fun wx n_ s_ hn hcl hsi hG hR hd => ?_) (fun v11 => ?_)
          · have dg : (Is (fun z_ => z_ = .bool true)) v5 wx := dep_get hd 5 (by rfl)
            obtain rfl := dg
            exact inv_want (by rfl) (inv_move (.tmp 4) rfl (post_upN (F := Is (fun z_ => z_ = .slice (some ⟨g2, 0, none⟩) ms.length c2)) hG (is_eq rfl)))
          simp only [Act.put, List.setIfInBounds_toArray, List.set_cons_zero, List.set_cons_succ, List.nil_append, List.cons_append]
          refine inv_cons 12 (by rfl) (fun wx n_ s_ hn hcl hsi hG hR hd => ?_) (fun v12 => ?_)
          · have dg : (Is (fun z_ => z_ = .bool true)) v5 wx := dep_get hd 5 (by rfl)
            obtain rfl := dg
            exact inv_want (by rfl) (inv_move (.tmp 6) rfl (post_upN (F := Is (fun z_ => z_ = .int .i64 (hh : Int))) hG (is_eq rfl)))
          simp only [Act.put, List.setIfInBounds_toArray, List.set_cons_zero, List.set_cons_succ, List.nil_append, List.cons_append]
          refine inv_cons 13 (by rfl) (fun wx n_ s_ hn hcl hsi hG hR hd => ?_) (fun v13 => ?_)
          · have dg : (Is (fun z_ => z_ = .bool true)) v5 wx := dep_get hd 5 (by rfl)
            obtain rfl := dg
            have d11 : (Is (fun z_ => z_ = .slice (some ⟨g2, 0, none⟩) ms.length c2)) v11 wx := dep_get hd 11 (by rfl)
            obtain rfl := d11
            have d12 : (Is (fun z_ => z_ = .int .i64 (hh : Int))) v12 wx := dep_get hd 12 (by rfl)
            obtain rfl := d12
            refine inv_want (by rfl) ?_
            have HG := Lib.hid hG
            clear hG hR hcl hsi hn
            unfold invAt invUpon; go_simp
            exact post_upN (F := Is (fun z_ => z_ = .slice a3 (ms.length - hh) (c2 - hh))) HG.out (is_eq rfl)
          simp only [Act.put, List.setIfInBounds_toArray, List.set_cons_zero, List.set_cons_succ, List.nil_append, List.cons_append]
          refine inv_cons 14 (by rfl) (fun wx n_ s_ hn hcl hsi hG hR hd => ?_) (fun v14 => ?_)
          · have dg : (Is (fun z_ => z_ = .bool true)) v5 wx := dep_get hd 5 (by rfl)
            obtain rfl := dg
            have d10 : ((fun z_ w_ => SlB w_ z_ Y)) v10 wx := dep_get hd 10 (by rfl)
            skip
            have d13 : (Is (fun z_ => z_ = .slice a3 (ms.length - hh) (c2 - hh))) v13 wx := dep_get hd 13 (by rfl)
            obtain rfl := d13
            refine inv_want (by rfl) ?_
            have HG := Lib.hid hG
            clear hG hR hcl hsi hn
            unfold invAt invUpon; go_simp
            refine (C2.out v10 wx (Grow.below0 HG.out.grow) d10).mono ?_
            rintro e w' ⟨vq, rfl, hoq, hb⟩
            exact ⟨_, rfl, post_newN (F := (fun z_ w_ => SlB w_ z_ X)) KXr HG.out hb (own_sl hoq)⟩
          simp only [Act.put, List.setIfInBounds_toArray, List.set_cons_zero, List.set_cons_succ, List.nil_append, List.cons_append]
          refine inv_cons 15 (by rfl) (fun wx n_ s_ hn hcl hsi hG hR hd => ?_) (fun v15 => ?_)
          · have dg : (Is (fun z_ => z_ = .bool true)) v5 wx := dep_get hd 5 (by rfl)
            obtain rfl := dg
            exact inv_want (by rfl) (inv_move (.tmp 5) rfl (post_upN (F := Is (fun z_ => z_ = .slice xa ls.length xc)) hG (is_eq rfl)))
          simp only [Act.put, List.setIfInBounds_toArray, List.set_cons_zero, List.set_cons_succ, List.nil_append, List.cons_append]
          refine inv_cons 16 (by rfl) (fun wx n_ s_ hn hcl hsi hG hR hd => ?_) (fun v16 => ?_)
          · have dg : (Is (fun z_ => z_ = .bool true)) v5 wx := dep_get hd 5 (by rfl)
            obtain rfl := dg
            have d14 : ((fun z_ w_ => SlB w_ z_ X)) v14 wx := dep_get hd 14 (by rfl)
            skip
            have d15 : (Is (fun z_ => z_ = .slice xa ls.length xc)) v15 wx := dep_get hd 15 (by rfl)
            obtain rfl := d15
            refine inv_want (by rfl) ?_
            have HG := Lib.hid hG
            clear hG hR hcl hsi hn
            unfold invAt invUpon; go_simp
            refine (C3.out v14 wx (Grow.below0 HG.out.grow) d14).mono ?_
            rintro e w' ⟨rfl, hb⟩
            exact ⟨_, rfl, post_newN (F := Is (fun z_ => z_ = .bool true)) KXr HG.out hb (is_eq rfl)⟩
          simp only [Act.put, List.setIfInBounds_toArray, List.set_cons_zero, List.set_cons_succ, List.nil_append, List.cons_append]
          refine inv_cons 17 (by rfl) (fun wx n_ s_ hn hcl hsi hG hR hd => ?_) (fun v17 => ?_)
          · have d5 : (Is (fun z_ => z_ = .bool true)) v5 wx := dep_get hd 5 (by rfl)
            obtain rfl := d5
            have d16 : (Is (fun z_ => z_ = .bool true)) v16 wx := dep_get hd 16 (by rfl)
            obtain rfl := d16
            refine inv_want (by rfl) ?_
            have HG := Lib.hid hG
            clear hG hR hcl hsi hn
            unfold invAt invUpon; go_simp
            exact post_upN (F := Is (fun z_ => z_ = .bool true)) HG.out (is_eq rfl)
          simp only [Act.put, List.setIfInBounds_toArray, List.set_cons_zero, List.set_cons_succ, List.nil_append, List.cons_append]
          refine inv_cons 18 (by rfl) (fun wx n_ s_ hn hcl hsi hG hR hd => ?_) (fun v18 => ?_)
          · have d17 : (Is (fun z_ => z_ = .bool true)) v17 wx := dep_get hd 17 (by rfl)
            obtain rfl := d17
            exact inv_want (by rfl) (inv_assign (.tmp 92) rfl (post_upN (F := Is (fun z_ => z_ = .bool true)) hG (is_eq rfl)))
          simp only [Act.put, List.setIfInBounds_toArray, List.set_cons_zero, List.set_cons_succ, List.nil_append, List.cons_append]
          refine inv_nil (fun wq nq sq hnq hGq hRq hall => ?_)
          obtain ⟨f0, f1, f2, f3, f4, f5, f6, f7, f8, f9, f10, f11, f12, f13, f14, f15, f16, f17, f18, -⟩ := hall
          obtain rfl : v18 = .bool true := f18
          have hBq := Below.via (Grow.below0 hGq.grow) hB
          go_wp2_with fail
          go_ret
          exact ⟨rfl, hBq⟩
end Go.Proofs.Ytfghgpdhcpcoiaa
