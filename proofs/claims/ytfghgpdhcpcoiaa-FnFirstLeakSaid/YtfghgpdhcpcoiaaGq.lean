/-
  The law on first leaks, walked. Condition: the bytes can be read.
-/
import Derived.Test.YtfghgpdhcpcoiaaGp
import Derived.Test.YtfghgpdhcpcoiaaGo
set_option linter.unusedSimpArgs false
set_option linter.unusedVariables false
namespace Go.Proofs.Ytfghgpdhcpcoiaa
open Go.RowKit
set_option maxRecDepth 100000 in
set_option maxHeartbeats 6400000 in
theorem firstLeak_walk (a : Option Addr) (len cap : Nat) (w : World) (h : Bytes w a len cap) : Calls Try.prog 8 #[.slice a len cap] w fun e w' => e = .returned (.bool true) ∧ Below w.heap.size w w' := by
  have h1 := h.1
  have h2 := h.2.1
  unfold maxLen at h2
  have H := Lib.hid h
  clear h
  by_cases hl : 1048576 < len
  · go_enter Try.func8, Try.ntmps8
    go_wp2_with fail
    go_ret
    exact ⟨rfl, Below.refl _ _⟩
  · go_enter Try.func8, Try.ntmps8
    go_wp2_with fail
    refine (drawFirstLeak_any a len cap _ H.out).mono ?_
    rintro e w1 ⟨v, u, ls, ms, rfl, hv, hu, hl4, hm6, hov, hou, b1⟩
    obtain ⟨g, c, rfl, hg, hn, hc, _⟩ := own_ad hov hv
    obtain ⟨g2, c2, rfl, hg2, hn2, hc2, _⟩ : ∃ g2 c2, u = .slice (some ⟨g2, 0, none⟩) ms.length c2 ∧ w.heap.size ≤ g2 ∧ ms.length ≤ c2 ∧ c2 ≤ maxLen ∧ True := by
      obtain ⟨us, _, ho, _, _⟩ := hou
      obtain ⟨g2, c2, e, q1, q2, q3, _⟩ := own_ad ho hu
      exact ⟨g2, c2, e, q1, q2, q3, trivial⟩
    have HS1 := Lib.hid (show SlB w1 (.slice (some ⟨g, 0, none⟩) ls.length c) ls from own_sl hov)
    have HM1 := Lib.hid (OwnM.sl hou)
    clear hov hou hv hu
    unfold maxLen at hc hc2
    have CI := fun wx h hm => implLeak_any ls ms (.slice (some ⟨g, 0, none⟩) ls.length c) (.slice (some ⟨g2, 0, none⟩) ms.length c2) wx h hm
    have CS := fun wx h hm => specLeak_any ls ms (.slice (some ⟨g, 0, none⟩) ls.length c) (.slice (some ⟨g2, 0, none⟩) ms.length c2) wx h hm
    have hcase := leak_cases ls ms
    rcases hcase with hR | ⟨hR, hfl, hbl⟩ | ⟨j, hj, hR, hj1, hj2⟩
    · rw [hR] at CI CS
      clear hR
      go_wp2_with fail
      refine (CI _ HS1.out HM1.out).mono ?_
      rintro e w2 ⟨rfl, b2⟩
      go_wp2_with fail
      refine (CS _ (SlF.below HS1.out b2) (SlM.below HM1.out b2)).mono ?_
      rintro e w3 ⟨rfl, b3⟩
      have hB3 := Below.via b3 (Below.via b2 b1)
      go_wp2_with ((go_at_call 17; refine (alive_any _).mono ?_; rintro e w' ⟨rfl, rfl⟩))
      go_ret
      exact ⟨rfl, hB3⟩
    · rw [hR] at CI CS
      have CF := Lib.hid (fun wx h hm => hfl ▸ implFlow_any ls ms (.slice (some ⟨g, 0, none⟩) ls.length c) (.slice (some ⟨g2, 0, none⟩) ms.length c2) wx h hm)
      have HBL := Lib.hid hbl
      have hfn := flow_len ms ls
      clear hR hbl hfl
      generalize flow ls ms = X at CF HBL hfn
      go_wp2_with fail
      refine (CI _ HS1.out HM1.out).mono ?_
      rintro e w2 ⟨rfl, b2⟩
      go_wp2_with fail
      refine (CS _ (SlF.below HS1.out b2) (SlM.below HM1.out b2)).mono ?_
      rintro e w3 ⟨rfl, b3⟩
      have b13 := Below.via b3 b2
      have hB3 := Below.via b3 (Below.via b2 b1)
      go_wp2_with fail
      refine (CF.out _ (SlF.below HS1.out b13) (SlM.below HM1.out b13)).mono ?_
      rintro e w4 ⟨vx, rfl, ho4, b4⟩
      have hB4 := Below.via b4 hB3
      have HS4 := Lib.hid (SlF.below HS1.out (Below.via b4 b13))
      have HX4 := Lib.hid (own_sl ho4)
      clear CI CS CF b2 b3 b4 ho4
      obtain ⟨xa, xc, rfl, hx1, hx2⟩ := SlF.shape HX4.out
      rw [hfn] at hx1 ⊢
      have HX5 : Hid (SlB w4 (.slice xa ls.length xc) X) := Lib.hid (by unfold SlB; have q := HX4.out; rw [hfn] at q ⊢; exact q)
      clear HX4
      unfold maxLen at hx2
      go_wp2_with fail
      go_loopw [7] (fun i wr => ∃ k : Nat, k ≤ ls.length ∧ i = .int .i64 k ∧ Hid (Below w4.heap.size w4 wr) ∧ Below w.heap.size w wr) (fun i _ => ls.length - (intOf i).toNat)
      case atStart => exact ⟨0, Nat.zero_le _, rfl, Below.refl _ _, hB4⟩
      case round =>
        obtain ⟨k, hk, rfl, hBo, hB⟩ := hrel
        by_cases hlt : k < ls.length
        · have hlt2 : (k : Int) < (ls.length : Int) := by omega
          have hlx : k < X.length := by omega
          obtain ⟨gx, ox, cx2, hvx, _, _, x0, x1⟩ := SlB.cells (SlF.below HX5.out hBo.out) k hlx
          rw [hfn] at hvx
          simp only [Value.slice.injEq] at hvx
          obtain ⟨rfl, -, rfl⟩ := hvx
          obtain ⟨gl, ol, cl, hvl, _, _, p0, p1⟩ := SlB.cells (SlF.below HS4.out hBo.out) k hlt
          simp only [Value.slice.injEq, Option.some.injEq, Addr.mk.injEq, and_true] at hvl
          obtain ⟨⟨rfl, rfl⟩, -, rfl⟩ := hvl
          simp only [Nat.zero_add] at p0 p1
          have hib := Lib.hid (HBL.out k hlt hlx)
          generalize X[k] = q at x0 x1 hib
          generalize ls[k] = p at p0 p1 hib
          have CB := Lib.hid (fun wx => hib.out ▸ implBelow_any q.f0 q.f1 p.f0 p.f1 wx)
          clear hib
          go_wp2_with fail
          have KXr : KeepB (fun _ => True) ∧ KeepB (fun _ => True) := ⟨keepB_true, keepB_true⟩
          refine wp_region_inv (G := fun s n w_ => RgN (fun _ => False) (fun _ => True) wr w_) (R := RgR (fun _ => False) (fun _ => True))
            (Fs := [Is (fun z_ => z_ = .slice (some ⟨gx, ox, none⟩) ls.length xc), Is (fun z_ => z_ = .int .i64 k), Is (fun z_ => z_ = .pointer (some ⟨gx, ox + k * 2, none⟩)), Is (fun z_ => z_ = .agg #[.int .i64 q.f0, .int .i64 q.f1]), Is (fun z_ => z_ = .slice (some ⟨g, 0, none⟩) ls.length c), Is (fun z_ => z_ = .int .i64 k), Is (fun z_ => z_ = .pointer (some ⟨g, k * 2, none⟩)), Is (fun z_ => z_ = .agg #[.int .i64 p.f0, .int .i64 p.f1]), Is (fun z_ => z_ = .bool true), Is (fun z_ => z_ = .bool false)])
            (by kernel_rfl) (by kernel_rfl) (fun _ => RgR.refl _) (fun h k => h.trans k) ?_ (fun _ _ => ⟨(Grow.refl _ _).drew, trivial⟩) ?_
          · (repeat' (first | exact lasts_nil | refine lasts_cons ?_ ?_))
            all_goals (first | exact Lasts.is | exact Lasts.any)
          refine inv_cons 0 (by rfl) (fun wx n_ s_ hn hcl hsi hG hR hd => ?_) (fun v0 => ?_)
          · exact inv_want (by rfl) (inv_move (.tmp 6) rfl (post_upN (F := Is (fun z_ => z_ = .slice (some ⟨gx, ox, none⟩) ls.length xc)) hG (is_eq rfl)))
          simp only [Act.put, List.setIfInBounds_toArray, List.set_cons_zero, List.set_cons_succ, List.nil_append, List.cons_append]
          refine inv_cons 1 (by rfl) (fun wx n_ s_ hn hcl hsi hG hR hd => ?_) (fun v1 => ?_)
          · exact inv_want (by rfl) (inv_move (.tmp 7) rfl (post_upN (F := Is (fun z_ => z_ = .int .i64 k)) hG (is_eq rfl)))
          simp only [Act.put, List.setIfInBounds_toArray, List.set_cons_zero, List.set_cons_succ, List.nil_append, List.cons_append]
          refine inv_cons 2 (by rfl) (fun wx n_ s_ hn hcl hsi hG hR hd => ?_) (fun v2 => ?_)
          · have d0 : (Is (fun z_ => z_ = .slice (some ⟨gx, ox, none⟩) ls.length xc)) v0 wx := dep_get hd 0 (by rfl)
            obtain rfl := d0
            have d1 : (Is (fun z_ => z_ = .int .i64 k)) v1 wx := dep_get hd 1 (by rfl)
            obtain rfl := d1
            refine inv_want (by rfl) ?_
            have HG := Lib.hid hG
            clear hG hR hcl hsi hn
            unfold invAt invUpon; go_simp
            exact post_upN (F := Is (fun z_ => z_ = .pointer (some ⟨gx, ox + k * 2, none⟩))) HG.out (is_eq rfl)
          simp only [Act.put, List.setIfInBounds_toArray, List.set_cons_zero, List.set_cons_succ, List.nil_append, List.cons_append]
          refine inv_cons 3 (by rfl) (fun wx n_ s_ hn hcl hsi hG hR hd => ?_) (fun v3 => ?_)
          · have d2 : (Is (fun z_ => z_ = .pointer (some ⟨gx, ox + k * 2, none⟩))) v2 wx := dep_get hd 2 (by rfl)
            obtain rfl := d2
            have xb0 := cell_grow (x0) hG.grow (fun h => h)
            have xb1 := cell_grow (x1) hG.grow (fun h => h)
            refine inv_want (by rfl) ?_
            have HG := Lib.hid hG
            clear hG hR hcl hsi hn
            unfold invAt invUpon; go_simp
            exact post_upN (F := Is (fun z_ => z_ = .agg #[.int .i64 q.f0, .int .i64 q.f1])) HG.out (is_eq rfl)
          simp only [Act.put, List.setIfInBounds_toArray, List.set_cons_zero, List.set_cons_succ, List.nil_append, List.cons_append]
          refine inv_cons 4 (by rfl) (fun wx n_ s_ hn hcl hsi hG hR hd => ?_) (fun v4 => ?_)
          · exact inv_want (by rfl) (inv_move (.tmp 3) rfl (post_upN (F := Is (fun z_ => z_ = .slice (some ⟨g, 0, none⟩) ls.length c)) hG (is_eq rfl)))
          simp only [Act.put, List.setIfInBounds_toArray, List.set_cons_zero, List.set_cons_succ, List.nil_append, List.cons_append]
          refine inv_cons 5 (by rfl) (fun wx n_ s_ hn hcl hsi hG hR hd => ?_) (fun v5 => ?_)
          · exact inv_want (by rfl) (inv_move (.tmp 7) rfl (post_upN (F := Is (fun z_ => z_ = .int .i64 k)) hG (is_eq rfl)))
          simp only [Act.put, List.setIfInBounds_toArray, List.set_cons_zero, List.set_cons_succ, List.nil_append, List.cons_append]
          refine inv_cons 6 (by rfl) (fun wx n_ s_ hn hcl hsi hG hR hd => ?_) (fun v6 => ?_)
          · have d4 : (Is (fun z_ => z_ = .slice (some ⟨g, 0, none⟩) ls.length c)) v4 wx := dep_get hd 4 (by rfl)
            obtain rfl := d4
            have d5 : (Is (fun z_ => z_ = .int .i64 k)) v5 wx := dep_get hd 5 (by rfl)
            obtain rfl := d5
            refine inv_want (by rfl) ?_
            have HG := Lib.hid hG
            clear hG hR hcl hsi hn
            unfold invAt invUpon; go_simp
            exact post_upN (F := Is (fun z_ => z_ = .pointer (some ⟨g, k * 2, none⟩))) HG.out (is_eq rfl)
          simp only [Act.put, List.setIfInBounds_toArray, List.set_cons_zero, List.set_cons_succ, List.nil_append, List.cons_append]
          refine inv_cons 7 (by rfl) (fun wx n_ s_ hn hcl hsi hG hR hd => ?_) (fun v7 => ?_)
          · have d6 : (Is (fun z_ => z_ = .pointer (some ⟨g, k * 2, none⟩))) v6 wx := dep_get hd 6 (by rfl)
            obtain rfl := d6
            have xb0 := cell_grow (p0) hG.grow (fun h => h)
            have xb1 := cell_grow (p1) hG.grow (fun h => h)
            refine inv_want (by rfl) ?_
            have HG := Lib.hid hG
            clear hG hR hcl hsi hn
            unfold invAt invUpon; go_simp
            exact post_upN (F := Is (fun z_ => z_ = .agg #[.int .i64 p.f0, .int .i64 p.f1])) HG.out (is_eq rfl)
          simp only [Act.put, List.setIfInBounds_toArray, List.set_cons_zero, List.set_cons_succ, List.nil_append, List.cons_append]
          refine inv_cons 8 (by rfl) (fun wx n_ s_ hn hcl hsi hG hR hd => ?_) (fun v8 => ?_)
          · have d3 : (Is (fun z_ => z_ = .agg #[.int .i64 q.f0, .int .i64 q.f1])) v3 wx := dep_get hd 3 (by rfl)
            obtain rfl := d3
            have d7 : (Is (fun z_ => z_ = .agg #[.int .i64 p.f0, .int .i64 p.f1])) v7 wx := dep_get hd 7 (by rfl)
            obtain rfl := d7
            refine inv_want (by rfl) ?_
            have HG := Lib.hid hG
            clear hG hR hcl hsi hn
            unfold invAt invUpon; go_simp
            refine (CB.out wx).mono ?_
            rintro e w' ⟨rfl, hb⟩
            exact ⟨_, rfl, post_newN (F := Is (fun z_ => z_ = .bool true)) KXr HG.out hb (is_eq rfl)⟩
          simp only [Act.put, List.setIfInBounds_toArray, List.set_cons_zero, List.set_cons_succ, List.nil_append, List.cons_append]
          refine inv_cons 9 (by rfl) (fun wx n_ s_ hn hcl hsi hG hR hd => ?_) (fun v9 => ?_)
          · have d8 : (Is (fun z_ => z_ = .bool true)) v8 wx := dep_get hd 8 (by rfl)
            obtain rfl := d8
            refine inv_want (by rfl) ?_
            have HG := Lib.hid hG
            clear hG hR hcl hsi hn
            unfold invAt invUpon; go_simp
            exact post_upN (F := Is (fun z_ => z_ = .bool false)) HG.out (is_eq rfl)
          simp only [Act.put, List.setIfInBounds_toArray, List.set_cons_zero, List.set_cons_succ, List.nil_append, List.cons_append]
          refine inv_nil (fun wq nq sq hnq hGq hRq hall => ?_)
          obtain ⟨f0, f1, f2, f3, f4, f5, f6, f7, f8, f9, -⟩ := hall
          obtain rfl : v9 = .bool false := f9
          have hBq := Below.via (Grow.below0 hGq.grow) hB
          have hBoq := Lib.hid (Below.via (Grow.below0 hGq.grow) hBo.out)
          go_wp2_with fail
          go_roundw
          case rel => exact ⟨k + 1, by omega, by go_num, hBoq, hBq⟩
          case measure => simp [intOf]; omega
        · obtain rfl : k = ls.length := by omega
          have hlt2 : ¬ ((ls.length : Nat) : Int) < (ls.length : Int) := by omega
          go_wp2_with fail
          go_ret
          exact ⟨rfl, hB⟩
    · have C1 := fun wx hm h => implLeak_any ls (ms.take j) (.slice (some ⟨g, 0, none⟩) ls.length c) (.slice (some ⟨g2, 0, none⟩) j c2) wx h (hm : SlM wx (.slice (some ⟨g2, 0, none⟩) j c2) (ms.take j))
      have C2 := fun wx hm h => implLeak_any ls (ms.take (j + 1)) (.slice (some ⟨g, 0, none⟩) ls.length c) (.slice (some ⟨g2, 0, none⟩) (j + 1) c2) wx h (hm : SlM wx (.slice (some ⟨g2, 0, none⟩) (j + 1) c2) (ms.take (j + 1)))
      rw [hR] at CI CS
      rw [hj1] at C1
      rw [hj2] at C2
      have S1 := Lib.hid (SlM.take HM1.out j (by omega))
      have S2 := Lib.hid (SlM.take HM1.out (j + 1) hj)
      have hj3 : (j : Int) < (ms.length : Int) := by omega
      clear hR hj1 hj2
      go_wp2_with fail
      refine (CI _ HS1.out HM1.out).mono ?_
      rintro e w2 ⟨rfl, b2⟩
      go_wp2_with fail
      refine (CS _ (SlF.below HS1.out b2) (SlM.below HM1.out b2)).mono ?_
      rintro e w3 ⟨rfl, b3⟩
      have b13 := Below.via b3 b2
      have hB3 := Below.via b13 b1
      go_wp2_with fail
      refine (C1 _ (SlM.below S1.out b13) (SlF.below HS1.out b13)).mono ?_
      rintro e w4 ⟨rfl, b4⟩
      have b14 := Below.via b4 b13
      go_wp2_with fail
      refine (C2 _ (SlM.below S2.out b14) (SlF.below HS1.out b14)).mono ?_
      rintro e w5 ⟨rfl, b5⟩
      have hB5 := Below.via b5 (Below.via b14 b1)
      go_wp2_with fail
      go_ret
      exact ⟨rfl, hB5⟩
end Go.Proofs.Ytfghgpdhcpcoiaa
