/-
  First leaks: the reference's way. No condition.
-/
import Derived.Test.YtfghgpdhcpcoiaaFz
import Derived.Test.YtfghgpdhcpcoiaaGl
import Derived.Test.YtfghgpdhcpcoiaaM
import Derived.Test.YtfghgpdhcpcoiaaUa
set_option linter.unusedSimpArgs false
set_option linter.unusedVariables false
namespace Go.Proofs.Ytfghgpdhcpcoiaa
open Go.RowKit
theorem SlF.take0 {w : World} {a : Option Addr} {k n cap : Nat} {cs : List Value} (h : SlF w (.slice a n cap) k n cs) (m : Nat) (hm : m ≤ n) : SlF w (.slice a m cap) k m (cs.take (m * k)) := by
  obtain ⟨h1, a', cap', h2, h3, h4, h5⟩ := h
  cases h2
  have hmk : m * k ≤ n * k := Nat.mul_le_mul_right _ hm
  refine ⟨by rw [List.length_take, h1]; omega, a, cap, rfl, by omega, by omega, ?_⟩
  rcases h5 with h5 | ⟨g, off, rfl, hc⟩
  · exact .inl (by omega)
  · exact .inr ⟨g, off, rfl, fun j hj => by rw [hc j (by omega), List.getElem?_take, if_pos hj]⟩
theorem SlM.take {w : World} {a : Option Addr} {c : Nat} {ds : List Mv} (h : SlM w (.slice a ds.length c) ds) (k : Nat) (hk : k ≤ ds.length) : SlM w (.slice a k c) (ds.take k) := by
  obtain ⟨us, h1, h2, h3⟩ := h
  refine ⟨us.take k, by simp [h1], ?_, fun i hi hi2 => ?_⟩
  · have s := SlF.take0 h2 k hk
    rw [List.length_take, Nat.min_eq_left hk]
    unfold cellsM at s ⊢
    rw [take_flat encM 2 encM_len] at s
    simp only [List.zip, List.take_zipWith] at s ⊢
    exact s
  · rw [List.getElem_take, List.getElem_take]
    exact h3 i (by simp at hi; omega) (by simp at hi2; omega)
theorem mvValid_take (many : Int) (ds : List Mv) (l : Nat) (h : mvValidI many ds = true) : mvValidI many (ds.take l) = true := by
  simp only [mvValidI, Bool.and_eq_true, List.all_eq_true, decide_eq_true_eq, List.length_take] at h ⊢
  exact ⟨fun x hx => h.1 x (List.mem_of_mem_take hx), h.2.1, by omega⟩
theorem flowR_take (ls : List Lab) (ms : List Mv) (k : Nat) (h1 : ls.all labOk = true) (h2 : mvValidI ls.length ms = true) : flowR ls (ms.take k) = flowTo ls ms k := by
  rw [(flow_good ls (ms.take k) h1 (mvValid_take _ ms k h2)).2]
  rfl
theorem lk_spec (ls D : List Lab) (h1 : ls.all labOk = true) (hD : D.all labOk = true) (d : Mv) (m : Nat) (hm : d.n = m) (hml : m < ls.length) :
    sBel (wrL D d.xs).f0 (wrL D d.xs).f1 ls[m].f0 ls[m].f1 = lkB ls D d := by
  unfold lkB
  rw [hm, Int.toNat_natCast, List.getD_eq_getElem?_getD, List.getElem?_eq_getElem hml, ← below_agree]
  have q1 : labOk (wrL D d.xs) = true := wrL_ok D hD d.xs
  have q2 : labOk ls[m] = true := List.all_eq_true.1 h1 _ (List.getElem_mem hml)
  unfold labOk at q1 q2
  simp [iBel, q1, q2]
set_option maxRecDepth 100000 in
set_option maxHeartbeats 6400000 in
theorem specLeak_any (ls : List Lab) (ms : List Mv) (v u : Value) (w : World) (h : SlB w v ls) (hm : SlM w u ms) : Calls Try.prog 28 #[v, u] w fun e w' => e = .returned (.int .i64 (leakI ls ms)) ∧ Below w.heap.size w w' := by
  obtain ⟨a, cap, rfl, h1, h2⟩ := SlF.shape h
  obtain ⟨a2, cap2, rfl, h3, h4⟩ := SlM.shape hm
  unfold maxLen at h2 h4
  have H := Lib.hid h
  have HM := Lib.hid hm
  clear h hm
  have CL1 := fun wx h => l33_any ls (.slice a ls.length cap) wx h
  have CM1 := fun wx h => specMvValid_any ls.length ms (.slice a2 ms.length cap2) wx h
  rw [← mvValid_eq] at CM1
  cases hl : (ls.all labOk && inR ls.length 1 6)
  · have hR : leakI ls ms = -2 := by
      cases ha : ls.all labOk
      · exact leak_bad1 ls ms ha
      · rw [ha, Bool.true_and] at hl
        refine leak_bad2 ls ms ?_
        cases hv : mvValidI ls.length ms
        · rfl
        · rw [flow_one ls ms hv] at hl; cases hl
    rw [hR]
    rw [hl] at CL1
    clear hl hR
    go_enter Try.func28, Try.ntmps28
    go_wp2_with fail
    refine (CL1 _ H.out).mono ?_
    rintro e w1 ⟨rfl, b1⟩
    go_wp2_with fail
    go_ret
    exact ⟨rfl, b1⟩
  · rw [hl] at CL1
    rw [Bool.and_eq_true] at hl
    cases hv : mvValidI ls.length ms
    · rw [leak_bad2 ls ms hv]
      rw [hv] at CM1
      clear hl hv
      go_enter Try.func28, Try.ntmps28
      go_wp2_with fail
      refine (CL1 _ H.out).mono ?_
      rintro e w1 ⟨rfl, b1⟩
      go_wp2_with fail
      refine (CM1 _ (SlM.below HM.out b1)).mono ?_
      rintro e w2 ⟨rfl, b2⟩
      have hB2 := Below.via b2 b1
      go_wp2_with fail
      go_ret
      exact ⟨rfl, hB2⟩
    · obtain ⟨hok, -⟩ := flow_good ls ms hl.1 hv
      have hL0 := Lib.hid (leak_good ls ms hok)
      have F := flowOk_of hok
      rw [hv] at CM1
      have hlo := F.lo
      have hhi := F.hi
      have hmm := F.many
      have FW := Lib.hid F.wr
      have FL := Lib.hid F.labs
      have HT := Lib.hid (fun k => flowR_take ls ms k hl.1 hv)
      clear F hok hl hv
      go_enter Try.func28, Try.ntmps28
      go_wp2_with fail
      refine (CL1 _ H.out).mono ?_
      rintro e w1 ⟨rfl, b1⟩
      go_wp2_with fail
      refine (CM1 _ (SlM.below HM.out b1)).mono ?_
      rintro e w2 ⟨rfl, b2⟩
      have hB2 := Below.via b2 b1
      have hz2 := hB2.size
      clear CL1 CM1
      go_wp2_with fail
      go_loopw [5] (fun i wr => ∃ k : Nat, k ≤ ms.length ∧ i = .int .i64 k ∧ Hid (leakI ls ms = leakR ls ms k) ∧ Below w.heap.size w wr) (fun i _ => ms.length - (intOf i).toNat)
      case atStart => exact ⟨0, Nat.zero_le _, rfl, hL0, hB2⟩
      case round =>
        obtain ⟨k, hk, rfl, hXk, hB⟩ := hrel
        by_cases hlt : k < ms.length
        · have hlt2 : (k : Int) < (ms.length : Int) := by omega
          have HS := Lib.hid (SlM.take HM.out (k + 1) hlt)
          have hno := Lib.hid (leakR_no ls ms k hlt)
          have hyes := Lib.hid (leakR_yes ls ms k hlt)
          have hst := Lib.hid (flowTo_step ls ms k hlt)
          have CF := Lib.hid (fun wx (h : Below w.heap.size w wx) => (HT.out (k + 1)) ▸ specFlow_any ls (ms.take (k + 1)) (.slice a ls.length cap) (.slice a2 (k + 1) cap2) wx (SlF.below H.out h) (SlM.below HS.out h))
          clear HS
          go_wp2_with fail
          refine (CF.out _ hB).mono ?_
          rintro e w5 ⟨vx, rfl, ho5, b5⟩
          have hB5 := Below.via b5 hB
          obtain ⟨g, off, cx, au, cu, hvv, _, _, c0, c1, hsu, hcu, hcm⟩ := SlM.cells (SlM.below HM.out hB5) k hlt
          simp only [Value.slice.injEq] at hvv
          obtain ⟨rfl, -, rfl⟩ := hvv
          have hw := FW.out ms[k] (List.getElem_mem hlt)
          have hDl := Lib.hid (flowTo_len ls ms k)
          have hDo := Lib.hid (flowTo_ok ls FL.out ms k)
          clear hsu
          generalize ms[k] = d at c0 c1 hw hst hno hyes hcu
          have hlk := Lib.hid (fun m hm hml => lk_spec ls (flowTo ls ms k) FL.out hDo.out d m hm hml)
          rw [hst.out] at ho5
          generalize flowTo ls ms k = D at hDl hDo hst hno hyes hlk ho5
          obtain ⟨m, hm⟩ : ∃ m : Nat, d.n = m := ⟨d.n.toNat, by omega⟩
          rw [hm] at c1 hw
          have hml : m < ls.length := by omega
          have hml2 : (m : Int) < (ls.length : Int) := by omega
          have hlk2 := Lib.hid (hlk.out m hm hml)
          have hsd : stF D d = D.set m (wrL D d.xs) := by unfold stF; rw [hm]; rfl
          rw [hsd] at ho5
          have hsl : (D.set m (wrL D d.xs)).length = ls.length := by rw [List.length_set]; exact hDl.out
          obtain ⟨gx, ox, cx2, rfl, hx1, hx2, x0, x1⟩ := SlB.cells (own_sl ho5) m (by rw [hsl]; exact hml)
          rw [List.getElem_set_self] at x0 x1
          rw [hsl]
          obtain ⟨gl, ol, cl, hvl, _, _, p0, p1⟩ := SlB.cells (SlF.below H.out hB5) m hml
          simp only [Value.slice.injEq] at hvl
          obtain ⟨rfl, -, rfl⟩ := hvl
          clear hst hm hlk hsd ho5 c0 hx1 hx2
          generalize wrL D d.xs = q at x0 x1 hlk2
          generalize ls[m] = p at p0 p1 hlk2
          have CB := Lib.hid (fun wx => specBelow_any q.f0 q.f1 p.f0 p.f1 wx)
          cases hbel : sBel q.f0 q.f1 p.f0 p.f1
          · rw [hbel] at CB
            go_wp2_with fail
            have KXr : KeepB (fun _ => True) ∧ KeepB (fun _ => True) := ⟨keepB_true, keepB_true⟩
            refine wp_region_inv (G := fun s n w_ => RgN (fun _ => False) (fun _ => True) w5 w_) (R := RgR (fun _ => False) (fun _ => True))
              (Fs := [Is (fun z_ => z_ = .slice (some ⟨gx, ox, none⟩) ls.length cx2), Is (fun z_ => z_ = .slice (some ⟨g, off, none⟩) ms.length cap2), Is (fun z_ => z_ = .int .i64 k), Is (fun z_ => z_ = .pointer (some ⟨g, off + k * 2, none⟩)), Is (fun z_ => z_ = .pointer (some ⟨g, off + k * 2 + 1, none⟩)), Is (fun z_ => z_ = .int .i64 m), Is (fun z_ => z_ = .pointer (some ⟨gx, ox + m * 2, none⟩)), Is (fun z_ => z_ = .agg #[.int .i64 q.f0, .int .i64 q.f1]), Is (fun z_ => z_ = .slice (some ⟨gl, ol, none⟩) ls.length cap), Is (fun z_ => z_ = .slice (some ⟨g, off, none⟩) ms.length cap2), Is (fun z_ => z_ = .int .i64 k), Is (fun z_ => z_ = .pointer (some ⟨g, off + k * 2, none⟩)), Is (fun z_ => z_ = .pointer (some ⟨g, off + k * 2 + 1, none⟩)), Is (fun z_ => z_ = .int .i64 m), Is (fun z_ => z_ = .pointer (some ⟨gl, ol + m * 2, none⟩)), Is (fun z_ => z_ = .agg #[.int .i64 p.f0, .int .i64 p.f1]), Is (fun z_ => z_ = .bool false), Is (fun z_ => z_ = .bool true)])
              (by kernel_rfl) (by kernel_rfl) (fun _ => RgR.refl _) (fun h k => h.trans k) ?_ (fun _ _ => ⟨(Grow.refl _ _).drew, trivial⟩) ?_
            · (repeat' (first | exact lasts_nil | refine lasts_cons ?_ ?_))
              all_goals (first | exact Lasts.is | exact Lasts.any)
            refine inv_cons 0 (by rfl) (fun wx n_ s_ hn hcl hsi hG hR hd => ?_) (fun v0 => ?_)
            · exact inv_want (by rfl) (inv_move (.tmp 6) rfl (post_upN (F := Is (fun z_ => z_ = .slice (some ⟨gx, ox, none⟩) ls.length cx2)) hG (is_eq rfl)))
            simp only [Act.put, List.setIfInBounds_toArray, List.set_cons_zero, List.set_cons_succ, List.nil_append, List.cons_append]
            refine inv_cons 1 (by rfl) (fun wx n_ s_ hn hcl hsi hG hR hd => ?_) (fun v1 => ?_)
            · exact inv_want (by rfl) (inv_move (.tmp 1) rfl (post_upN (F := Is (fun z_ => z_ = .slice (some ⟨g, off, none⟩) ms.length cap2)) hG (is_eq rfl)))
            simp only [Act.put, List.setIfInBounds_toArray, List.set_cons_zero, List.set_cons_succ, List.nil_append, List.cons_append]
            refine inv_cons 2 (by rfl) (fun wx n_ s_ hn hcl hsi hG hR hd => ?_) (fun v2 => ?_)
            · exact inv_want (by rfl) (inv_move (.tmp 5) rfl (post_upN (F := Is (fun z_ => z_ = .int .i64 k)) hG (is_eq rfl)))
            simp only [Act.put, List.setIfInBounds_toArray, List.set_cons_zero, List.set_cons_succ, List.nil_append, List.cons_append]
            refine inv_cons 3 (by rfl) (fun wx n_ s_ hn hcl hsi hG hR hd => ?_) (fun v3 => ?_)
            · have d1 : (Is (fun z_ => z_ = .slice (some ⟨g, off, none⟩) ms.length cap2)) v1 wx := dep_get hd 1 (by rfl)
              obtain rfl := d1
              have d2 : (Is (fun z_ => z_ = .int .i64 k)) v2 wx := dep_get hd 2 (by rfl)
              obtain rfl := d2
              refine inv_want (by rfl) ?_
              have HG := Lib.hid hG
              clear hG hR hcl hsi hn
              unfold invAt invUpon; go_simp
              exact post_upN (F := Is (fun z_ => z_ = .pointer (some ⟨g, off + k * 2, none⟩))) HG.out (is_eq rfl)
            simp only [Act.put, List.setIfInBounds_toArray, List.set_cons_zero, List.set_cons_succ, List.nil_append, List.cons_append]
            refine inv_cons 4 (by rfl) (fun wx n_ s_ hn hcl hsi hG hR hd => ?_) (fun v4 => ?_)
            · have d3 : (Is (fun z_ => z_ = .pointer (some ⟨g, off + k * 2, none⟩))) v3 wx := dep_get hd 3 (by rfl)
              obtain rfl := d3
              refine inv_want (by rfl) ?_
              have HG := Lib.hid hG
              clear hG hR hcl hsi hn
              unfold invAt invUpon; go_simp
              exact post_upN (F := Is (fun z_ => z_ = .pointer (some ⟨g, off + k * 2 + 1, none⟩))) HG.out (is_eq rfl)
            simp only [Act.put, List.setIfInBounds_toArray, List.set_cons_zero, List.set_cons_succ, List.nil_append, List.cons_append]
            refine inv_cons 5 (by rfl) (fun wx n_ s_ hn hcl hsi hG hR hd => ?_) (fun v5 => ?_)
            · have d4 : (Is (fun z_ => z_ = .pointer (some ⟨g, off + k * 2 + 1, none⟩))) v4 wx := dep_get hd 4 (by rfl)
              obtain rfl := d4
              have xb0 := cell_grow (c1) hG.grow (fun h => h)
              refine inv_want (by rfl) ?_
              have HG := Lib.hid hG
              clear hG hR hcl hsi hn
              unfold invAt invUpon; go_simp
              exact post_upN (F := Is (fun z_ => z_ = .int .i64 m)) HG.out (is_eq rfl)
            simp only [Act.put, List.setIfInBounds_toArray, List.set_cons_zero, List.set_cons_succ, List.nil_append, List.cons_append]
            refine inv_cons 6 (by rfl) (fun wx n_ s_ hn hcl hsi hG hR hd => ?_) (fun v6 => ?_)
            · have d0 : (Is (fun z_ => z_ = .slice (some ⟨gx, ox, none⟩) ls.length cx2)) v0 wx := dep_get hd 0 (by rfl)
              obtain rfl := d0
              have d5 : (Is (fun z_ => z_ = .int .i64 m)) v5 wx := dep_get hd 5 (by rfl)
              obtain rfl := d5
              refine inv_want (by rfl) ?_
              have HG := Lib.hid hG
              clear hG hR hcl hsi hn
              unfold invAt invUpon; go_simp
              exact post_upN (F := Is (fun z_ => z_ = .pointer (some ⟨gx, ox + m * 2, none⟩))) HG.out (is_eq rfl)
            simp only [Act.put, List.setIfInBounds_toArray, List.set_cons_zero, List.set_cons_succ, List.nil_append, List.cons_append]
            refine inv_cons 7 (by rfl) (fun wx n_ s_ hn hcl hsi hG hR hd => ?_) (fun v7 => ?_)
            · have d6 : (Is (fun z_ => z_ = .pointer (some ⟨gx, ox + m * 2, none⟩))) v6 wx := dep_get hd 6 (by rfl)
              obtain rfl := d6
              have xb0 := cell_grow (x0) hG.grow (fun h => h)
              have xb1 := cell_grow (x1) hG.grow (fun h => h)
              refine inv_want (by rfl) ?_
              have HG := Lib.hid hG
              clear hG hR hcl hsi hn
              unfold invAt invUpon; go_simp
              exact post_upN (F := Is (fun z_ => z_ = .agg #[.int .i64 q.f0, .int .i64 q.f1])) HG.out (is_eq rfl)
            simp only [Act.put, List.setIfInBounds_toArray, List.set_cons_zero, List.set_cons_succ, List.nil_append, List.cons_append]
            refine inv_cons 8 (by rfl) (fun wx n_ s_ hn hcl hsi hG hR hd => ?_) (fun v8 => ?_)
            · exact inv_want (by rfl) (inv_move (.tmp 0) rfl (post_upN (F := Is (fun z_ => z_ = .slice (some ⟨gl, ol, none⟩) ls.length cap)) hG (is_eq rfl)))
            simp only [Act.put, List.setIfInBounds_toArray, List.set_cons_zero, List.set_cons_succ, List.nil_append, List.cons_append]
            refine inv_cons 9 (by rfl) (fun wx n_ s_ hn hcl hsi hG hR hd => ?_) (fun v9 => ?_)
            · exact inv_want (by rfl) (inv_move (.tmp 1) rfl (post_upN (F := Is (fun z_ => z_ = .slice (some ⟨g, off, none⟩) ms.length cap2)) hG (is_eq rfl)))
            simp only [Act.put, List.setIfInBounds_toArray, List.set_cons_zero, List.set_cons_succ, List.nil_append, List.cons_append]
            refine inv_cons 10 (by rfl) (fun wx n_ s_ hn hcl hsi hG hR hd => ?_) (fun v10 => ?_)
            · exact inv_want (by rfl) (inv_move (.tmp 5) rfl (post_upN (F := Is (fun z_ => z_ = .int .i64 k)) hG (is_eq rfl)))
            simp only [Act.put, List.setIfInBounds_toArray, List.set_cons_zero, List.set_cons_succ, List.nil_append, List.cons_append]
            refine inv_cons 11 (by rfl) (fun wx n_ s_ hn hcl hsi hG hR hd => ?_) (fun v11 => ?_)
            · have d9 : (Is (fun z_ => z_ = .slice (some ⟨g, off, none⟩) ms.length cap2)) v9 wx := dep_get hd 9 (by rfl)
              obtain rfl := d9
              have d10 : (Is (fun z_ => z_ = .int .i64 k)) v10 wx := dep_get hd 10 (by rfl)
              obtain rfl := d10
              refine inv_want (by rfl) ?_
              have HG := Lib.hid hG
              clear hG hR hcl hsi hn
              unfold invAt invUpon; go_simp
              exact post_upN (F := Is (fun z_ => z_ = .pointer (some ⟨g, off + k * 2, none⟩))) HG.out (is_eq rfl)
            simp only [Act.put, List.setIfInBounds_toArray, List.set_cons_zero, List.set_cons_succ, List.nil_append, List.cons_append]
            refine inv_cons 12 (by rfl) (fun wx n_ s_ hn hcl hsi hG hR hd => ?_) (fun v12 => ?_)
            · have d11 : (Is (fun z_ => z_ = .pointer (some ⟨g, off + k * 2, none⟩))) v11 wx := dep_get hd 11 (by rfl)
              obtain rfl := d11
              refine inv_want (by rfl) ?_
              have HG := Lib.hid hG
              clear hG hR hcl hsi hn
              unfold invAt invUpon; go_simp
              exact post_upN (F := Is (fun z_ => z_ = .pointer (some ⟨g, off + k * 2 + 1, none⟩))) HG.out (is_eq rfl)
            simp only [Act.put, List.setIfInBounds_toArray, List.set_cons_zero, List.set_cons_succ, List.nil_append, List.cons_append]
            refine inv_cons 13 (by rfl) (fun wx n_ s_ hn hcl hsi hG hR hd => ?_) (fun v13 => ?_)
            · have d12 : (Is (fun z_ => z_ = .pointer (some ⟨g, off + k * 2 + 1, none⟩))) v12 wx := dep_get hd 12 (by rfl)
              obtain rfl := d12
              have xb0 := cell_grow (c1) hG.grow (fun h => h)
              refine inv_want (by rfl) ?_
              have HG := Lib.hid hG
              clear hG hR hcl hsi hn
              unfold invAt invUpon; go_simp
              exact post_upN (F := Is (fun z_ => z_ = .int .i64 m)) HG.out (is_eq rfl)
            simp only [Act.put, List.setIfInBounds_toArray, List.set_cons_zero, List.set_cons_succ, List.nil_append, List.cons_append]
            refine inv_cons 14 (by rfl) (fun wx n_ s_ hn hcl hsi hG hR hd => ?_) (fun v14 => ?_)
            · have d8 : (Is (fun z_ => z_ = .slice (some ⟨gl, ol, none⟩) ls.length cap)) v8 wx := dep_get hd 8 (by rfl)
              obtain rfl := d8
              have d13 : (Is (fun z_ => z_ = .int .i64 m)) v13 wx := dep_get hd 13 (by rfl)
              obtain rfl := d13
              refine inv_want (by rfl) ?_
              have HG := Lib.hid hG
              clear hG hR hcl hsi hn
              unfold invAt invUpon; go_simp
              exact post_upN (F := Is (fun z_ => z_ = .pointer (some ⟨gl, ol + m * 2, none⟩))) HG.out (is_eq rfl)
            simp only [Act.put, List.setIfInBounds_toArray, List.set_cons_zero, List.set_cons_succ, List.nil_append, List.cons_append]
            refine inv_cons 15 (by rfl) (fun wx n_ s_ hn hcl hsi hG hR hd => ?_) (fun v15 => ?_)
            · have d14 : (Is (fun z_ => z_ = .pointer (some ⟨gl, ol + m * 2, none⟩))) v14 wx := dep_get hd 14 (by rfl)
              obtain rfl := d14
              have xb0 := cell_grow (p0) hG.grow (fun h => h)
              have xb1 := cell_grow (p1) hG.grow (fun h => h)
              refine inv_want (by rfl) ?_
              have HG := Lib.hid hG
              clear hG hR hcl hsi hn
              unfold invAt invUpon; go_simp
              exact post_upN (F := Is (fun z_ => z_ = .agg #[.int .i64 p.f0, .int .i64 p.f1])) HG.out (is_eq rfl)
            simp only [Act.put, List.setIfInBounds_toArray, List.set_cons_zero, List.set_cons_succ, List.nil_append, List.cons_append]
            refine inv_cons 16 (by rfl) (fun wx n_ s_ hn hcl hsi hG hR hd => ?_) (fun v16 => ?_)
            · have d7 : (Is (fun z_ => z_ = .agg #[.int .i64 q.f0, .int .i64 q.f1])) v7 wx := dep_get hd 7 (by rfl)
              obtain rfl := d7
              have d15 : (Is (fun z_ => z_ = .agg #[.int .i64 p.f0, .int .i64 p.f1])) v15 wx := dep_get hd 15 (by rfl)
              obtain rfl := d15
              refine inv_want (by rfl) ?_
              have HG := Lib.hid hG
              clear hG hR hcl hsi hn
              unfold invAt invUpon; go_simp
              refine (CB.out wx).mono ?_
              rintro e w' ⟨rfl, hb⟩
              exact ⟨_, rfl, post_newN (F := Is (fun z_ => z_ = .bool false)) KXr HG.out hb (is_eq rfl)⟩
            simp only [Act.put, List.setIfInBounds_toArray, List.set_cons_zero, List.set_cons_succ, List.nil_append, List.cons_append]
            refine inv_cons 17 (by rfl) (fun wx n_ s_ hn hcl hsi hG hR hd => ?_) (fun v17 => ?_)
            · have d16 : (Is (fun z_ => z_ = .bool false)) v16 wx := dep_get hd 16 (by rfl)
              obtain rfl := d16
              refine inv_want (by rfl) ?_
              have HG := Lib.hid hG
              clear hG hR hcl hsi hn
              unfold invAt invUpon; go_simp
              exact post_upN (F := Is (fun z_ => z_ = .bool true)) HG.out (is_eq rfl)
            simp only [Act.put, List.setIfInBounds_toArray, List.set_cons_zero, List.set_cons_succ, List.nil_append, List.cons_append]
            refine inv_nil (fun wq nq sq hnq hGq hRq hall => ?_)
            obtain ⟨f0, f1, f2, f3, f4, f5, f6, f7, f8, f9, f10, f11, f12, f13, f14, f15, f16, f17, -⟩ := hall
            obtain rfl : v17 = .bool true := f17
            have hBq := Below.via (Grow.below0 hGq.grow) hB5
            have hX := Lib.hid (hXk.out.trans (hno.out (hlk2.out.symm.trans hbel)))
            go_wp2_with fail
            go_ret
            exact ⟨by rw [hX.out]; rfl, hBq⟩
          · rw [hbel] at CB
            go_wp2_with fail
            have KXr : KeepB (fun _ => True) ∧ KeepB (fun _ => True) := ⟨keepB_true, keepB_true⟩
            refine wp_region_inv (G := fun s n w_ => RgN (fun _ => False) (fun _ => True) w5 w_) (R := RgR (fun _ => False) (fun _ => True))
              (Fs := [Is (fun z_ => z_ = .slice (some ⟨gx, ox, none⟩) ls.length cx2), Is (fun z_ => z_ = .slice (some ⟨g, off, none⟩) ms.length cap2), Is (fun z_ => z_ = .int .i64 k), Is (fun z_ => z_ = .pointer (some ⟨g, off + k * 2, none⟩)), Is (fun z_ => z_ = .pointer (some ⟨g, off + k * 2 + 1, none⟩)), Is (fun z_ => z_ = .int .i64 m), Is (fun z_ => z_ = .pointer (some ⟨gx, ox + m * 2, none⟩)), Is (fun z_ => z_ = .agg #[.int .i64 q.f0, .int .i64 q.f1]), Is (fun z_ => z_ = .slice (some ⟨gl, ol, none⟩) ls.length cap), Is (fun z_ => z_ = .slice (some ⟨g, off, none⟩) ms.length cap2), Is (fun z_ => z_ = .int .i64 k), Is (fun z_ => z_ = .pointer (some ⟨g, off + k * 2, none⟩)), Is (fun z_ => z_ = .pointer (some ⟨g, off + k * 2 + 1, none⟩)), Is (fun z_ => z_ = .int .i64 m), Is (fun z_ => z_ = .pointer (some ⟨gl, ol + m * 2, none⟩)), Is (fun z_ => z_ = .agg #[.int .i64 p.f0, .int .i64 p.f1]), Is (fun z_ => z_ = .bool true), Is (fun z_ => z_ = .bool false)])
              (by kernel_rfl) (by kernel_rfl) (fun _ => RgR.refl _) (fun h k => h.trans k) ?_ (fun _ _ => ⟨(Grow.refl _ _).drew, trivial⟩) ?_
            · (repeat' (first | exact lasts_nil | refine lasts_cons ?_ ?_))
              all_goals (first | exact Lasts.is | exact Lasts.any)
            refine inv_cons 0 (by rfl) (fun wx n_ s_ hn hcl hsi hG hR hd => ?_) (fun v0 => ?_)
            · exact inv_want (by rfl) (inv_move (.tmp 6) rfl (post_upN (F := Is (fun z_ => z_ = .slice (some ⟨gx, ox, none⟩) ls.length cx2)) hG (is_eq rfl)))
            simp only [Act.put, List.setIfInBounds_toArray, List.set_cons_zero, List.set_cons_succ, List.nil_append, List.cons_append]
            refine inv_cons 1 (by rfl) (fun wx n_ s_ hn hcl hsi hG hR hd => ?_) (fun v1 => ?_)
            · exact inv_want (by rfl) (inv_move (.tmp 1) rfl (post_upN (F := Is (fun z_ => z_ = .slice (some ⟨g, off, none⟩) ms.length cap2)) hG (is_eq rfl)))
            simp only [Act.put, List.setIfInBounds_toArray, List.set_cons_zero, List.set_cons_succ, List.nil_append, List.cons_append]
            refine inv_cons 2 (by rfl) (fun wx n_ s_ hn hcl hsi hG hR hd => ?_) (fun v2 => ?_)
            · exact inv_want (by rfl) (inv_move (.tmp 5) rfl (post_upN (F := Is (fun z_ => z_ = .int .i64 k)) hG (is_eq rfl)))
            simp only [Act.put, List.setIfInBounds_toArray, List.set_cons_zero, List.set_cons_succ, List.nil_append, List.cons_append]
            refine inv_cons 3 (by rfl) (fun wx n_ s_ hn hcl hsi hG hR hd => ?_) (fun v3 => ?_)
            · have d1 : (Is (fun z_ => z_ = .slice (some ⟨g, off, none⟩) ms.length cap2)) v1 wx := dep_get hd 1 (by rfl)
              obtain rfl := d1
              have d2 : (Is (fun z_ => z_ = .int .i64 k)) v2 wx := dep_get hd 2 (by rfl)
              obtain rfl := d2
              refine inv_want (by rfl) ?_
              have HG := Lib.hid hG
              clear hG hR hcl hsi hn
              unfold invAt invUpon; go_simp
              exact post_upN (F := Is (fun z_ => z_ = .pointer (some ⟨g, off + k * 2, none⟩))) HG.out (is_eq rfl)
            simp only [Act.put, List.setIfInBounds_toArray, List.set_cons_zero, List.set_cons_succ, List.nil_append, List.cons_append]
            refine inv_cons 4 (by rfl) (fun wx n_ s_ hn hcl hsi hG hR hd => ?_) (fun v4 => ?_)
            · have d3 : (Is (fun z_ => z_ = .pointer (some ⟨g, off + k * 2, none⟩))) v3 wx := dep_get hd 3 (by rfl)
              obtain rfl := d3
              refine inv_want (by rfl) ?_
              have HG := Lib.hid hG
              clear hG hR hcl hsi hn
              unfold invAt invUpon; go_simp
              exact post_upN (F := Is (fun z_ => z_ = .pointer (some ⟨g, off + k * 2 + 1, none⟩))) HG.out (is_eq rfl)
            simp only [Act.put, List.setIfInBounds_toArray, List.set_cons_zero, List.set_cons_succ, List.nil_append, List.cons_append]
            refine inv_cons 5 (by rfl) (fun wx n_ s_ hn hcl hsi hG hR hd => ?_) (fun v5 => ?_)
            · have d4 : (Is (fun z_ => z_ = .pointer (some ⟨g, off + k * 2 + 1, none⟩))) v4 wx := dep_get hd 4 (by rfl)
              obtain rfl := d4
              have xb0 := cell_grow (c1) hG.grow (fun h => h)
              refine inv_want (by rfl) ?_
              have HG := Lib.hid hG
              clear hG hR hcl hsi hn
              unfold invAt invUpon; go_simp
              exact post_upN (F := Is (fun z_ => z_ = .int .i64 m)) HG.out (is_eq rfl)
            simp only [Act.put, List.setIfInBounds_toArray, List.set_cons_zero, List.set_cons_succ, List.nil_append, List.cons_append]
            refine inv_cons 6 (by rfl) (fun wx n_ s_ hn hcl hsi hG hR hd => ?_) (fun v6 => ?_)
            · have d0 : (Is (fun z_ => z_ = .slice (some ⟨gx, ox, none⟩) ls.length cx2)) v0 wx := dep_get hd 0 (by rfl)
              obtain rfl := d0
              have d5 : (Is (fun z_ => z_ = .int .i64 m)) v5 wx := dep_get hd 5 (by rfl)
              obtain rfl := d5
              refine inv_want (by rfl) ?_
              have HG := Lib.hid hG
              clear hG hR hcl hsi hn
              unfold invAt invUpon; go_simp
              exact post_upN (F := Is (fun z_ => z_ = .pointer (some ⟨gx, ox + m * 2, none⟩))) HG.out (is_eq rfl)
            simp only [Act.put, List.setIfInBounds_toArray, List.set_cons_zero, List.set_cons_succ, List.nil_append, List.cons_append]
            refine inv_cons 7 (by rfl) (fun wx n_ s_ hn hcl hsi hG hR hd => ?_) (fun v7 => ?_)
            · have d6 : (Is (fun z_ => z_ = .pointer (some ⟨gx, ox + m * 2, none⟩))) v6 wx := dep_get hd 6 (by rfl)
              obtain rfl := d6
              have xb0 := cell_grow (x0) hG.grow (fun h => h)
              have xb1 := cell_grow (x1) hG.grow (fun h => h)
              refine inv_want (by rfl) ?_
              have HG := Lib.hid hG
              clear hG hR hcl hsi hn
              unfold invAt invUpon; go_simp
              exact post_upN (F := Is (fun z_ => z_ = .agg #[.int .i64 q.f0, .int .i64 q.f1])) HG.out (is_eq rfl)
            simp only [Act.put, List.setIfInBounds_toArray, List.set_cons_zero, List.set_cons_succ, List.nil_append, List.cons_append]
            refine inv_cons 8 (by rfl) (fun wx n_ s_ hn hcl hsi hG hR hd => ?_) (fun v8 => ?_)
            · exact inv_want (by rfl) (inv_move (.tmp 0) rfl (post_upN (F := Is (fun z_ => z_ = .slice (some ⟨gl, ol, none⟩) ls.length cap)) hG (is_eq rfl)))
            simp only [Act.put, List.setIfInBounds_toArray, List.set_cons_zero, List.set_cons_succ, List.nil_append, List.cons_append]
            refine inv_cons 9 (by rfl) (fun wx n_ s_ hn hcl hsi hG hR hd => ?_) (fun v9 => ?_)
            · exact inv_want (by rfl) (inv_move (.tmp 1) rfl (post_upN (F := Is (fun z_ => z_ = .slice (some ⟨g, off, none⟩) ms.length cap2)) hG (is_eq rfl)))
            simp only [Act.put, List.setIfInBounds_toArray, List.set_cons_zero, List.set_cons_succ, List.nil_append, List.cons_append]
            refine inv_cons 10 (by rfl) (fun wx n_ s_ hn hcl hsi hG hR hd => ?_) (fun v10 => ?_)
            · exact inv_want (by rfl) (inv_move (.tmp 5) rfl (post_upN (F := Is (fun z_ => z_ = .int .i64 k)) hG (is_eq rfl)))
            simp only [Act.put, List.setIfInBounds_toArray, List.set_cons_zero, List.set_cons_succ, List.nil_append, List.cons_append]
            refine inv_cons 11 (by rfl) (fun wx n_ s_ hn hcl hsi hG hR hd => ?_) (fun v11 => ?_)
            · have d9 : (Is (fun z_ => z_ = .slice (some ⟨g, off, none⟩) ms.length cap2)) v9 wx := dep_get hd 9 (by rfl)
              obtain rfl := d9
              have d10 : (Is (fun z_ => z_ = .int .i64 k)) v10 wx := dep_get hd 10 (by rfl)
              obtain rfl := d10
              refine inv_want (by rfl) ?_
              have HG := Lib.hid hG
              clear hG hR hcl hsi hn
              unfold invAt invUpon; go_simp
              exact post_upN (F := Is (fun z_ => z_ = .pointer (some ⟨g, off + k * 2, none⟩))) HG.out (is_eq rfl)
            simp only [Act.put, List.setIfInBounds_toArray, List.set_cons_zero, List.set_cons_succ, List.nil_append, List.cons_append]
            refine inv_cons 12 (by rfl) (fun wx n_ s_ hn hcl hsi hG hR hd => ?_) (fun v12 => ?_)
            · have d11 : (Is (fun z_ => z_ = .pointer (some ⟨g, off + k * 2, none⟩))) v11 wx := dep_get hd 11 (by rfl)
              obtain rfl := d11
              refine inv_want (by rfl) ?_
              have HG := Lib.hid hG
              clear hG hR hcl hsi hn
              unfold invAt invUpon; go_simp
              exact post_upN (F := Is (fun z_ => z_ = .pointer (some ⟨g, off + k * 2 + 1, none⟩))) HG.out (is_eq rfl)
            simp only [Act.put, List.setIfInBounds_toArray, List.set_cons_zero, List.set_cons_succ, List.nil_append, List.cons_append]
            refine inv_cons 13 (by rfl) (fun wx n_ s_ hn hcl hsi hG hR hd => ?_) (fun v13 => ?_)
            · have d12 : (Is (fun z_ => z_ = .pointer (some ⟨g, off + k * 2 + 1, none⟩))) v12 wx := dep_get hd 12 (by rfl)
              obtain rfl := d12
              have xb0 := cell_grow (c1) hG.grow (fun h => h)
              refine inv_want (by rfl) ?_
              have HG := Lib.hid hG
              clear hG hR hcl hsi hn
              unfold invAt invUpon; go_simp
              exact post_upN (F := Is (fun z_ => z_ = .int .i64 m)) HG.out (is_eq rfl)
            simp only [Act.put, List.setIfInBounds_toArray, List.set_cons_zero, List.set_cons_succ, List.nil_append, List.cons_append]
            refine inv_cons 14 (by rfl) (fun wx n_ s_ hn hcl hsi hG hR hd => ?_) (fun v14 => ?_)
            · have d8 : (Is (fun z_ => z_ = .slice (some ⟨gl, ol, none⟩) ls.length cap)) v8 wx := dep_get hd 8 (by rfl)
              obtain rfl := d8
              have d13 : (Is (fun z_ => z_ = .int .i64 m)) v13 wx := dep_get hd 13 (by rfl)
              obtain rfl := d13
              refine inv_want (by rfl) ?_
              have HG := Lib.hid hG
              clear hG hR hcl hsi hn
              unfold invAt invUpon; go_simp
              exact post_upN (F := Is (fun z_ => z_ = .pointer (some ⟨gl, ol + m * 2, none⟩))) HG.out (is_eq rfl)
            simp only [Act.put, List.setIfInBounds_toArray, List.set_cons_zero, List.set_cons_succ, List.nil_append, List.cons_append]
            refine inv_cons 15 (by rfl) (fun wx n_ s_ hn hcl hsi hG hR hd => ?_) (fun v15 => ?_)
            · have d14 : (Is (fun z_ => z_ = .pointer (some ⟨gl, ol + m * 2, none⟩))) v14 wx := dep_get hd 14 (by rfl)
              obtain rfl := d14
              have xb0 := cell_grow (p0) hG.grow (fun h => h)
              have xb1 := cell_grow (p1) hG.grow (fun h => h)
              refine inv_want (by rfl) ?_
              have HG := Lib.hid hG
              clear hG hR hcl hsi hn
              unfold invAt invUpon; go_simp
              exact post_upN (F := Is (fun z_ => z_ = .agg #[.int .i64 p.f0, .int .i64 p.f1])) HG.out (is_eq rfl)
            simp only [Act.put, List.setIfInBounds_toArray, List.set_cons_zero, List.set_cons_succ, List.nil_append, List.cons_append]
            refine inv_cons 16 (by rfl) (fun wx n_ s_ hn hcl hsi hG hR hd => ?_) (fun v16 => ?_)
            · have d7 : (Is (fun z_ => z_ = .agg #[.int .i64 q.f0, .int .i64 q.f1])) v7 wx := dep_get hd 7 (by rfl)
              obtain rfl := d7
              have d15 : (Is (fun z_ => z_ = .agg #[.int .i64 p.f0, .int .i64 p.f1])) v15 wx := dep_get hd 15 (by rfl)
              obtain rfl := d15
              refine inv_want (by rfl) ?_
              have HG := Lib.hid hG
              clear hG hR hcl hsi hn
              unfold invAt invUpon; go_simp
              refine (CB.out wx).mono ?_
              rintro e w' ⟨rfl, hb⟩
              exact ⟨_, rfl, post_newN (F := Is (fun z_ => z_ = .bool true)) KXr HG.out hb (is_eq rfl)⟩
            simp only [Act.put, List.setIfInBounds_toArray, List.set_cons_zero, List.set_cons_succ, List.nil_append, List.cons_append]
            refine inv_cons 17 (by rfl) (fun wx n_ s_ hn hcl hsi hG hR hd => ?_) (fun v17 => ?_)
            · have d16 : (Is (fun z_ => z_ = .bool true)) v16 wx := dep_get hd 16 (by rfl)
              obtain rfl := d16
              refine inv_want (by rfl) ?_
              have HG := Lib.hid hG
              clear hG hR hcl hsi hn
              unfold invAt invUpon; go_simp
              exact post_upN (F := Is (fun z_ => z_ = .bool false)) HG.out (is_eq rfl)
            simp only [Act.put, List.setIfInBounds_toArray, List.set_cons_zero, List.set_cons_succ, List.nil_append, List.cons_append]
            refine inv_nil (fun wq nq sq hnq hGq hRq hall => ?_)
            obtain ⟨f0, f1, f2, f3, f4, f5, f6, f7, f8, f9, f10, f11, f12, f13, f14, f15, f16, f17, -⟩ := hall
            obtain rfl : v17 = .bool false := f17
            have hBq := Below.via (Grow.below0 hGq.grow) hB5
            have hX := Lib.hid (hXk.out.trans (hyes.out (hlk2.out.symm.trans hbel)))
            go_wp2_with fail
            go_roundw
            case rel => exact ⟨k + 1, by omega, by go_num, hX, hBq⟩
            case measure => simp [intOf]; omega
        · have hf := Lib.hid (hXk.out.trans (leakR_end ls ms k hlt))
          have hlt2 : ¬ (k : Int) < (ms.length : Int) := by omega
          go_wp2_with fail
          go_ret
          exact ⟨by rw [hf.out]; rfl, hB⟩
end Go.Proofs.Ytfghgpdhcpcoiaa
