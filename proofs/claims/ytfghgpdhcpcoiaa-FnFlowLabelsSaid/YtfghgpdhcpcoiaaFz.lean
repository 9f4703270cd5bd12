/-
  Flows of labels: the reference's way. No condition.
-/
import Derived.Test.YtfghgpdhcpcoiaaFy
set_option linter.unusedSimpArgs false
set_option linter.unusedVariables false
namespace Go.Proofs.Ytfghgpdhcpcoiaa
open Go.RowKit
theorem RowB.far {w : World} {lo g cap : Nat} {ds : List Lab} (h : RowB w lo g cap ds) (b o : Nat) (hb : b ≠ g) (v : Value) : RowB (w.setCell ⟨b, o, none⟩ v) lo g cap ds := by
  obtain ⟨cur, hk, r⟩ := h
  exact ⟨cur, hk.far ⟨b, o, none⟩ hb v, r⟩
theorem join_ok (a b : Lab) (ha : labOk a = true) (hb : labOk b = true) : join1 a.f0 a.f1 b.f0 b.f1 = (joinB a b).f0 ∧ join2 a.f0 a.f1 b.f0 b.f1 = (joinB a b).f1 := by
  unfold labOk at ha hb
  simp [join1, join2, joinB, ha, hb]
theorem flowTo_ok (ls : List Lab) (h : ls.all labOk = true) (ms : List Mv) (k : Nat) : (flowTo ls ms k).all labOk = true := flow_ok _ _ h
set_option maxRecDepth 100000 in
set_option maxHeartbeats 12800000 in
theorem specFlow_any (ls : List Lab) (ms : List Mv) (v u : Value) (w : World) (h : SlB w v ls) (hm : SlM w u ms) : Calls Try.prog 19 #[v, u] w (NewB (flowR ls ms) w) := by
  obtain ⟨a, cap, rfl, h1, h2⟩ := SlF.shape h
  obtain ⟨a2, cap2, rfl, h3, h4⟩ := SlM.shape hm
  unfold maxLen at h2 h4
  have H := Lib.hid h
  have HM := Lib.hid hm
  clear h hm
  have hmk0 : ∀ w : World, (Instr.buildSlice 39 0 #[]).run Try.prog w = .ok (.slice (some ⟨w.heap.size, 0, none⟩) 0 0) (w.alloc (.cells #[] 49)) := fun w => by kernel_rfl
  have CL1 := fun wx h => l33_any ls (.slice a ls.length cap) wx h
  have CM1 := fun wx h => specMvValid_any ls.length ms (.slice a2 ms.length cap2) wx h
  rw [← mvValid_eq] at CM1
  cases hl : (ls.all labOk && inR ls.length 1 6)
  · have hR : flowR ls ms = [] := by
      cases ha : ls.all labOk
      · exact flow_bad1 ls ms ha
      · rw [ha, Bool.true_and] at hl
        refine flow_bad2 ls ms ?_
        cases hv : mvValidI ls.length ms
        · rfl
        · rw [flow_one ls ms hv] at hl; cases hl
    rw [hR]
    rw [hl] at CL1
    clear hl hR
    go_enter Try.func19, Try.ntmps19
    go_wp2_with fail
    refine (CL1 _ H.out).mono ?_
    rintro e w1 ⟨rfl, b1⟩
    have hB1 := Below.al b1 (.cells #[] 49)
    have ho := own_made w1 w.heap.size 49 2 b1.size
    go_wp2_with fail
    go_ret
    exact ⟨_, rfl, ho, hB1⟩
  · rw [hl] at CL1
    rw [Bool.and_eq_true] at hl
    cases hv : mvValidI ls.length ms
    · rw [flow_bad2 ls ms hv]
      rw [hv] at CM1
      clear hl hv
      go_enter Try.func19, Try.ntmps19
      go_wp2_with fail
      refine (CL1 _ H.out).mono ?_
      rintro e w1 ⟨rfl, b1⟩
      go_wp2_with fail
      refine (CM1 _ (SlM.below HM.out b1)).mono ?_
      rintro e w2 ⟨rfl, b2⟩
      have hB2 := Below.via b2 b1
      have hB3 := Below.al hB2 (.cells #[] 49)
      have ho := own_made w2 w.heap.size 49 2 hB2.size
      go_wp2_with fail
      go_ret
      exact ⟨_, rfl, ho, hB3⟩
    · obtain ⟨hok, hR⟩ := flow_good ls ms hl.1 hv
      rw [hR]
      have F := flowOk_of hok
      rw [hv] at CM1
      have hlo := F.lo
      have hhi := F.hi
      have hmm := F.many
      have FW := Lib.hid F.wr
      have FR := Lib.hid F.rd
      have FL := Lib.hid F.labs
      clear F hR hok hl hv
      obtain ⟨gl, ol, cl, hvl, _, _, _⟩ := SlF.at H.out (by omega)
      simp only [Value.slice.injEq] at hvl
      obtain ⟨rfl, -, rfl⟩ := hvl
      go_enter Try.func19, Try.ntmps19
      go_wp2_with fail
      refine (CL1 _ H.out).mono ?_
      rintro e w1 ⟨rfl, b1⟩
      go_wp2_with fail
      refine (CM1 _ (SlM.below HM.out b1)).mono ?_
      rintro e w2 ⟨rfl, b2⟩
      have hB2 := Below.via b2 b1
      have hz2 := hB2.size
      clear CL1 CM1
      have hA2 := Below.al (Below.refl w2.heap.size w2) (.cells #[] 49)
      have hs2 := Lib.hid (SlF.below (SlF.below H.out hB2) hA2)
      go_wp2_with (at_builtin; refine Hid.out ?_); refine Lib.hid ?_
      refine wpList_appS (s := .tmp 20) (x := .tmp 21) rfl 39 49 (.agg #[.int .i64 0, .int .i64 0]) 2 16 rfl Try.underlying39 infoB rfl (by decide) (by decide) w2.heap.size (.slice (some ⟨w2.heap.size, 0, none⟩) 0 0) 0 [] (by rfl) (own_made w2 _ _ _ (Nat.le_refl _)) (.slice (some ⟨gl, ol, none⟩) ls.length cap) ls.length (cellsB ls) (by rfl) hs2.out (cellsB_one ls) (by omega) (by simp) ?_
      intro v4 w3 ho4 hg4 _ hn4
      have b3 : Below w2.heap.size w2 w3 := Below.grown hA2 hg4 (by simp only [World.size_alloc]; omega) (own_gt (own_made w2 _ 49 2 (Nat.le_refl _)))
      simp only [Nat.zero_add, List.nil_append] at ho4
      obtain ⟨g4, c4, rfl, hr4⟩ := RowB.of ho4 (hn4 (by simp))
      have HR3 := Lib.hid hr4
      have hB3 := Below.via b3 hB2
      clear hg4 hn4 ho4 hr4 hmk0 hA2 hs2
      go_wp2_with fail
      go_loopw [6] (fun i wr => ∃ k : Nat, k ≤ ms.length ∧ i = .int .i64 k ∧ Hid (RowB wr w.heap.size g4 c4 (flowTo ls ms k)) ∧ Below w.heap.size w wr) (fun i _ => ms.length - (intOf i).toNat)
      case atStart => exact ⟨0, Nat.zero_le _, rfl, (by obtain ⟨cur, k1, k2, k3, k4, k5, k6⟩ := HR3.out; exact ⟨cur, k1, k2, k3, k4, by omega, k6⟩), hB3⟩
      case round =>
        obtain ⟨k, hk, rfl, hrow, hB⟩ := hrel
        obtain ⟨wo, hwo⟩ : ∃ wo : World, wo = wr := ⟨_, rfl⟩
        subst hwo
        by_cases hlt : k < ms.length
        · obtain ⟨g, off, cx, au, cu, hvv, _, _, c0, c1, hsl, hcu, hcm⟩ := SlM.cells (SlM.below HM.out hB) k hlt
          simp only [Value.slice.injEq] at hvv
          obtain ⟨rfl, -, rfl⟩ := hvv
          have hst := Lib.hid (flowTo_step ls ms k hlt)
          have hw := FW.out ms[k] (List.getElem_mem hlt)
          have hr := Lib.hid (FR.out ms[k] (List.getElem_mem hlt))
          have hDl := Lib.hid (flowTo_len ls ms k)
          have hDo := Lib.hid (flowTo_ok ls FL.out ms k)
          have HSU := Lib.hid hsl
          clear hsl
          generalize ms[k] = d at c0 c1 HSU hst hw hr hcu
          generalize flowTo ls ms k = D at hrow hst hDl hDo
          obtain ⟨m, hm⟩ : ∃ m : Nat, d.n = m := ⟨d.n.toNat, by omega⟩
          rw [hm] at c1 hw
          have hml : m < ls.length := by omega
          have hml2 : (m : Int) < (ls.length : Int) := by omega
          have hlt2 : (k : Int) < (ms.length : Int) := by omega
          have hst2 := Lib.hid (hst.out.trans (show stF D d = D.set m (wrL D d.xs) by unfold stF; rw [hm]; rfl))
          clear hst hm
          unfold maxLen at hcm
          have hx6 := hr.out.1
          have hA := Below.al (Below.refl wo.heap.size wo) (.cells #[.int .i64 0, .int .i64 0] 49)
          have KO0 := Lib.hid (Bk.new (w := wo) (vs := #[.int .i64 0, .int .i64 0]) (t := 49))
          have HRW := Lib.hid (RowB.below hrow.out hA)
          have hBA := Below.via hA hB
          have hgl := RowB.lt hrow.out
          have hwz := hB.size
          have hC0 := Lib.hid c0
          have hC1 := Lib.hid c1
          have hblk := World.block_lt_of_cell? _ _ c0
          clear c0 c1
          go_wp2_with fail
          go_loopw [8] (fun i wr => ∃ j : Nat, j ≤ d.xs.length ∧ i = .int .i64 j ∧ Hid (Bk wr wo.heap.size #[.int .i64 (wrTo D d.xs j).f0, .int .i64 (wrTo D d.xs j).f1] 49) ∧ Hid (RowB wr w.heap.size g4 c4 D) ∧ Hid (Below wo.heap.size wo wr) ∧ Below w.heap.size w wr) (fun i _ => d.xs.length - (intOf i).toNat)
          case atStart => exact ⟨0, Nat.zero_le _, rfl, KO0.out, HRW.out, hA, hBA⟩
          case round =>
            obtain ⟨j, hj, rfl, hK, hrow2, hBo, hB5⟩ := hrel
            have c0 := (hBo.out.cell (World.block_lt_of_cell? _ _ hC0.out)).trans hC0.out
            have c1 := (hBo.out.cell (World.block_lt_of_cell? _ _ hC1.out)).trans hC1.out
            have KO := hK.out
            have hKz := KO.lt
            by_cases hjl : j < d.xs.length
            · have hjl2 : (j : Int) < (d.xs.length : Int) := by omega
              obtain ⟨gu, ou, cuu, hvv, _, _, cx⟩ := SlI.cell (SlI.below HSU.out hBo.out) j hjl
              simp only [Value.slice.injEq] at hvv
              obtain ⟨rfl, -, rfl⟩ := hvv
              have hwst := Lib.hid (wrTo_step D d.xs j hjl)
              have hn := hr.out.2 d.xs[j] (List.getElem_mem hjl)
              have hlok := Lib.hid (wrL_ok D hDo.out (d.xs.take j))
              generalize d.xs[j] = x at cx hwst hn
              obtain ⟨i, rfl⟩ : ∃ i : Nat, x = i := ⟨x.toNat, by omega⟩
              have hil : i < D.length := by have := hDl.out; omega
              have hil2 : (i : Int) < (ls.length : Int) := by omega
              obtain ⟨x0, x1, xf⟩ := RowB.at hrow2.out i hil
              have hgd : D.getD (i : Int).toNat lab0 = D[i] := by rw [Int.toNat_natCast, List.getD_eq_getElem?_getD, List.getElem?_eq_getElem hil]; rfl
              have hwst2 := Lib.hid (hwst.out.trans (by rw [hgd]))
              have hqok := Lib.hid (List.all_eq_true.1 hDo.out D[i] (List.getElem_mem hil))
              clear hwst hgd xf
              generalize D[i] = q at x0 x1 hwst2 hqok
              have hlok2 : Hid (labOk (wrTo D d.xs j) = true) := hlok
              clear hlok
              generalize hl0 : wrTo D d.xs j = l at KO hK hwst2 hlok2
              clear hl0
              have hjj := Lib.hid (join_ok l q hlok2.out hqok.out)
              have CJ := Lib.hid (fun wx => hjj.out.1 ▸ hjj.out.2 ▸ specJoin_any l.f0 l.f1 q.f0 q.f1 wx)
              go_wp2_with fail
              have KXr : KeepB (fun _ => True) ∧ KeepB (fun _ => True) := ⟨keepB_true, keepB_true⟩
              refine wp_region_invT 13 (G := fun s n w_ => RgN (fun _ => False) (fun _ => True) wr w_) (R := RgR (fun _ => False) (fun _ => True))
                (Fs := [Is (fun z_ => z_ = .agg #[.int .i64 l.f0, .int .i64 l.f1]), Is (fun z_ => z_ = .slice (some ⟨g4, 0, none⟩) ls.length c4), Is (fun z_ => z_ = .slice (some ⟨g, off, none⟩) ms.length cap2), Is (fun z_ => z_ = .int .i64 k), Is (fun z_ => z_ = .pointer (some ⟨g, off + k * 2, none⟩)), Is (fun z_ => z_ = .pointer (some ⟨g, off + k * 2, none⟩)), Is (fun z_ => z_ = .slice (some ⟨gu, ou, none⟩) d.xs.length cu), Is (fun z_ => z_ = .int .i64 j), Is (fun z_ => z_ = .pointer (some ⟨gu, ou + j, none⟩)), Is (fun z_ => z_ = .int .i64 i), Is (fun z_ => z_ = .pointer (some ⟨g4, i * 2, none⟩)), Is (fun z_ => z_ = .agg #[.int .i64 q.f0, .int .i64 q.f1]), Is (fun z_ => z_ = .agg #[.int .i64 (joinB l q).f0, .int .i64 (joinB l q).f1])])
                (by kernel_rfl) (by kernel_rfl) (fun _ => RgR.refl _) (fun h k => h.trans k) ?_ (fun _ _ => ⟨(Grow.refl _ _).drew, trivial⟩) ?_
              · (repeat' (first | exact lasts_nil | refine lasts_cons ?_ ?_))
                all_goals (first | exact Lasts.is | exact Lasts.any)
              show wpInv _ _ _ _ _ _ _ [_, _, _, _, _, _, _, _, _, _, _, _, _] _ _ _
              refine inv_cons 0 (by rfl) (fun wx n_ s_ hn hcl hsi hG hR hd => ?_) (fun v0 => ?_)
              · have xb := (Bk.grow (KO) hG.grow (fun h => h)).cell
                refine inv_want (by rfl) ?_
                have HG := Lib.hid hG
                clear hG hR hcl hsi hn
                unfold invAt invUpon; go_simp
                exact post_upN (F := Is (fun z_ => z_ = .agg #[.int .i64 l.f0, .int .i64 l.f1])) HG.out (is_eq rfl)
              simp only [Act.put, List.setIfInBounds_toArray, List.set_cons_zero, List.set_cons_succ, List.nil_append, List.cons_append]
              refine inv_cons 1 (by rfl) (fun wx n_ s_ hn hcl hsi hG hR hd => ?_) (fun v1 => ?_)
              · exact inv_want (by rfl) (inv_move (.tmp 5) rfl (post_upN (F := Is (fun z_ => z_ = .slice (some ⟨g4, 0, none⟩) ls.length c4)) hG (is_eq rfl)))
              simp only [Act.put, List.setIfInBounds_toArray, List.set_cons_zero, List.set_cons_succ, List.nil_append, List.cons_append]
              refine inv_cons 2 (by rfl) (fun wx n_ s_ hn hcl hsi hG hR hd => ?_) (fun v2 => ?_)
              · exact inv_want (by rfl) (inv_move (.tmp 1) rfl (post_upN (F := Is (fun z_ => z_ = .slice (some ⟨g, off, none⟩) ms.length cap2)) hG (is_eq rfl)))
              simp only [Act.put, List.setIfInBounds_toArray, List.set_cons_zero, List.set_cons_succ, List.nil_append, List.cons_append]
              refine inv_cons 3 (by rfl) (fun wx n_ s_ hn hcl hsi hG hR hd => ?_) (fun v3 => ?_)
              · exact inv_want (by rfl) (inv_move (.tmp 6) rfl (post_upN (F := Is (fun z_ => z_ = .int .i64 k)) hG (is_eq rfl)))
              simp only [Act.put, List.setIfInBounds_toArray, List.set_cons_zero, List.set_cons_succ, List.nil_append, List.cons_append]
              refine inv_cons 4 (by rfl) (fun wx n_ s_ hn hcl hsi hG hR hd => ?_) (fun v4 => ?_)
              · have d2 : (Is (fun z_ => z_ = .slice (some ⟨g, off, none⟩) ms.length cap2)) v2 wx := dep_get hd 2 (by rfl)
                obtain rfl := d2
                have d3 : (Is (fun z_ => z_ = .int .i64 k)) v3 wx := dep_get hd 3 (by rfl)
                obtain rfl := d3
                refine inv_want (by rfl) ?_
                have HG := Lib.hid hG
                clear hG hR hcl hsi hn
                unfold invAt invUpon; go_simp
                exact post_upN (F := Is (fun z_ => z_ = .pointer (some ⟨g, off + k * 2, none⟩))) HG.out (is_eq rfl)
              simp only [Act.put, List.setIfInBounds_toArray, List.set_cons_zero, List.set_cons_succ, List.nil_append, List.cons_append]
              refine inv_cons 5 (by rfl) (fun wx n_ s_ hn hcl hsi hG hR hd => ?_) (fun v5 => ?_)
              · have d4 : (Is (fun z_ => z_ = .pointer (some ⟨g, off + k * 2, none⟩))) v4 wx := dep_get hd 4 (by rfl)
                obtain rfl := d4
                refine inv_want (by rfl) ?_
                have HG := Lib.hid hG
                clear hG hR hcl hsi hn
                unfold invAt invUpon; go_simp
                exact post_upN (F := Is (fun z_ => z_ = .pointer (some ⟨g, off + k * 2, none⟩))) HG.out (is_eq rfl)
              simp only [Act.put, List.setIfInBounds_toArray, List.set_cons_zero, List.set_cons_succ, List.nil_append, List.cons_append]
              refine inv_cons 6 (by rfl) (fun wx n_ s_ hn hcl hsi hG hR hd => ?_) (fun v6 => ?_)
              · have d5 : (Is (fun z_ => z_ = .pointer (some ⟨g, off + k * 2, none⟩))) v5 wx := dep_get hd 5 (by rfl)
                obtain rfl := d5
                have xb0 := cell_grow (c0) hG.grow (fun h => h)
                refine inv_want (by rfl) ?_
                have HG := Lib.hid hG
                clear hG hR hcl hsi hn
                unfold invAt invUpon; go_simp
                exact post_upN (F := Is (fun z_ => z_ = .slice (some ⟨gu, ou, none⟩) d.xs.length cu)) HG.out (is_eq rfl)
              simp only [Act.put, List.setIfInBounds_toArray, List.set_cons_zero, List.set_cons_succ, List.nil_append, List.cons_append]
              refine inv_cons 7 (by rfl) (fun wx n_ s_ hn hcl hsi hG hR hd => ?_) (fun v7 => ?_)
              · exact inv_want (by rfl) (inv_move (.tmp 8) rfl (post_upN (F := Is (fun z_ => z_ = .int .i64 j)) hG (is_eq rfl)))
              simp only [Act.put, List.setIfInBounds_toArray, List.set_cons_zero, List.set_cons_succ, List.nil_append, List.cons_append]
              refine inv_cons 8 (by rfl) (fun wx n_ s_ hn hcl hsi hG hR hd => ?_) (fun v8 => ?_)
              · have d6 : (Is (fun z_ => z_ = .slice (some ⟨gu, ou, none⟩) d.xs.length cu)) v6 wx := dep_get hd 6 (by rfl)
                obtain rfl := d6
                have d7 : (Is (fun z_ => z_ = .int .i64 j)) v7 wx := dep_get hd 7 (by rfl)
                obtain rfl := d7
                refine inv_want (by rfl) ?_
                have HG := Lib.hid hG
                clear hG hR hcl hsi hn
                unfold invAt invUpon; go_simp
                exact post_upN (F := Is (fun z_ => z_ = .pointer (some ⟨gu, ou + j, none⟩))) HG.out (is_eq rfl)
              simp only [Act.put, List.setIfInBounds_toArray, List.set_cons_zero, List.set_cons_succ, List.nil_append, List.cons_append]
              refine inv_cons 9 (by rfl) (fun wx n_ s_ hn hcl hsi hG hR hd => ?_) (fun v9 => ?_)
              · have d8 : (Is (fun z_ => z_ = .pointer (some ⟨gu, ou + j, none⟩))) v8 wx := dep_get hd 8 (by rfl)
                obtain rfl := d8
                have xb0 := cell_grow (cx) hG.grow (fun h => h)
                refine inv_want (by rfl) ?_
                have HG := Lib.hid hG
                clear hG hR hcl hsi hn
                unfold invAt invUpon; go_simp
                exact post_upN (F := Is (fun z_ => z_ = .int .i64 i)) HG.out (is_eq rfl)
              simp only [Act.put, List.setIfInBounds_toArray, List.set_cons_zero, List.set_cons_succ, List.nil_append, List.cons_append]
              refine inv_cons 10 (by rfl) (fun wx n_ s_ hn hcl hsi hG hR hd => ?_) (fun v10 => ?_)
              · have d1 : (Is (fun z_ => z_ = .slice (some ⟨g4, 0, none⟩) ls.length c4)) v1 wx := dep_get hd 1 (by rfl)
                obtain rfl := d1
                have d9 : (Is (fun z_ => z_ = .int .i64 i)) v9 wx := dep_get hd 9 (by rfl)
                obtain rfl := d9
                refine inv_want (by rfl) ?_
                have HG := Lib.hid hG
                clear hG hR hcl hsi hn
                unfold invAt invUpon; go_simp
                exact post_upN (F := Is (fun z_ => z_ = .pointer (some ⟨g4, i * 2, none⟩))) HG.out (is_eq rfl)
              simp only [Act.put, List.setIfInBounds_toArray, List.set_cons_zero, List.set_cons_succ, List.nil_append, List.cons_append]
              refine inv_cons 11 (by rfl) (fun wx n_ s_ hn hcl hsi hG hR hd => ?_) (fun v11 => ?_)
              · have d10 : (Is (fun z_ => z_ = .pointer (some ⟨g4, i * 2, none⟩))) v10 wx := dep_get hd 10 (by rfl)
                obtain rfl := d10
                have xb0 := cell_grow (x0) hG.grow (fun h => h)
                have xb1 := cell_grow (x1) hG.grow (fun h => h)
                refine inv_want (by rfl) ?_
                have HG := Lib.hid hG
                clear hG hR hcl hsi hn
                unfold invAt invUpon; go_simp
                exact post_upN (F := Is (fun z_ => z_ = .agg #[.int .i64 q.f0, .int .i64 q.f1])) HG.out (is_eq rfl)
              simp only [Act.put, List.setIfInBounds_toArray, List.set_cons_zero, List.set_cons_succ, List.nil_append, List.cons_append]
              refine inv_cons 12 (by rfl) (fun wx n_ s_ hn hcl hsi hG hR hd => ?_) (fun v12 => ?_)
              · have d0 : (Is (fun z_ => z_ = .agg #[.int .i64 l.f0, .int .i64 l.f1])) v0 wx := dep_get hd 0 (by rfl)
                obtain rfl := d0
                have d11 : (Is (fun z_ => z_ = .agg #[.int .i64 q.f0, .int .i64 q.f1])) v11 wx := dep_get hd 11 (by rfl)
                obtain rfl := d11
                refine inv_want (by rfl) ?_
                have HG := Lib.hid hG
                clear hG hR hcl hsi hn
                unfold invAt invUpon; go_simp
                refine (CJ.out wx).mono ?_
                rintro e w' ⟨rfl, hb⟩
                exact ⟨_, rfl, post_newN (F := Is (fun z_ => z_ = .agg #[.int .i64 (joinB l q).f0, .int .i64 (joinB l q).f1])) KXr HG.out hb (is_eq rfl)⟩
              simp only [Act.put, List.setIfInBounds_toArray, List.set_cons_zero, List.set_cons_succ, List.nil_append, List.cons_append]
              refine inv_nil (fun wq nq sq hnq hGq hRq hall => ?_)
              obtain ⟨f0, f1, f2, f3, f4, f5, f6, f7, f8, f9, f10, f11, f12, -⟩ := hall
              obtain rfl : v12 = .agg #[.int .i64 (joinB l q).f0, .int .i64 (joinB l q).f1] := f12
              have hBq := Below.via (Grow.below0 hGq.grow) hB5
              have hBoq := Below.via (Grow.below0 hGq.grow) hBo.out
              have KOq := Bk.grow KO hGq.grow (fun h => h)
              have HRQ := Lib.hid (RowB.below hrow2.out (Grow.below0 hGq.grow))
              have xo := KOq.cell
              have fo := KOq.free
              have KO3 := Lib.hid ((KOq.same 0 (.int .i64 (joinB l q).f0)).same 1 (.int .i64 (joinB l q).f1))
              have HR4 := Lib.hid ((RowB.far (RowB.far HRQ.out wo.heap.size 0 (by omega) (.int .i64 (joinB l q).f0)) wo.heap.size 1 (by omega) (.int .i64 (joinB l q).f1)))
              have hB6 := (hBq.setCell (p := ⟨wo.heap.size, 0, none⟩) (show w.heap.size ≤ wo.heap.size by omega) (.int .i64 (joinB l q).f0)).setCell (p := ⟨wo.heap.size, 1, none⟩) (show w.heap.size ≤ wo.heap.size by omega) (.int .i64 (joinB l q).f1)
              have hB7 := Lib.hid ((hBoq.setCell (p := ⟨wo.heap.size, 0, none⟩) (Nat.le_refl wo.heap.size) (.int .i64 (joinB l q).f0)).setCell (p := ⟨wo.heap.size, 1, none⟩) (Nat.le_refl wo.heap.size) (.int .i64 (joinB l q).f1))
              clear KOq KO hBoq hBq
              go_wp2_with fail
              go_roundw
              case rel => exact ⟨j + 1, by omega, by go_num, by rw [hwst2.out]; exact KO3, HR4, hB7, hB6⟩
              case measure => simp [intOf]; omega
            · have hf := Lib.hid (wrTo_end D d.xs j hjl)
              rw [hf.out] at KO
              have hjl2 : ¬ (j : Int) < (d.xs.length : Int) := by omega
              generalize wrL D d.xs = q at hst2 hf KO
              go_wp2_with fail
              have KXr : KeepB (fun _ => True) ∧ KeepB (fun _ => True) := ⟨keepB_true, keepB_true⟩
              refine wp_region_invT 8 (G := fun s n w_ => RgN (fun _ => False) (fun _ => True) wr w_) (R := RgR (fun _ => False) (fun _ => True))
                (Fs := [Is (fun z_ => z_ = .slice (some ⟨g4, 0, none⟩) ls.length c4), Is (fun z_ => z_ = .slice (some ⟨g, off, none⟩) ms.length cap2), Is (fun z_ => z_ = .int .i64 k), Is (fun z_ => z_ = .pointer (some ⟨g, off + k * 2, none⟩)), Is (fun z_ => z_ = .pointer (some ⟨g, off + k * 2 + 1, none⟩)), Is (fun z_ => z_ = .int .i64 m), Is (fun z_ => z_ = .agg #[.int .i64 q.f0, .int .i64 q.f1]), Is (fun z_ => z_ = .pointer (some ⟨g4, m * 2, none⟩))])
                (by kernel_rfl) (by kernel_rfl) (fun _ => RgR.refl _) (fun h k => h.trans k) ?_ (fun _ _ => ⟨(Grow.refl _ _).drew, trivial⟩) ?_
              · (repeat' (first | exact lasts_nil | refine lasts_cons ?_ ?_))
                all_goals (first | exact Lasts.is | exact Lasts.any)
              show wpInv _ _ _ _ _ _ _ [_, _, _, _, _, _, _, _] _ _ _
              refine inv_cons 0 (by rfl) (fun wx n_ s_ hn hcl hsi hG hR hd => ?_) (fun v0 => ?_)
              · exact inv_want (by rfl) (inv_move (.tmp 5) rfl (post_upN (F := Is (fun z_ => z_ = .slice (some ⟨g4, 0, none⟩) ls.length c4)) hG (is_eq rfl)))
              simp only [Act.put, List.setIfInBounds_toArray, List.set_cons_zero, List.set_cons_succ, List.nil_append, List.cons_append]
              refine inv_cons 1 (by rfl) (fun wx n_ s_ hn hcl hsi hG hR hd => ?_) (fun v1 => ?_)
              · exact inv_want (by rfl) (inv_move (.tmp 1) rfl (post_upN (F := Is (fun z_ => z_ = .slice (some ⟨g, off, none⟩) ms.length cap2)) hG (is_eq rfl)))
              simp only [Act.put, List.setIfInBounds_toArray, List.set_cons_zero, List.set_cons_succ, List.nil_append, List.cons_append]
              refine inv_cons 2 (by rfl) (fun wx n_ s_ hn hcl hsi hG hR hd => ?_) (fun v2 => ?_)
              · exact inv_want (by rfl) (inv_move (.tmp 6) rfl (post_upN (F := Is (fun z_ => z_ = .int .i64 k)) hG (is_eq rfl)))
              simp only [Act.put, List.setIfInBounds_toArray, List.set_cons_zero, List.set_cons_succ, List.nil_append, List.cons_append]
              refine inv_cons 3 (by rfl) (fun wx n_ s_ hn hcl hsi hG hR hd => ?_) (fun v3 => ?_)
              · have d1 : (Is (fun z_ => z_ = .slice (some ⟨g, off, none⟩) ms.length cap2)) v1 wx := dep_get hd 1 (by rfl)
                obtain rfl := d1
                have d2 : (Is (fun z_ => z_ = .int .i64 k)) v2 wx := dep_get hd 2 (by rfl)
                obtain rfl := d2
                refine inv_want (by rfl) ?_
                have HG := Lib.hid hG
                clear hG hR hcl hsi hn
                unfold invAt invUpon; go_simp
                exact post_upN (F := Is (fun z_ => z_ = .pointer (some ⟨g, off + k * 2, none⟩))) HG.out (is_eq rfl)
              simp only [Act.put, List.setIfInBounds_toArray, List.set_cons_zero, List.set_cons_succ, List.nil_append, List.cons_append]
              refine inv_cons 4 (by rfl) (fun wx n_ s_ hn hcl hsi hG hR hd => ?_) (fun v4 => ?_)
              · have d3 : (Is (fun z_ => z_ = .pointer (some ⟨g, off + k * 2, none⟩))) v3 wx := dep_get hd 3 (by rfl)
                obtain rfl := d3
                refine inv_want (by rfl) ?_
                have HG := Lib.hid hG
                clear hG hR hcl hsi hn
                unfold invAt invUpon; go_simp
                exact post_upN (F := Is (fun z_ => z_ = .pointer (some ⟨g, off + k * 2 + 1, none⟩))) HG.out (is_eq rfl)
              simp only [Act.put, List.setIfInBounds_toArray, List.set_cons_zero, List.set_cons_succ, List.nil_append, List.cons_append]
              refine inv_cons 5 (by rfl) (fun wx n_ s_ hn hcl hsi hG hR hd => ?_) (fun v5 => ?_)
              · have d4 : (Is (fun z_ => z_ = .pointer (some ⟨g, off + k * 2 + 1, none⟩))) v4 wx := dep_get hd 4 (by rfl)
                obtain rfl := d4
                have xb0 := cell_grow (c1) hG.grow (fun h => h)
                refine inv_want (by rfl) ?_
                have HG := Lib.hid hG
                clear hG hR hcl hsi hn
                unfold invAt invUpon; go_simp
                exact post_upN (F := Is (fun z_ => z_ = .int .i64 m)) HG.out (is_eq rfl)
              simp only [Act.put, List.setIfInBounds_toArray, List.set_cons_zero, List.set_cons_succ, List.nil_append, List.cons_append]
              refine inv_cons 6 (by rfl) (fun wx n_ s_ hn hcl hsi hG hR hd => ?_) (fun v6 => ?_)
              · have xb := (Bk.grow (KO) hG.grow (fun h => h)).cell
                refine inv_want (by rfl) ?_
                have HG := Lib.hid hG
                clear hG hR hcl hsi hn
                unfold invAt invUpon; go_simp
                exact post_upN (F := Is (fun z_ => z_ = .agg #[.int .i64 q.f0, .int .i64 q.f1])) HG.out (is_eq rfl)
              simp only [Act.put, List.setIfInBounds_toArray, List.set_cons_zero, List.set_cons_succ, List.nil_append, List.cons_append]
              refine inv_cons 7 (by rfl) (fun wx n_ s_ hn hcl hsi hG hR hd => ?_) (fun v7 => ?_)
              · have d0 : (Is (fun z_ => z_ = .slice (some ⟨g4, 0, none⟩) ls.length c4)) v0 wx := dep_get hd 0 (by rfl)
                obtain rfl := d0
                have d5 : (Is (fun z_ => z_ = .int .i64 m)) v5 wx := dep_get hd 5 (by rfl)
                obtain rfl := d5
                refine inv_want (by rfl) ?_
                have HG := Lib.hid hG
                clear hG hR hcl hsi hn
                unfold invAt invUpon; go_simp
                exact post_upN (F := Is (fun z_ => z_ = .pointer (some ⟨g4, m * 2, none⟩))) HG.out (is_eq rfl)
              simp only [Act.put, List.setIfInBounds_toArray, List.set_cons_zero, List.set_cons_succ, List.nil_append, List.cons_append]
              refine inv_nil (fun wq nq sq hnq hGq hRq hall => ?_)
              obtain ⟨f0, f1, f2, f3, f4, f5, f6, f7, -⟩ := hall
              obtain rfl : v6 = .agg #[.int .i64 q.f0, .int .i64 q.f1] := f6
              obtain rfl : v7 = .pointer (some ⟨g4, m * 2, none⟩) := f7
              have hBq := Below.via (Grow.below0 hGq.grow) hB5
              have HRQ := Lib.hid (RowB.below hrow2.out (Grow.below0 hGq.grow))
              have hml3 : m < D.length := by have := hDl.out; omega
              obtain ⟨x0, x1, xf⟩ := RowB.at HRQ.out m hml3
              have HRS := Lib.hid (RowB.set HRQ.out m hml3 q)
              have hBS := (hBq.setCell (p := ⟨g4, m * 2, none⟩) hgl.1 (.int .i64 q.f0)).setCell (p := ⟨g4, m * 2 + 1, none⟩) hgl.1 (.int .i64 q.f1)
              clear hK KO
              go_wp2_with fail
              go_roundw
              case rel => exact ⟨k + 1, by omega, by go_num, by rw [hst2.out]; exact HRS, hBS⟩
              case measure => simp [intOf]; omega
        · have hf := Lib.hid (flowTo_end ls ms k hlt)
          have hDl := Lib.hid (flowTo_len ls ms k)
          go_wp2_with fail
          go_ret
          exact ⟨_, rfl, hf.out ▸ RowB.owns hrow.out hDl.out, hB⟩
end Go.Proofs.Ytfghgpdhcpcoiaa
