/-
  Flows of labels: the program's way and the reference's. No condition.
-/
import Derived.Test.YtfghgpdhcpcoiaaFx
set_option linter.unusedSimpArgs false
set_option linter.unusedVariables false
namespace Go.Proofs.Ytfghgpdhcpcoiaa
open Go.RowKit
def flowR (ls : List Lab) (ms : List Mv) : List Lab := if flowOk ls ms then flow ls ms else []
theorem flowTo_len (ls : List Lab) (ms : List Mv) (k : Nat) : (flowTo ls ms k).length = ls.length := flow_len _ _
theorem flow_bad1 (ls : List Lab) (ms : List Mv) (h : ls.all labOk = false) : flowR ls ms = [] := by simp [flowR, flowOk, h]
theorem flow_bad2 (ls : List Lab) (ms : List Mv) (h : mvValidI ls.length ms = false) : flowR ls ms = [] := by simp [flowR, flowOk, h]
theorem flow_good (ls : List Lab) (ms : List Mv) (h1 : ls.all labOk = true) (h2 : mvValidI ls.length ms = true) : flowOk ls ms = true ∧ flowR ls ms = flow ls ms := by simp [flowR, flowOk, h1, h2]
theorem flow_one (ls : List Lab) (ms : List Mv) (h : mvValidI ls.length ms = true) : inR ls.length 1 6 = true := by
  simp only [mvValidI, Bool.and_eq_true] at h
  exact h.2.1
theorem RowB.len {w : World} {lo g cap : Nat} {ds : List Lab} {n : Nat} (h : RowB w lo g cap ds) (hn : ds.length = n) : SlB w (.slice (some ⟨g, 0, none⟩) n cap) ds := hn ▸ h.sl
theorem RowB.owns {w : World} {lo g cap : Nat} {ds : List Lab} {n : Nat} (h : RowB w lo g cap ds) (hn : ds.length = n) : w.ownsRow lo 49 2 (.slice (some ⟨g, 0, none⟩) n cap) ds.length (cellsB ds) := hn ▸ h.own
set_option maxRecDepth 100000 in
set_option maxHeartbeats 6400000 in
theorem implFlow_any (ls : List Lab) (ms : List Mv) (v u : Value) (w : World) (h : SlB w v ls) (hm : SlM w u ms) : Calls Try.prog 21 #[v, u] w (NewB (flowR ls ms) w) := by
  obtain ⟨a, cap, rfl, h1, h2⟩ := SlF.shape h
  obtain ⟨a2, cap2, rfl, h3, h4⟩ := SlM.shape hm
  unfold maxLen at h2 h4
  have H := Lib.hid h
  have HM := Lib.hid hm
  clear h hm
  have CL1 := fun wx h => labelsValid_any ls (.slice a ls.length cap) wx h
  have CM1 := fun wx h => implMvValid_any ls.length ms (.slice a2 ms.length cap2) wx h
  cases hl : ls.all labOk
  · rw [flow_bad1 ls ms hl]
    rw [hl] at CL1
    go_enter Try.func21, Try.ntmps21
    go_wp2_with fail
    refine (CL1 _ H.out).mono ?_
    rintro e w1 ⟨rfl, b1⟩
    go_wp2_with fail
    go_ret
    exact ⟨_, rfl, World.ownsRow_nil _ _ _ _, b1⟩
  · rw [hl] at CL1
    cases hv : mvValidI ls.length ms
    · rw [flow_bad2 ls ms hv]
      rw [hv] at CM1
      go_enter Try.func21, Try.ntmps21
      go_wp2_with fail
      refine (CL1 _ H.out).mono ?_
      rintro e w1 ⟨rfl, b1⟩
      go_wp2_with fail
      refine (CM1 _ (SlM.below HM.out b1)).mono ?_
      rintro e w2 ⟨rfl, b2⟩
      have hB2 := Below.via b2 b1
      go_wp2_with fail
      go_ret
      exact ⟨_, rfl, World.ownsRow_nil _ _ _ _, hB2⟩
    · obtain ⟨hok, hR⟩ := flow_good ls ms hl hv
      rw [hR]
      have F := flowOk_of hok
      rw [hv] at CM1
      have hlo := F.lo
      have hhi := F.hi
      have hmm := F.many
      have FW := Lib.hid F.wr
      have FR := Lib.hid F.rd
      clear F hR hok hl hv
      go_enter Try.func21, Try.ntmps21
      go_wp2_with fail
      refine (CL1 _ H.out).mono ?_
      rintro e w1 ⟨rfl, b1⟩
      go_wp2_with fail
      refine (CM1 _ (SlM.below HM.out b1)).mono ?_
      rintro e w2 ⟨rfl, b2⟩
      have hB2 := Below.via b2 b1
      clear CL1 CM1
      go_wp2_with fail
      refine (cloneL_any ls _ _ (SlF.below H.out hB2) (by omega) (by omega)).mono ?_
      rintro e w3 ⟨g4, c4, rfl, hrow, b3⟩
      have hB3 := Below.via b3 hB2
      have HR3 := Lib.hid hrow
      have hz3 := hB2.size
      clear hrow
      go_wp2_with fail
      go_loopw [22] (fun i wr => ∃ k : Nat, k ≤ ms.length ∧ i = .int .i64 k ∧ Hid (RowB wr w.heap.size g4 c4 (flowTo ls ms k)) ∧ Below w.heap.size w wr) (fun i _ => ms.length - (intOf i).toNat)
      case atStart => exact ⟨0, Nat.zero_le _, rfl, (by obtain ⟨cur, k1, k2, k3, k4, k5, k6⟩ := HR3.out; exact ⟨cur, k1, k2, k3, k4, by omega, k6⟩), hB3⟩
      case round =>
        obtain ⟨k, hk, rfl, hrow, hB⟩ := hrel
        by_cases hlt : k < ms.length
        · obtain ⟨g, off, cx, au, cu, hvv, _, _, c0, c1, hsl, hcu, hcm⟩ := SlM.cells (SlM.below HM.out hB) k hlt
          simp only [Value.slice.injEq] at hvv
          obtain ⟨rfl, -, rfl⟩ := hvv
          have hst := Lib.hid (flowTo_step ls ms k hlt)
          have hw := FW.out ms[k] (List.getElem_mem hlt)
          have hr := Lib.hid (FR.out ms[k] (List.getElem_mem hlt))
          have hDl := Lib.hid (flowTo_len ls ms k)
          have HSU := Lib.hid hsl
          clear hsl
          generalize ms[k] = d at c0 c1 HSU hst hw hr hcu
          generalize flowTo ls ms k = D at hrow hst hDl
          obtain ⟨m, hm⟩ : ∃ m : Nat, d.n = m := ⟨d.n.toNat, by omega⟩
          rw [hm] at c1 hw
          have hml : m < ls.length := by omega
          have hml2 : (m : Int) < (ls.length : Int) := by omega
          have hst2 := Lib.hid (hst.out.trans (show stF D d = D.set m (wrL D d.xs) by unfold stF; rw [hm]; rfl))
          have HMN := Lib.hid hm
          clear hst hm
          unfold maxLen at hcm
          have hA := Below.al (Below.refl wr.heap.size wr) (.cells #[.slice au d.xs.length cu, .int .i64 m] 34)
          have KM := Bk.new (w := wr) (vs := #[.slice au d.xs.length cu, .int .i64 m]) (t := 34)
          have HRW := Lib.hid (RowB.below hrow.out hA)
          have HSW := Lib.hid (RowB.len HRW.out hDl.out)
          have HUW := Lib.hid (SlI.below HSU.out hA)
          have hBA := Below.via hA hB
          have CW := Lib.hid (fun wx (h : Below (wr.alloc (.cells #[.slice au d.xs.length cu, .int .i64 m] 34)).heap.size (wr.alloc (.cells #[.slice au d.xs.length cu, .int .i64 m] 34)) wx) => HMN.out ▸ written_any D d (.slice au d.xs.length cu) (.slice (some ⟨g4, 0, none⟩) ls.length c4) wx (SlF.below HSW.out h) (SlI.below HUW.out h) (fun n hn => by have := (hr.out).2 n hn; rw [hDl.out]; exact this) (by have := (hr.out).1; omega))
          generalize wrL D d.xs = q at hst2 CW
          go_wp2_with fail
          have KXr : KeepB (fun _ => True) ∧ KeepB (fun _ => True) := ⟨keepB_true, keepB_true⟩
          refine wp_region_invT 7 (G := fun s n w_ => RgN (fun _ => False) (fun _ => True) (wr.alloc (.cells #[.slice au d.xs.length cu, .int .i64 m] 34)) w_) (R := RgR (fun _ => False) (fun _ => True))
            (Fs := [Is (fun z_ => z_ = .slice (some ⟨g4, 0, none⟩) ls.length c4), Is (fun z_ => z_ = .pointer (some ⟨wr.heap.size, 1, none⟩)), Is (fun z_ => z_ = .int .i64 m), Is (fun z_ => z_ = .agg #[.slice au d.xs.length cu, .int .i64 m]), Is (fun z_ => z_ = .slice (some ⟨g4, 0, none⟩) ls.length c4), Is (fun z_ => z_ = .agg #[.int .i64 q.f0, .int .i64 q.f1]), Is (fun z_ => z_ = .pointer (some ⟨g4, m * 2, none⟩))])
            (by kernel_rfl) (by kernel_rfl) (fun _ => RgR.refl _) (fun h k => h.trans k) ?_ (fun _ _ => ⟨(Grow.refl _ _).drew, trivial⟩) ?_
          · (repeat' (first | exact lasts_nil | refine lasts_cons ?_ ?_))
            all_goals (first | exact Lasts.is | exact Lasts.any)
          show wpInv _ _ _ _ _ _ _ [_, _, _, _, _, _, _] _ _ _
          refine inv_cons 0 (by rfl) (fun wx n_ s_ hn hcl hsi hG hR hd => ?_) (fun v0 => ?_)
          · exact inv_want (by rfl) (inv_move (.tmp 5) rfl (post_upN (F := Is (fun z_ => z_ = .slice (some ⟨g4, 0, none⟩) ls.length c4)) hG (is_eq rfl)))
          simp only [Act.put, List.setIfInBounds_toArray, List.set_cons_zero, List.set_cons_succ, List.nil_append, List.cons_append]
          refine inv_cons 1 (by rfl) (fun wx n_ s_ hn hcl hsi hG hR hd => ?_) (fun v1 => ?_)
          · refine inv_want (by rfl) ?_
            have HG := Lib.hid hG
            clear hG hR hcl hsi hn
            unfold invAt invUpon; go_simp
            exact post_upN (F := Is (fun z_ => z_ = .pointer (some ⟨wr.heap.size, 1, none⟩))) HG.out (is_eq rfl)
          simp only [Act.put, List.setIfInBounds_toArray, List.set_cons_zero, List.set_cons_succ, List.nil_append, List.cons_append]
          refine inv_cons 2 (by rfl) (fun wx n_ s_ hn hcl hsi hG hR hd => ?_) (fun v2 => ?_)
          · have d1 : (Is (fun z_ => z_ = .pointer (some ⟨wr.heap.size, 1, none⟩))) v1 wx := dep_get hd 1 (by rfl)
            obtain rfl := d1
            have xb := (Bk.grow (KM) hG.grow (fun h => h)).cell
            refine inv_want (by rfl) ?_
            have HG := Lib.hid hG
            clear hG hR hcl hsi hn
            unfold invAt invUpon; go_simp
            exact post_upN (F := Is (fun z_ => z_ = .int .i64 m)) HG.out (is_eq rfl)
          simp only [Act.put, List.setIfInBounds_toArray, List.set_cons_zero, List.set_cons_succ, List.nil_append, List.cons_append]
          refine inv_cons 3 (by rfl) (fun wx n_ s_ hn hcl hsi hG hR hd => ?_) (fun v3 => ?_)
          · have xb := (Bk.grow (KM) hG.grow (fun h => h)).cell
            refine inv_want (by rfl) ?_
            have HG := Lib.hid hG
            clear hG hR hcl hsi hn
            unfold invAt invUpon; go_simp
            exact post_upN (F := Is (fun z_ => z_ = .agg #[.slice au d.xs.length cu, .int .i64 m])) HG.out (is_eq rfl)
          simp only [Act.put, List.setIfInBounds_toArray, List.set_cons_zero, List.set_cons_succ, List.nil_append, List.cons_append]
          refine inv_cons 4 (by rfl) (fun wx n_ s_ hn hcl hsi hG hR hd => ?_) (fun v4 => ?_)
          · exact inv_want (by rfl) (inv_move (.tmp 5) rfl (post_upN (F := Is (fun z_ => z_ = .slice (some ⟨g4, 0, none⟩) ls.length c4)) hG (is_eq rfl)))
          simp only [Act.put, List.setIfInBounds_toArray, List.set_cons_zero, List.set_cons_succ, List.nil_append, List.cons_append]
          refine inv_cons 5 (by rfl) (fun wx n_ s_ hn hcl hsi hG hR hd => ?_) (fun v5 => ?_)
          · have d3 : (Is (fun z_ => z_ = .agg #[.slice au d.xs.length cu, .int .i64 m])) v3 wx := dep_get hd 3 (by rfl)
            obtain rfl := d3
            have d4 : (Is (fun z_ => z_ = .slice (some ⟨g4, 0, none⟩) ls.length c4)) v4 wx := dep_get hd 4 (by rfl)
            obtain rfl := d4
            refine inv_want (by rfl) ?_
            have HG := Lib.hid hG
            clear hG hR hcl hsi hn
            unfold invAt invUpon; go_simp
            refine (CW.out wx (Grow.below0 HG.out.grow)).mono ?_
            rintro e w' ⟨rfl, hb⟩
            exact ⟨_, rfl, post_newN (F := Is (fun z_ => z_ = .agg #[.int .i64 q.f0, .int .i64 q.f1])) KXr HG.out hb (is_eq rfl)⟩
          simp only [Act.put, List.setIfInBounds_toArray, List.set_cons_zero, List.set_cons_succ, List.nil_append, List.cons_append]
          refine inv_cons 6 (by rfl) (fun wx n_ s_ hn hcl hsi hG hR hd => ?_) (fun v6 => ?_)
          · have d0 : (Is (fun z_ => z_ = .slice (some ⟨g4, 0, none⟩) ls.length c4)) v0 wx := dep_get hd 0 (by rfl)
            obtain rfl := d0
            have d2 : (Is (fun z_ => z_ = .int .i64 m)) v2 wx := dep_get hd 2 (by rfl)
            obtain rfl := d2
            refine inv_want (by rfl) ?_
            have HG := Lib.hid hG
            clear hG hR hcl hsi hn
            unfold invAt invUpon; go_simp
            exact post_upN (F := Is (fun z_ => z_ = .pointer (some ⟨g4, m * 2, none⟩))) HG.out (is_eq rfl)
          simp only [Act.put, List.setIfInBounds_toArray, List.set_cons_zero, List.set_cons_succ, List.nil_append, List.cons_append]
          refine inv_nil (fun wq nq sq hnq hGq hRq hall => ?_)
          obtain ⟨f0, f1, f2, f3, f4, f5, f6, -⟩ := hall
          obtain rfl : v5 = .agg #[.int .i64 q.f0, .int .i64 q.f1] := f5
          obtain rfl : v6 = .pointer (some ⟨g4, m * 2, none⟩) := f6
          have hBq := Below.via (Grow.below0 hGq.grow) hBA
          have HRQ := Lib.hid (RowB.below HRW.out (Grow.below0 hGq.grow))
          have hml3 : m < D.length := by have := hDl.out; omega
          obtain ⟨x0, x1, xf⟩ := RowB.at HRQ.out m hml3
          have HRS := Lib.hid (RowB.set HRQ.out m hml3 q)
          have hgl := (RowB.lt HRQ.out).1
          have hBS := (hBq.setCell (p := ⟨g4, m * 2, none⟩) hgl (.int .i64 q.f0)).setCell (p := ⟨g4, m * 2 + 1, none⟩) hgl (.int .i64 q.f1)
          clear KM hA HRW HSW HUW
          go_wp2_with fail
          go_roundw
          case rel => exact ⟨k + 1, by omega, by go_num, by rw [hst2.out]; exact HRS, hBS⟩
          case measure => simp [intOf]; omega
        · have hf := Lib.hid (flowTo_end ls ms k hlt)
          have hDl := Lib.hid (flowTo_len ls ms k)
          go_wp2_with fail
          go_ret
          exact ⟨_, rfl, hf.out ▸ RowB.owns hrow.out hDl.out, hB⟩
end Go.Proofs.Ytfghgpdhcpcoiaa
