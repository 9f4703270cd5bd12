/-
  First leaks: plain, and the program's way. No condition.
-/
import Derived.Test.YtfghgpdhcpcoiaaFy
set_option linter.unusedSimpArgs false
set_option linter.unusedVariables false
namespace Go.Proofs.Ytfghgpdhcpcoiaa
open Go.RowKit
def lkB (ls D : List Lab) (d : Mv) : Bool := belB (wrL D d.xs).f0 (wrL D d.xs).f1 (ls.getD d.n.toNat lab0).f0 (ls.getD d.n.toNat lab0).f1
def leakK (ls : List Lab) : List Mv → List Lab → Int → Int
  | [], D, k => -1
  | d :: ms, D, k => if lkB ls D d then leakK ls ms (stF D d) (k + 1) else k
def leakI (ls : List Lab) (ms : List Mv) : Int := if flowOk ls ms then leakK ls ms ls 0 else -2
def leakR (ls : List Lab) (ms : List Mv) (k : Nat) : Int := leakK ls (ms.drop k) (flowTo ls ms k) k
theorem leak_bad1 (ls : List Lab) (ms : List Mv) (h : ls.all labOk = false) : leakI ls ms = -2 := by simp [leakI, flowOk, h]
theorem leak_bad2 (ls : List Lab) (ms : List Mv) (h : mvValidI ls.length ms = false) : leakI ls ms = -2 := by simp [leakI, flowOk, h]
theorem leak_good (ls : List Lab) (ms : List Mv) (h : flowOk ls ms = true) : leakI ls ms = leakR ls ms 0 := by
  unfold leakI leakR flowTo flow
  rw [if_pos h]
  rfl
theorem leakR_no (ls : List Lab) (ms : List Mv) (k : Nat) (h : k < ms.length) (hl : lkB ls (flowTo ls ms k) ms[k] = false) : leakR ls ms k = k := by
  unfold leakR
  rw [List.drop_eq_getElem_cons h]
  unfold leakK
  rw [if_neg (by rw [hl]; simp)]
theorem leakR_yes (ls : List Lab) (ms : List Mv) (k : Nat) (h : k < ms.length) (hl : lkB ls (flowTo ls ms k) ms[k] = true) : leakR ls ms k = leakR ls ms (k + 1) := by
  unfold leakR
  rw [List.drop_eq_getElem_cons h, flowTo_step ls ms k h]
  show leakK ls (ms[k] :: _) _ _ = _
  rw [leakK, if_pos hl]
  push_cast
  rfl
theorem leakR_end (ls : List Lab) (ms : List Mv) (k : Nat) (h : ¬ k < ms.length) : leakR ls ms k = -1 := by
  unfold leakR
  rw [List.drop_of_length_le (by omega)]
  rfl
theorem Bk.put2 {w : World} {g : Nat} {a b c d : Value} {t : TypeId} (h : Bk w g #[a, b] t) : Bk ((w.setCell ⟨g, 0, none⟩ c).setCell ⟨g, 1, none⟩ d) g #[c, d] t := (h.same 0 c).same 1 d
set_option maxRecDepth 100000 in
set_option maxHeartbeats 6400000 in
theorem implLeak_any (ls : List Lab) (ms : List Mv) (v u : Value) (w : World) (h : SlB w v ls) (hm : SlM w u ms) : Calls Try.prog 29 #[v, u] w fun e w' => e = .returned (.int .i64 (leakI ls ms)) ∧ Below w.heap.size w w' := by
  obtain ⟨a, cap, rfl, h1, h2⟩ := SlF.shape h
  obtain ⟨a2, cap2, rfl, h3, h4⟩ := SlM.shape hm
  unfold maxLen at h2 h4
  have H := Lib.hid h
  have HM := Lib.hid hm
  clear h hm
  have CL1 := fun wx h => labelsValid_any ls (.slice a ls.length cap) wx h
  have CM1 := fun wx h => implMvValid_any ls.length ms (.slice a2 ms.length cap2) wx h
  cases hl : ls.all labOk
  · rw [leak_bad1 ls ms hl]
    rw [hl] at CL1
    go_enter Try.func29, Try.ntmps29
    go_wp2_with fail
    refine (CL1 _ H.out).mono ?_
    rintro e w1 ⟨rfl, b1⟩
    go_wp2_with fail
    go_ret
    exact ⟨rfl, b1⟩
  · rw [hl] at CL1
    cases hv : mvValidI ls.length ms
    · rw [leak_bad2 ls ms hv]
      rw [hv] at CM1
      go_enter Try.func29, Try.ntmps29
      go_wp2_with fail
      refine (CL1 _ H.out).mono ?_
      rintro e w1 ⟨rfl, b1⟩
      go_wp2_with fail
      refine (CM1 _ (SlM.below HM.out b1)).mono ?_
      rintro e w2 ⟨rfl, b2⟩
      have hB2 := Below.via b2 b1
      go_wp2_with fail
      go_ret
      exact ⟨rfl, hB2⟩
    · obtain ⟨hok, -⟩ := flow_good ls ms hl hv
      have hL0 := Lib.hid (leak_good ls ms hok)
      have F := flowOk_of hok
      rw [hv] at CM1
      have hlo := F.lo
      have hhi := F.hi
      have hmm := F.many
      have FW := Lib.hid F.wr
      have FR := Lib.hid F.rd
      clear F hok hl hv
      go_enter Try.func29, Try.ntmps29
      go_wp2_with fail
      refine (CL1 _ H.out).mono ?_
      rintro e w1 ⟨rfl, b1⟩
      go_wp2_with fail
      refine (CM1 _ (SlM.below HM.out b1)).mono ?_
      rintro e w2 ⟨rfl, b2⟩
      have hB2 := Below.via b2 b1
      clear CL1 CM1
      go_wp2_with fail
      refine (cloneL_any ls _ _ (SlF.below H.out hB2) (by omega) (by omega)).mono ?_
      rintro e w3 ⟨g4, c4, rfl, hrow, b3⟩
      have hB3 := Below.via b3 hB2
      have HR3 := Lib.hid hrow
      have hz3 := hB2.size
      clear hrow
      go_wp2_with fail
      go_loopw [23] (fun i wr => ∃ k : Nat, k ≤ ms.length ∧ i = .int .i64 k ∧ Hid (leakI ls ms = leakR ls ms k) ∧ Hid (RowB wr w.heap.size g4 c4 (flowTo ls ms k)) ∧ Below w.heap.size w wr) (fun i _ => ms.length - (intOf i).toNat)
      case atStart => exact ⟨0, Nat.zero_le _, rfl, hL0, (by obtain ⟨cur, k1, k2, k3, k4, k5, k6⟩ := HR3.out; exact ⟨cur, k1, k2, k3, k4, by omega, k6⟩), hB3⟩
      case round =>
        obtain ⟨k, hk, rfl, hXk, hrow, hB⟩ := hrel
        by_cases hlt : k < ms.length
        · obtain ⟨g, off, cx, au, cu, hvv, _, _, c0, c1, hsl, hcu, hcm⟩ := SlM.cells (SlM.below HM.out hB) k hlt
          simp only [Value.slice.injEq] at hvv
          obtain ⟨rfl, -, rfl⟩ := hvv
          have hst := Lib.hid (flowTo_step ls ms k hlt)
          have hno := Lib.hid (leakR_no ls ms k hlt)
          have hyes := Lib.hid (leakR_yes ls ms k hlt)
          have hw := FW.out ms[k] (List.getElem_mem hlt)
          have hr := Lib.hid (FR.out ms[k] (List.getElem_mem hlt))
          have hDl := Lib.hid (flowTo_len ls ms k)
          have HSU := Lib.hid hsl
          clear hsl
          generalize ms[k] = d at c0 c1 HSU hst hw hr hcu hno hyes
          generalize flowTo ls ms k = D at hrow hst hDl hno hyes
          obtain ⟨m, hm⟩ : ∃ m : Nat, d.n = m := ⟨d.n.toNat, by omega⟩
          rw [hm] at c1 hw
          have hml : m < ls.length := by omega
          have hml2 : (m : Int) < (ls.length : Int) := by omega
          have hst2 := Lib.hid (hst.out.trans (show stF D d = D.set m (wrL D d.xs) by unfold stF; rw [hm]; rfl))
          have hlk := Lib.hid (show lkB ls D d = belB (wrL D d.xs).f0 (wrL D d.xs).f1 ls[m].f0 ls[m].f1 by unfold lkB; rw [hm, Int.toNat_natCast, List.getD_eq_getElem?_getD, List.getElem?_eq_getElem hml]; rfl)
          have HMN := Lib.hid hm
          clear hst hm
          unfold maxLen at hcm
          have hA := Below.al (Below.refl wr.heap.size wr) (.cells #[.slice au d.xs.length cu, .int .i64 m] 34)
          have KM := Bk.new (w := wr) (vs := #[.slice au d.xs.length cu, .int .i64 m]) (t := 34)
          have HRW := Lib.hid (RowB.below hrow.out hA)
          have HSW := Lib.hid (RowB.len HRW.out hDl.out)
          have HUW := Lib.hid (SlI.below HSU.out hA)
          have hBA := Below.via hA hB
          have CW := Lib.hid (HMN.out ▸ written_any D d (.slice au d.xs.length cu) (.slice (some ⟨g4, 0, none⟩) ls.length c4) (wr.alloc (.cells #[.slice au d.xs.length cu, .int .i64 m] 34)) HSW.out HUW.out (fun n hn => by have := (hr.out).2 n hn; rw [hDl.out]; exact this) (by have := (hr.out).1; omega))
          generalize wrL D d.xs = q at hst2 CW hlk
          go_wp2_with fail
          refine CW.out.mono ?_
          rintro e w5 ⟨rfl, b5⟩
          have hz5 := b5.size
          simp only [World.size_alloc] at hz5
          have K5 := Bk.below KM b5
          have hB5 := Below.via b5 hBA
          have hA8 := Below.al (Below.refl w5.heap.size w5) (.cells #[.int .i64 q.f0, .int .i64 q.f1] 49)
          have K7 := Bk.below K5 hA8
          have K8 := Bk.new (w := w5) (vs := #[.int .i64 q.f0, .int .i64 q.f1]) (t := 49)
          have hB8 := Below.via hA8 hB5
          have HR8 := Lib.hid (RowB.below (RowB.below HRW.out b5) hA8)
          obtain ⟨gl, ol, cl, hvl, _, _, p0, p1⟩ := SlB.cells (SlF.below H.out hB8) m hml
          simp only [Value.slice.injEq] at hvl
          obtain ⟨rfl, -, rfl⟩ := hvl
          clear K5 KM
          generalize ls[m] = p at p0 p1 hlk
          have CB := Lib.hid (fun wx => below_any q.f0 q.f1 p.f0 p.f1 wx)
          cases hbel : belB q.f0 q.f1 p.f0 p.f1
          · rw [hbel] at CB
            go_wp2_with fail
            have KXr : KeepB (fun _ => True) ∧ KeepB (fun _ => True) := ⟨keepB_true, keepB_true⟩
            refine wp_region_inv (G := fun s n w_ => RgN (fun _ => False) (fun _ => True) (w5.alloc (.cells #[.int .i64 q.f0, .int .i64 q.f1] 49)) w_) (R := RgR (fun _ => False) (fun _ => True))
              (Fs := [Is (fun z_ => z_ = .agg #[.int .i64 q.f0, .int .i64 q.f1]), Is (fun z_ => z_ = .slice (some ⟨gl, ol, none⟩) ls.length cap), Is (fun z_ => z_ = .pointer (some ⟨wr.heap.size, 1, none⟩)), Is (fun z_ => z_ = .int .i64 m), Is (fun z_ => z_ = .pointer (some ⟨gl, ol + m * 2, none⟩)), Is (fun z_ => z_ = .agg #[.int .i64 p.f0, .int .i64 p.f1]), Is (fun z_ => z_ = .bool false), Is (fun z_ => z_ = .bool true)])
              (by kernel_rfl) (by kernel_rfl) (fun _ => RgR.refl _) (fun h k => h.trans k) ?_ (fun _ _ => ⟨(Grow.refl _ _).drew, trivial⟩) ?_
            · (repeat' (first | exact lasts_nil | refine lasts_cons ?_ ?_))
              all_goals (first | exact Lasts.is | exact Lasts.any)
            refine inv_cons 0 (by rfl) (fun wx n_ s_ hn hcl hsi hG hR hd => ?_) (fun v0 => ?_)
            · have xb := (Bk.grow (K8) hG.grow (fun h => h)).cell
              refine inv_want (by rfl) ?_
              have HG := Lib.hid hG
              clear hG hR hcl hsi hn
              unfold invAt invUpon; go_simp
              exact post_upN (F := Is (fun z_ => z_ = .agg #[.int .i64 q.f0, .int .i64 q.f1])) HG.out (is_eq rfl)
            simp only [Act.put, List.setIfInBounds_toArray, List.set_cons_zero, List.set_cons_succ, List.nil_append, List.cons_append]
            refine inv_cons 1 (by rfl) (fun wx n_ s_ hn hcl hsi hG hR hd => ?_) (fun v1 => ?_)
            · exact inv_want (by rfl) (inv_move (.tmp 0) rfl (post_upN (F := Is (fun z_ => z_ = .slice (some ⟨gl, ol, none⟩) ls.length cap)) hG (is_eq rfl)))
            simp only [Act.put, List.setIfInBounds_toArray, List.set_cons_zero, List.set_cons_succ, List.nil_append, List.cons_append]
            refine inv_cons 2 (by rfl) (fun wx n_ s_ hn hcl hsi hG hR hd => ?_) (fun v2 => ?_)
            · refine inv_want (by rfl) ?_
              have HG := Lib.hid hG
              clear hG hR hcl hsi hn
              unfold invAt invUpon; go_simp
              exact post_upN (F := Is (fun z_ => z_ = .pointer (some ⟨wr.heap.size, 1, none⟩))) HG.out (is_eq rfl)
            simp only [Act.put, List.setIfInBounds_toArray, List.set_cons_zero, List.set_cons_succ, List.nil_append, List.cons_append]
            refine inv_cons 3 (by rfl) (fun wx n_ s_ hn hcl hsi hG hR hd => ?_) (fun v3 => ?_)
            · have d2 : (Is (fun z_ => z_ = .pointer (some ⟨wr.heap.size, 1, none⟩))) v2 wx := dep_get hd 2 (by rfl)
              obtain rfl := d2
              have xb := (Bk.grow (K7) hG.grow (fun h => h)).cell
              refine inv_want (by rfl) ?_
              have HG := Lib.hid hG
              clear hG hR hcl hsi hn
              unfold invAt invUpon; go_simp
              exact post_upN (F := Is (fun z_ => z_ = .int .i64 m)) HG.out (is_eq rfl)
            simp only [Act.put, List.setIfInBounds_toArray, List.set_cons_zero, List.set_cons_succ, List.nil_append, List.cons_append]
            refine inv_cons 4 (by rfl) (fun wx n_ s_ hn hcl hsi hG hR hd => ?_) (fun v4 => ?_)
            · have d1 : (Is (fun z_ => z_ = .slice (some ⟨gl, ol, none⟩) ls.length cap)) v1 wx := dep_get hd 1 (by rfl)
              obtain rfl := d1
              have d3 : (Is (fun z_ => z_ = .int .i64 m)) v3 wx := dep_get hd 3 (by rfl)
              obtain rfl := d3
              refine inv_want (by rfl) ?_
              have HG := Lib.hid hG
              clear hG hR hcl hsi hn
              unfold invAt invUpon; go_simp
              exact post_upN (F := Is (fun z_ => z_ = .pointer (some ⟨gl, ol + m * 2, none⟩))) HG.out (is_eq rfl)
            simp only [Act.put, List.setIfInBounds_toArray, List.set_cons_zero, List.set_cons_succ, List.nil_append, List.cons_append]
            refine inv_cons 5 (by rfl) (fun wx n_ s_ hn hcl hsi hG hR hd => ?_) (fun v5 => ?_)
            · have d4 : (Is (fun z_ => z_ = .pointer (some ⟨gl, ol + m * 2, none⟩))) v4 wx := dep_get hd 4 (by rfl)
              obtain rfl := d4
              have xb0 := cell_grow (p0) hG.grow (fun h => h)
              have xb1 := cell_grow (p1) hG.grow (fun h => h)
              refine inv_want (by rfl) ?_
              have HG := Lib.hid hG
              clear hG hR hcl hsi hn
              unfold invAt invUpon; go_simp
              exact post_upN (F := Is (fun z_ => z_ = .agg #[.int .i64 p.f0, .int .i64 p.f1])) HG.out (is_eq rfl)
            simp only [Act.put, List.setIfInBounds_toArray, List.set_cons_zero, List.set_cons_succ, List.nil_append, List.cons_append]
            refine inv_cons 6 (by rfl) (fun wx n_ s_ hn hcl hsi hG hR hd => ?_) (fun v6 => ?_)
            · have d0 : (Is (fun z_ => z_ = .agg #[.int .i64 q.f0, .int .i64 q.f1])) v0 wx := dep_get hd 0 (by rfl)
              obtain rfl := d0
              have d5 : (Is (fun z_ => z_ = .agg #[.int .i64 p.f0, .int .i64 p.f1])) v5 wx := dep_get hd 5 (by rfl)
              obtain rfl := d5
              refine inv_want (by rfl) ?_
              have HG := Lib.hid hG
              clear hG hR hcl hsi hn
              unfold invAt invUpon; go_simp
              refine (CB.out wx).mono ?_
              rintro e w' ⟨rfl, hb⟩
              exact ⟨_, rfl, post_newN (F := Is (fun z_ => z_ = .bool false)) KXr HG.out hb (is_eq rfl)⟩
            simp only [Act.put, List.setIfInBounds_toArray, List.set_cons_zero, List.set_cons_succ, List.nil_append, List.cons_append]
            refine inv_cons 7 (by rfl) (fun wx n_ s_ hn hcl hsi hG hR hd => ?_) (fun v7 => ?_)
            · have d6 : (Is (fun z_ => z_ = .bool false)) v6 wx := dep_get hd 6 (by rfl)
              obtain rfl := d6
              refine inv_want (by rfl) ?_
              have HG := Lib.hid hG
              clear hG hR hcl hsi hn
              unfold invAt invUpon; go_simp
              exact post_upN (F := Is (fun z_ => z_ = .bool true)) HG.out (is_eq rfl)
            simp only [Act.put, List.setIfInBounds_toArray, List.set_cons_zero, List.set_cons_succ, List.nil_append, List.cons_append]
            refine inv_nil (fun wq nq sq hnq hGq hRq hall => ?_)
            obtain ⟨f0, f1, f2, f3, f4, f5, f6, f7, -⟩ := hall
            obtain rfl : v7 = .bool true := f7
            have hBq := Below.via (Grow.below0 hGq.grow) hB8
            have hX := Lib.hid (hXk.out.trans (hno.out (hlk.out.trans hbel)))
            go_wp2_with fail
            go_ret
            exact ⟨by rw [hX.out]; rfl, hBq⟩
          · rw [hbel] at CB
            go_wp2_with fail
            have KXr : KeepB (fun _ => True) ∧ KeepB (fun _ => True) := ⟨keepB_true, keepB_true⟩
            refine wp_region_inv (G := fun s n w_ => RgN (fun _ => False) (fun _ => True) (w5.alloc (.cells #[.int .i64 q.f0, .int .i64 q.f1] 49)) w_) (R := RgR (fun _ => False) (fun _ => True))
              (Fs := [Is (fun z_ => z_ = .agg #[.int .i64 q.f0, .int .i64 q.f1]), Is (fun z_ => z_ = .slice (some ⟨gl, ol, none⟩) ls.length cap), Is (fun z_ => z_ = .pointer (some ⟨wr.heap.size, 1, none⟩)), Is (fun z_ => z_ = .int .i64 m), Is (fun z_ => z_ = .pointer (some ⟨gl, ol + m * 2, none⟩)), Is (fun z_ => z_ = .agg #[.int .i64 p.f0, .int .i64 p.f1]), Is (fun z_ => z_ = .bool true), Is (fun z_ => z_ = .bool false)])
              (by kernel_rfl) (by kernel_rfl) (fun _ => RgR.refl _) (fun h k => h.trans k) ?_ (fun _ _ => ⟨(Grow.refl _ _).drew, trivial⟩) ?_
            · (repeat' (first | exact lasts_nil | refine lasts_cons ?_ ?_))
              all_goals (first | exact Lasts.is | exact Lasts.any)
            refine inv_cons 0 (by rfl) (fun wx n_ s_ hn hcl hsi hG hR hd => ?_) (fun v0 => ?_)
            · have xb := (Bk.grow (K8) hG.grow (fun h => h)).cell
              refine inv_want (by rfl) ?_
              have HG := Lib.hid hG
              clear hG hR hcl hsi hn
              unfold invAt invUpon; go_simp
              exact post_upN (F := Is (fun z_ => z_ = .agg #[.int .i64 q.f0, .int .i64 q.f1])) HG.out (is_eq rfl)
            simp only [Act.put, List.setIfInBounds_toArray, List.set_cons_zero, List.set_cons_succ, List.nil_append, List.cons_append]
            refine inv_cons 1 (by rfl) (fun wx n_ s_ hn hcl hsi hG hR hd => ?_) (fun v1 => ?_)
            · exact inv_want (by rfl) (inv_move (.tmp 0) rfl (post_upN (F := Is (fun z_ => z_ = .slice (some ⟨gl, ol, none⟩) ls.length cap)) hG (is_eq rfl)))
            simp only [Act.put, List.setIfInBounds_toArray, List.set_cons_zero, List.set_cons_succ, List.nil_append, List.cons_append]
            refine inv_cons 2 (by rfl) (fun wx n_ s_ hn hcl hsi hG hR hd => ?_) (fun v2 => ?_)
            · refine inv_want (by rfl) ?_
              have HG := Lib.hid hG
              clear hG hR hcl hsi hn
              unfold invAt invUpon; go_simp
              exact post_upN (F := Is (fun z_ => z_ = .pointer (some ⟨wr.heap.size, 1, none⟩))) HG.out (is_eq rfl)
            simp only [Act.put, List.setIfInBounds_toArray, List.set_cons_zero, List.set_cons_succ, List.nil_append, List.cons_append]
            refine inv_cons 3 (by rfl) (fun wx n_ s_ hn hcl hsi hG hR hd => ?_) (fun v3 => ?_)
            · have d2 : (Is (fun z_ => z_ = .pointer (some ⟨wr.heap.size, 1, none⟩))) v2 wx := dep_get hd 2 (by rfl)
              obtain rfl := d2
              have xb := (Bk.grow (K7) hG.grow (fun h => h)).cell
              refine inv_want (by rfl) ?_
              have HG := Lib.hid hG
              clear hG hR hcl hsi hn
              unfold invAt invUpon; go_simp
              exact post_upN (F := Is (fun z_ => z_ = .int .i64 m)) HG.out (is_eq rfl)
            simp only [Act.put, List.setIfInBounds_toArray, List.set_cons_zero, List.set_cons_succ, List.nil_append, List.cons_append]
            refine inv_cons 4 (by rfl) (fun wx n_ s_ hn hcl hsi hG hR hd => ?_) (fun v4 => ?_)
            · have d1 : (Is (fun z_ => z_ = .slice (some ⟨gl, ol, none⟩) ls.length cap)) v1 wx := dep_get hd 1 (by rfl)
              obtain rfl := d1
              have d3 : (Is (fun z_ => z_ = .int .i64 m)) v3 wx := dep_get hd 3 (by rfl)
              obtain rfl := d3
              refine inv_want (by rfl) ?_
              have HG := Lib.hid hG
              clear hG hR hcl hsi hn
              unfold invAt invUpon; go_simp
              exact post_upN (F := Is (fun z_ => z_ = .pointer (some ⟨gl, ol + m * 2, none⟩))) HG.out (is_eq rfl)
            simp only [Act.put, List.setIfInBounds_toArray, List.set_cons_zero, List.set_cons_succ, List.nil_append, List.cons_append]
            refine inv_cons 5 (by rfl) (fun wx n_ s_ hn hcl hsi hG hR hd => ?_) (fun v5 => ?_)
            · have d4 : (Is (fun z_ => z_ = .pointer (some ⟨gl, ol + m * 2, none⟩))) v4 wx := dep_get hd 4 (by rfl)
              obtain rfl := d4
              have xb0 := cell_grow (p0) hG.grow (fun h => h)
              have xb1 := cell_grow (p1) hG.grow (fun h => h)
              refine inv_want (by rfl) ?_
              have HG := Lib.hid hG
              clear hG hR hcl hsi hn
              unfold invAt invUpon; go_simp
              exact post_upN (F := Is (fun z_ => z_ = .agg #[.int .i64 p.f0, .int .i64 p.f1])) HG.out (is_eq rfl)
            simp only [Act.put, List.setIfInBounds_toArray, List.set_cons_zero, List.set_cons_succ, List.nil_append, List.cons_append]
            refine inv_cons 6 (by rfl) (fun wx n_ s_ hn hcl hsi hG hR hd => ?_) (fun v6 => ?_)
            · have d0 : (Is (fun z_ => z_ = .agg #[.int .i64 q.f0, .int .i64 q.f1])) v0 wx := dep_get hd 0 (by rfl)
              obtain rfl := d0
              have d5 : (Is (fun z_ => z_ = .agg #[.int .i64 p.f0, .int .i64 p.f1])) v5 wx := dep_get hd 5 (by rfl)
              obtain rfl := d5
              refine inv_want (by rfl) ?_
              have HG := Lib.hid hG
              clear hG hR hcl hsi hn
              unfold invAt invUpon; go_simp
              refine (CB.out wx).mono ?_
              rintro e w' ⟨rfl, hb⟩
              exact ⟨_, rfl, post_newN (F := Is (fun z_ => z_ = .bool true)) KXr HG.out hb (is_eq rfl)⟩
            simp only [Act.put, List.setIfInBounds_toArray, List.set_cons_zero, List.set_cons_succ, List.nil_append, List.cons_append]
            refine inv_cons 7 (by rfl) (fun wx n_ s_ hn hcl hsi hG hR hd => ?_) (fun v7 => ?_)
            · have d6 : (Is (fun z_ => z_ = .bool true)) v6 wx := dep_get hd 6 (by rfl)
              obtain rfl := d6
              refine inv_want (by rfl) ?_
              have HG := Lib.hid hG
              clear hG hR hcl hsi hn
              unfold invAt invUpon; go_simp
              exact post_upN (F := Is (fun z_ => z_ = .bool false)) HG.out (is_eq rfl)
            simp only [Act.put, List.setIfInBounds_toArray, List.set_cons_zero, List.set_cons_succ, List.nil_append, List.cons_append]
            refine inv_nil (fun wq nq sq hnq hGq hRq hall => ?_)
            obtain ⟨f0, f1, f2, f3, f4, f5, f6, f7, -⟩ := hall
            obtain rfl : v7 = .bool false := f7
            have hBq := Below.via (Grow.below0 hGq.grow) hB8
            have K7q := Bk.grow K7 hGq.grow (fun h => h)
            have K8q := Bk.grow K8 hGq.grow (fun h => h)
            have m0 := K7q.cell
            have l0 := K8q.cell
            have HRQ := Lib.hid (RowB.below HR8.out (Grow.below0 hGq.grow))
            have hml3 : m < D.length := by have := hDl.out; omega
            obtain ⟨x0, x1, xf⟩ := RowB.at HRQ.out m hml3
            have HRS := Lib.hid (RowB.set HRQ.out m hml3 q)
            have hgl := (RowB.lt HRQ.out).1
            have hBS := (hBq.setCell (p := ⟨g4, m * 2, none⟩) hgl (.int .i64 q.f0)).setCell (p := ⟨g4, m * 2 + 1, none⟩) hgl (.int .i64 q.f1)
            have hX := Lib.hid (hXk.out.trans (hyes.out (hlk.out.trans hbel)))
            clear K7 K8 hA HRW HSW HUW K7q K8q
            go_wp2_with fail
            go_roundw
            case rel => exact ⟨k + 1, by omega, by go_num, hX, by rw [hst2.out]; exact HRS, hBS⟩
            case measure => simp [intOf]; omega
        · have hf := Lib.hid (hXk.out.trans (leakR_end ls ms k hlt))
          go_wp2_with fail
          go_ret
          exact ⟨by rw [hf.out]; rfl, hB⟩
end Go.Proofs.Ytfghgpdhcpcoiaa
