/-
  Flows of labels: plain, and what a move writes. No condition.
-/
import Derived.Test.YtfghgpdhcpcoiaaL
import Derived.Test.YtfghgpdhcpcoiaaLb
import Derived.Test.YtfghgpdhcpcoiaaJm
import Derived.Test.YtfghgpdhcpcoiaaRg
set_option linter.unusedSimpArgs false
set_option linter.unusedVariables false
namespace Go.Proofs.Ytfghgpdhcpcoiaa
open Go.RowKit
def labOk (d : Lab) : Bool := labValid d.f0 d.f1
def joinB (a b : Lab) : Lab := ⟨maxI a.f0 b.f0, bits .or .i64 a.f1 b.f1⟩
def lab0 : Lab := ⟨0, 0⟩
def wrL (out : List Lab) (xs : List Int) : Lab := xs.foldl (fun l n => joinB l (out.getD n.toNat lab0)) lab0
def stF (out : List Lab) (m : Mv) : List Lab := out.set m.n.toNat (wrL out m.xs)
def flow (out : List Lab) (ms : List Mv) : List Lab := ms.foldl stF out
def flowOk (ls : List Lab) (ms : List Mv) : Bool := ls.all labOk && mvValidI ls.length ms
theorem labOk_iff (d : Lab) : labOk d = true ↔ 0 ≤ d.f0 ∧ d.f0 ≤ 3 ∧ 0 ≤ d.f1 ∧ d.f1 ≤ 31 := by
  simp only [labOk, labValid, Bool.and_eq_true, inR_iff]
  constructor <;> intro h <;> omega
theorem lab0_ok : labOk lab0 = true := by decide
theorem joinB_ok (a b : Lab) (ha : labOk a = true) (hb : labOk b = true) : labOk (joinB a b) = true := by
  rw [labOk_iff] at ha hb ⊢
  obtain ⟨x, hx⟩ : ∃ x : Nat, a.f1 = x := ⟨a.f1.toNat, by omega⟩
  obtain ⟨y, hy⟩ : ∃ y : Nat, b.f1 = y := ⟨b.f1.toNat, by omega⟩
  have h1 : x ||| y < 2 ^ 5 := Nat.or_lt_two_pow (by omega) (by omega)
  unfold joinB maxI
  simp only [hx, hy]
  rw [bits_or_nat x y (by omega) (by omega)]
  refine ⟨?_, ?_, by omega, by omega⟩ <;> split <;> omega
theorem getD_ok (out : List Lab) (h : out.all labOk = true) (n : Nat) : labOk (out.getD n lab0) = true := by
  rw [List.getD_eq_getElem?_getD]
  cases hn : out[n]? with
  | none => exact lab0_ok
  | some d => exact List.all_eq_true.1 h d (List.mem_of_getElem? hn)
theorem wr_ok (out : List Lab) (h : out.all labOk = true) : ∀ (xs : List Int) (l : Lab), labOk l = true → labOk (xs.foldl (fun l n => joinB l (out.getD n.toNat lab0)) l) = true
  | [], l, hl => hl
  | x :: xs, l, hl => wr_ok out h xs _ (joinB_ok _ _ hl (getD_ok out h _))
theorem wrL_ok (out : List Lab) (h : out.all labOk = true) (xs : List Int) : labOk (wrL out xs) = true := wr_ok out h xs _ lab0_ok
theorem stF_len (out : List Lab) (m : Mv) : (stF out m).length = out.length := by simp [stF]
theorem stF_ok (out : List Lab) (h : out.all labOk = true) (m : Mv) : (stF out m).all labOk = true := by
  rw [List.all_eq_true] at h ⊢
  intro d hd
  rcases List.mem_or_eq_of_mem_set hd with h1 | h1
  · exact h d h1
  · rw [h1]; exact wrL_ok out (List.all_eq_true.2 h) _
def flowTo (ls : List Lab) (ms : List Mv) (k : Nat) : List Lab := flow ls (ms.take k)
theorem flowTo_step (ls : List Lab) (ms : List Mv) (k : Nat) (h : k < ms.length) : flowTo ls ms (k + 1) = stF (flowTo ls ms k) ms[k] := by
  unfold flowTo flow
  rw [List.take_succ_eq_append_getElem h, List.foldl_append]
  rfl
theorem flowTo_end (ls : List Lab) (ms : List Mv) (k : Nat) (h : ¬ k < ms.length) : flowTo ls ms k = flow ls ms := by
  unfold flowTo
  rw [List.take_of_length_le (by omega)]
theorem flow_len : ∀ (ms : List Mv) (ls : List Lab), (flow ls ms).length = ls.length
  | [], ls => rfl
  | m :: ms, ls => by
    show (flow (stF ls m) ms).length = _
    rw [flow_len ms, stF_len]
theorem flow_ok : ∀ (ms : List Mv) (ls : List Lab), ls.all labOk = true → (flow ls ms).all labOk = true
  | [], ls, h => h
  | m :: ms, ls, h => flow_ok ms _ (stF_ok ls h m)
/-- What valid arguments give. -/
structure FlowOk (ls : List Lab) (ms : List Mv) : Prop where
  labs : ls.all labOk = true
  lo : 1 ≤ ls.length
  hi : ls.length ≤ 6
  many : ms.length ≤ 12
  wr : ∀ m ∈ ms, 0 ≤ m.n ∧ m.n < ls.length
  rd : ∀ m ∈ ms, m.xs.length ≤ 6 ∧ ∀ n ∈ m.xs, 0 ≤ n ∧ n < (ls.length : Int)
theorem flowOk_of {ls : List Lab} {ms : List Mv} (h : flowOk ls ms = true) : FlowOk ls ms := by
  simp only [flowOk, mvValidI, Bool.and_eq_true, inR_iff, decide_eq_true_eq] at h
  obtain ⟨h1, h2, ⟨h3, h4⟩, h5⟩ := h
  have hw : wrap64 ((ls.length : Int) - 1) = (ls.length : Int) - 1 := by unfold wrap64; omega
  rw [hw, List.all_eq_true] at h2
  refine ⟨h1, by omega, by omega, h5, fun m hm => ?_, fun m hm => ?_⟩
  · have := h2 m hm
    simp only [mvOkI, Bool.and_eq_true, inR_iff] at this
    omega
  · have := h2 m hm
    simp only [mvOkI, Bool.and_eq_true, Bool.not_eq_true', decide_eq_false_iff_not, List.any_eq_false] at this
    refine ⟨by omega, fun n hn => ?_⟩
    have h6 := this.2 n hn
    cases hq : inR n 0 ((ls.length : Int) - 1)
    · rw [hq] at h6; simp at h6
    · rw [inR_iff] at hq; omega
def wrTo (out : List Lab) (xs : List Int) (k : Nat) : Lab := wrL out (xs.take k)
theorem wrTo_step (out : List Lab) (xs : List Int) (k : Nat) (h : k < xs.length) : wrTo out xs (k + 1) = joinB (wrTo out xs k) (out.getD (xs[k]).toNat lab0) := by
  unfold wrTo wrL
  rw [List.take_succ_eq_append_getElem h, List.foldl_append]
  rfl
theorem wrTo_end (out : List Lab) (xs : List Int) (k : Nat) (h : ¬ k < xs.length) : wrTo out xs k = wrL out xs := by
  unfold wrTo
  rw [List.take_of_length_le (by omega)]
set_option maxRecDepth 100000 in
set_option maxHeartbeats 3200000 in
theorem written_any (out : List Lab) (d : Mv) (u v : Value) (w : World) (h : SlB w v out) (hx : SlI w u d.xs) (hr : ∀ n ∈ d.xs, 0 ≤ n ∧ n < (out.length : Int)) (hl : d.xs.length ≤ 16777216) :
    Calls Try.prog 54 #[.agg #[u, .int .i64 d.n], v] w fun e w' => e = .returned (.agg #[.int .i64 (wrL out d.xs).f0, .int .i64 (wrL out d.xs).f1]) ∧ Below w.heap.size w w' := by
  obtain ⟨a, cap, rfl, h1, h2⟩ := SlF.shape h
  obtain ⟨a2, cap2, rfl, h3, h4⟩ := SlF.shape hx
  unfold maxLen at h2 h4
  have H := Lib.hid h
  have HX := Lib.hid hx
  have HR := Lib.hid hr
  clear h hx hr
  have KM0 := Bk.alloc (Bk.alloc (Bk.new (w := w) (vs := #[.slice a2 d.xs.length cap2, .int .i64 d.n]) (t := 34)) (.cells #[.int .i64 0, .int .i64 0] 49)) (.cells #[.int .i64 0, .int .i64 0] 49)
  have KR0 := Bk.alloc (Bk.new (w := w.alloc (.cells #[.slice a2 d.xs.length cap2, .int .i64 d.n] 34)) (vs := #[.int .i64 0, .int .i64 0]) (t := 49)) (.cells #[.int .i64 0, .int .i64 0] 49)
  have KO0 := Bk.new (w := (w.alloc (.cells #[.slice a2 d.xs.length cap2, .int .i64 d.n] 34)).alloc (.cells #[.int .i64 0, .int .i64 0] 49)) (vs := #[.int .i64 0, .int .i64 0]) (t := 49)
  have B0 : Below w.heap.size w (((w.alloc (.cells #[.slice a2 d.xs.length cap2, .int .i64 d.n] 34)).alloc (.cells #[.int .i64 0, .int .i64 0] 49)).alloc (.cells #[.int .i64 0, .int .i64 0] 49)) := Below.al (Below.al (Below.al (Below.refl _ _) _) _) _
  (try simp only [World.size_alloc, World.size_drew] at KR0)
  (try simp only [World.size_alloc, World.size_drew] at KO0)
  have KR1 := Lib.hid KR0
  have KO1 := Lib.hid KO0
  clear KR0 KO0 KM0
  go_enter Try.func54, Try.ntmps54
  go_wp2_with fail
  go_loopw [11] (fun i wr => ∃ k : Nat, k ≤ d.xs.length ∧ i = .int .i64 k ∧ Hid (Bk wr (w.heap.size + 1 + 1) #[.int .i64 (wrTo out d.xs k).f0, .int .i64 (wrTo out d.xs k).f1] 49) ∧ Hid (Bk wr (w.heap.size + 1) #[.int .i64 0, .int .i64 0] 49) ∧ Below w.heap.size w wr) (fun i _ => d.xs.length - (intOf i).toNat)
  case atStart => exact ⟨0, Nat.zero_le _, rfl, KO1.out, KR1.out, B0⟩
  case round =>
    obtain ⟨k, hk, rfl, hO, hR, hB⟩ := hrel
    by_cases hlt : k < d.xs.length
    · obtain ⟨g2, off2, cx, hvv, _, _, c0⟩ := SlI.cell (SlI.below HX.out hB) k hlt
      simp only [Value.slice.injEq] at hvv
      obtain ⟨rfl, -, rfl⟩ := hvv
      have hst := Lib.hid (wrTo_step out d.xs k hlt)
      have hn := HR.out d.xs[k] (List.getElem_mem hlt)
      generalize d.xs[k] = x at c0 hst hn
      obtain ⟨m, rfl⟩ : ∃ m : Nat, x = m := ⟨x.toNat, by omega⟩
      have hml : m < out.length := by omega
      obtain ⟨g, off, cx, hvv, _, _, e0, e1⟩ := SlB.cells (SlF.below H.out hB) m hml
      simp only [Value.slice.injEq] at hvv
      obtain ⟨rfl, -, rfl⟩ := hvv
      have hgd : out.getD (m : Int).toNat lab0 = out[m] := by rw [Int.toNat_natCast, List.getD_eq_getElem?_getD, List.getElem?_eq_getElem hml]; rfl
      have hst2 := Lib.hid (hst.out.trans (by rw [hgd]))
      clear hst hgd
      generalize out[m] = q at e0 e1 hst2
      generalize hl0 : wrTo out d.xs k = l at hO hst2
      have hml2 : (m : Int) < (out.length : Int) := by omega
      have hml3 : (m : Int) < out.length := by omega
      clear hl0
      have KO := hO.out
      have hzz := KO.lt
      have hgz := World.block_lt_of_cell? _ _ e0
      go_wp2_with fail
      have KXr : KeepB (fun _ => True) ∧ KeepB (fun _ => True) := ⟨keepB_true, keepB_true⟩
      refine wp_region_invT 6 (G := fun s n w_ => RgN (fun _ => False) (fun _ => True) wr w_) (R := RgR (fun _ => False) (fun _ => True))
        (Fs := [Is (fun z_ => z_ = .agg #[.int .i64 l.f0, .int .i64 l.f1]), Is (fun z_ => z_ = .slice (some ⟨g, off, none⟩) out.length cap), Is (fun z_ => z_ = .int .i64 m), Is (fun z_ => z_ = .pointer (some ⟨g, off + m * 2, none⟩)), Is (fun z_ => z_ = .agg #[.int .i64 q.f0, .int .i64 q.f1]), Is (fun z_ => z_ = .agg #[.int .i64 (joinB l q).f0, .int .i64 (joinB l q).f1])])
        (by kernel_rfl) (by kernel_rfl) (fun _ => RgR.refl _) (fun h k => h.trans k) ?_ (fun _ _ => ⟨(Grow.refl _ _).drew, trivial⟩) ?_
      · (repeat' (first | exact lasts_nil | refine lasts_cons ?_ ?_))
        all_goals (first | exact Lasts.is | exact Lasts.any)
      show wpInv _ _ _ _ _ _ _ [_, _, _, _, _, _] _ _ _
      refine inv_cons 0 (by rfl) (fun wx n_ s_ hn hcl hsi hG hR hd => ?_) (fun v0 => ?_)
      · have xb := (Bk.grow (KO) hG.grow (fun h => h)).cell
        refine inv_want (by rfl) ?_
        have HG := Lib.hid hG
        clear hG hR hcl hsi hn
        unfold invAt invUpon; go_simp
        exact post_upN (F := Is (fun z_ => z_ = .agg #[.int .i64 l.f0, .int .i64 l.f1])) HG.out (is_eq rfl)
      simp only [Act.put, List.setIfInBounds_toArray, List.set_cons_zero, List.set_cons_succ, List.nil_append, List.cons_append]
      refine inv_cons 1 (by rfl) (fun wx n_ s_ hn hcl hsi hG hR hd => ?_) (fun v1 => ?_)
      · exact inv_want (by rfl) (inv_move (.tmp 1) rfl (post_upN (F := Is (fun z_ => z_ = .slice (some ⟨g, off, none⟩) out.length cap)) hG (is_eq rfl)))
      simp only [Act.put, List.setIfInBounds_toArray, List.set_cons_zero, List.set_cons_succ, List.nil_append, List.cons_append]
      refine inv_cons 2 (by rfl) (fun wx n_ s_ hn hcl hsi hG hR hd => ?_) (fun v2 => ?_)
      · exact inv_want (by rfl) (inv_move (.tmp 7) rfl (post_upN (F := Is (fun z_ => z_ = .int .i64 m)) hG (is_eq rfl)))
      simp only [Act.put, List.setIfInBounds_toArray, List.set_cons_zero, List.set_cons_succ, List.nil_append, List.cons_append]
      refine inv_cons 3 (by rfl) (fun wx n_ s_ hn hcl hsi hG hR hd => ?_) (fun v3 => ?_)
      · have d1 : (Is (fun z_ => z_ = .slice (some ⟨g, off, none⟩) out.length cap)) v1 wx := dep_get hd 1 (by rfl)
        obtain rfl := d1
        have d2 : (Is (fun z_ => z_ = .int .i64 m)) v2 wx := dep_get hd 2 (by rfl)
        obtain rfl := d2
        refine inv_want (by rfl) ?_
        have HG := Lib.hid hG
        clear hG hR hcl hsi hn
        unfold invAt invUpon; go_simp
        exact post_upN (F := Is (fun z_ => z_ = .pointer (some ⟨g, off + m * 2, none⟩))) HG.out (is_eq rfl)
      simp only [Act.put, List.setIfInBounds_toArray, List.set_cons_zero, List.set_cons_succ, List.nil_append, List.cons_append]
      refine inv_cons 4 (by rfl) (fun wx n_ s_ hn hcl hsi hG hR hd => ?_) (fun v4 => ?_)
      · have d3 : (Is (fun z_ => z_ = .pointer (some ⟨g, off + m * 2, none⟩))) v3 wx := dep_get hd 3 (by rfl)
        obtain rfl := d3
        have xb0 := cell_grow (e0) hG.grow (fun h => h)
        have xb1 := cell_grow (e1) hG.grow (fun h => h)
        refine inv_want (by rfl) ?_
        have HG := Lib.hid hG
        clear hG hR hcl hsi hn
        unfold invAt invUpon; go_simp
        exact post_upN (F := Is (fun z_ => z_ = .agg #[.int .i64 q.f0, .int .i64 q.f1])) HG.out (is_eq rfl)
      simp only [Act.put, List.setIfInBounds_toArray, List.set_cons_zero, List.set_cons_succ, List.nil_append, List.cons_append]
      refine inv_cons 5 (by rfl) (fun wx n_ s_ hn hcl hsi hG hR hd => ?_) (fun v5 => ?_)
      · have d0 : (Is (fun z_ => z_ = .agg #[.int .i64 l.f0, .int .i64 l.f1])) v0 wx := dep_get hd 0 (by rfl)
        obtain rfl := d0
        have d4 : (Is (fun z_ => z_ = .agg #[.int .i64 q.f0, .int .i64 q.f1])) v4 wx := dep_get hd 4 (by rfl)
        obtain rfl := d4
        refine inv_want (by rfl) ?_
        have HG := Lib.hid hG
        clear hG hR hcl hsi hn
        unfold invAt invUpon; go_simp
        refine (join_any l.f0 l.f1 q.f0 q.f1 wx).mono ?_
        rintro e w' ⟨rfl, hb⟩
        exact ⟨_, rfl, post_newN (F := Is (fun z_ => z_ = .agg #[.int .i64 (joinB l q).f0, .int .i64 (joinB l q).f1])) KXr HG.out hb (is_eq rfl)⟩
      simp only [Act.put, List.setIfInBounds_toArray, List.set_cons_zero, List.set_cons_succ, List.nil_append, List.cons_append]
      refine inv_nil (fun wq nq sq hnq hGq hRq hall => ?_)
      obtain ⟨f0, f1, f2, f3, f4, f5, -⟩ := hall
      obtain rfl : v5 = .agg #[.int .i64 (joinB l q).f0, .int .i64 (joinB l q).f1] := f5
      have KO2 := Bk.grow KO hGq.grow (fun h => h)
      have KR2 := Bk.grow hR.out hGq.grow (fun h => h)
      have xo := KO2.cell
      have fo := KO2.free
      have hBq := Below.via (Grow.below0 hGq.grow) hB
      have KO3 := Lib.hid ((KO2.same 0 (.int .i64 (joinB l q).f0)).same 1 (.int .i64 (joinB l q).f1))
      have KR3 := Lib.hid ((KR2.far ⟨w.heap.size + 1 + 1, 0, none⟩ (by dsimp only; omega) (.int .i64 (joinB l q).f0)).far ⟨w.heap.size + 1 + 1, 1, none⟩ (by dsimp only; omega) (.int .i64 (joinB l q).f1))
      have hB3 := (hBq.setCell (p := ⟨w.heap.size + 1 + 1, 0, none⟩) (show w.heap.size ≤ w.heap.size + 1 + 1 by omega) (.int .i64 (joinB l q).f0)).setCell (p := ⟨w.heap.size + 1 + 1, 1, none⟩) (show w.heap.size ≤ w.heap.size + 1 + 1 by omega) (.int .i64 (joinB l q).f1)
      clear KO KO2 KR2
      go_wp2_with fail
      go_roundw
      case rel => exact ⟨k + 1, by omega, by go_num, by rw [hst2.out]; exact KO3, KR3, hB3⟩
      case measure => simp [intOf]; omega
    · have hf := Lib.hid (wrTo_end out d.xs k hlt)
      have xo := hO.out.cell
      have xr := hR.out.cell
      have fr := hR.out.free
      have x9 := (((hR.out.same 0 (.int .i64 (wrTo out d.xs k).f0)).same 1 (.int .i64 (wrTo out d.xs k).f1))).cell
      go_wp2_with fail
      (try simp only [Exit.inBlock, Exit.then]); refine bodyPost_ret (by simp [results, Try.results54, go_sem, x9]; try rfl) rfl ?_
      refine ⟨by rw [hf.out], ?_⟩
      exact (hB.setCell (show w.heap.size ≤ w.heap.size + 1 by omega) _).setCell (show w.heap.size ≤ w.heap.size + 1 by omega) _
end Go.Proofs.Ytfghgpdhcpcoiaa
