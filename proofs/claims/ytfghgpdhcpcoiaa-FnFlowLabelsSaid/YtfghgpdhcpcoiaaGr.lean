/-
  Flows of labels: plain laws, and labels compared. No condition.
-/
import Derived.Test.YtfghgpdhcpcoiaaFz
import Derived.Test.YtfghgpdhcpcoiaaJs
set_option linter.unusedSimpArgs false
set_option linter.unusedVariables false
namespace Go.Proofs.Ytfghgpdhcpcoiaa
open Go.RowKit
theorem SlM.take2 {w : World} {a : Option Addr} {c : Nat} {ds : List Mv} (h : SlM w (.slice a ds.length c) ds) (k : Nat) (hk : k ≤ ds.length) : SlM w (.slice a k c) (ds.take k) := by
  obtain ⟨us, h1, h2, h3⟩ := h
  refine ⟨us.take k, by simp [h1], ?_, fun i hi hi2 => ?_⟩
  · obtain ⟨e1, a', cap', e2, e3, e4, e5⟩ := h2
    cases e2
    have s : SlF w (.slice a k c) 2 k ((cellsM us ds).take (k * 2)) := by
      refine ⟨by rw [List.length_take, e1]; omega, a, c, rfl, by omega, by omega, ?_⟩
      rcases e5 with e5 | ⟨g, off, rfl, hc⟩
      · exact .inl (by omega)
      · exact .inr ⟨g, off, rfl, fun j hj => by rw [hc j (by omega), List.getElem?_take, if_pos hj]⟩
    rw [List.length_take, Nat.min_eq_left hk]
    unfold cellsM at s ⊢
    rw [take_flat encM 2 encM_len] at s
    simp only [List.zip, List.take_zipWith] at s ⊢
    exact s
  · rw [List.getElem_take, List.getElem_take]
    exact h3 i (by simp at hi; omega) (by simp at hi2; omega)
theorem flowR_two (ls : List Lab) (ms : List Mv) (h : Nat) (hok : flowOk ls ms = true) : flowR (flowR ls (ms.take h)) (ms.drop h) = flow ls ms := by
  have hv := hok
  simp only [flowOk, Bool.and_eq_true] at hv
  obtain ⟨hv1, hv2⟩ := hv
  have ht : mvValidI ls.length (ms.take h) = true := by
    simp only [mvValidI, Bool.and_eq_true, List.all_eq_true, decide_eq_true_eq, List.length_take] at hv2 ⊢
    exact ⟨fun x hx => hv2.1 x (List.mem_of_mem_take hx), hv2.2.1, by omega⟩
  have hd : mvValidI ls.length (ms.drop h) = true := by
    rw [mvValid_eq] at hv2 ⊢
    exact mvValid_drop _ ms h hv2
  rw [(flow_good ls (ms.take h) hv1 ht).2]
  have hy := flow_ok (ms.take h) ls hv1
  have hn := flow_len (ms.take h) ls
  rw [(flow_good _ (ms.drop h) hy (by rw [hn]; exact hd)).2]
  unfold flow
  rw [← List.foldl_append, List.take_append_drop]
theorem flow_keep (i : Nat) : ∀ (ms : List Mv) (D : List Lab), (∀ m ∈ ms, m.n.toNat ≠ i) → (flow D ms)[i]? = D[i]?
  | [], D, _ => rfl
  | m :: ms, D, h => by
    show (flow (stF D m) ms)[i]? = _
    rw [flow_keep i ms (stF D m) (fun x hx => h x (List.mem_cons_of_mem _ hx))]
    unfold stF
    rw [List.getElem?_set_ne (h m (List.mem_cons_self ..))]
def wrB (ms : List Mv) (k j : Nat) : Bool := (ms.take j).any fun m => m.n == (k : Int)
theorem wrB_step (ms : List Mv) (k j : Nat) (h : j < ms.length) : wrB ms k (j + 1) = (wrB ms k j || ms[j].n == (k : Int)) := by
  unfold wrB
  rw [List.take_succ_eq_append_getElem h, List.any_append]
  simp
theorem flow_kept (ls : List Lab) (ms : List Mv) (k : Nat) (hok : flowOk ls ms = true) (hw : wrB ms k ms.length = false) (h1 : k < ls.length) (h2 : k < (flow ls ms).length) : (flow ls ms)[k] = ls[k] := by
  have F := flowOk_of hok
  have q := flow_keep k ms ls (fun m hm e => by
    have := F.wr m hm
    unfold wrB at hw
    rw [List.take_of_length_le (Nat.le_refl _), List.any_eq_false] at hw
    have h3 := hw m hm
    rw [beq_iff_eq] at h3
    omega)
  rw [List.getElem?_eq_getElem h1, List.getElem?_eq_getElem h2, Option.some.injEq] at q
  exact q
set_option maxRecDepth 100000 in
set_option maxHeartbeats 3200000 in
theorem sameL_any (ds : List Lab) (v u : Value) (w : World) (h : SlB w v ds) (h' : SlB w u ds) : Calls Try.prog 27 #[v, u] w fun e w' => e = .returned (.bool true) ∧ Below w.heap.size w w' := by
  obtain ⟨a, cap, rfl, h1, h2⟩ := SlF.shape h
  obtain ⟨b, cap2, rfl, h3, h4⟩ := SlF.shape h'
  unfold maxLen at h2 h4
  have H := Lib.hid h
  have H' := Lib.hid h'
  clear h h'
  go_enter Try.func27, Try.ntmps27
  go_wp2_with fail
  go_loopw [5] (fun i wr => ∃ k : Nat, k ≤ ds.length ∧ i = .int .i64 k ∧ Below w.heap.size w wr) (fun i _ => ds.length - (intOf i).toNat)
  case atStart => exact ⟨0, Nat.zero_le _, rfl, Below.refl _ _⟩
  case round =>
    obtain ⟨k, hk, rfl, hB⟩ := hrel
    by_cases hlt : k < ds.length
    · have hlt2 : (k : Int) < (ds.length : Int) := by omega
      obtain ⟨gx, ox, cx2, hvx, _, _, x0, x1⟩ := SlB.cells (SlF.below H.out hB) k hlt
      simp only [Value.slice.injEq] at hvx
      obtain ⟨rfl, -, rfl⟩ := hvx
      obtain ⟨gl, ol, cl, hvl, _, _, p0, p1⟩ := SlB.cells (SlF.below H'.out hB) k hlt
      simp only [Value.slice.injEq] at hvl
      obtain ⟨rfl, -, rfl⟩ := hvl
      generalize ds[k] = q at x0 x1 p0 p1
      go_wp2_with fail
      have KXr : KeepB (fun _ => True) ∧ KeepB (fun _ => True) := ⟨keepB_true, keepB_true⟩
      refine wp_region_inv (G := fun s n w_ => RgN (fun _ => False) (fun _ => True) wr w_) (R := RgR (fun _ => False) (fun _ => True))
        (Fs := [Is (fun z_ => z_ = .slice (some ⟨gx, ox, none⟩) ds.length cap), Is (fun z_ => z_ = .int .i64 k), Is (fun z_ => z_ = .pointer (some ⟨gx, ox + k * 2, none⟩)), Is (fun z_ => z_ = .agg #[.int .i64 q.f0, .int .i64 q.f1]), Is (fun z_ => z_ = .slice (some ⟨gl, ol, none⟩) ds.length cap2), Is (fun z_ => z_ = .int .i64 k), Is (fun z_ => z_ = .pointer (some ⟨gl, ol + k * 2, none⟩)), Is (fun z_ => z_ = .agg #[.int .i64 q.f0, .int .i64 q.f1]), Is (fun z_ => z_ = .bool false)])
        (by kernel_rfl) (by kernel_rfl) (fun _ => RgR.refl _) (fun h k => h.trans k) ?_ (fun _ _ => ⟨(Grow.refl _ _).drew, trivial⟩) ?_
      · (repeat' (first | exact lasts_nil | refine lasts_cons ?_ ?_))
        all_goals (first | exact Lasts.is | exact Lasts.any)
      refine inv_cons 0 (by rfl) (fun wx n_ s_ hn hcl hsi hG hR hd => ?_) (fun v0 => ?_)
      · exact inv_want (by rfl) (inv_move (.tmp 0) rfl (post_upN (F := Is (fun z_ => z_ = .slice (some ⟨gx, ox, none⟩) ds.length cap)) hG (is_eq rfl)))
      simp only [Act.put, List.setIfInBounds_toArray, List.set_cons_zero, List.set_cons_succ, List.nil_append, List.cons_append]
      refine inv_cons 1 (by rfl) (fun wx n_ s_ hn hcl hsi hG hR hd => ?_) (fun v1 => ?_)
      · exact inv_want (by rfl) (inv_move (.tmp 5) rfl (post_upN (F := Is (fun z_ => z_ = .int .i64 k)) hG (is_eq rfl)))
      simp only [Act.put, List.setIfInBounds_toArray, List.set_cons_zero, List.set_cons_succ, List.nil_append, List.cons_append]
      refine inv_cons 2 (by rfl) (fun wx n_ s_ hn hcl hsi hG hR hd => ?_) (fun v2 => ?_)
      · have d0 : (Is (fun z_ => z_ = .slice (some ⟨gx, ox, none⟩) ds.length cap)) v0 wx := dep_get hd 0 (by rfl)
        obtain rfl := d0
        have d1 : (Is (fun z_ => z_ = .int .i64 k)) v1 wx := dep_get hd 1 (by rfl)
        obtain rfl := d1
        refine inv_want (by rfl) ?_
        have HG := Lib.hid hG
        clear hG hR hcl hsi hn
        unfold invAt invUpon; go_simp
        exact post_upN (F := Is (fun z_ => z_ = .pointer (some ⟨gx, ox + k * 2, none⟩))) HG.out (is_eq rfl)
      simp only [Act.put, List.setIfInBounds_toArray, List.set_cons_zero, List.set_cons_succ, List.nil_append, List.cons_append]
      refine inv_cons 3 (by rfl) (fun wx n_ s_ hn hcl hsi hG hR hd => ?_) (fun v3 => ?_)
      · have d2 : (Is (fun z_ => z_ = .pointer (some ⟨gx, ox + k * 2, none⟩))) v2 wx := dep_get hd 2 (by rfl)
        obtain rfl := d2
        have xb0 := cell_grow (x0) hG.grow (fun h => h)
        have xb1 := cell_grow (x1) hG.grow (fun h => h)
        refine inv_want (by rfl) ?_
        have HG := Lib.hid hG
        clear hG hR hcl hsi hn
        unfold invAt invUpon; go_simp
        exact post_upN (F := Is (fun z_ => z_ = .agg #[.int .i64 q.f0, .int .i64 q.f1])) HG.out (is_eq rfl)
      simp only [Act.put, List.setIfInBounds_toArray, List.set_cons_zero, List.set_cons_succ, List.nil_append, List.cons_append]
      refine inv_cons 4 (by rfl) (fun wx n_ s_ hn hcl hsi hG hR hd => ?_) (fun v4 => ?_)
      · exact inv_want (by rfl) (inv_move (.tmp 1) rfl (post_upN (F := Is (fun z_ => z_ = .slice (some ⟨gl, ol, none⟩) ds.length cap2)) hG (is_eq rfl)))
      simp only [Act.put, List.setIfInBounds_toArray, List.set_cons_zero, List.set_cons_succ, List.nil_append, List.cons_append]
      refine inv_cons 5 (by rfl) (fun wx n_ s_ hn hcl hsi hG hR hd => ?_) (fun v5 => ?_)
      · exact inv_want (by rfl) (inv_move (.tmp 5) rfl (post_upN (F := Is (fun z_ => z_ = .int .i64 k)) hG (is_eq rfl)))
      simp only [Act.put, List.setIfInBounds_toArray, List.set_cons_zero, List.set_cons_succ, List.nil_append, List.cons_append]
      refine inv_cons 6 (by rfl) (fun wx n_ s_ hn hcl hsi hG hR hd => ?_) (fun v6 => ?_)
      · have d4 : (Is (fun z_ => z_ = .slice (some ⟨gl, ol, none⟩) ds.length cap2)) v4 wx := dep_get hd 4 (by rfl)
        obtain rfl := d4
        have d5 : (Is (fun z_ => z_ = .int .i64 k)) v5 wx := dep_get hd 5 (by rfl)
        obtain rfl := d5
        refine inv_want (by rfl) ?_
        have HG := Lib.hid hG
        clear hG hR hcl hsi hn
        unfold invAt invUpon; go_simp
        exact post_upN (F := Is (fun z_ => z_ = .pointer (some ⟨gl, ol + k * 2, none⟩))) HG.out (is_eq rfl)
      simp only [Act.put, List.setIfInBounds_toArray, List.set_cons_zero, List.set_cons_succ, List.nil_append, List.cons_append]
      refine inv_cons 7 (by rfl) (fun wx n_ s_ hn hcl hsi hG hR hd => ?_) (fun v7 => ?_)
      · have d6 : (Is (fun z_ => z_ = .pointer (some ⟨gl, ol + k * 2, none⟩))) v6 wx := dep_get hd 6 (by rfl)
        obtain rfl := d6
        have xb0 := cell_grow (p0) hG.grow (fun h => h)
        have xb1 := cell_grow (p1) hG.grow (fun h => h)
        refine inv_want (by rfl) ?_
        have HG := Lib.hid hG
        clear hG hR hcl hsi hn
        unfold invAt invUpon; go_simp
        exact post_upN (F := Is (fun z_ => z_ = .agg #[.int .i64 q.f0, .int .i64 q.f1])) HG.out (is_eq rfl)
      simp only [Act.put, List.setIfInBounds_toArray, List.set_cons_zero, List.set_cons_succ, List.nil_append, List.cons_append]
      refine inv_cons 8 (by rfl) (fun wx n_ s_ hn hcl hsi hG hR hd => ?_) (fun v8 => ?_)
      · have d3 : (Is (fun z_ => z_ = .agg #[.int .i64 q.f0, .int .i64 q.f1])) v3 wx := dep_get hd 3 (by rfl)
        obtain rfl := d3
        have d7 : (Is (fun z_ => z_ = .agg #[.int .i64 q.f0, .int .i64 q.f1])) v7 wx := dep_get hd 7 (by rfl)
        obtain rfl := d7
        refine inv_want (by rfl) ?_
        have HG := Lib.hid hG
        clear hG hR hcl hsi hn
        unfold invAt invUpon; go_simp
        exact post_upN (F := Is (fun z_ => z_ = .bool false)) HG.out (is_eq rfl)
      simp only [Act.put, List.setIfInBounds_toArray, List.set_cons_zero, List.set_cons_succ, List.nil_append, List.cons_append]
      refine inv_nil (fun wq nq sq hnq hGq hRq hall => ?_)
      obtain ⟨f0, f1, f2, f3, f4, f5, f6, f7, f8, -⟩ := hall
      obtain rfl : v8 = .bool false := f8
      have hBq := Below.via (Grow.below0 hGq.grow) hB
      go_wp2_with fail
      go_roundw
      case rel => exact ⟨k + 1, by omega, by go_num, hBq⟩
      case measure => simp [intOf]; omega
    · have hlt2 : ¬ (k : Int) < (ds.length : Int) := by omega
      go_wp2_with fail
      go_ret
      exact ⟨rfl, hB⟩
end Go.Proofs.Ytfghgpdhcpcoiaa
