/-
  slices.Clone over delegations, slices.Equal over numbers. No condition.
-/
import Derived.Test.YtjmjpejkongipaaVr
set_option linter.unusedSimpArgs false
set_option linter.unusedVariables false
namespace Go.Proofs.Ytjmjpejkongipaa
open Go.RowKit
theorem infoDg : (Try.prog.info? 32).map (fun i => (i.zero, i.size, i.bytes)) = some (some (.agg #[.int .i64 0, .int .i64 0, .int .i64 0]), 3, 24) := by kernel_rfl
theorem cellsD_one1 (ds : List Deleg) : ∀ u ∈ cellsD ds, u.oneCell' = true := fun u hu => by
  obtain ⟨d, _, hd⟩ := List.mem_flatMap.mp hu
  simp [encD] at hd
  rcases hd with rfl | rfl | rfl <;> rfl
set_option maxRecDepth 100000 in
theorem cloneD_any (ds : List Deleg) (v : Value) (w : World) (h : SlD w v ds) (h0 : 0 < ds.length) (hl : ds.length ≤ 4194304) : Calls Try.prog 42 #[v] w fun e w' => ∃ v' : Value, e = .returned v' ∧ v' ≠ .slice none 0 0 ∧ w'.ownsRow w.heap.size 32 3 v' ds.length (cellsD ds) ∧ Below w.heap.size w w' := by
  obtain ⟨g, off, cap, rfl, h1, h2, _⟩ := SlF.at h h0
  unfold maxLen at h2
  have hmk0 : ∀ w : World, (Instr.buildSlice 25 0 #[]).run Try.prog w = .ok (.slice (some ⟨w.heap.size, 0, none⟩) 0 0) (w.alloc (.cells #[] 32)) := fun w => by kernel_rfl
  have hnil := fun (w : World) => Lib.run_eql_slice_nil (P := Try.prog) w 25 32 (some ⟨g, off, none⟩) ds.length cap 0 0 Try.underlying25
  have hA := Below.al (Below.refl w.heap.size w) (.cells #[] 32)
  have hs := Lib.hid (SlF.below h hA)
  clear h
  go_enter Try.func42, Try.ntmps42
  go_wp2_with (at_builtin; refine Hid.out ?_); refine Lib.hid ?_
  refine wpList_appS (s := .tmp 5) (x := .tmp 6) rfl 25 32 (.agg #[.int .i64 0, .int .i64 0, .int .i64 0]) 3 24 rfl Try.underlying25 infoDg rfl (by decide) (by decide) w.heap.size (.slice (some ⟨w.heap.size, 0, none⟩) 0 0) 0 [] (by rfl) (own_made w _ _ _ (Nat.le_refl _)) (.slice (some ⟨g, off, none⟩) ds.length cap) ds.length (cellsD ds) (by rfl) hs.out (cellsD_one1 ds) (by omega) (by simp) ?_
  intro v4 w4 ho4 hg4 _ hn4
  have b4 : Below w.heap.size w w4 := Below.grown hA hg4 (by simp only [World.size_alloc]; omega) (own_gt (own_made w _ 32 3 (Nat.le_refl _)))
  simp only [Nat.zero_add, List.nil_append] at ho4
  have HO := Lib.hid ho4
  have HN := Lib.hid (hn4 (by simp))
  clear hg4 hn4 ho4
  go_wp2_with fail
  go_ret
  exact ⟨v4, rfl, HN.out, HO.out, b4⟩
set_option maxRecDepth 100000 in
set_option maxHeartbeats 3200000 in
theorem equalI_any (xs ys : List Int) (v u : Value) (w : World) (h : SlI w v xs) (h' : SlI w u ys) (hl : xs.length = ys.length) : Calls Try.prog 43 #[v, u] w fun e w' => e = .returned (.bool (decide (xs = ys))) ∧ Below w.heap.size w w' := by
  obtain ⟨a, cap, rfl, h1, h2⟩ := SlF.shape h
  obtain ⟨b, cap2, rfl, h3, h4⟩ := SlF.shape h'
  unfold maxLen at h2 h4
  have H := Lib.hid h
  have H' := Lib.hid (show SlI w (.slice b xs.length cap2) ys from hl ▸ h')
  rw [← hl]
  have HL := Lib.hid hl
  clear h h' hl
  go_enter Try.func43, Try.ntmps43
  go_wp2_with fail
  go_loopw [13] (fun i wr => ∃ k : Nat, k ≤ xs.length ∧ i = .int .i64 k ∧ Hid (∀ j, j < k → xs[j]? = ys[j]?) ∧ Below w.heap.size w wr) (fun i _ => xs.length - (intOf i).toNat)
  case atStart => exact ⟨0, Nat.zero_le _, rfl, fun j hj => by omega, Below.refl _ _⟩
  case round =>
    obtain ⟨k, hk, rfl, ha, hB⟩ := hrel
    by_cases hlt : k < xs.length
    · have hlt2 : (k : Int) < (xs.length : Int) := by omega
      have hly : k < ys.length := by have := HL.out; omega
      obtain ⟨gx, ox, cx2, hvx, _, _, x0⟩ := SlI.cell (SlI.below H.out hB) k hlt
      simp only [Value.slice.injEq] at hvx
      obtain ⟨rfl, -, rfl⟩ := hvx
      obtain ⟨gl, ol, cl, hvl, _, _, p0⟩ := SlI.cell (SlI.below H'.out hB) k hly
      rw [← HL.out] at hvl
      simp only [Value.slice.injEq] at hvl
      obtain ⟨rfl, -, rfl⟩ := hvl
      have hex := Lib.hid (List.getElem?_eq_getElem hlt)
      have hey := Lib.hid (List.getElem?_eq_getElem hly)
      generalize xs[k] = x at x0 hex
      generalize ys[k] = y at p0 hey
      by_cases he : x = y
      · subst he
        have hn := Lib.hid (show ∀ j, j < k + 1 → xs[j]? = ys[j]? from fun j hj => by
          rcases Nat.lt_succ_iff_lt_or_eq.1 hj with h1 | rfl
          · exact ha.out j h1
          · rw [hex.out, hey.out])
        go_wp2_with fail
        have KXr : KeepB (fun _ => True) ∧ KeepB (fun _ => True) := ⟨keepB_true, keepB_true⟩
        refine wp_region_inv (G := fun s n w_ => RgN (fun _ => False) (fun _ => True) wr w_) (R := RgR (fun _ => False) (fun _ => True))
          (Fs := [Is (fun z_ => z_ = .slice (some ⟨gx, ox, none⟩) xs.length cap), Is (fun z_ => z_ = .int .i64 k), Is (fun z_ => z_ = .pointer (some ⟨gx, ox + k, none⟩)), Is (fun z_ => z_ = .int .i64 x), Is (fun z_ => z_ = .slice (some ⟨gl, ol, none⟩) xs.length cap2), Is (fun z_ => z_ = .int .i64 k), Is (fun z_ => z_ = .pointer (some ⟨gl, ol + k, none⟩)), Is (fun z_ => z_ = .int .i64 x), Is (fun z_ => z_ = .bool false)])
          (by kernel_rfl) (by kernel_rfl) (fun _ => RgR.refl _) (fun h k => h.trans k) ?_ (fun _ _ => ⟨(Grow.refl _ _).drew, trivial⟩) ?_
        · (repeat' (first | exact lasts_nil | refine lasts_cons ?_ ?_))
          all_goals (first | exact Lasts.is | exact Lasts.any)
        refine inv_cons 0 (by rfl) (fun wx n_ s_ hn hcl hsi hG hR hd => ?_) (fun v0 => ?_)
        · exact inv_want (by rfl) (inv_move (.tmp 0) rfl (post_upN (F := Is (fun z_ => z_ = .slice (some ⟨gx, ox, none⟩) xs.length cap)) hG (is_eq rfl)))
        simp only [Act.put, List.setIfInBounds_toArray, List.set_cons_zero, List.set_cons_succ, List.nil_append, List.cons_append]
        refine inv_cons 1 (by rfl) (fun wx n_ s_ hn hcl hsi hG hR hd => ?_) (fun v1 => ?_)
        · exact inv_want (by rfl) (inv_move (.tmp 5) rfl (post_upN (F := Is (fun z_ => z_ = .int .i64 k)) hG (is_eq rfl)))
        simp only [Act.put, List.setIfInBounds_toArray, List.set_cons_zero, List.set_cons_succ, List.nil_append, List.cons_append]
        refine inv_cons 2 (by rfl) (fun wx n_ s_ hn hcl hsi hG hR hd => ?_) (fun v2 => ?_)
        · have d0 : (Is (fun z_ => z_ = .slice (some ⟨gx, ox, none⟩) xs.length cap)) v0 wx := dep_get hd 0 (by rfl)
          obtain rfl := d0
          have d1 : (Is (fun z_ => z_ = .int .i64 k)) v1 wx := dep_get hd 1 (by rfl)
          obtain rfl := d1
          refine inv_want (by rfl) ?_
          have HG := Lib.hid hG
          clear hG hR hcl hsi hn
          unfold invAt invUpon; go_simp
          exact post_upN (F := Is (fun z_ => z_ = .pointer (some ⟨gx, ox + k, none⟩))) HG.out (is_eq rfl)
        simp only [Act.put, List.setIfInBounds_toArray, List.set_cons_zero, List.set_cons_succ, List.nil_append, List.cons_append]
        refine inv_cons 3 (by rfl) (fun wx n_ s_ hn hcl hsi hG hR hd => ?_) (fun v3 => ?_)
        · have d2 : (Is (fun z_ => z_ = .pointer (some ⟨gx, ox + k, none⟩))) v2 wx := dep_get hd 2 (by rfl)
          obtain rfl := d2
          have xb0 := cell_grow (x0) hG.grow (fun h => h)
          refine inv_want (by rfl) ?_
          have HG := Lib.hid hG
          clear hG hR hcl hsi hn
          unfold invAt invUpon; go_simp
          exact post_upN (F := Is (fun z_ => z_ = .int .i64 x)) HG.out (is_eq rfl)
        simp only [Act.put, List.setIfInBounds_toArray, List.set_cons_zero, List.set_cons_succ, List.nil_append, List.cons_append]
        refine inv_cons 4 (by rfl) (fun wx n_ s_ hn hcl hsi hG hR hd => ?_) (fun v4 => ?_)
        · exact inv_want (by rfl) (inv_move (.tmp 1) rfl (post_upN (F := Is (fun z_ => z_ = .slice (some ⟨gl, ol, none⟩) xs.length cap2)) hG (is_eq rfl)))
        simp only [Act.put, List.setIfInBounds_toArray, List.set_cons_zero, List.set_cons_succ, List.nil_append, List.cons_append]
        refine inv_cons 5 (by rfl) (fun wx n_ s_ hn hcl hsi hG hR hd => ?_) (fun v5 => ?_)
        · exact inv_want (by rfl) (inv_move (.tmp 5) rfl (post_upN (F := Is (fun z_ => z_ = .int .i64 k)) hG (is_eq rfl)))
        simp only [Act.put, List.setIfInBounds_toArray, List.set_cons_zero, List.set_cons_succ, List.nil_append, List.cons_append]
        refine inv_cons 6 (by rfl) (fun wx n_ s_ hn hcl hsi hG hR hd => ?_) (fun v6 => ?_)
        · have d4 : (Is (fun z_ => z_ = .slice (some ⟨gl, ol, none⟩) xs.length cap2)) v4 wx := dep_get hd 4 (by rfl)
          obtain rfl := d4
          have d5 : (Is (fun z_ => z_ = .int .i64 k)) v5 wx := dep_get hd 5 (by rfl)
          obtain rfl := d5
          refine inv_want (by rfl) ?_
          have HG := Lib.hid hG
          clear hG hR hcl hsi hn
          unfold invAt invUpon; go_simp
          exact post_upN (F := Is (fun z_ => z_ = .pointer (some ⟨gl, ol + k, none⟩))) HG.out (is_eq rfl)
        simp only [Act.put, List.setIfInBounds_toArray, List.set_cons_zero, List.set_cons_succ, List.nil_append, List.cons_append]
        refine inv_cons 7 (by rfl) (fun wx n_ s_ hn hcl hsi hG hR hd => ?_) (fun v7 => ?_)
        · have d6 : (Is (fun z_ => z_ = .pointer (some ⟨gl, ol + k, none⟩))) v6 wx := dep_get hd 6 (by rfl)
          obtain rfl := d6
          have xb0 := cell_grow (p0) hG.grow (fun h => h)
          refine inv_want (by rfl) ?_
          have HG := Lib.hid hG
          clear hG hR hcl hsi hn
          unfold invAt invUpon; go_simp
          exact post_upN (F := Is (fun z_ => z_ = .int .i64 x)) HG.out (is_eq rfl)
        simp only [Act.put, List.setIfInBounds_toArray, List.set_cons_zero, List.set_cons_succ, List.nil_append, List.cons_append]
        refine inv_cons 8 (by rfl) (fun wx n_ s_ hn hcl hsi hG hR hd => ?_) (fun v8 => ?_)
        · have d3 : (Is (fun z_ => z_ = .int .i64 x)) v3 wx := dep_get hd 3 (by rfl)
          obtain rfl := d3
          have d7 : (Is (fun z_ => z_ = .int .i64 x)) v7 wx := dep_get hd 7 (by rfl)
          obtain rfl := d7
          refine inv_want (by rfl) ?_
          have HG := Lib.hid hG
          clear hG hR hcl hsi hn
          unfold invAt invUpon; go_simp
          exact post_upN (F := Is (fun z_ => z_ = .bool false)) HG.out (is_eq rfl)
        simp only [Act.put, List.setIfInBounds_toArray, List.set_cons_zero, List.set_cons_succ, List.nil_append, List.cons_append]
        refine inv_nil (fun wq nq sq hnq hGq hRq hall => ?_)
        obtain ⟨f0, f1, f2, f3, f4, f5, f6, f7, f8, -⟩ := hall
        obtain rfl : v8 = .bool false := f8
        have hBq := Below.via (Grow.below0 hGq.grow) hB
        go_wp2_with fail
        go_roundw
        case rel => first | exact ⟨k + 1, by omega, by go_num, hn, hBq⟩ | ((repeat apply Exists.intro); exact ⟨⟨k + 1, by omega, by go_num, hn, hBq⟩, rfl⟩)
        case measure => simp [intOf]; omega
      · have hne := Lib.hid (show decide (xs = ys) = false by
          simp only [decide_eq_false_iff_not]
          intro e
          have e1 := hex.out
          have e2 := hey.out
          rw [e] at e1
          exact he (Option.some.inj (e1.symm.trans e2)))
        have hxy : (x != y) = true := by simp [he]
        go_wp2_with fail
        have KXr : KeepB (fun _ => True) ∧ KeepB (fun _ => True) := ⟨keepB_true, keepB_true⟩
        refine wp_region_inv (G := fun s n w_ => RgN (fun _ => False) (fun _ => True) wr w_) (R := RgR (fun _ => False) (fun _ => True))
          (Fs := [Is (fun z_ => z_ = .slice (some ⟨gx, ox, none⟩) xs.length cap), Is (fun z_ => z_ = .int .i64 k), Is (fun z_ => z_ = .pointer (some ⟨gx, ox + k, none⟩)), Is (fun z_ => z_ = .int .i64 x), Is (fun z_ => z_ = .slice (some ⟨gl, ol, none⟩) xs.length cap2), Is (fun z_ => z_ = .int .i64 k), Is (fun z_ => z_ = .pointer (some ⟨gl, ol + k, none⟩)), Is (fun z_ => z_ = .int .i64 y), Is (fun z_ => z_ = .bool true)])
          (by kernel_rfl) (by kernel_rfl) (fun _ => RgR.refl _) (fun h k => h.trans k) ?_ (fun _ _ => ⟨(Grow.refl _ _).drew, trivial⟩) ?_
        · (repeat' (first | exact lasts_nil | refine lasts_cons ?_ ?_))
          all_goals (first | exact Lasts.is | exact Lasts.any)
        refine inv_cons 0 (by rfl) (fun wx n_ s_ hn hcl hsi hG hR hd => ?_) (fun v0 => ?_)
        · exact inv_want (by rfl) (inv_move (.tmp 0) rfl (post_upN (F := Is (fun z_ => z_ = .slice (some ⟨gx, ox, none⟩) xs.length cap)) hG (is_eq rfl)))
        simp only [Act.put, List.setIfInBounds_toArray, List.set_cons_zero, List.set_cons_succ, List.nil_append, List.cons_append]
        refine inv_cons 1 (by rfl) (fun wx n_ s_ hn hcl hsi hG hR hd => ?_) (fun v1 => ?_)
        · exact inv_want (by rfl) (inv_move (.tmp 5) rfl (post_upN (F := Is (fun z_ => z_ = .int .i64 k)) hG (is_eq rfl)))
        simp only [Act.put, List.setIfInBounds_toArray, List.set_cons_zero, List.set_cons_succ, List.nil_append, List.cons_append]
        refine inv_cons 2 (by rfl) (fun wx n_ s_ hn hcl hsi hG hR hd => ?_) (fun v2 => ?_)
        · have d0 : (Is (fun z_ => z_ = .slice (some ⟨gx, ox, none⟩) xs.length cap)) v0 wx := dep_get hd 0 (by rfl)
          obtain rfl := d0
          have d1 : (Is (fun z_ => z_ = .int .i64 k)) v1 wx := dep_get hd 1 (by rfl)
          obtain rfl := d1
          refine inv_want (by rfl) ?_
          have HG := Lib.hid hG
          clear hG hR hcl hsi hn
          unfold invAt invUpon; go_simp
          exact post_upN (F := Is (fun z_ => z_ = .pointer (some ⟨gx, ox + k, none⟩))) HG.out (is_eq rfl)
        simp only [Act.put, List.setIfInBounds_toArray, List.set_cons_zero, List.set_cons_succ, List.nil_append, List.cons_append]
        refine inv_cons 3 (by rfl) (fun wx n_ s_ hn hcl hsi hG hR hd => ?_) (fun v3 => ?_)
        · have d2 : (Is (fun z_ => z_ = .pointer (some ⟨gx, ox + k, none⟩))) v2 wx := dep_get hd 2 (by rfl)
          obtain rfl := d2
          have xb0 := cell_grow (x0) hG.grow (fun h => h)
          refine inv_want (by rfl) ?_
          have HG := Lib.hid hG
          clear hG hR hcl hsi hn
          unfold invAt invUpon; go_simp
          exact post_upN (F := Is (fun z_ => z_ = .int .i64 x)) HG.out (is_eq rfl)
        simp only [Act.put, List.setIfInBounds_toArray, List.set_cons_zero, List.set_cons_succ, List.nil_append, List.cons_append]
        refine inv_cons 4 (by rfl) (fun wx n_ s_ hn hcl hsi hG hR hd => ?_) (fun v4 => ?_)
        · exact inv_want (by rfl) (inv_move (.tmp 1) rfl (post_upN (F := Is (fun z_ => z_ = .slice (some ⟨gl, ol, none⟩) xs.length cap2)) hG (is_eq rfl)))
        simp only [Act.put, List.setIfInBounds_toArray, List.set_cons_zero, List.set_cons_succ, List.nil_append, List.cons_append]
        refine inv_cons 5 (by rfl) (fun wx n_ s_ hn hcl hsi hG hR hd => ?_) (fun v5 => ?_)
        · exact inv_want (by rfl) (inv_move (.tmp 5) rfl (post_upN (F := Is (fun z_ => z_ = .int .i64 k)) hG (is_eq rfl)))
        simp only [Act.put, List.setIfInBounds_toArray, List.set_cons_zero, List.set_cons_succ, List.nil_append, List.cons_append]
        refine inv_cons 6 (by rfl) (fun wx n_ s_ hn hcl hsi hG hR hd => ?_) (fun v6 => ?_)
        · have d4 : (Is (fun z_ => z_ = .slice (some ⟨gl, ol, none⟩) xs.length cap2)) v4 wx := dep_get hd 4 (by rfl)
          obtain rfl := d4
          have d5 : (Is (fun z_ => z_ = .int .i64 k)) v5 wx := dep_get hd 5 (by rfl)
          obtain rfl := d5
          refine inv_want (by rfl) ?_
          have HG := Lib.hid hG
          clear hG hR hcl hsi hn
          unfold invAt invUpon; go_simp
          exact post_upN (F := Is (fun z_ => z_ = .pointer (some ⟨gl, ol + k, none⟩))) HG.out (is_eq rfl)
        simp only [Act.put, List.setIfInBounds_toArray, List.set_cons_zero, List.set_cons_succ, List.nil_append, List.cons_append]
        refine inv_cons 7 (by rfl) (fun wx n_ s_ hn hcl hsi hG hR hd => ?_) (fun v7 => ?_)
        · have d6 : (Is (fun z_ => z_ = .pointer (some ⟨gl, ol + k, none⟩))) v6 wx := dep_get hd 6 (by rfl)
          obtain rfl := d6
          have xb0 := cell_grow (p0) hG.grow (fun h => h)
          refine inv_want (by rfl) ?_
          have HG := Lib.hid hG
          clear hG hR hcl hsi hn
          unfold invAt invUpon; go_simp
          exact post_upN (F := Is (fun z_ => z_ = .int .i64 y)) HG.out (is_eq rfl)
        simp only [Act.put, List.setIfInBounds_toArray, List.set_cons_zero, List.set_cons_succ, List.nil_append, List.cons_append]
        refine inv_cons 8 (by rfl) (fun wx n_ s_ hn hcl hsi hG hR hd => ?_) (fun v8 => ?_)
        · have d3 : (Is (fun z_ => z_ = .int .i64 x)) v3 wx := dep_get hd 3 (by rfl)
          obtain rfl := d3
          have d7 : (Is (fun z_ => z_ = .int .i64 y)) v7 wx := dep_get hd 7 (by rfl)
          obtain rfl := d7
          refine inv_want (by rfl) ?_
          have HG := Lib.hid hG
          clear hG hR hcl hsi hn
          unfold invAt invUpon; go_simp
          exact post_upN (F := Is (fun z_ => z_ = .bool true)) HG.out (is_eq rfl)
        simp only [Act.put, List.setIfInBounds_toArray, List.set_cons_zero, List.set_cons_succ, List.nil_append, List.cons_append]
        refine inv_nil (fun wq nq sq hnq hGq hRq hall => ?_)
        obtain ⟨f0, f1, f2, f3, f4, f5, f6, f7, f8, -⟩ := hall
        obtain rfl : v8 = .bool true := f8
        have hBq := Below.via (Grow.below0 hGq.grow) hB
        go_wp2_with fail
        go_ret
        exact ⟨by rw [hne.out]; rfl, hBq⟩
    · have hlt2 : ¬ (k : Int) < (xs.length : Int) := by omega
      have hf := Lib.hid (show decide (xs = ys) = true by
        simp only [decide_eq_true_eq]
        refine List.ext_getElem? fun j => ?_
        by_cases hj : j < k
        · exact ha.out j hj
        · have := HL.out
          rw [List.getElem?_eq_none (by omega), List.getElem?_eq_none (by omega)])
      go_wp2_with fail
      go_ret
      exact ⟨by rw [hf.out]; rfl, hB⟩
end Go.Proofs.Ytjmjpejkongipaa
