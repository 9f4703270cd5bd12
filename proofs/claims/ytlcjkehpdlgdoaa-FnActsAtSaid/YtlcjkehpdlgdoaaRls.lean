/-
  Valid roles: the reference's look. No condition.
-/
import Derived.Test.YtlcjkehpdlgdoaaRlv
set_option linter.unusedSimpArgs false
set_option linter.unusedVariables false
namespace Go.Proofs.Ytlcjkehpdlgdoaa
open Go.RowKit Go.Maps
theorem str_ne {a b : ByteArray} (h : ¬ a = b) : (a.toList == b.toList) = false := by
  rw [ByteArray.toList_eq, ByteArray.toList_eq]
  cases hc : a.data.toList == b.data.toList
  · rfl
  · exact absurd (ByteArray.ext (Array.toList_inj.1 (by simpa using hc))) h
theorem str_self (a : ByteArray) : (a.toList == a.toList) = true := by simp
theorem any_name (ds : List Rl) (k j : Nat) (hj : j < k) (hk : k < ds.length) (h : ds[j].nm = ds[k].nm) : (((ds.take k).map Rl.nm).any fun x => decide (x = ds[k].nm)) = true := by
  rw [List.any_eq_true]
  refine ⟨ds[j].nm, List.mem_map.2 ⟨ds[j], ?_, rfl⟩, by simp [h]⟩
  have e : (ds.take k)[j]? = some ds[j] := by rw [List.getElem?_take, if_pos hj, List.getElem?_eq_getElem (by omega)]
  exact List.mem_of_getElem? e
theorem any_none (ds : List Rl) (k : Nat) (hk : k < ds.length) (h : ∀ j (hj : j < k), ¬ ds[j].nm = ds[k].nm) : (((ds.take k).map Rl.nm).any fun x => decide (x = ds[k].nm)) = false := by
  cases hc : ((ds.take k).map Rl.nm).any fun x => decide (x = ds[k].nm)
  · rfl
  · obtain ⟨x, hx, he⟩ := List.any_eq_true.1 hc
    obtain ⟨d, hd, rfl⟩ := List.mem_map.1 hx
    obtain ⟨j, hj, e⟩ := List.getElem_of_mem hd
    have hjl : j < k := by rw [List.length_take] at hj; omega
    rw [List.getElem_take] at e
    exact absurd (by rw [e]; exact of_decide_eq_true he) (h j hjl)
set_option maxRecDepth 100000 in
set_option maxHeartbeats 12800000 in
theorem specRValid_any (ds : List Rl) (v : Value) (w : World) (h : SlRl w v ds) (hlen : ds.length ≤ 1048576) : Calls Try.prog 59 #[v] w fun e w' => e = .returned (.bool (rValid ds)) ∧ Below w.heap.size w w' := by
  obtain ⟨a, cap, rfl, h1, h2⟩ := SlRl.shape h
  unfold maxLen at h2
  have H := Lib.hid h
  clear h
  go_enter Try.func59, Try.ntmps59
  go_wp2_with fail
  go_loopw [3] (fun i wr => ∃ k : Nat, k ≤ ds.length ∧ i = .int .i64 k ∧ Hid (∀ j, j < k → rlAt ds j = true) ∧ Below w.heap.size w wr) (fun i _ => ds.length - (intOf i).toNat)
  case atStart => exact ⟨0, Nat.zero_le _, rfl, fun j hj => by omega, Below.refl _ _⟩
  case round =>
    obtain ⟨k, hk, rfl, hall, hB⟩ := hrel
    by_cases hlt : k < ds.length
    · have hlt2 : (k : Int) < (ds.length : Int) := by omega
      obtain ⟨g, off, cap', xa, xc, hv, _, _, c0, c1, c2, hx, hx1, hx2, hnm⟩ := (H.out.below hB).cells k hlt
      simp only [Value.slice.injEq] at hv
      obtain ⟨rfl, -, rfl⟩ := hv
      unfold maxLen at hx2
      have hat := rlAt_eq ds k hlt
      have HX := Lib.hid hx
      have HNO := Lib.hid (any_none ds k hlt)
      have HYES := Lib.hid (fun j (hj : j < k) => any_name ds k j hj hlt)
      have hm0 : (0 : Int) ≤ (ds.length : Int) - 1 := by omega
      clear hx
      generalize ds[k] = d at c0 c1 c2 HX hat hx1 hnm HNO HYES
      unfold rlOk at hat
      have HA := Lib.hid hat
      clear hat
      have CN := fun wx => specNameValid_any d.nm wx hnm
      have CI := fun wx => l1In_any d.acts 0 15 wx
      cases hn : nameOk d.nm.data.toList
      · rw [hn] at CN HA
        have hres := Lib.hid (show rValid ds = false from rValid_bad ds k hlt (by rw [HA.out]; rfl))
        clear hn HA CI HNO HYES hall
        go_wp2_with ((go_at_call 72; refine (CN _).mono ?_; rintro e w' ⟨rfl, rfl⟩))
        go_ret
        exact ⟨by rw [hres.out]; rfl, hB⟩
      · rw [hn] at CN HA
        cases hi : inR d.acts 0 15
        · rw [hi] at CI HA
          have hres := Lib.hid (show rValid ds = false from rValid_bad ds k hlt (by rw [HA.out, Bool.and_false]; rfl))
          clear hn hi HA HNO HYES hall
          go_wp2_with (first | (go_at_call 72; refine (CN _).mono ?_; rintro e w' ⟨rfl, rfl⟩) | (go_at_call 46; refine (CI _).mono ?_; rintro e w' ⟨rfl, rfl⟩))
          go_ret
          exact ⟨by rw [hres.out]; rfl, hB⟩
        · rw [hi] at CI HA
          rw [Bool.true_and, Bool.and_true] at HA
          clear hn hi
          go_wp2_with (first | (go_at_call 72; refine (CN _).mono ?_; rintro e w' ⟨rfl, rfl⟩) | (go_at_call 46; refine (CI _).mono ?_; rintro e w' ⟨rfl, rfl⟩))
          clear CN CI
          have HBAD := Lib.hid (show ∀ j, j < d.xs.length → stepB ((ds.length : Int) - 1) d.xs j = false → rValid ds = false from fun j hj hs => rValid_bad ds k hlt (by rw [HA.out, asc_bad _ d.xs j hj hs, Bool.and_false]))
          have LC0 := Lib.hid (fun (wx : World) (h : Below wr.heap.size wr wx) => (h.cell (World.block_lt_of_cell? wr _ c0)).trans c0)
          have LC2 := Lib.hid (fun (wx : World) (h : Below wr.heap.size wr wx) => (h.cell (World.block_lt_of_cell? wr _ c2)).trans c2)
          have HXL := Lib.hid (fun (wx : World) (h : Below wr.heap.size wr wx) => SlI.below HX.out h)
          clear c0 c1 c2 HX
          go_loopw [4] (fun i wx => ∃ j : Nat, j ≤ d.xs.length ∧ i = .int .i64 j ∧ Hid (∀ i, i < j → stepB ((ds.length : Int) - 1) d.xs i = true) ∧ Hid (Below wr.heap.size wr wx) ∧ Below w.heap.size w wx) (fun i _ => d.xs.length - (intOf i).toNat)
          case atStart => exact ⟨0, Nat.zero_le _, rfl, fun j hj => by omega, Below.refl _ _, hB⟩
          case round =>
            obtain ⟨j, hj, rfl, hst, hBr, hBx⟩ := hrel
            have c0 := LC0.out _ hBr.out
            have c2 := LC2.out _ hBr.out
            have HXx := Lib.hid (HXL.out _ hBr.out)
            by_cases hjl : j < d.xs.length
            · have hjl2 : (j : Int) < (d.xs.length : Int) := by omega
              obtain ⟨gx, ox, cx, hvx, _, _, x0⟩ := SlI.cell HXx.out j hjl
              simp only [Value.slice.injEq] at hvx
              obtain ⟨rfl, -, rfl⟩ := hvx
              have hs := Lib.hid (show stepB ((ds.length : Int) - 1) d.xs j = (inR (d.xs[j]'hjl) 0 ((ds.length : Int) - 1) && (decide (j = 0) || decide (d.xs.getD (j - 1) 0 < d.xs[j]'hjl))) by
                unfold stepB
                rw [show d.xs.getD j 0 = d.xs[j]'hjl by rw [List.getD_eq_getElem?_getD, List.getElem?_eq_getElem hjl]; rfl])
              generalize d.xs[j]'hjl = x at x0 hs
              have CL : ∀ wx, Calls Try.prog 46 #[.int .i64 x, .int .i64 0, .int .i64 ((ds.length : Int) - 1)] wx fun e w' => e = .returned (.bool (inR x 0 ((ds.length : Int) - 1))) ∧ Below wx.heap.size wx w' := fun wx => (l1In_any x 0 ((ds.length : Int) - 1) wx).mono fun _ _ ⟨h1, h2⟩ => ⟨h1, h2 ▸ Below.refl _ _⟩
              have q5 : IntKind.i64.wrap ((ds.length : Int) - 1) = (ds.length : Int) - 1 := IntWalk.i64_in _ (by omega)
              cases hin : inR x 0 ((ds.length : Int) - 1)
              · rw [hin] at CL hs
                have hres := Lib.hid (HBAD.out j hjl (by rw [hs.out]; rfl))
                clear hin hs HBAD
                go_wp2_with fail
                have KXr : KeepB (fun _ => True) ∧ KeepB (fun _ => True) := ⟨keepB_true, keepB_true⟩
                refine wp_region_inv (G := fun s n w_ => RgN (fun _ => False) (fun _ => True) wr w_) (R := RgR (fun _ => False) (fun _ => True))
                  (Fs := [Is (fun z_ => z_ = .slice (some ⟨g, off, none⟩) ds.length cap), Is (fun z_ => z_ = .int .i64 k), Is (fun z_ => z_ = .pointer (some ⟨g, off + k * 3, none⟩)), Is (fun z_ => z_ = .pointer (some ⟨g, off + k * 3 + 2, none⟩)), Is (fun z_ => z_ = .slice (some ⟨gx, ox, none⟩) d.xs.length xc), Is (fun z_ => z_ = .int .i64 j), Is (fun z_ => z_ = .pointer (some ⟨gx, ox + j, none⟩)), Is (fun z_ => z_ = .int .i64 x), Is (fun z_ => z_ = .slice (some ⟨g, off, none⟩) ds.length cap), Is (fun z_ => z_ = .int .i64 (ds.length)), Is (fun z_ => z_ = .int .i64 ((ds.length : Int) - 1)), Is (fun z_ => z_ = .bool false), Is (fun z_ => z_ = .bool true), Is (fun z_ => z_ = .bool true), Is (fun z_ => z_ = undef), Is (fun z_ => z_ = undef), Is (fun z_ => z_ = undef), Is (fun z_ => z_ = undef), Is (fun z_ => z_ = undef), Is (fun z_ => z_ = undef), Is (fun z_ => z_ = undef), Is (fun z_ => z_ = undef), Is (fun z_ => z_ = undef), Is (fun z_ => z_ = undef), Is (fun z_ => z_ = undef), Is (fun z_ => z_ = undef), Is (fun z_ => z_ = undef), Is (fun z_ => z_ = undef), Is (fun z_ => z_ = undef), Is (fun z_ => z_ = undef), Is (fun z_ => z_ = undef), Is (fun z_ => z_ = undef), Is (fun z_ => z_ = undef), Is (fun z_ => z_ = undef), Is (fun z_ => z_ = undef), Is (fun z_ => z_ = undef), Is (fun z_ => z_ = .bool true)])
                  (by kernel_rfl) (by kernel_rfl) (fun _ => RgR.refl _) (fun h k => h.trans k) ?_ (fun _ _ => ⟨(Grow.refl _ _).drew, trivial⟩) ?_
                · (repeat' (first | exact lasts_nil | refine lasts_cons ?_ ?_))
                  all_goals (first | exact Lasts.is | exact Lasts.any)
                refine inv_cons 0 (by rfl) (fun wx n_ s_ hn hcl hsi hG hR hd => ?_) (fun v0 => ?_)
                · exact inv_want (by rfl) (inv_move (.tmp 0) rfl (post_upN (F := Is (fun z_ => z_ = .slice (some ⟨g, off, none⟩) ds.length cap)) hG (is_eq rfl)))
                simp only [Act.put, List.setIfInBounds_toArray, List.set_cons_zero, List.set_cons_succ, List.nil_append, List.cons_append]
                refine inv_cons 1 (by rfl) (fun wx n_ s_ hn hcl hsi hG hR hd => ?_) (fun v1 => ?_)
                · exact inv_want (by rfl) (inv_move (.tmp 3) rfl (post_upN (F := Is (fun z_ => z_ = .int .i64 k)) hG (is_eq rfl)))
                simp only [Act.put, List.setIfInBounds_toArray, List.set_cons_zero, List.set_cons_succ, List.nil_append, List.cons_append]
                refine inv_cons 2 (by rfl) (fun wx n_ s_ hn hcl hsi hG hR hd => ?_) (fun v2 => ?_)
                · have d0 : (Is (fun z_ => z_ = .slice (some ⟨g, off, none⟩) ds.length cap)) v0 wx := dep_get hd 0 (by rfl)
                  obtain rfl := d0
                  have d1 : (Is (fun z_ => z_ = .int .i64 k)) v1 wx := dep_get hd 1 (by rfl)
                  obtain rfl := d1
                  refine inv_want (by rfl) ?_
                  have HG := Lib.hid hG
                  clear hG hR hcl hsi hn
                  unfold invAt invUpon; go_simp
                  exact post_upN (F := Is (fun z_ => z_ = .pointer (some ⟨g, off + k * 3, none⟩))) HG.out (is_eq rfl)
                simp only [Act.put, List.setIfInBounds_toArray, List.set_cons_zero, List.set_cons_succ, List.nil_append, List.cons_append]
                refine inv_cons 3 (by rfl) (fun wx n_ s_ hn hcl hsi hG hR hd => ?_) (fun v3 => ?_)
                · have d2 : (Is (fun z_ => z_ = .pointer (some ⟨g, off + k * 3, none⟩))) v2 wx := dep_get hd 2 (by rfl)
                  obtain rfl := d2
                  refine inv_want (by rfl) ?_
                  have HG := Lib.hid hG
                  clear hG hR hcl hsi hn
                  unfold invAt invUpon; go_simp
                  exact post_upN (F := Is (fun z_ => z_ = .pointer (some ⟨g, off + k * 3 + 2, none⟩))) HG.out (is_eq rfl)
                simp only [Act.put, List.setIfInBounds_toArray, List.set_cons_zero, List.set_cons_succ, List.nil_append, List.cons_append]
                refine inv_cons 4 (by rfl) (fun wx n_ s_ hn hcl hsi hG hR hd => ?_) (fun v4 => ?_)
                · have d3 : (Is (fun z_ => z_ = .pointer (some ⟨g, off + k * 3 + 2, none⟩))) v3 wx := dep_get hd 3 (by rfl)
                  obtain rfl := d3
                  have xb0 := cell_grow (c2) hG.grow (fun h => h)
                  refine inv_want (by rfl) ?_
                  have HG := Lib.hid hG
                  clear hG hR hcl hsi hn
                  unfold invAt invUpon; go_simp
                  exact post_upN (F := Is (fun z_ => z_ = .slice (some ⟨gx, ox, none⟩) d.xs.length xc)) HG.out (is_eq rfl)
                simp only [Act.put, List.setIfInBounds_toArray, List.set_cons_zero, List.set_cons_succ, List.nil_append, List.cons_append]
                refine inv_cons 5 (by rfl) (fun wx n_ s_ hn hcl hsi hG hR hd => ?_) (fun v5 => ?_)
                · exact inv_want (by rfl) (inv_move (.tmp 4) rfl (post_upN (F := Is (fun z_ => z_ = .int .i64 j)) hG (is_eq rfl)))
                simp only [Act.put, List.setIfInBounds_toArray, List.set_cons_zero, List.set_cons_succ, List.nil_append, List.cons_append]
                refine inv_cons 6 (by rfl) (fun wx n_ s_ hn hcl hsi hG hR hd => ?_) (fun v6 => ?_)
                · have d4 : (Is (fun z_ => z_ = .slice (some ⟨gx, ox, none⟩) d.xs.length xc)) v4 wx := dep_get hd 4 (by rfl)
                  obtain rfl := d4
                  have d5 : (Is (fun z_ => z_ = .int .i64 j)) v5 wx := dep_get hd 5 (by rfl)
                  obtain rfl := d5
                  refine inv_want (by rfl) ?_
                  have HG := Lib.hid hG
                  clear hG hR hcl hsi hn
                  unfold invAt invUpon; go_simp
                  exact post_upN (F := Is (fun z_ => z_ = .pointer (some ⟨gx, ox + j, none⟩))) HG.out (is_eq rfl)
                simp only [Act.put, List.setIfInBounds_toArray, List.set_cons_zero, List.set_cons_succ, List.nil_append, List.cons_append]
                refine inv_cons 7 (by rfl) (fun wx n_ s_ hn hcl hsi hG hR hd => ?_) (fun v7 => ?_)
                · have d6 : (Is (fun z_ => z_ = .pointer (some ⟨gx, ox + j, none⟩))) v6 wx := dep_get hd 6 (by rfl)
                  obtain rfl := d6
                  have xb0 := cell_grow (x0) hG.grow (fun h => h)
                  refine inv_want (by rfl) ?_
                  have HG := Lib.hid hG
                  clear hG hR hcl hsi hn
                  unfold invAt invUpon; go_simp
                  exact post_upN (F := Is (fun z_ => z_ = .int .i64 x)) HG.out (is_eq rfl)
                simp only [Act.put, List.setIfInBounds_toArray, List.set_cons_zero, List.set_cons_succ, List.nil_append, List.cons_append]
                refine inv_cons 8 (by rfl) (fun wx n_ s_ hn hcl hsi hG hR hd => ?_) (fun v8 => ?_)
                · exact inv_want (by rfl) (inv_move (.tmp 0) rfl (post_upN (F := Is (fun z_ => z_ = .slice (some ⟨g, off, none⟩) ds.length cap)) hG (is_eq rfl)))
                simp only [Act.put, List.setIfInBounds_toArray, List.set_cons_zero, List.set_cons_succ, List.nil_append, List.cons_append]
                refine inv_cons 9 (by rfl) (fun wx n_ s_ hn hcl hsi hG hR hd => ?_) (fun v9 => ?_)
                · have d8 : (Is (fun z_ => z_ = .slice (some ⟨g, off, none⟩) ds.length cap)) v8 wx := dep_get hd 8 (by rfl)
                  obtain rfl := d8
                  refine inv_want (by rfl) ?_
                  have HG := Lib.hid hG
                  clear hG hR hcl hsi hn
                  unfold invAt invUpon; go_simp
                  exact post_upN (F := Is (fun z_ => z_ = .int .i64 (ds.length))) HG.out (is_eq rfl)
                simp only [Act.put, List.setIfInBounds_toArray, List.set_cons_zero, List.set_cons_succ, List.nil_append, List.cons_append]
                refine inv_cons 10 (by rfl) (fun wx n_ s_ hn hcl hsi hG hR hd => ?_) (fun v10 => ?_)
                · have d9 : (Is (fun z_ => z_ = .int .i64 (ds.length))) v9 wx := dep_get hd 9 (by rfl)
                  obtain rfl := d9
                  refine inv_want (by rfl) ?_
                  have HG := Lib.hid hG
                  clear hG hR hcl hsi hn
                  unfold invAt invUpon; go_simp
                  exact post_upN (F := Is (fun z_ => z_ = .int .i64 ((ds.length : Int) - 1))) HG.out (is_eq rfl)
                simp only [Act.put, List.setIfInBounds_toArray, List.set_cons_zero, List.set_cons_succ, List.nil_append, List.cons_append]
                refine inv_cons 11 (by rfl) (fun wx n_ s_ hn hcl hsi hG hR hd => ?_) (fun v11 => ?_)
                · have d7 : (Is (fun z_ => z_ = .int .i64 x)) v7 wx := dep_get hd 7 (by rfl)
                  obtain rfl := d7
                  have d10 : (Is (fun z_ => z_ = .int .i64 ((ds.length : Int) - 1))) v10 wx := dep_get hd 10 (by rfl)
                  obtain rfl := d10
                  refine inv_want (by rfl) ?_
                  have HG := Lib.hid hG
                  clear hG hR hcl hsi hn
                  unfold invAt invUpon; go_simp
                  refine (CL _).mono ?_
                  rintro e w' ⟨rfl, hb⟩
                  exact ⟨_, rfl, post_newN (F := Is (fun z_ => z_ = .bool false)) KXr HG.out hb (is_eq rfl)⟩
                simp only [Act.put, List.setIfInBounds_toArray, List.set_cons_zero, List.set_cons_succ, List.nil_append, List.cons_append]
                refine inv_cons 12 (by rfl) (fun wx n_ s_ hn hcl hsi hG hR hd => ?_) (fun v12 => ?_)
                · have d11 : (Is (fun z_ => z_ = .bool false)) v11 wx := dep_get hd 11 (by rfl)
                  obtain rfl := d11
                  refine inv_want (by rfl) ?_
                  have HG := Lib.hid hG
                  clear hG hR hcl hsi hn
                  unfold invAt invUpon; go_simp
                  exact post_upN (F := Is (fun z_ => z_ = .bool true)) HG.out (is_eq rfl)
                simp only [Act.put, List.setIfInBounds_toArray, List.set_cons_zero, List.set_cons_succ, List.nil_append, List.cons_append]
                refine inv_cons 13 (by rfl) (fun wx n_ s_ hn hcl hsi hG hR hd => ?_) (fun v13 => ?_)
                · have d12 : (Is (fun z_ => z_ = .bool true)) v12 wx := dep_get hd 12 (by rfl)
                  obtain rfl := d12
                  exact inv_want (by rfl) (inv_move (.tmp 50) rfl (post_upN (F := Is (fun z_ => z_ = .bool true)) hG (is_eq rfl)))
                simp only [Act.put, List.setIfInBounds_toArray, List.set_cons_zero, List.set_cons_succ, List.nil_append, List.cons_append]
                refine inv_cons 14 (by rfl) (fun wx n_ s_ hn hcl hsi hG hR hd => ?_) (fun v14 => ?_)
                · have dg : (Is (fun z_ => z_ = .bool true)) v13 wx := dep_get hd 13 (by rfl)
                  obtain rfl := dg
                  exact inv_skip (by rfl) hG (is_eq rfl)
                simp only [Act.put, List.setIfInBounds_toArray, List.set_cons_zero, List.set_cons_succ, List.nil_append, List.cons_append]
                refine inv_cons 15 (by rfl) (fun wx n_ s_ hn hcl hsi hG hR hd => ?_) (fun v15 => ?_)
                · have dg : (Is (fun z_ => z_ = .bool true)) v13 wx := dep_get hd 13 (by rfl)
                  obtain rfl := dg
                  exact inv_skip (by rfl) hG (is_eq rfl)
                simp only [Act.put, List.setIfInBounds_toArray, List.set_cons_zero, List.set_cons_succ, List.nil_append, List.cons_append]
                refine inv_cons 16 (by rfl) (fun wx n_ s_ hn hcl hsi hG hR hd => ?_) (fun v16 => ?_)
                · have dg : (Is (fun z_ => z_ = .bool true)) v13 wx := dep_get hd 13 (by rfl)
                  obtain rfl := dg
                  exact inv_skip (by rfl) hG (is_eq rfl)
                simp only [Act.put, List.setIfInBounds_toArray, List.set_cons_zero, List.set_cons_succ, List.nil_append, List.cons_append]
                refine inv_cons 17 (by rfl) (fun wx n_ s_ hn hcl hsi hG hR hd => ?_) (fun v17 => ?_)
                · have dg : (Is (fun z_ => z_ = undef)) v16 wx := dep_get hd 16 (by rfl)
                  obtain rfl := dg
                  exact inv_skip (by rfl) hG (is_eq rfl)
                simp only [Act.put, List.setIfInBounds_toArray, List.set_cons_zero, List.set_cons_succ, List.nil_append, List.cons_append]
                refine inv_cons 18 (by rfl) (fun wx n_ s_ hn hcl hsi hG hR hd => ?_) (fun v18 => ?_)
                · have dg : (Is (fun z_ => z_ = undef)) v16 wx := dep_get hd 16 (by rfl)
                  obtain rfl := dg
                  exact inv_skip (by rfl) hG (is_eq rfl)
                simp only [Act.put, List.setIfInBounds_toArray, List.set_cons_zero, List.set_cons_succ, List.nil_append, List.cons_append]
                refine inv_cons 19 (by rfl) (fun wx n_ s_ hn hcl hsi hG hR hd => ?_) (fun v19 => ?_)
                · have dg : (Is (fun z_ => z_ = undef)) v16 wx := dep_get hd 16 (by rfl)
                  obtain rfl := dg
                  exact inv_skip (by rfl) hG (is_eq rfl)
                simp only [Act.put, List.setIfInBounds_toArray, List.set_cons_zero, List.set_cons_succ, List.nil_append, List.cons_append]
                refine inv_cons 20 (by rfl) (fun wx n_ s_ hn hcl hsi hG hR hd => ?_) (fun v20 => ?_)
                · have dg : (Is (fun z_ => z_ = undef)) v16 wx := dep_get hd 16 (by rfl)
                  obtain rfl := dg
                  exact inv_skip (by rfl) hG (is_eq rfl)
                simp only [Act.put, List.setIfInBounds_toArray, List.set_cons_zero, List.set_cons_succ, List.nil_append, List.cons_append]
                refine inv_cons 21 (by rfl) (fun wx n_ s_ hn hcl hsi hG hR hd => ?_) (fun v21 => ?_)
                · have dg : (Is (fun z_ => z_ = undef)) v16 wx := dep_get hd 16 (by rfl)
                  obtain rfl := dg
                  exact inv_skip (by rfl) hG (is_eq rfl)
                simp only [Act.put, List.setIfInBounds_toArray, List.set_cons_zero, List.set_cons_succ, List.nil_append, List.cons_append]
                refine inv_cons 22 (by rfl) (fun wx n_ s_ hn hcl hsi hG hR hd => ?_) (fun v22 => ?_)
                · have dg : (Is (fun z_ => z_ = undef)) v16 wx := dep_get hd 16 (by rfl)
                  obtain rfl := dg
                  exact inv_skip (by rfl) hG (is_eq rfl)
                simp only [Act.put, List.setIfInBounds_toArray, List.set_cons_zero, List.set_cons_succ, List.nil_append, List.cons_append]
                refine inv_cons 23 (by rfl) (fun wx n_ s_ hn hcl hsi hG hR hd => ?_) (fun v23 => ?_)
                · have dg : (Is (fun z_ => z_ = undef)) v16 wx := dep_get hd 16 (by rfl)
                  obtain rfl := dg
                  exact inv_skip (by rfl) hG (is_eq rfl)
                simp only [Act.put, List.setIfInBounds_toArray, List.set_cons_zero, List.set_cons_succ, List.nil_append, List.cons_append]
                refine inv_cons 24 (by rfl) (fun wx n_ s_ hn hcl hsi hG hR hd => ?_) (fun v24 => ?_)
                · have dg : (Is (fun z_ => z_ = undef)) v16 wx := dep_get hd 16 (by rfl)
                  obtain rfl := dg
                  exact inv_skip (by rfl) hG (is_eq rfl)
                simp only [Act.put, List.setIfInBounds_toArray, List.set_cons_zero, List.set_cons_succ, List.nil_append, List.cons_append]
                refine inv_cons 25 (by rfl) (fun wx n_ s_ hn hcl hsi hG hR hd => ?_) (fun v25 => ?_)
                · have dg : (Is (fun z_ => z_ = undef)) v16 wx := dep_get hd 16 (by rfl)
                  obtain rfl := dg
                  exact inv_skip (by rfl) hG (is_eq rfl)
                simp only [Act.put, List.setIfInBounds_toArray, List.set_cons_zero, List.set_cons_succ, List.nil_append, List.cons_append]
                refine inv_cons 26 (by rfl) (fun wx n_ s_ hn hcl hsi hG hR hd => ?_) (fun v26 => ?_)
                · have dg : (Is (fun z_ => z_ = undef)) v16 wx := dep_get hd 16 (by rfl)
                  obtain rfl := dg
                  exact inv_skip (by rfl) hG (is_eq rfl)
                simp only [Act.put, List.setIfInBounds_toArray, List.set_cons_zero, List.set_cons_succ, List.nil_append, List.cons_append]
                refine inv_cons 27 (by rfl) (fun wx n_ s_ hn hcl hsi hG hR hd => ?_) (fun v27 => ?_)
                · have dg : (Is (fun z_ => z_ = undef)) v16 wx := dep_get hd 16 (by rfl)
                  obtain rfl := dg
                  exact inv_skip (by rfl) hG (is_eq rfl)
                simp only [Act.put, List.setIfInBounds_toArray, List.set_cons_zero, List.set_cons_succ, List.nil_append, List.cons_append]
                refine inv_cons 28 (by rfl) (fun wx n_ s_ hn hcl hsi hG hR hd => ?_) (fun v28 => ?_)
                · have dg : (Is (fun z_ => z_ = undef)) v16 wx := dep_get hd 16 (by rfl)
                  obtain rfl := dg
                  exact inv_skip (by rfl) hG (is_eq rfl)
                simp only [Act.put, List.setIfInBounds_toArray, List.set_cons_zero, List.set_cons_succ, List.nil_append, List.cons_append]
                refine inv_cons 29 (by rfl) (fun wx n_ s_ hn hcl hsi hG hR hd => ?_) (fun v29 => ?_)
                · have dg : (Is (fun z_ => z_ = undef)) v16 wx := dep_get hd 16 (by rfl)
                  obtain rfl := dg
                  exact inv_skip (by rfl) hG (is_eq rfl)
                simp only [Act.put, List.setIfInBounds_toArray, List.set_cons_zero, List.set_cons_succ, List.nil_append, List.cons_append]
                refine inv_cons 30 (by rfl) (fun wx n_ s_ hn hcl hsi hG hR hd => ?_) (fun v30 => ?_)
                · have dg : (Is (fun z_ => z_ = undef)) v16 wx := dep_get hd 16 (by rfl)
                  obtain rfl := dg
                  exact inv_skip (by rfl) hG (is_eq rfl)
                simp only [Act.put, List.setIfInBounds_toArray, List.set_cons_zero, List.set_cons_succ, List.nil_append, List.cons_append]
                refine inv_cons 31 (by rfl) (fun wx n_ s_ hn hcl hsi hG hR hd => ?_) (fun v31 => ?_)
                · have dg : (Is (fun z_ => z_ = undef)) v16 wx := dep_get hd 16 (by rfl)
                  obtain rfl := dg
                  exact inv_skip (by rfl) hG (is_eq rfl)
                simp only [Act.put, List.setIfInBounds_toArray, List.set_cons_zero, List.set_cons_succ, List.nil_append, List.cons_append]
                refine inv_cons 32 (by rfl) (fun wx n_ s_ hn hcl hsi hG hR hd => ?_) (fun v32 => ?_)
                · have dg : (Is (fun z_ => z_ = undef)) v16 wx := dep_get hd 16 (by rfl)
                  obtain rfl := dg
                  exact inv_skip (by rfl) hG (is_eq rfl)
                simp only [Act.put, List.setIfInBounds_toArray, List.set_cons_zero, List.set_cons_succ, List.nil_append, List.cons_append]
                refine inv_cons 33 (by rfl) (fun wx n_ s_ hn hcl hsi hG hR hd => ?_) (fun v33 => ?_)
                · have dg : (Is (fun z_ => z_ = undef)) v16 wx := dep_get hd 16 (by rfl)
                  obtain rfl := dg
                  exact inv_skip (by rfl) hG (is_eq rfl)
                simp only [Act.put, List.setIfInBounds_toArray, List.set_cons_zero, List.set_cons_succ, List.nil_append, List.cons_append]
                refine inv_cons 34 (by rfl) (fun wx n_ s_ hn hcl hsi hG hR hd => ?_) (fun v34 => ?_)
                · have dg : (Is (fun z_ => z_ = undef)) v16 wx := dep_get hd 16 (by rfl)
                  obtain rfl := dg
                  exact inv_skip (by rfl) hG (is_eq rfl)
                simp only [Act.put, List.setIfInBounds_toArray, List.set_cons_zero, List.set_cons_succ, List.nil_append, List.cons_append]
                refine inv_cons 35 (by rfl) (fun wx n_ s_ hn hcl hsi hG hR hd => ?_) (fun v35 => ?_)
                · have dg : (Is (fun z_ => z_ = .bool true)) v13 wx := dep_get hd 13 (by rfl)
                  obtain rfl := dg
                  exact inv_skip (by rfl) hG (is_eq rfl)
                simp only [Act.put, List.setIfInBounds_toArray, List.set_cons_zero, List.set_cons_succ, List.nil_append, List.cons_append]
                refine inv_cons 36 (by rfl) (fun wx n_ s_ hn hcl hsi hG hR hd => ?_) (fun v36 => ?_)
                · have d13 : (Is (fun z_ => z_ = .bool true)) v13 wx := dep_get hd 13 (by rfl)
                  obtain rfl := d13
                  have d35 : (Is (fun z_ => z_ = undef)) v35 wx := dep_get hd 35 (by rfl)
                  obtain rfl := d35
                  refine inv_want (by rfl) ?_
                  have HG := Lib.hid hG
                  clear hG hR hcl hsi hn
                  unfold invAt invUpon; go_simp
                  exact post_upN (F := Is (fun z_ => z_ = .bool true)) HG.out (is_eq rfl)
                simp only [Act.put, List.setIfInBounds_toArray, List.set_cons_zero, List.set_cons_succ, List.nil_append, List.cons_append]
                refine inv_nil (fun wq nq sq hnq hGq hRq hall => ?_)
                obtain ⟨f0, f1, f2, f3, f4, f5, f6, f7, f8, f9, f10, f11, f12, f13, f14, f15, f16, f17, f18, f19, f20, f21, f22, f23, f24, f25, f26, f27, f28, f29, f30, f31, f32, f33, f34, f35, f36, -⟩ := hall
                obtain rfl : v36 = .bool true := f36
                have hBq := Below.via (Grow.below0 hGq.grow) hBx
                go_wp2_with fail
                go_ret
                exact ⟨by rw [hres.out]; rfl, hBq⟩
              · rw [hin, Bool.true_and] at hs
                rw [hin] at CL
                rw [inR_iff] at hin
                by_cases hj0 : j = 0
                · subst hj0
                  rw [Nat.add_zero] at x0
                  have hs1 := Lib.hid (show stepB ((ds.length : Int) - 1) d.xs 0 = true by rw [hs.out]; rfl)
                  clear hs hin HBAD
                  go_wp2_with fail
                  have KXr : KeepB (fun _ => True) ∧ KeepB (fun _ => True) := ⟨keepB_true, keepB_true⟩
                  refine wp_region_inv (G := fun s n w_ => RgN (fun _ => False) (fun _ => True) wr w_) (R := RgR (fun _ => False) (fun _ => True))
                    (Fs := [Is (fun z_ => z_ = .slice (some ⟨g, off, none⟩) ds.length cap), Is (fun z_ => z_ = .int .i64 k), Is (fun z_ => z_ = .pointer (some ⟨g, off + k * 3, none⟩)), Is (fun z_ => z_ = .pointer (some ⟨g, off + k * 3 + 2, none⟩)), Is (fun z_ => z_ = .slice (some ⟨gx, ox, none⟩) d.xs.length xc), Is (fun z_ => z_ = .int .i64 (0 : Nat)), Is (fun z_ => z_ = .pointer (some ⟨gx, ox, none⟩)), Is (fun z_ => z_ = .int .i64 x), Is (fun z_ => z_ = .slice (some ⟨g, off, none⟩) ds.length cap), Is (fun z_ => z_ = .int .i64 (ds.length)), Is (fun z_ => z_ = .int .i64 ((ds.length : Int) - 1)), Is (fun z_ => z_ = .bool true), Is (fun z_ => z_ = .bool false), Is (fun z_ => z_ = .bool false), Is (fun z_ => z_ = .int .i64 (0 : Nat)), Is (fun z_ => z_ = .bool false), Is (fun z_ => z_ = .bool false), Is (fun z_ => z_ = undef), Is (fun z_ => z_ = undef), Is (fun z_ => z_ = undef), Is (fun z_ => z_ = undef), Is (fun z_ => z_ = undef), Is (fun z_ => z_ = undef), Is (fun z_ => z_ = undef), Is (fun z_ => z_ = undef), Is (fun z_ => z_ = undef), Is (fun z_ => z_ = undef), Is (fun z_ => z_ = undef), Is (fun z_ => z_ = undef), Is (fun z_ => z_ = undef), Is (fun z_ => z_ = undef), Is (fun z_ => z_ = undef), Is (fun z_ => z_ = undef), Is (fun z_ => z_ = undef), Is (fun z_ => z_ = undef), Is (fun z_ => z_ = .bool false), Is (fun z_ => z_ = .bool false)])
                    (by kernel_rfl) (by kernel_rfl) (fun _ => RgR.refl _) (fun h k => h.trans k) ?_ (fun _ _ => ⟨(Grow.refl _ _).drew, trivial⟩) ?_
                  · (repeat' (first | exact lasts_nil | refine lasts_cons ?_ ?_))
                    all_goals (first | exact Lasts.is | exact Lasts.any)
                  refine inv_cons 0 (by rfl) (fun wx n_ s_ hn hcl hsi hG hR hd => ?_) (fun v0 => ?_)
                  · exact inv_want (by rfl) (inv_move (.tmp 0) rfl (post_upN (F := Is (fun z_ => z_ = .slice (some ⟨g, off, none⟩) ds.length cap)) hG (is_eq rfl)))
                  simp only [Act.put, List.setIfInBounds_toArray, List.set_cons_zero, List.set_cons_succ, List.nil_append, List.cons_append]
                  refine inv_cons 1 (by rfl) (fun wx n_ s_ hn hcl hsi hG hR hd => ?_) (fun v1 => ?_)
                  · exact inv_want (by rfl) (inv_move (.tmp 3) rfl (post_upN (F := Is (fun z_ => z_ = .int .i64 k)) hG (is_eq rfl)))
                  simp only [Act.put, List.setIfInBounds_toArray, List.set_cons_zero, List.set_cons_succ, List.nil_append, List.cons_append]
                  refine inv_cons 2 (by rfl) (fun wx n_ s_ hn hcl hsi hG hR hd => ?_) (fun v2 => ?_)
                  · have d0 : (Is (fun z_ => z_ = .slice (some ⟨g, off, none⟩) ds.length cap)) v0 wx := dep_get hd 0 (by rfl)
                    obtain rfl := d0
                    have d1 : (Is (fun z_ => z_ = .int .i64 k)) v1 wx := dep_get hd 1 (by rfl)
                    obtain rfl := d1
                    refine inv_want (by rfl) ?_
                    have HG := Lib.hid hG
                    clear hG hR hcl hsi hn
                    unfold invAt invUpon; go_simp
                    exact post_upN (F := Is (fun z_ => z_ = .pointer (some ⟨g, off + k * 3, none⟩))) HG.out (is_eq rfl)
                  simp only [Act.put, List.setIfInBounds_toArray, List.set_cons_zero, List.set_cons_succ, List.nil_append, List.cons_append]
                  refine inv_cons 3 (by rfl) (fun wx n_ s_ hn hcl hsi hG hR hd => ?_) (fun v3 => ?_)
                  · have d2 : (Is (fun z_ => z_ = .pointer (some ⟨g, off + k * 3, none⟩))) v2 wx := dep_get hd 2 (by rfl)
                    obtain rfl := d2
                    refine inv_want (by rfl) ?_
                    have HG := Lib.hid hG
                    clear hG hR hcl hsi hn
                    unfold invAt invUpon; go_simp
                    exact post_upN (F := Is (fun z_ => z_ = .pointer (some ⟨g, off + k * 3 + 2, none⟩))) HG.out (is_eq rfl)
                  simp only [Act.put, List.setIfInBounds_toArray, List.set_cons_zero, List.set_cons_succ, List.nil_append, List.cons_append]
                  refine inv_cons 4 (by rfl) (fun wx n_ s_ hn hcl hsi hG hR hd => ?_) (fun v4 => ?_)
                  · have d3 : (Is (fun z_ => z_ = .pointer (some ⟨g, off + k * 3 + 2, none⟩))) v3 wx := dep_get hd 3 (by rfl)
                    obtain rfl := d3
                    have xb0 := cell_grow (c2) hG.grow (fun h => h)
                    refine inv_want (by rfl) ?_
                    have HG := Lib.hid hG
                    clear hG hR hcl hsi hn
                    unfold invAt invUpon; go_simp
                    exact post_upN (F := Is (fun z_ => z_ = .slice (some ⟨gx, ox, none⟩) d.xs.length xc)) HG.out (is_eq rfl)
                  simp only [Act.put, List.setIfInBounds_toArray, List.set_cons_zero, List.set_cons_succ, List.nil_append, List.cons_append]
                  refine inv_cons 5 (by rfl) (fun wx n_ s_ hn hcl hsi hG hR hd => ?_) (fun v5 => ?_)
                  · exact inv_want (by rfl) (inv_move (.tmp 4) rfl (post_upN (F := Is (fun z_ => z_ = .int .i64 (0 : Nat))) hG (is_eq rfl)))
                  simp only [Act.put, List.setIfInBounds_toArray, List.set_cons_zero, List.set_cons_succ, List.nil_append, List.cons_append]
                  refine inv_cons 6 (by rfl) (fun wx n_ s_ hn hcl hsi hG hR hd => ?_) (fun v6 => ?_)
                  · have d4 : (Is (fun z_ => z_ = .slice (some ⟨gx, ox, none⟩) d.xs.length xc)) v4 wx := dep_get hd 4 (by rfl)
                    obtain rfl := d4
                    have d5 : (Is (fun z_ => z_ = .int .i64 (0 : Nat))) v5 wx := dep_get hd 5 (by rfl)
                    obtain rfl := d5
                    refine inv_want (by rfl) ?_
                    have HG := Lib.hid hG
                    clear hG hR hcl hsi hn
                    unfold invAt invUpon; go_simp
                    exact post_upN (F := Is (fun z_ => z_ = .pointer (some ⟨gx, ox, none⟩))) HG.out (is_eq rfl)
                  simp only [Act.put, List.setIfInBounds_toArray, List.set_cons_zero, List.set_cons_succ, List.nil_append, List.cons_append]
                  refine inv_cons 7 (by rfl) (fun wx n_ s_ hn hcl hsi hG hR hd => ?_) (fun v7 => ?_)
                  · have d6 : (Is (fun z_ => z_ = .pointer (some ⟨gx, ox, none⟩))) v6 wx := dep_get hd 6 (by rfl)
                    obtain rfl := d6
                    have xb0 := cell_grow (x0) hG.grow (fun h => h)
                    refine inv_want (by rfl) ?_
                    have HG := Lib.hid hG
                    clear hG hR hcl hsi hn
                    unfold invAt invUpon; go_simp
                    exact post_upN (F := Is (fun z_ => z_ = .int .i64 x)) HG.out (is_eq rfl)
                  simp only [Act.put, List.setIfInBounds_toArray, List.set_cons_zero, List.set_cons_succ, List.nil_append, List.cons_append]
                  refine inv_cons 8 (by rfl) (fun wx n_ s_ hn hcl hsi hG hR hd => ?_) (fun v8 => ?_)
                  · exact inv_want (by rfl) (inv_move (.tmp 0) rfl (post_upN (F := Is (fun z_ => z_ = .slice (some ⟨g, off, none⟩) ds.length cap)) hG (is_eq rfl)))
                  simp only [Act.put, List.setIfInBounds_toArray, List.set_cons_zero, List.set_cons_succ, List.nil_append, List.cons_append]
                  refine inv_cons 9 (by rfl) (fun wx n_ s_ hn hcl hsi hG hR hd => ?_) (fun v9 => ?_)
                  · have d8 : (Is (fun z_ => z_ = .slice (some ⟨g, off, none⟩) ds.length cap)) v8 wx := dep_get hd 8 (by rfl)
                    obtain rfl := d8
                    refine inv_want (by rfl) ?_
                    have HG := Lib.hid hG
                    clear hG hR hcl hsi hn
                    unfold invAt invUpon; go_simp
                    exact post_upN (F := Is (fun z_ => z_ = .int .i64 (ds.length))) HG.out (is_eq rfl)
                  simp only [Act.put, List.setIfInBounds_toArray, List.set_cons_zero, List.set_cons_succ, List.nil_append, List.cons_append]
                  refine inv_cons 10 (by rfl) (fun wx n_ s_ hn hcl hsi hG hR hd => ?_) (fun v10 => ?_)
                  · have d9 : (Is (fun z_ => z_ = .int .i64 (ds.length))) v9 wx := dep_get hd 9 (by rfl)
                    obtain rfl := d9
                    refine inv_want (by rfl) ?_
                    have HG := Lib.hid hG
                    clear hG hR hcl hsi hn
                    unfold invAt invUpon; go_simp
                    exact post_upN (F := Is (fun z_ => z_ = .int .i64 ((ds.length : Int) - 1))) HG.out (is_eq rfl)
                  simp only [Act.put, List.setIfInBounds_toArray, List.set_cons_zero, List.set_cons_succ, List.nil_append, List.cons_append]
                  refine inv_cons 11 (by rfl) (fun wx n_ s_ hn hcl hsi hG hR hd => ?_) (fun v11 => ?_)
                  · have d7 : (Is (fun z_ => z_ = .int .i64 x)) v7 wx := dep_get hd 7 (by rfl)
                    obtain rfl := d7
                    have d10 : (Is (fun z_ => z_ = .int .i64 ((ds.length : Int) - 1))) v10 wx := dep_get hd 10 (by rfl)
                    obtain rfl := d10
                    refine inv_want (by rfl) ?_
                    have HG := Lib.hid hG
                    clear hG hR hcl hsi hn
                    unfold invAt invUpon; go_simp
                    refine (CL _).mono ?_
                    rintro e w' ⟨rfl, hb⟩
                    exact ⟨_, rfl, post_newN (F := Is (fun z_ => z_ = .bool true)) KXr HG.out hb (is_eq rfl)⟩
                  simp only [Act.put, List.setIfInBounds_toArray, List.set_cons_zero, List.set_cons_succ, List.nil_append, List.cons_append]
                  refine inv_cons 12 (by rfl) (fun wx n_ s_ hn hcl hsi hG hR hd => ?_) (fun v12 => ?_)
                  · have d11 : (Is (fun z_ => z_ = .bool true)) v11 wx := dep_get hd 11 (by rfl)
                    obtain rfl := d11
                    refine inv_want (by rfl) ?_
                    have HG := Lib.hid hG
                    clear hG hR hcl hsi hn
                    unfold invAt invUpon; go_simp
                    exact post_upN (F := Is (fun z_ => z_ = .bool false)) HG.out (is_eq rfl)
                  simp only [Act.put, List.setIfInBounds_toArray, List.set_cons_zero, List.set_cons_succ, List.nil_append, List.cons_append]
                  refine inv_cons 13 (by rfl) (fun wx n_ s_ hn hcl hsi hG hR hd => ?_) (fun v13 => ?_)
                  · have d12 : (Is (fun z_ => z_ = .bool false)) v12 wx := dep_get hd 12 (by rfl)
                    obtain rfl := d12
                    exact inv_want (by rfl) (inv_move (.tmp 50) rfl (post_upN (F := Is (fun z_ => z_ = .bool false)) hG (is_eq rfl)))
                  simp only [Act.put, List.setIfInBounds_toArray, List.set_cons_zero, List.set_cons_succ, List.nil_append, List.cons_append]
                  refine inv_cons 14 (by rfl) (fun wx n_ s_ hn hcl hsi hG hR hd => ?_) (fun v14 => ?_)
                  · have dg : (Is (fun z_ => z_ = .bool false)) v13 wx := dep_get hd 13 (by rfl)
                    obtain rfl := dg
                    exact inv_want (by rfl) (inv_move (.tmp 4) rfl (post_upN (F := Is (fun z_ => z_ = .int .i64 (0 : Nat))) hG (is_eq rfl)))
                  simp only [Act.put, List.setIfInBounds_toArray, List.set_cons_zero, List.set_cons_succ, List.nil_append, List.cons_append]
                  refine inv_cons 15 (by rfl) (fun wx n_ s_ hn hcl hsi hG hR hd => ?_) (fun v15 => ?_)
                  · have dg : (Is (fun z_ => z_ = .bool false)) v13 wx := dep_get hd 13 (by rfl)
                    obtain rfl := dg
                    have d14 : (Is (fun z_ => z_ = .int .i64 (0 : Nat))) v14 wx := dep_get hd 14 (by rfl)
                    obtain rfl := d14
                    refine inv_want (by rfl) ?_
                    have HG := Lib.hid hG
                    clear hG hR hcl hsi hn
                    unfold invAt invUpon; go_simp
                    exact post_upN (F := Is (fun z_ => z_ = .bool false)) HG.out (is_eq rfl)
                  simp only [Act.put, List.setIfInBounds_toArray, List.set_cons_zero, List.set_cons_succ, List.nil_append, List.cons_append]
                  refine inv_cons 16 (by rfl) (fun wx n_ s_ hn hcl hsi hG hR hd => ?_) (fun v16 => ?_)
                  · have dg : (Is (fun z_ => z_ = .bool false)) v13 wx := dep_get hd 13 (by rfl)
                    obtain rfl := dg
                    have d15 : (Is (fun z_ => z_ = .bool false)) v15 wx := dep_get hd 15 (by rfl)
                    obtain rfl := d15
                    exact inv_want (by rfl) (inv_move (.tmp 53) rfl (post_upN (F := Is (fun z_ => z_ = .bool false)) hG (is_eq rfl)))
                  simp only [Act.put, List.setIfInBounds_toArray, List.set_cons_zero, List.set_cons_succ, List.nil_append, List.cons_append]
                  refine inv_cons 17 (by rfl) (fun wx n_ s_ hn hcl hsi hG hR hd => ?_) (fun v17 => ?_)
                  · have dg : (Is (fun z_ => z_ = .bool false)) v16 wx := dep_get hd 16 (by rfl)
                    obtain rfl := dg
                    exact inv_skip (by rfl) hG (is_eq rfl)
                  simp only [Act.put, List.setIfInBounds_toArray, List.set_cons_zero, List.set_cons_succ, List.nil_append, List.cons_append]
                  refine inv_cons 18 (by rfl) (fun wx n_ s_ hn hcl hsi hG hR hd => ?_) (fun v18 => ?_)
                  · have dg : (Is (fun z_ => z_ = .bool false)) v16 wx := dep_get hd 16 (by rfl)
                    obtain rfl := dg
                    exact inv_skip (by rfl) hG (is_eq rfl)
                  simp only [Act.put, List.setIfInBounds_toArray, List.set_cons_zero, List.set_cons_succ, List.nil_append, List.cons_append]
                  refine inv_cons 19 (by rfl) (fun wx n_ s_ hn hcl hsi hG hR hd => ?_) (fun v19 => ?_)
                  · have dg : (Is (fun z_ => z_ = .bool false)) v16 wx := dep_get hd 16 (by rfl)
                    obtain rfl := dg
                    exact inv_skip (by rfl) hG (is_eq rfl)
                  simp only [Act.put, List.setIfInBounds_toArray, List.set_cons_zero, List.set_cons_succ, List.nil_append, List.cons_append]
                  refine inv_cons 20 (by rfl) (fun wx n_ s_ hn hcl hsi hG hR hd => ?_) (fun v20 => ?_)
                  · have dg : (Is (fun z_ => z_ = .bool false)) v16 wx := dep_get hd 16 (by rfl)
                    obtain rfl := dg
                    exact inv_skip (by rfl) hG (is_eq rfl)
                  simp only [Act.put, List.setIfInBounds_toArray, List.set_cons_zero, List.set_cons_succ, List.nil_append, List.cons_append]
                  refine inv_cons 21 (by rfl) (fun wx n_ s_ hn hcl hsi hG hR hd => ?_) (fun v21 => ?_)
                  · have dg : (Is (fun z_ => z_ = .bool false)) v16 wx := dep_get hd 16 (by rfl)
                    obtain rfl := dg
                    exact inv_skip (by rfl) hG (is_eq rfl)
                  simp only [Act.put, List.setIfInBounds_toArray, List.set_cons_zero, List.set_cons_succ, List.nil_append, List.cons_append]
                  refine inv_cons 22 (by rfl) (fun wx n_ s_ hn hcl hsi hG hR hd => ?_) (fun v22 => ?_)
                  · have dg : (Is (fun z_ => z_ = .bool false)) v16 wx := dep_get hd 16 (by rfl)
                    obtain rfl := dg
                    exact inv_skip (by rfl) hG (is_eq rfl)
                  simp only [Act.put, List.setIfInBounds_toArray, List.set_cons_zero, List.set_cons_succ, List.nil_append, List.cons_append]
                  refine inv_cons 23 (by rfl) (fun wx n_ s_ hn hcl hsi hG hR hd => ?_) (fun v23 => ?_)
                  · have dg : (Is (fun z_ => z_ = .bool false)) v16 wx := dep_get hd 16 (by rfl)
                    obtain rfl := dg
                    exact inv_skip (by rfl) hG (is_eq rfl)
                  simp only [Act.put, List.setIfInBounds_toArray, List.set_cons_zero, List.set_cons_succ, List.nil_append, List.cons_append]
                  refine inv_cons 24 (by rfl) (fun wx n_ s_ hn hcl hsi hG hR hd => ?_) (fun v24 => ?_)
                  · have dg : (Is (fun z_ => z_ = .bool false)) v16 wx := dep_get hd 16 (by rfl)
                    obtain rfl := dg
                    exact inv_skip (by rfl) hG (is_eq rfl)
                  simp only [Act.put, List.setIfInBounds_toArray, List.set_cons_zero, List.set_cons_succ, List.nil_append, List.cons_append]
                  refine inv_cons 25 (by rfl) (fun wx n_ s_ hn hcl hsi hG hR hd => ?_) (fun v25 => ?_)
                  · have dg : (Is (fun z_ => z_ = .bool false)) v16 wx := dep_get hd 16 (by rfl)
                    obtain rfl := dg
                    exact inv_skip (by rfl) hG (is_eq rfl)
                  simp only [Act.put, List.setIfInBounds_toArray, List.set_cons_zero, List.set_cons_succ, List.nil_append, List.cons_append]
                  refine inv_cons 26 (by rfl) (fun wx n_ s_ hn hcl hsi hG hR hd => ?_) (fun v26 => ?_)
                  · have dg : (Is (fun z_ => z_ = .bool false)) v16 wx := dep_get hd 16 (by rfl)
                    obtain rfl := dg
                    exact inv_skip (by rfl) hG (is_eq rfl)
                  simp only [Act.put, List.setIfInBounds_toArray, List.set_cons_zero, List.set_cons_succ, List.nil_append, List.cons_append]
                  refine inv_cons 27 (by rfl) (fun wx n_ s_ hn hcl hsi hG hR hd => ?_) (fun v27 => ?_)
                  · have dg : (Is (fun z_ => z_ = .bool false)) v16 wx := dep_get hd 16 (by rfl)
                    obtain rfl := dg
                    exact inv_skip (by rfl) hG (is_eq rfl)
                  simp only [Act.put, List.setIfInBounds_toArray, List.set_cons_zero, List.set_cons_succ, List.nil_append, List.cons_append]
                  refine inv_cons 28 (by rfl) (fun wx n_ s_ hn hcl hsi hG hR hd => ?_) (fun v28 => ?_)
                  · have dg : (Is (fun z_ => z_ = .bool false)) v16 wx := dep_get hd 16 (by rfl)
                    obtain rfl := dg
                    exact inv_skip (by rfl) hG (is_eq rfl)
                  simp only [Act.put, List.setIfInBounds_toArray, List.set_cons_zero, List.set_cons_succ, List.nil_append, List.cons_append]
                  refine inv_cons 29 (by rfl) (fun wx n_ s_ hn hcl hsi hG hR hd => ?_) (fun v29 => ?_)
                  · have dg : (Is (fun z_ => z_ = .bool false)) v16 wx := dep_get hd 16 (by rfl)
                    obtain rfl := dg
                    exact inv_skip (by rfl) hG (is_eq rfl)
                  simp only [Act.put, List.setIfInBounds_toArray, List.set_cons_zero, List.set_cons_succ, List.nil_append, List.cons_append]
                  refine inv_cons 30 (by rfl) (fun wx n_ s_ hn hcl hsi hG hR hd => ?_) (fun v30 => ?_)
                  · have dg : (Is (fun z_ => z_ = .bool false)) v16 wx := dep_get hd 16 (by rfl)
                    obtain rfl := dg
                    exact inv_skip (by rfl) hG (is_eq rfl)
                  simp only [Act.put, List.setIfInBounds_toArray, List.set_cons_zero, List.set_cons_succ, List.nil_append, List.cons_append]
                  refine inv_cons 31 (by rfl) (fun wx n_ s_ hn hcl hsi hG hR hd => ?_) (fun v31 => ?_)
                  · have dg : (Is (fun z_ => z_ = .bool false)) v16 wx := dep_get hd 16 (by rfl)
                    obtain rfl := dg
                    exact inv_skip (by rfl) hG (is_eq rfl)
                  simp only [Act.put, List.setIfInBounds_toArray, List.set_cons_zero, List.set_cons_succ, List.nil_append, List.cons_append]
                  refine inv_cons 32 (by rfl) (fun wx n_ s_ hn hcl hsi hG hR hd => ?_) (fun v32 => ?_)
                  · have dg : (Is (fun z_ => z_ = .bool false)) v16 wx := dep_get hd 16 (by rfl)
                    obtain rfl := dg
                    exact inv_skip (by rfl) hG (is_eq rfl)
                  simp only [Act.put, List.setIfInBounds_toArray, List.set_cons_zero, List.set_cons_succ, List.nil_append, List.cons_append]
                  refine inv_cons 33 (by rfl) (fun wx n_ s_ hn hcl hsi hG hR hd => ?_) (fun v33 => ?_)
                  · have dg : (Is (fun z_ => z_ = .bool false)) v16 wx := dep_get hd 16 (by rfl)
                    obtain rfl := dg
                    exact inv_skip (by rfl) hG (is_eq rfl)
                  simp only [Act.put, List.setIfInBounds_toArray, List.set_cons_zero, List.set_cons_succ, List.nil_append, List.cons_append]
                  refine inv_cons 34 (by rfl) (fun wx n_ s_ hn hcl hsi hG hR hd => ?_) (fun v34 => ?_)
                  · have dg : (Is (fun z_ => z_ = .bool false)) v16 wx := dep_get hd 16 (by rfl)
                    obtain rfl := dg
                    exact inv_skip (by rfl) hG (is_eq rfl)
                  simp only [Act.put, List.setIfInBounds_toArray, List.set_cons_zero, List.set_cons_succ, List.nil_append, List.cons_append]
                  refine inv_cons 35 (by rfl) (fun wx n_ s_ hn hcl hsi hG hR hd => ?_) (fun v35 => ?_)
                  · have dg : (Is (fun z_ => z_ = .bool false)) v13 wx := dep_get hd 13 (by rfl)
                    obtain rfl := dg
                    have d16 : (Is (fun z_ => z_ = .bool false)) v16 wx := dep_get hd 16 (by rfl)
                    obtain rfl := d16
                    have d34 : (Is (fun z_ => z_ = undef)) v34 wx := dep_get hd 34 (by rfl)
                    obtain rfl := d34
                    refine inv_want (by rfl) ?_
                    have HG := Lib.hid hG
                    clear hG hR hcl hsi hn
                    unfold invAt invUpon; go_simp
                    exact post_upN (F := Is (fun z_ => z_ = .bool false)) HG.out (is_eq rfl)
                  simp only [Act.put, List.setIfInBounds_toArray, List.set_cons_zero, List.set_cons_succ, List.nil_append, List.cons_append]
                  refine inv_cons 36 (by rfl) (fun wx n_ s_ hn hcl hsi hG hR hd => ?_) (fun v36 => ?_)
                  · have d13 : (Is (fun z_ => z_ = .bool false)) v13 wx := dep_get hd 13 (by rfl)
                    obtain rfl := d13
                    have d35 : (Is (fun z_ => z_ = .bool false)) v35 wx := dep_get hd 35 (by rfl)
                    obtain rfl := d35
                    refine inv_want (by rfl) ?_
                    have HG := Lib.hid hG
                    clear hG hR hcl hsi hn
                    unfold invAt invUpon; go_simp
                    exact post_upN (F := Is (fun z_ => z_ = .bool false)) HG.out (is_eq rfl)
                  simp only [Act.put, List.setIfInBounds_toArray, List.set_cons_zero, List.set_cons_succ, List.nil_append, List.cons_append]
                  refine inv_nil (fun wq nq sq hnq hGq hRq hall => ?_)
                  obtain ⟨f0, f1, f2, f3, f4, f5, f6, f7, f8, f9, f10, f11, f12, f13, f14, f15, f16, f17, f18, f19, f20, f21, f22, f23, f24, f25, f26, f27, f28, f29, f30, f31, f32, f33, f34, f35, f36, -⟩ := hall
                  obtain rfl : v36 = .bool false := f36
                  have hBq := Below.via (Grow.below0 hGq.grow) hBx
                  have hBrq := Lib.hid (Below.via (Grow.below0 hGq.grow) hBr.out)
                  go_wp2_with fail
                  go_roundw
                  case rel => exact ⟨1, by omega, by go_num, fun i hi => (show i = 0 by omega) ▸ hs1.out, hBrq, hBq⟩
                  case measure => simp [intOf]; omega
                · obtain ⟨q, hq⟩ : ∃ q, j = q + 1 := ⟨j - 1, by omega⟩
                  have hql : q < d.xs.length := by omega
                  obtain ⟨_, _, _, hvy, _, _, y0⟩ := SlI.cell HXx.out q hql
                  simp only [Value.slice.injEq, Option.some.injEq, Addr.mk.injEq, and_true] at hvy
                  obtain ⟨⟨rfl, rfl⟩, -, rfl⟩ := hvy
                  have hs2 : stepB ((ds.length : Int) - 1) d.xs j = decide (d.xs[q]'hql < x) := by
                    rw [hs.out, decide_eq_false hj0, Bool.false_or, hq, Nat.add_sub_cancel, show d.xs.getD q 0 = d.xs[q]'hql by rw [List.getD_eq_getElem?_getD, List.getElem?_eq_getElem hql]; rfl]
                  generalize d.xs[q]'hql = y at y0 hs2
                  have p1 : (0 : Int) ≤ (j : Int) - 1 := by omega
                  have p2 : (1 : Int) ≤ (j : Int) := by omega
                  have p3 : ((j : Int) - 1).toNat = q := by omega
                  have p4 : IntKind.i64.wrap ((j : Int) - 1) = (j : Int) - 1 := IntWalk.i64_in _ (by omega)
                  have p5 : (j : Int) - 1 < (d.xs.length : Int) := by omega
                  have p6 : (0 : Int) < (j : Int) := by omega
                  have p7 : 0 < j := by omega
                  have HS := Lib.hid hs2
                  clear hs hs2 hin hj0 hq
                  by_cases hxy : x ≤ y
                  · have hres := Lib.hid (HBAD.out j hjl (by rw [HS.out]; simp; omega))
                    clear HS HBAD
                    go_wp2_with fail
                    have KXr : KeepB (fun _ => True) ∧ KeepB (fun _ => True) := ⟨keepB_true, keepB_true⟩
                    refine wp_region_inv (G := fun s n w_ => RgN (fun _ => False) (fun _ => True) wr w_) (R := RgR (fun _ => False) (fun _ => True))
                      (Fs := [Is (fun z_ => z_ = .slice (some ⟨g, off, none⟩) ds.length cap), Is (fun z_ => z_ = .int .i64 k), Is (fun z_ => z_ = .pointer (some ⟨g, off + k * 3, none⟩)), Is (fun z_ => z_ = .pointer (some ⟨g, off + k * 3 + 2, none⟩)), Is (fun z_ => z_ = .slice (some ⟨gx, ox, none⟩) d.xs.length xc), Is (fun z_ => z_ = .int .i64 j), Is (fun z_ => z_ = .pointer (some ⟨gx, ox + j, none⟩)), Is (fun z_ => z_ = .int .i64 x), Is (fun z_ => z_ = .slice (some ⟨g, off, none⟩) ds.length cap), Is (fun z_ => z_ = .int .i64 (ds.length)), Is (fun z_ => z_ = .int .i64 ((ds.length : Int) - 1)), Is (fun z_ => z_ = .bool true), Is (fun z_ => z_ = .bool false), Is (fun z_ => z_ = .bool false), Is (fun z_ => z_ = .int .i64 j), Is (fun z_ => z_ = .bool true), Is (fun z_ => z_ = .bool true), Is (fun z_ => z_ = .slice (some ⟨g, off, none⟩) ds.length cap), Is (fun z_ => z_ = .int .i64 k), Is (fun z_ => z_ = .pointer (some ⟨g, off + k * 3, none⟩)), Is (fun z_ => z_ = .pointer (some ⟨g, off + k * 3 + 2, none⟩)), Is (fun z_ => z_ = .slice (some ⟨gx, ox, none⟩) d.xs.length xc), Is (fun z_ => z_ = .int .i64 j), Is (fun z_ => z_ = .pointer (some ⟨gx, ox + j, none⟩)), Is (fun z_ => z_ = .int .i64 x), Is (fun z_ => z_ = .slice (some ⟨g, off, none⟩) ds.length cap), Is (fun z_ => z_ = .int .i64 k), Is (fun z_ => z_ = .pointer (some ⟨g, off + k * 3, none⟩)), Is (fun z_ => z_ = .pointer (some ⟨g, off + k * 3 + 2, none⟩)), Is (fun z_ => z_ = .slice (some ⟨gx, ox, none⟩) d.xs.length xc), Is (fun z_ => z_ = .int .i64 j), Is (fun z_ => z_ = .int .i64 ((j : Int) - 1)), Is (fun z_ => z_ = .pointer (some ⟨gx, ox + q, none⟩)), Is (fun z_ => z_ = .int .i64 y), Is (fun z_ => z_ = .bool true), Is (fun z_ => z_ = .bool true), Is (fun z_ => z_ = .bool true)])
                      (by kernel_rfl) (by kernel_rfl) (fun _ => RgR.refl _) (fun h k => h.trans k) ?_ (fun _ _ => ⟨(Grow.refl _ _).drew, trivial⟩) ?_
                    · (repeat' (first | exact lasts_nil | refine lasts_cons ?_ ?_))
                      all_goals (first | exact Lasts.is | exact Lasts.any)
                    refine inv_cons 0 (by rfl) (fun wx n_ s_ hn hcl hsi hG hR hd => ?_) (fun v0 => ?_)
                    · exact inv_want (by rfl) (inv_move (.tmp 0) rfl (post_upN (F := Is (fun z_ => z_ = .slice (some ⟨g, off, none⟩) ds.length cap)) hG (is_eq rfl)))
                    simp only [Act.put, List.setIfInBounds_toArray, List.set_cons_zero, List.set_cons_succ, List.nil_append, List.cons_append]
                    refine inv_cons 1 (by rfl) (fun wx n_ s_ hn hcl hsi hG hR hd => ?_) (fun v1 => ?_)
                    · exact inv_want (by rfl) (inv_move (.tmp 3) rfl (post_upN (F := Is (fun z_ => z_ = .int .i64 k)) hG (is_eq rfl)))
                    simp only [Act.put, List.setIfInBounds_toArray, List.set_cons_zero, List.set_cons_succ, List.nil_append, List.cons_append]
                    refine inv_cons 2 (by rfl) (fun wx n_ s_ hn hcl hsi hG hR hd => ?_) (fun v2 => ?_)
                    · have d0 : (Is (fun z_ => z_ = .slice (some ⟨g, off, none⟩) ds.length cap)) v0 wx := dep_get hd 0 (by rfl)
                      obtain rfl := d0
                      have d1 : (Is (fun z_ => z_ = .int .i64 k)) v1 wx := dep_get hd 1 (by rfl)
                      obtain rfl := d1
                      refine inv_want (by rfl) ?_
                      have HG := Lib.hid hG
                      clear hG hR hcl hsi hn
                      unfold invAt invUpon; go_simp
                      exact post_upN (F := Is (fun z_ => z_ = .pointer (some ⟨g, off + k * 3, none⟩))) HG.out (is_eq rfl)
                    simp only [Act.put, List.setIfInBounds_toArray, List.set_cons_zero, List.set_cons_succ, List.nil_append, List.cons_append]
                    refine inv_cons 3 (by rfl) (fun wx n_ s_ hn hcl hsi hG hR hd => ?_) (fun v3 => ?_)
                    · have d2 : (Is (fun z_ => z_ = .pointer (some ⟨g, off + k * 3, none⟩))) v2 wx := dep_get hd 2 (by rfl)
                      obtain rfl := d2
                      refine inv_want (by rfl) ?_
                      have HG := Lib.hid hG
                      clear hG hR hcl hsi hn
                      unfold invAt invUpon; go_simp
                      exact post_upN (F := Is (fun z_ => z_ = .pointer (some ⟨g, off + k * 3 + 2, none⟩))) HG.out (is_eq rfl)
                    simp only [Act.put, List.setIfInBounds_toArray, List.set_cons_zero, List.set_cons_succ, List.nil_append, List.cons_append]
                    refine inv_cons 4 (by rfl) (fun wx n_ s_ hn hcl hsi hG hR hd => ?_) (fun v4 => ?_)
                    · have d3 : (Is (fun z_ => z_ = .pointer (some ⟨g, off + k * 3 + 2, none⟩))) v3 wx := dep_get hd 3 (by rfl)
                      obtain rfl := d3
                      have xb0 := cell_grow (c2) hG.grow (fun h => h)
                      refine inv_want (by rfl) ?_
                      have HG := Lib.hid hG
                      clear hG hR hcl hsi hn
                      unfold invAt invUpon; go_simp
                      exact post_upN (F := Is (fun z_ => z_ = .slice (some ⟨gx, ox, none⟩) d.xs.length xc)) HG.out (is_eq rfl)
                    simp only [Act.put, List.setIfInBounds_toArray, List.set_cons_zero, List.set_cons_succ, List.nil_append, List.cons_append]
                    refine inv_cons 5 (by rfl) (fun wx n_ s_ hn hcl hsi hG hR hd => ?_) (fun v5 => ?_)
                    · exact inv_want (by rfl) (inv_move (.tmp 4) rfl (post_upN (F := Is (fun z_ => z_ = .int .i64 j)) hG (is_eq rfl)))
                    simp only [Act.put, List.setIfInBounds_toArray, List.set_cons_zero, List.set_cons_succ, List.nil_append, List.cons_append]
                    refine inv_cons 6 (by rfl) (fun wx n_ s_ hn hcl hsi hG hR hd => ?_) (fun v6 => ?_)
                    · have d4 : (Is (fun z_ => z_ = .slice (some ⟨gx, ox, none⟩) d.xs.length xc)) v4 wx := dep_get hd 4 (by rfl)
                      obtain rfl := d4
                      have d5 : (Is (fun z_ => z_ = .int .i64 j)) v5 wx := dep_get hd 5 (by rfl)
                      obtain rfl := d5
                      refine inv_want (by rfl) ?_
                      have HG := Lib.hid hG
                      clear hG hR hcl hsi hn
                      unfold invAt invUpon; go_simp
                      exact post_upN (F := Is (fun z_ => z_ = .pointer (some ⟨gx, ox + j, none⟩))) HG.out (is_eq rfl)
                    simp only [Act.put, List.setIfInBounds_toArray, List.set_cons_zero, List.set_cons_succ, List.nil_append, List.cons_append]
                    refine inv_cons 7 (by rfl) (fun wx n_ s_ hn hcl hsi hG hR hd => ?_) (fun v7 => ?_)
                    · have d6 : (Is (fun z_ => z_ = .pointer (some ⟨gx, ox + j, none⟩))) v6 wx := dep_get hd 6 (by rfl)
                      obtain rfl := d6
                      have xb0 := cell_grow (x0) hG.grow (fun h => h)
                      refine inv_want (by rfl) ?_
                      have HG := Lib.hid hG
                      clear hG hR hcl hsi hn
                      unfold invAt invUpon; go_simp
                      exact post_upN (F := Is (fun z_ => z_ = .int .i64 x)) HG.out (is_eq rfl)
                    simp only [Act.put, List.setIfInBounds_toArray, List.set_cons_zero, List.set_cons_succ, List.nil_append, List.cons_append]
                    refine inv_cons 8 (by rfl) (fun wx n_ s_ hn hcl hsi hG hR hd => ?_) (fun v8 => ?_)
                    · exact inv_want (by rfl) (inv_move (.tmp 0) rfl (post_upN (F := Is (fun z_ => z_ = .slice (some ⟨g, off, none⟩) ds.length cap)) hG (is_eq rfl)))
                    simp only [Act.put, List.setIfInBounds_toArray, List.set_cons_zero, List.set_cons_succ, List.nil_append, List.cons_append]
                    refine inv_cons 9 (by rfl) (fun wx n_ s_ hn hcl hsi hG hR hd => ?_) (fun v9 => ?_)
                    · have d8 : (Is (fun z_ => z_ = .slice (some ⟨g, off, none⟩) ds.length cap)) v8 wx := dep_get hd 8 (by rfl)
                      obtain rfl := d8
                      refine inv_want (by rfl) ?_
                      have HG := Lib.hid hG
                      clear hG hR hcl hsi hn
                      unfold invAt invUpon; go_simp
                      exact post_upN (F := Is (fun z_ => z_ = .int .i64 (ds.length))) HG.out (is_eq rfl)
                    simp only [Act.put, List.setIfInBounds_toArray, List.set_cons_zero, List.set_cons_succ, List.nil_append, List.cons_append]
                    refine inv_cons 10 (by rfl) (fun wx n_ s_ hn hcl hsi hG hR hd => ?_) (fun v10 => ?_)
                    · have d9 : (Is (fun z_ => z_ = .int .i64 (ds.length))) v9 wx := dep_get hd 9 (by rfl)
                      obtain rfl := d9
                      refine inv_want (by rfl) ?_
                      have HG := Lib.hid hG
                      clear hG hR hcl hsi hn
                      unfold invAt invUpon; go_simp
                      exact post_upN (F := Is (fun z_ => z_ = .int .i64 ((ds.length : Int) - 1))) HG.out (is_eq rfl)
                    simp only [Act.put, List.setIfInBounds_toArray, List.set_cons_zero, List.set_cons_succ, List.nil_append, List.cons_append]
                    refine inv_cons 11 (by rfl) (fun wx n_ s_ hn hcl hsi hG hR hd => ?_) (fun v11 => ?_)
                    · have d7 : (Is (fun z_ => z_ = .int .i64 x)) v7 wx := dep_get hd 7 (by rfl)
                      obtain rfl := d7
                      have d10 : (Is (fun z_ => z_ = .int .i64 ((ds.length : Int) - 1))) v10 wx := dep_get hd 10 (by rfl)
                      obtain rfl := d10
                      refine inv_want (by rfl) ?_
                      have HG := Lib.hid hG
                      clear hG hR hcl hsi hn
                      unfold invAt invUpon; go_simp
                      refine (CL _).mono ?_
                      rintro e w' ⟨rfl, hb⟩
                      exact ⟨_, rfl, post_newN (F := Is (fun z_ => z_ = .bool true)) KXr HG.out hb (is_eq rfl)⟩
                    simp only [Act.put, List.setIfInBounds_toArray, List.set_cons_zero, List.set_cons_succ, List.nil_append, List.cons_append]
                    refine inv_cons 12 (by rfl) (fun wx n_ s_ hn hcl hsi hG hR hd => ?_) (fun v12 => ?_)
                    · have d11 : (Is (fun z_ => z_ = .bool true)) v11 wx := dep_get hd 11 (by rfl)
                      obtain rfl := d11
                      refine inv_want (by rfl) ?_
                      have HG := Lib.hid hG
                      clear hG hR hcl hsi hn
                      unfold invAt invUpon; go_simp
                      exact post_upN (F := Is (fun z_ => z_ = .bool false)) HG.out (is_eq rfl)
                    simp only [Act.put, List.setIfInBounds_toArray, List.set_cons_zero, List.set_cons_succ, List.nil_append, List.cons_append]
                    refine inv_cons 13 (by rfl) (fun wx n_ s_ hn hcl hsi hG hR hd => ?_) (fun v13 => ?_)
                    · have d12 : (Is (fun z_ => z_ = .bool false)) v12 wx := dep_get hd 12 (by rfl)
                      obtain rfl := d12
                      exact inv_want (by rfl) (inv_move (.tmp 50) rfl (post_upN (F := Is (fun z_ => z_ = .bool false)) hG (is_eq rfl)))
                    simp only [Act.put, List.setIfInBounds_toArray, List.set_cons_zero, List.set_cons_succ, List.nil_append, List.cons_append]
                    refine inv_cons 14 (by rfl) (fun wx n_ s_ hn hcl hsi hG hR hd => ?_) (fun v14 => ?_)
                    · have dg : (Is (fun z_ => z_ = .bool false)) v13 wx := dep_get hd 13 (by rfl)
                      obtain rfl := dg
                      exact inv_want (by rfl) (inv_move (.tmp 4) rfl (post_upN (F := Is (fun z_ => z_ = .int .i64 j)) hG (is_eq rfl)))
                    simp only [Act.put, List.setIfInBounds_toArray, List.set_cons_zero, List.set_cons_succ, List.nil_append, List.cons_append]
                    refine inv_cons 15 (by rfl) (fun wx n_ s_ hn hcl hsi hG hR hd => ?_) (fun v15 => ?_)
                    · have dg : (Is (fun z_ => z_ = .bool false)) v13 wx := dep_get hd 13 (by rfl)
                      obtain rfl := dg
                      have d14 : (Is (fun z_ => z_ = .int .i64 j)) v14 wx := dep_get hd 14 (by rfl)
                      obtain rfl := d14
                      refine inv_want (by rfl) ?_
                      have HG := Lib.hid hG
                      clear hG hR hcl hsi hn
                      unfold invAt invUpon; go_simp
                      exact post_upN (F := Is (fun z_ => z_ = .bool true)) HG.out (is_eq rfl)
                    simp only [Act.put, List.setIfInBounds_toArray, List.set_cons_zero, List.set_cons_succ, List.nil_append, List.cons_append]
                    refine inv_cons 16 (by rfl) (fun wx n_ s_ hn hcl hsi hG hR hd => ?_) (fun v16 => ?_)
                    · have dg : (Is (fun z_ => z_ = .bool false)) v13 wx := dep_get hd 13 (by rfl)
                      obtain rfl := dg
                      have d15 : (Is (fun z_ => z_ = .bool true)) v15 wx := dep_get hd 15 (by rfl)
                      obtain rfl := d15
                      exact inv_want (by rfl) (inv_move (.tmp 53) rfl (post_upN (F := Is (fun z_ => z_ = .bool true)) hG (is_eq rfl)))
                    simp only [Act.put, List.setIfInBounds_toArray, List.set_cons_zero, List.set_cons_succ, List.nil_append, List.cons_append]
                    refine inv_cons 17 (by rfl) (fun wx n_ s_ hn hcl hsi hG hR hd => ?_) (fun v17 => ?_)
                    · have dg : (Is (fun z_ => z_ = .bool true)) v16 wx := dep_get hd 16 (by rfl)
                      obtain rfl := dg
                      exact inv_want (by rfl) (inv_move (.tmp 0) rfl (post_upN (F := Is (fun z_ => z_ = .slice (some ⟨g, off, none⟩) ds.length cap)) hG (is_eq rfl)))
                    simp only [Act.put, List.setIfInBounds_toArray, List.set_cons_zero, List.set_cons_succ, List.nil_append, List.cons_append]
                    refine inv_cons 18 (by rfl) (fun wx n_ s_ hn hcl hsi hG hR hd => ?_) (fun v18 => ?_)
                    · have dg : (Is (fun z_ => z_ = .bool true)) v16 wx := dep_get hd 16 (by rfl)
                      obtain rfl := dg
                      exact inv_want (by rfl) (inv_move (.tmp 3) rfl (post_upN (F := Is (fun z_ => z_ = .int .i64 k)) hG (is_eq rfl)))
                    simp only [Act.put, List.setIfInBounds_toArray, List.set_cons_zero, List.set_cons_succ, List.nil_append, List.cons_append]
                    refine inv_cons 19 (by rfl) (fun wx n_ s_ hn hcl hsi hG hR hd => ?_) (fun v19 => ?_)
                    · have dg : (Is (fun z_ => z_ = .bool true)) v16 wx := dep_get hd 16 (by rfl)
                      obtain rfl := dg
                      have d17 : (Is (fun z_ => z_ = .slice (some ⟨g, off, none⟩) ds.length cap)) v17 wx := dep_get hd 17 (by rfl)
                      obtain rfl := d17
                      have d18 : (Is (fun z_ => z_ = .int .i64 k)) v18 wx := dep_get hd 18 (by rfl)
                      obtain rfl := d18
                      refine inv_want (by rfl) ?_
                      have HG := Lib.hid hG
                      clear hG hR hcl hsi hn
                      unfold invAt invUpon; go_simp
                      exact post_upN (F := Is (fun z_ => z_ = .pointer (some ⟨g, off + k * 3, none⟩))) HG.out (is_eq rfl)
                    simp only [Act.put, List.setIfInBounds_toArray, List.set_cons_zero, List.set_cons_succ, List.nil_append, List.cons_append]
                    refine inv_cons 20 (by rfl) (fun wx n_ s_ hn hcl hsi hG hR hd => ?_) (fun v20 => ?_)
                    · have dg : (Is (fun z_ => z_ = .bool true)) v16 wx := dep_get hd 16 (by rfl)
                      obtain rfl := dg
                      have d19 : (Is (fun z_ => z_ = .pointer (some ⟨g, off + k * 3, none⟩))) v19 wx := dep_get hd 19 (by rfl)
                      obtain rfl := d19
                      refine inv_want (by rfl) ?_
                      have HG := Lib.hid hG
                      clear hG hR hcl hsi hn
                      unfold invAt invUpon; go_simp
                      exact post_upN (F := Is (fun z_ => z_ = .pointer (some ⟨g, off + k * 3 + 2, none⟩))) HG.out (is_eq rfl)
                    simp only [Act.put, List.setIfInBounds_toArray, List.set_cons_zero, List.set_cons_succ, List.nil_append, List.cons_append]
                    refine inv_cons 21 (by rfl) (fun wx n_ s_ hn hcl hsi hG hR hd => ?_) (fun v21 => ?_)
                    · have dg : (Is (fun z_ => z_ = .bool true)) v16 wx := dep_get hd 16 (by rfl)
                      obtain rfl := dg
                      have d20 : (Is (fun z_ => z_ = .pointer (some ⟨g, off + k * 3 + 2, none⟩))) v20 wx := dep_get hd 20 (by rfl)
                      obtain rfl := d20
                      have xb0 := cell_grow (c2) hG.grow (fun h => h)
                      refine inv_want (by rfl) ?_
                      have HG := Lib.hid hG
                      clear hG hR hcl hsi hn
                      unfold invAt invUpon; go_simp
                      exact post_upN (F := Is (fun z_ => z_ = .slice (some ⟨gx, ox, none⟩) d.xs.length xc)) HG.out (is_eq rfl)
                    simp only [Act.put, List.setIfInBounds_toArray, List.set_cons_zero, List.set_cons_succ, List.nil_append, List.cons_append]
                    refine inv_cons 22 (by rfl) (fun wx n_ s_ hn hcl hsi hG hR hd => ?_) (fun v22 => ?_)
                    · have dg : (Is (fun z_ => z_ = .bool true)) v16 wx := dep_get hd 16 (by rfl)
                      obtain rfl := dg
                      exact inv_want (by rfl) (inv_move (.tmp 4) rfl (post_upN (F := Is (fun z_ => z_ = .int .i64 j)) hG (is_eq rfl)))
                    simp only [Act.put, List.setIfInBounds_toArray, List.set_cons_zero, List.set_cons_succ, List.nil_append, List.cons_append]
                    refine inv_cons 23 (by rfl) (fun wx n_ s_ hn hcl hsi hG hR hd => ?_) (fun v23 => ?_)
                    · have dg : (Is (fun z_ => z_ = .bool true)) v16 wx := dep_get hd 16 (by rfl)
                      obtain rfl := dg
                      have d21 : (Is (fun z_ => z_ = .slice (some ⟨gx, ox, none⟩) d.xs.length xc)) v21 wx := dep_get hd 21 (by rfl)
                      obtain rfl := d21
                      have d22 : (Is (fun z_ => z_ = .int .i64 j)) v22 wx := dep_get hd 22 (by rfl)
                      obtain rfl := d22
                      refine inv_want (by rfl) ?_
                      have HG := Lib.hid hG
                      clear hG hR hcl hsi hn
                      unfold invAt invUpon; go_simp
                      exact post_upN (F := Is (fun z_ => z_ = .pointer (some ⟨gx, ox + j, none⟩))) HG.out (is_eq rfl)
                    simp only [Act.put, List.setIfInBounds_toArray, List.set_cons_zero, List.set_cons_succ, List.nil_append, List.cons_append]
                    refine inv_cons 24 (by rfl) (fun wx n_ s_ hn hcl hsi hG hR hd => ?_) (fun v24 => ?_)
                    · have dg : (Is (fun z_ => z_ = .bool true)) v16 wx := dep_get hd 16 (by rfl)
                      obtain rfl := dg
                      have d23 : (Is (fun z_ => z_ = .pointer (some ⟨gx, ox + j, none⟩))) v23 wx := dep_get hd 23 (by rfl)
                      obtain rfl := d23
                      have xb0 := cell_grow (x0) hG.grow (fun h => h)
                      refine inv_want (by rfl) ?_
                      have HG := Lib.hid hG
                      clear hG hR hcl hsi hn
                      unfold invAt invUpon; go_simp
                      exact post_upN (F := Is (fun z_ => z_ = .int .i64 x)) HG.out (is_eq rfl)
                    simp only [Act.put, List.setIfInBounds_toArray, List.set_cons_zero, List.set_cons_succ, List.nil_append, List.cons_append]
                    refine inv_cons 25 (by rfl) (fun wx n_ s_ hn hcl hsi hG hR hd => ?_) (fun v25 => ?_)
                    · have dg : (Is (fun z_ => z_ = .bool true)) v16 wx := dep_get hd 16 (by rfl)
                      obtain rfl := dg
                      exact inv_want (by rfl) (inv_move (.tmp 0) rfl (post_upN (F := Is (fun z_ => z_ = .slice (some ⟨g, off, none⟩) ds.length cap)) hG (is_eq rfl)))
                    simp only [Act.put, List.setIfInBounds_toArray, List.set_cons_zero, List.set_cons_succ, List.nil_append, List.cons_append]
                    refine inv_cons 26 (by rfl) (fun wx n_ s_ hn hcl hsi hG hR hd => ?_) (fun v26 => ?_)
                    · have dg : (Is (fun z_ => z_ = .bool true)) v16 wx := dep_get hd 16 (by rfl)
                      obtain rfl := dg
                      exact inv_want (by rfl) (inv_move (.tmp 3) rfl (post_upN (F := Is (fun z_ => z_ = .int .i64 k)) hG (is_eq rfl)))
                    simp only [Act.put, List.setIfInBounds_toArray, List.set_cons_zero, List.set_cons_succ, List.nil_append, List.cons_append]
                    refine inv_cons 27 (by rfl) (fun wx n_ s_ hn hcl hsi hG hR hd => ?_) (fun v27 => ?_)
                    · have dg : (Is (fun z_ => z_ = .bool true)) v16 wx := dep_get hd 16 (by rfl)
                      obtain rfl := dg
                      have d25 : (Is (fun z_ => z_ = .slice (some ⟨g, off, none⟩) ds.length cap)) v25 wx := dep_get hd 25 (by rfl)
                      obtain rfl := d25
                      have d26 : (Is (fun z_ => z_ = .int .i64 k)) v26 wx := dep_get hd 26 (by rfl)
                      obtain rfl := d26
                      refine inv_want (by rfl) ?_
                      have HG := Lib.hid hG
                      clear hG hR hcl hsi hn
                      unfold invAt invUpon; go_simp
                      exact post_upN (F := Is (fun z_ => z_ = .pointer (some ⟨g, off + k * 3, none⟩))) HG.out (is_eq rfl)
                    simp only [Act.put, List.setIfInBounds_toArray, List.set_cons_zero, List.set_cons_succ, List.nil_append, List.cons_append]
                    refine inv_cons 28 (by rfl) (fun wx n_ s_ hn hcl hsi hG hR hd => ?_) (fun v28 => ?_)
                    · have dg : (Is (fun z_ => z_ = .bool true)) v16 wx := dep_get hd 16 (by rfl)
                      obtain rfl := dg
                      have d27 : (Is (fun z_ => z_ = .pointer (some ⟨g, off + k * 3, none⟩))) v27 wx := dep_get hd 27 (by rfl)
                      obtain rfl := d27
                      refine inv_want (by rfl) ?_
                      have HG := Lib.hid hG
                      clear hG hR hcl hsi hn
                      unfold invAt invUpon; go_simp
                      exact post_upN (F := Is (fun z_ => z_ = .pointer (some ⟨g, off + k * 3 + 2, none⟩))) HG.out (is_eq rfl)
                    simp only [Act.put, List.setIfInBounds_toArray, List.set_cons_zero, List.set_cons_succ, List.nil_append, List.cons_append]
                    refine inv_cons 29 (by rfl) (fun wx n_ s_ hn hcl hsi hG hR hd => ?_) (fun v29 => ?_)
                    · have dg : (Is (fun z_ => z_ = .bool true)) v16 wx := dep_get hd 16 (by rfl)
                      obtain rfl := dg
                      have d28 : (Is (fun z_ => z_ = .pointer (some ⟨g, off + k * 3 + 2, none⟩))) v28 wx := dep_get hd 28 (by rfl)
                      obtain rfl := d28
                      have xb0 := cell_grow (c2) hG.grow (fun h => h)
                      refine inv_want (by rfl) ?_
                      have HG := Lib.hid hG
                      clear hG hR hcl hsi hn
                      unfold invAt invUpon; go_simp
                      exact post_upN (F := Is (fun z_ => z_ = .slice (some ⟨gx, ox, none⟩) d.xs.length xc)) HG.out (is_eq rfl)
                    simp only [Act.put, List.setIfInBounds_toArray, List.set_cons_zero, List.set_cons_succ, List.nil_append, List.cons_append]
                    refine inv_cons 30 (by rfl) (fun wx n_ s_ hn hcl hsi hG hR hd => ?_) (fun v30 => ?_)
                    · have dg : (Is (fun z_ => z_ = .bool true)) v16 wx := dep_get hd 16 (by rfl)
                      obtain rfl := dg
                      exact inv_want (by rfl) (inv_move (.tmp 4) rfl (post_upN (F := Is (fun z_ => z_ = .int .i64 j)) hG (is_eq rfl)))
                    simp only [Act.put, List.setIfInBounds_toArray, List.set_cons_zero, List.set_cons_succ, List.nil_append, List.cons_append]
                    refine inv_cons 31 (by rfl) (fun wx n_ s_ hn hcl hsi hG hR hd => ?_) (fun v31 => ?_)
                    · have dg : (Is (fun z_ => z_ = .bool true)) v16 wx := dep_get hd 16 (by rfl)
                      obtain rfl := dg
                      have d30 : (Is (fun z_ => z_ = .int .i64 j)) v30 wx := dep_get hd 30 (by rfl)
                      obtain rfl := d30
                      refine inv_want (by rfl) ?_
                      have HG := Lib.hid hG
                      clear hG hR hcl hsi hn
                      unfold invAt invUpon; go_simp
                      exact post_upN (F := Is (fun z_ => z_ = .int .i64 ((j : Int) - 1))) HG.out (is_eq rfl)
                    simp only [Act.put, List.setIfInBounds_toArray, List.set_cons_zero, List.set_cons_succ, List.nil_append, List.cons_append]
                    refine inv_cons 32 (by rfl) (fun wx n_ s_ hn hcl hsi hG hR hd => ?_) (fun v32 => ?_)
                    · have dg : (Is (fun z_ => z_ = .bool true)) v16 wx := dep_get hd 16 (by rfl)
                      obtain rfl := dg
                      have d29 : (Is (fun z_ => z_ = .slice (some ⟨gx, ox, none⟩) d.xs.length xc)) v29 wx := dep_get hd 29 (by rfl)
                      obtain rfl := d29
                      have d31 : (Is (fun z_ => z_ = .int .i64 ((j : Int) - 1))) v31 wx := dep_get hd 31 (by rfl)
                      obtain rfl := d31
                      refine inv_want (by rfl) ?_
                      have HG := Lib.hid hG
                      clear hG hR hcl hsi hn
                      unfold invAt invUpon; go_simp
                      exact post_upN (F := Is (fun z_ => z_ = .pointer (some ⟨gx, ox + q, none⟩))) HG.out (is_eq rfl)
                    simp only [Act.put, List.setIfInBounds_toArray, List.set_cons_zero, List.set_cons_succ, List.nil_append, List.cons_append]
                    refine inv_cons 33 (by rfl) (fun wx n_ s_ hn hcl hsi hG hR hd => ?_) (fun v33 => ?_)
                    · have dg : (Is (fun z_ => z_ = .bool true)) v16 wx := dep_get hd 16 (by rfl)
                      obtain rfl := dg
                      have d32 : (Is (fun z_ => z_ = .pointer (some ⟨gx, ox + q, none⟩))) v32 wx := dep_get hd 32 (by rfl)
                      obtain rfl := d32
                      have xb0 := cell_grow (y0) hG.grow (fun h => h)
                      refine inv_want (by rfl) ?_
                      have HG := Lib.hid hG
                      clear hG hR hcl hsi hn
                      unfold invAt invUpon; go_simp
                      exact post_upN (F := Is (fun z_ => z_ = .int .i64 y)) HG.out (is_eq rfl)
                    simp only [Act.put, List.setIfInBounds_toArray, List.set_cons_zero, List.set_cons_succ, List.nil_append, List.cons_append]
                    refine inv_cons 34 (by rfl) (fun wx n_ s_ hn hcl hsi hG hR hd => ?_) (fun v34 => ?_)
                    · have dg : (Is (fun z_ => z_ = .bool true)) v16 wx := dep_get hd 16 (by rfl)
                      obtain rfl := dg
                      have d24 : (Is (fun z_ => z_ = .int .i64 x)) v24 wx := dep_get hd 24 (by rfl)
                      obtain rfl := d24
                      have d33 : (Is (fun z_ => z_ = .int .i64 y)) v33 wx := dep_get hd 33 (by rfl)
                      obtain rfl := d33
                      refine inv_want (by rfl) ?_
                      have HG := Lib.hid hG
                      clear hG hR hcl hsi hn
                      unfold invAt invUpon; go_simp
                      exact post_upN (F := Is (fun z_ => z_ = .bool true)) HG.out (is_eq rfl)
                    simp only [Act.put, List.setIfInBounds_toArray, List.set_cons_zero, List.set_cons_succ, List.nil_append, List.cons_append]
                    refine inv_cons 35 (by rfl) (fun wx n_ s_ hn hcl hsi hG hR hd => ?_) (fun v35 => ?_)
                    · have dg : (Is (fun z_ => z_ = .bool false)) v13 wx := dep_get hd 13 (by rfl)
                      obtain rfl := dg
                      have d16 : (Is (fun z_ => z_ = .bool true)) v16 wx := dep_get hd 16 (by rfl)
                      obtain rfl := d16
                      have d34 : (Is (fun z_ => z_ = .bool true)) v34 wx := dep_get hd 34 (by rfl)
                      obtain rfl := d34
                      refine inv_want (by rfl) ?_
                      have HG := Lib.hid hG
                      clear hG hR hcl hsi hn
                      unfold invAt invUpon; go_simp
                      exact post_upN (F := Is (fun z_ => z_ = .bool true)) HG.out (is_eq rfl)
                    simp only [Act.put, List.setIfInBounds_toArray, List.set_cons_zero, List.set_cons_succ, List.nil_append, List.cons_append]
                    refine inv_cons 36 (by rfl) (fun wx n_ s_ hn hcl hsi hG hR hd => ?_) (fun v36 => ?_)
                    · have d13 : (Is (fun z_ => z_ = .bool false)) v13 wx := dep_get hd 13 (by rfl)
                      obtain rfl := d13
                      have d35 : (Is (fun z_ => z_ = .bool true)) v35 wx := dep_get hd 35 (by rfl)
                      obtain rfl := d35
                      refine inv_want (by rfl) ?_
                      have HG := Lib.hid hG
                      clear hG hR hcl hsi hn
                      unfold invAt invUpon; go_simp
                      exact post_upN (F := Is (fun z_ => z_ = .bool true)) HG.out (is_eq rfl)
                    simp only [Act.put, List.setIfInBounds_toArray, List.set_cons_zero, List.set_cons_succ, List.nil_append, List.cons_append]
                    refine inv_nil (fun wq nq sq hnq hGq hRq hall => ?_)
                    obtain ⟨f0, f1, f2, f3, f4, f5, f6, f7, f8, f9, f10, f11, f12, f13, f14, f15, f16, f17, f18, f19, f20, f21, f22, f23, f24, f25, f26, f27, f28, f29, f30, f31, f32, f33, f34, f35, f36, -⟩ := hall
                    obtain rfl : v36 = .bool true := f36
                    have hBq := Below.via (Grow.below0 hGq.grow) hBx
                    go_wp2_with fail
                    go_ret
                    exact ⟨by rw [hres.out]; rfl, hBq⟩
                  · have hs1 := Lib.hid (show stepB ((ds.length : Int) - 1) d.xs j = true by rw [HS.out]; simp; omega)
                    have hst2 := Lib.hid (show ∀ i, i < j + 1 → stepB ((ds.length : Int) - 1) d.xs i = true from fun i hi => by
                      rcases Nat.lt_or_ge i j with h | h
                      · exact hst.out i h
                      · exact (show i = j by omega) ▸ hs1.out)
                    have hxd : decide (x ≤ y) = false := decide_eq_false hxy
                    clear HS HBAD hs1 hst
                    go_wp2_with fail
                    have KXr : KeepB (fun _ => True) ∧ KeepB (fun _ => True) := ⟨keepB_true, keepB_true⟩
                    refine wp_region_inv (G := fun s n w_ => RgN (fun _ => False) (fun _ => True) wr w_) (R := RgR (fun _ => False) (fun _ => True))
                      (Fs := [Is (fun z_ => z_ = .slice (some ⟨g, off, none⟩) ds.length cap), Is (fun z_ => z_ = .int .i64 k), Is (fun z_ => z_ = .pointer (some ⟨g, off + k * 3, none⟩)), Is (fun z_ => z_ = .pointer (some ⟨g, off + k * 3 + 2, none⟩)), Is (fun z_ => z_ = .slice (some ⟨gx, ox, none⟩) d.xs.length xc), Is (fun z_ => z_ = .int .i64 j), Is (fun z_ => z_ = .pointer (some ⟨gx, ox + j, none⟩)), Is (fun z_ => z_ = .int .i64 x), Is (fun z_ => z_ = .slice (some ⟨g, off, none⟩) ds.length cap), Is (fun z_ => z_ = .int .i64 (ds.length)), Is (fun z_ => z_ = .int .i64 ((ds.length : Int) - 1)), Is (fun z_ => z_ = .bool true), Is (fun z_ => z_ = .bool false), Is (fun z_ => z_ = .bool false), Is (fun z_ => z_ = .int .i64 j), Is (fun z_ => z_ = .bool true), Is (fun z_ => z_ = .bool true), Is (fun z_ => z_ = .slice (some ⟨g, off, none⟩) ds.length cap), Is (fun z_ => z_ = .int .i64 k), Is (fun z_ => z_ = .pointer (some ⟨g, off + k * 3, none⟩)), Is (fun z_ => z_ = .pointer (some ⟨g, off + k * 3 + 2, none⟩)), Is (fun z_ => z_ = .slice (some ⟨gx, ox, none⟩) d.xs.length xc), Is (fun z_ => z_ = .int .i64 j), Is (fun z_ => z_ = .pointer (some ⟨gx, ox + j, none⟩)), Is (fun z_ => z_ = .int .i64 x), Is (fun z_ => z_ = .slice (some ⟨g, off, none⟩) ds.length cap), Is (fun z_ => z_ = .int .i64 k), Is (fun z_ => z_ = .pointer (some ⟨g, off + k * 3, none⟩)), Is (fun z_ => z_ = .pointer (some ⟨g, off + k * 3 + 2, none⟩)), Is (fun z_ => z_ = .slice (some ⟨gx, ox, none⟩) d.xs.length xc), Is (fun z_ => z_ = .int .i64 j), Is (fun z_ => z_ = .int .i64 ((j : Int) - 1)), Is (fun z_ => z_ = .pointer (some ⟨gx, ox + q, none⟩)), Is (fun z_ => z_ = .int .i64 y), Is (fun z_ => z_ = .bool false), Is (fun z_ => z_ = .bool false), Is (fun z_ => z_ = .bool false)])
                      (by kernel_rfl) (by kernel_rfl) (fun _ => RgR.refl _) (fun h k => h.trans k) ?_ (fun _ _ => ⟨(Grow.refl _ _).drew, trivial⟩) ?_
                    · (repeat' (first | exact lasts_nil | refine lasts_cons ?_ ?_))
                      all_goals (first | exact Lasts.is | exact Lasts.any)
                    refine inv_cons 0 (by rfl) (fun wx n_ s_ hn hcl hsi hG hR hd => ?_) (fun v0 => ?_)
                    · exact inv_want (by rfl) (inv_move (.tmp 0) rfl (post_upN (F := Is (fun z_ => z_ = .slice (some ⟨g, off, none⟩) ds.length cap)) hG (is_eq rfl)))
                    simp only [Act.put, List.setIfInBounds_toArray, List.set_cons_zero, List.set_cons_succ, List.nil_append, List.cons_append]
                    refine inv_cons 1 (by rfl) (fun wx n_ s_ hn hcl hsi hG hR hd => ?_) (fun v1 => ?_)
                    · exact inv_want (by rfl) (inv_move (.tmp 3) rfl (post_upN (F := Is (fun z_ => z_ = .int .i64 k)) hG (is_eq rfl)))
                    simp only [Act.put, List.setIfInBounds_toArray, List.set_cons_zero, List.set_cons_succ, List.nil_append, List.cons_append]
                    refine inv_cons 2 (by rfl) (fun wx n_ s_ hn hcl hsi hG hR hd => ?_) (fun v2 => ?_)
                    · have d0 : (Is (fun z_ => z_ = .slice (some ⟨g, off, none⟩) ds.length cap)) v0 wx := dep_get hd 0 (by rfl)
                      obtain rfl := d0
                      have d1 : (Is (fun z_ => z_ = .int .i64 k)) v1 wx := dep_get hd 1 (by rfl)
                      obtain rfl := d1
                      refine inv_want (by rfl) ?_
                      have HG := Lib.hid hG
                      clear hG hR hcl hsi hn
                      unfold invAt invUpon; go_simp
                      exact post_upN (F := Is (fun z_ => z_ = .pointer (some ⟨g, off + k * 3, none⟩))) HG.out (is_eq rfl)
                    simp only [Act.put, List.setIfInBounds_toArray, List.set_cons_zero, List.set_cons_succ, List.nil_append, List.cons_append]
                    refine inv_cons 3 (by rfl) (fun wx n_ s_ hn hcl hsi hG hR hd => ?_) (fun v3 => ?_)
                    · have d2 : (Is (fun z_ => z_ = .pointer (some ⟨g, off + k * 3, none⟩))) v2 wx := dep_get hd 2 (by rfl)
                      obtain rfl := d2
                      refine inv_want (by rfl) ?_
                      have HG := Lib.hid hG
                      clear hG hR hcl hsi hn
                      unfold invAt invUpon; go_simp
                      exact post_upN (F := Is (fun z_ => z_ = .pointer (some ⟨g, off + k * 3 + 2, none⟩))) HG.out (is_eq rfl)
                    simp only [Act.put, List.setIfInBounds_toArray, List.set_cons_zero, List.set_cons_succ, List.nil_append, List.cons_append]
                    refine inv_cons 4 (by rfl) (fun wx n_ s_ hn hcl hsi hG hR hd => ?_) (fun v4 => ?_)
                    · have d3 : (Is (fun z_ => z_ = .pointer (some ⟨g, off + k * 3 + 2, none⟩))) v3 wx := dep_get hd 3 (by rfl)
                      obtain rfl := d3
                      have xb0 := cell_grow (c2) hG.grow (fun h => h)
                      refine inv_want (by rfl) ?_
                      have HG := Lib.hid hG
                      clear hG hR hcl hsi hn
                      unfold invAt invUpon; go_simp
                      exact post_upN (F := Is (fun z_ => z_ = .slice (some ⟨gx, ox, none⟩) d.xs.length xc)) HG.out (is_eq rfl)
                    simp only [Act.put, List.setIfInBounds_toArray, List.set_cons_zero, List.set_cons_succ, List.nil_append, List.cons_append]
                    refine inv_cons 5 (by rfl) (fun wx n_ s_ hn hcl hsi hG hR hd => ?_) (fun v5 => ?_)
                    · exact inv_want (by rfl) (inv_move (.tmp 4) rfl (post_upN (F := Is (fun z_ => z_ = .int .i64 j)) hG (is_eq rfl)))
                    simp only [Act.put, List.setIfInBounds_toArray, List.set_cons_zero, List.set_cons_succ, List.nil_append, List.cons_append]
                    refine inv_cons 6 (by rfl) (fun wx n_ s_ hn hcl hsi hG hR hd => ?_) (fun v6 => ?_)
                    · have d4 : (Is (fun z_ => z_ = .slice (some ⟨gx, ox, none⟩) d.xs.length xc)) v4 wx := dep_get hd 4 (by rfl)
                      obtain rfl := d4
                      have d5 : (Is (fun z_ => z_ = .int .i64 j)) v5 wx := dep_get hd 5 (by rfl)
                      obtain rfl := d5
                      refine inv_want (by rfl) ?_
                      have HG := Lib.hid hG
                      clear hG hR hcl hsi hn
                      unfold invAt invUpon; go_simp
                      exact post_upN (F := Is (fun z_ => z_ = .pointer (some ⟨gx, ox + j, none⟩))) HG.out (is_eq rfl)
                    simp only [Act.put, List.setIfInBounds_toArray, List.set_cons_zero, List.set_cons_succ, List.nil_append, List.cons_append]
                    refine inv_cons 7 (by rfl) (fun wx n_ s_ hn hcl hsi hG hR hd => ?_) (fun v7 => ?_)
                    · have d6 : (Is (fun z_ => z_ = .pointer (some ⟨gx, ox + j, none⟩))) v6 wx := dep_get hd 6 (by rfl)
                      obtain rfl := d6
                      have xb0 := cell_grow (x0) hG.grow (fun h => h)
                      refine inv_want (by rfl) ?_
                      have HG := Lib.hid hG
                      clear hG hR hcl hsi hn
                      unfold invAt invUpon; go_simp
                      exact post_upN (F := Is (fun z_ => z_ = .int .i64 x)) HG.out (is_eq rfl)
                    simp only [Act.put, List.setIfInBounds_toArray, List.set_cons_zero, List.set_cons_succ, List.nil_append, List.cons_append]
                    refine inv_cons 8 (by rfl) (fun wx n_ s_ hn hcl hsi hG hR hd => ?_) (fun v8 => ?_)
                    · exact inv_want (by rfl) (inv_move (.tmp 0) rfl (post_upN (F := Is (fun z_ => z_ = .slice (some ⟨g, off, none⟩) ds.length cap)) hG (is_eq rfl)))
                    simp only [Act.put, List.setIfInBounds_toArray, List.set_cons_zero, List.set_cons_succ, List.nil_append, List.cons_append]
                    refine inv_cons 9 (by rfl) (fun wx n_ s_ hn hcl hsi hG hR hd => ?_) (fun v9 => ?_)
                    · have d8 : (Is (fun z_ => z_ = .slice (some ⟨g, off, none⟩) ds.length cap)) v8 wx := dep_get hd 8 (by rfl)
                      obtain rfl := d8
                      refine inv_want (by rfl) ?_
                      have HG := Lib.hid hG
                      clear hG hR hcl hsi hn
                      unfold invAt invUpon; go_simp
                      exact post_upN (F := Is (fun z_ => z_ = .int .i64 (ds.length))) HG.out (is_eq rfl)
                    simp only [Act.put, List.setIfInBounds_toArray, List.set_cons_zero, List.set_cons_succ, List.nil_append, List.cons_append]
                    refine inv_cons 10 (by rfl) (fun wx n_ s_ hn hcl hsi hG hR hd => ?_) (fun v10 => ?_)
                    · have d9 : (Is (fun z_ => z_ = .int .i64 (ds.length))) v9 wx := dep_get hd 9 (by rfl)
                      obtain rfl := d9
                      refine inv_want (by rfl) ?_
                      have HG := Lib.hid hG
                      clear hG hR hcl hsi hn
                      unfold invAt invUpon; go_simp
                      exact post_upN (F := Is (fun z_ => z_ = .int .i64 ((ds.length : Int) - 1))) HG.out (is_eq rfl)
                    simp only [Act.put, List.setIfInBounds_toArray, List.set_cons_zero, List.set_cons_succ, List.nil_append, List.cons_append]
                    refine inv_cons 11 (by rfl) (fun wx n_ s_ hn hcl hsi hG hR hd => ?_) (fun v11 => ?_)
                    · have d7 : (Is (fun z_ => z_ = .int .i64 x)) v7 wx := dep_get hd 7 (by rfl)
                      obtain rfl := d7
                      have d10 : (Is (fun z_ => z_ = .int .i64 ((ds.length : Int) - 1))) v10 wx := dep_get hd 10 (by rfl)
                      obtain rfl := d10
                      refine inv_want (by rfl) ?_
                      have HG := Lib.hid hG
                      clear hG hR hcl hsi hn
                      unfold invAt invUpon; go_simp
                      refine (CL _).mono ?_
                      rintro e w' ⟨rfl, hb⟩
                      exact ⟨_, rfl, post_newN (F := Is (fun z_ => z_ = .bool true)) KXr HG.out hb (is_eq rfl)⟩
                    simp only [Act.put, List.setIfInBounds_toArray, List.set_cons_zero, List.set_cons_succ, List.nil_append, List.cons_append]
                    refine inv_cons 12 (by rfl) (fun wx n_ s_ hn hcl hsi hG hR hd => ?_) (fun v12 => ?_)
                    · have d11 : (Is (fun z_ => z_ = .bool true)) v11 wx := dep_get hd 11 (by rfl)
                      obtain rfl := d11
                      refine inv_want (by rfl) ?_
                      have HG := Lib.hid hG
                      clear hG hR hcl hsi hn
                      unfold invAt invUpon; go_simp
                      exact post_upN (F := Is (fun z_ => z_ = .bool false)) HG.out (is_eq rfl)
                    simp only [Act.put, List.setIfInBounds_toArray, List.set_cons_zero, List.set_cons_succ, List.nil_append, List.cons_append]
                    refine inv_cons 13 (by rfl) (fun wx n_ s_ hn hcl hsi hG hR hd => ?_) (fun v13 => ?_)
                    · have d12 : (Is (fun z_ => z_ = .bool false)) v12 wx := dep_get hd 12 (by rfl)
                      obtain rfl := d12
                      exact inv_want (by rfl) (inv_move (.tmp 50) rfl (post_upN (F := Is (fun z_ => z_ = .bool false)) hG (is_eq rfl)))
                    simp only [Act.put, List.setIfInBounds_toArray, List.set_cons_zero, List.set_cons_succ, List.nil_append, List.cons_append]
                    refine inv_cons 14 (by rfl) (fun wx n_ s_ hn hcl hsi hG hR hd => ?_) (fun v14 => ?_)
                    · have dg : (Is (fun z_ => z_ = .bool false)) v13 wx := dep_get hd 13 (by rfl)
                      obtain rfl := dg
                      exact inv_want (by rfl) (inv_move (.tmp 4) rfl (post_upN (F := Is (fun z_ => z_ = .int .i64 j)) hG (is_eq rfl)))
                    simp only [Act.put, List.setIfInBounds_toArray, List.set_cons_zero, List.set_cons_succ, List.nil_append, List.cons_append]
                    refine inv_cons 15 (by rfl) (fun wx n_ s_ hn hcl hsi hG hR hd => ?_) (fun v15 => ?_)
                    · have dg : (Is (fun z_ => z_ = .bool false)) v13 wx := dep_get hd 13 (by rfl)
                      obtain rfl := dg
                      have d14 : (Is (fun z_ => z_ = .int .i64 j)) v14 wx := dep_get hd 14 (by rfl)
                      obtain rfl := d14
                      refine inv_want (by rfl) ?_
                      have HG := Lib.hid hG
                      clear hG hR hcl hsi hn
                      unfold invAt invUpon; go_simp
                      exact post_upN (F := Is (fun z_ => z_ = .bool true)) HG.out (is_eq rfl)
                    simp only [Act.put, List.setIfInBounds_toArray, List.set_cons_zero, List.set_cons_succ, List.nil_append, List.cons_append]
                    refine inv_cons 16 (by rfl) (fun wx n_ s_ hn hcl hsi hG hR hd => ?_) (fun v16 => ?_)
                    · have dg : (Is (fun z_ => z_ = .bool false)) v13 wx := dep_get hd 13 (by rfl)
                      obtain rfl := dg
                      have d15 : (Is (fun z_ => z_ = .bool true)) v15 wx := dep_get hd 15 (by rfl)
                      obtain rfl := d15
                      exact inv_want (by rfl) (inv_move (.tmp 53) rfl (post_upN (F := Is (fun z_ => z_ = .bool true)) hG (is_eq rfl)))
                    simp only [Act.put, List.setIfInBounds_toArray, List.set_cons_zero, List.set_cons_succ, List.nil_append, List.cons_append]
                    refine inv_cons 17 (by rfl) (fun wx n_ s_ hn hcl hsi hG hR hd => ?_) (fun v17 => ?_)
                    · have dg : (Is (fun z_ => z_ = .bool true)) v16 wx := dep_get hd 16 (by rfl)
                      obtain rfl := dg
                      exact inv_want (by rfl) (inv_move (.tmp 0) rfl (post_upN (F := Is (fun z_ => z_ = .slice (some ⟨g, off, none⟩) ds.length cap)) hG (is_eq rfl)))
                    simp only [Act.put, List.setIfInBounds_toArray, List.set_cons_zero, List.set_cons_succ, List.nil_append, List.cons_append]
                    refine inv_cons 18 (by rfl) (fun wx n_ s_ hn hcl hsi hG hR hd => ?_) (fun v18 => ?_)
                    · have dg : (Is (fun z_ => z_ = .bool true)) v16 wx := dep_get hd 16 (by rfl)
                      obtain rfl := dg
                      exact inv_want (by rfl) (inv_move (.tmp 3) rfl (post_upN (F := Is (fun z_ => z_ = .int .i64 k)) hG (is_eq rfl)))
                    simp only [Act.put, List.setIfInBounds_toArray, List.set_cons_zero, List.set_cons_succ, List.nil_append, List.cons_append]
                    refine inv_cons 19 (by rfl) (fun wx n_ s_ hn hcl hsi hG hR hd => ?_) (fun v19 => ?_)
                    · have dg : (Is (fun z_ => z_ = .bool true)) v16 wx := dep_get hd 16 (by rfl)
                      obtain rfl := dg
                      have d17 : (Is (fun z_ => z_ = .slice (some ⟨g, off, none⟩) ds.length cap)) v17 wx := dep_get hd 17 (by rfl)
                      obtain rfl := d17
                      have d18 : (Is (fun z_ => z_ = .int .i64 k)) v18 wx := dep_get hd 18 (by rfl)
                      obtain rfl := d18
                      refine inv_want (by rfl) ?_
                      have HG := Lib.hid hG
                      clear hG hR hcl hsi hn
                      unfold invAt invUpon; go_simp
                      exact post_upN (F := Is (fun z_ => z_ = .pointer (some ⟨g, off + k * 3, none⟩))) HG.out (is_eq rfl)
                    simp only [Act.put, List.setIfInBounds_toArray, List.set_cons_zero, List.set_cons_succ, List.nil_append, List.cons_append]
                    refine inv_cons 20 (by rfl) (fun wx n_ s_ hn hcl hsi hG hR hd => ?_) (fun v20 => ?_)
                    · have dg : (Is (fun z_ => z_ = .bool true)) v16 wx := dep_get hd 16 (by rfl)
                      obtain rfl := dg
                      have d19 : (Is (fun z_ => z_ = .pointer (some ⟨g, off + k * 3, none⟩))) v19 wx := dep_get hd 19 (by rfl)
                      obtain rfl := d19
                      refine inv_want (by rfl) ?_
                      have HG := Lib.hid hG
                      clear hG hR hcl hsi hn
                      unfold invAt invUpon; go_simp
                      exact post_upN (F := Is (fun z_ => z_ = .pointer (some ⟨g, off + k * 3 + 2, none⟩))) HG.out (is_eq rfl)
                    simp only [Act.put, List.setIfInBounds_toArray, List.set_cons_zero, List.set_cons_succ, List.nil_append, List.cons_append]
                    refine inv_cons 21 (by rfl) (fun wx n_ s_ hn hcl hsi hG hR hd => ?_) (fun v21 => ?_)
                    · have dg : (Is (fun z_ => z_ = .bool true)) v16 wx := dep_get hd 16 (by rfl)
                      obtain rfl := dg
                      have d20 : (Is (fun z_ => z_ = .pointer (some ⟨g, off + k * 3 + 2, none⟩))) v20 wx := dep_get hd 20 (by rfl)
                      obtain rfl := d20
                      have xb0 := cell_grow (c2) hG.grow (fun h => h)
                      refine inv_want (by rfl) ?_
                      have HG := Lib.hid hG
                      clear hG hR hcl hsi hn
                      unfold invAt invUpon; go_simp
                      exact post_upN (F := Is (fun z_ => z_ = .slice (some ⟨gx, ox, none⟩) d.xs.length xc)) HG.out (is_eq rfl)
                    simp only [Act.put, List.setIfInBounds_toArray, List.set_cons_zero, List.set_cons_succ, List.nil_append, List.cons_append]
                    refine inv_cons 22 (by rfl) (fun wx n_ s_ hn hcl hsi hG hR hd => ?_) (fun v22 => ?_)
                    · have dg : (Is (fun z_ => z_ = .bool true)) v16 wx := dep_get hd 16 (by rfl)
                      obtain rfl := dg
                      exact inv_want (by rfl) (inv_move (.tmp 4) rfl (post_upN (F := Is (fun z_ => z_ = .int .i64 j)) hG (is_eq rfl)))
                    simp only [Act.put, List.setIfInBounds_toArray, List.set_cons_zero, List.set_cons_succ, List.nil_append, List.cons_append]
                    refine inv_cons 23 (by rfl) (fun wx n_ s_ hn hcl hsi hG hR hd => ?_) (fun v23 => ?_)
                    · have dg : (Is (fun z_ => z_ = .bool true)) v16 wx := dep_get hd 16 (by rfl)
                      obtain rfl := dg
                      have d21 : (Is (fun z_ => z_ = .slice (some ⟨gx, ox, none⟩) d.xs.length xc)) v21 wx := dep_get hd 21 (by rfl)
                      obtain rfl := d21
                      have d22 : (Is (fun z_ => z_ = .int .i64 j)) v22 wx := dep_get hd 22 (by rfl)
                      obtain rfl := d22
                      refine inv_want (by rfl) ?_
                      have HG := Lib.hid hG
                      clear hG hR hcl hsi hn
                      unfold invAt invUpon; go_simp
                      exact post_upN (F := Is (fun z_ => z_ = .pointer (some ⟨gx, ox + j, none⟩))) HG.out (is_eq rfl)
                    simp only [Act.put, List.setIfInBounds_toArray, List.set_cons_zero, List.set_cons_succ, List.nil_append, List.cons_append]
                    refine inv_cons 24 (by rfl) (fun wx n_ s_ hn hcl hsi hG hR hd => ?_) (fun v24 => ?_)
                    · have dg : (Is (fun z_ => z_ = .bool true)) v16 wx := dep_get hd 16 (by rfl)
                      obtain rfl := dg
                      have d23 : (Is (fun z_ => z_ = .pointer (some ⟨gx, ox + j, none⟩))) v23 wx := dep_get hd 23 (by rfl)
                      obtain rfl := d23
                      have xb0 := cell_grow (x0) hG.grow (fun h => h)
                      refine inv_want (by rfl) ?_
                      have HG := Lib.hid hG
                      clear hG hR hcl hsi hn
                      unfold invAt invUpon; go_simp
                      exact post_upN (F := Is (fun z_ => z_ = .int .i64 x)) HG.out (is_eq rfl)
                    simp only [Act.put, List.setIfInBounds_toArray, List.set_cons_zero, List.set_cons_succ, List.nil_append, List.cons_append]
                    refine inv_cons 25 (by rfl) (fun wx n_ s_ hn hcl hsi hG hR hd => ?_) (fun v25 => ?_)
                    · have dg : (Is (fun z_ => z_ = .bool true)) v16 wx := dep_get hd 16 (by rfl)
                      obtain rfl := dg
                      exact inv_want (by rfl) (inv_move (.tmp 0) rfl (post_upN (F := Is (fun z_ => z_ = .slice (some ⟨g, off, none⟩) ds.length cap)) hG (is_eq rfl)))
                    simp only [Act.put, List.setIfInBounds_toArray, List.set_cons_zero, List.set_cons_succ, List.nil_append, List.cons_append]
                    refine inv_cons 26 (by rfl) (fun wx n_ s_ hn hcl hsi hG hR hd => ?_) (fun v26 => ?_)
                    · have dg : (Is (fun z_ => z_ = .bool true)) v16 wx := dep_get hd 16 (by rfl)
                      obtain rfl := dg
                      exact inv_want (by rfl) (inv_move (.tmp 3) rfl (post_upN (F := Is (fun z_ => z_ = .int .i64 k)) hG (is_eq rfl)))
                    simp only [Act.put, List.setIfInBounds_toArray, List.set_cons_zero, List.set_cons_succ, List.nil_append, List.cons_append]
                    refine inv_cons 27 (by rfl) (fun wx n_ s_ hn hcl hsi hG hR hd => ?_) (fun v27 => ?_)
                    · have dg : (Is (fun z_ => z_ = .bool true)) v16 wx := dep_get hd 16 (by rfl)
                      obtain rfl := dg
                      have d25 : (Is (fun z_ => z_ = .slice (some ⟨g, off, none⟩) ds.length cap)) v25 wx := dep_get hd 25 (by rfl)
                      obtain rfl := d25
                      have d26 : (Is (fun z_ => z_ = .int .i64 k)) v26 wx := dep_get hd 26 (by rfl)
                      obtain rfl := d26
                      refine inv_want (by rfl) ?_
                      have HG := Lib.hid hG
                      clear hG hR hcl hsi hn
                      unfold invAt invUpon; go_simp
                      exact post_upN (F := Is (fun z_ => z_ = .pointer (some ⟨g, off + k * 3, none⟩))) HG.out (is_eq rfl)
                    simp only [Act.put, List.setIfInBounds_toArray, List.set_cons_zero, List.set_cons_succ, List.nil_append, List.cons_append]
                    refine inv_cons 28 (by rfl) (fun wx n_ s_ hn hcl hsi hG hR hd => ?_) (fun v28 => ?_)
                    · have dg : (Is (fun z_ => z_ = .bool true)) v16 wx := dep_get hd 16 (by rfl)
                      obtain rfl := dg
                      have d27 : (Is (fun z_ => z_ = .pointer (some ⟨g, off + k * 3, none⟩))) v27 wx := dep_get hd 27 (by rfl)
                      obtain rfl := d27
                      refine inv_want (by rfl) ?_
                      have HG := Lib.hid hG
                      clear hG hR hcl hsi hn
                      unfold invAt invUpon; go_simp
                      exact post_upN (F := Is (fun z_ => z_ = .pointer (some ⟨g, off + k * 3 + 2, none⟩))) HG.out (is_eq rfl)
                    simp only [Act.put, List.setIfInBounds_toArray, List.set_cons_zero, List.set_cons_succ, List.nil_append, List.cons_append]
                    refine inv_cons 29 (by rfl) (fun wx n_ s_ hn hcl hsi hG hR hd => ?_) (fun v29 => ?_)
                    · have dg : (Is (fun z_ => z_ = .bool true)) v16 wx := dep_get hd 16 (by rfl)
                      obtain rfl := dg
                      have d28 : (Is (fun z_ => z_ = .pointer (some ⟨g, off + k * 3 + 2, none⟩))) v28 wx := dep_get hd 28 (by rfl)
                      obtain rfl := d28
                      have xb0 := cell_grow (c2) hG.grow (fun h => h)
                      refine inv_want (by rfl) ?_
                      have HG := Lib.hid hG
                      clear hG hR hcl hsi hn
                      unfold invAt invUpon; go_simp
                      exact post_upN (F := Is (fun z_ => z_ = .slice (some ⟨gx, ox, none⟩) d.xs.length xc)) HG.out (is_eq rfl)
                    simp only [Act.put, List.setIfInBounds_toArray, List.set_cons_zero, List.set_cons_succ, List.nil_append, List.cons_append]
                    refine inv_cons 30 (by rfl) (fun wx n_ s_ hn hcl hsi hG hR hd => ?_) (fun v30 => ?_)
                    · have dg : (Is (fun z_ => z_ = .bool true)) v16 wx := dep_get hd 16 (by rfl)
                      obtain rfl := dg
                      exact inv_want (by rfl) (inv_move (.tmp 4) rfl (post_upN (F := Is (fun z_ => z_ = .int .i64 j)) hG (is_eq rfl)))
                    simp only [Act.put, List.setIfInBounds_toArray, List.set_cons_zero, List.set_cons_succ, List.nil_append, List.cons_append]
                    refine inv_cons 31 (by rfl) (fun wx n_ s_ hn hcl hsi hG hR hd => ?_) (fun v31 => ?_)
                    · have dg : (Is (fun z_ => z_ = .bool true)) v16 wx := dep_get hd 16 (by rfl)
                      obtain rfl := dg
                      have d30 : (Is (fun z_ => z_ = .int .i64 j)) v30 wx := dep_get hd 30 (by rfl)
                      obtain rfl := d30
                      refine inv_want (by rfl) ?_
                      have HG := Lib.hid hG
                      clear hG hR hcl hsi hn
                      unfold invAt invUpon; go_simp
                      exact post_upN (F := Is (fun z_ => z_ = .int .i64 ((j : Int) - 1))) HG.out (is_eq rfl)
                    simp only [Act.put, List.setIfInBounds_toArray, List.set_cons_zero, List.set_cons_succ, List.nil_append, List.cons_append]
                    refine inv_cons 32 (by rfl) (fun wx n_ s_ hn hcl hsi hG hR hd => ?_) (fun v32 => ?_)
                    · have dg : (Is (fun z_ => z_ = .bool true)) v16 wx := dep_get hd 16 (by rfl)
                      obtain rfl := dg
                      have d29 : (Is (fun z_ => z_ = .slice (some ⟨gx, ox, none⟩) d.xs.length xc)) v29 wx := dep_get hd 29 (by rfl)
                      obtain rfl := d29
                      have d31 : (Is (fun z_ => z_ = .int .i64 ((j : Int) - 1))) v31 wx := dep_get hd 31 (by rfl)
                      obtain rfl := d31
                      refine inv_want (by rfl) ?_
                      have HG := Lib.hid hG
                      clear hG hR hcl hsi hn
                      unfold invAt invUpon; go_simp
                      exact post_upN (F := Is (fun z_ => z_ = .pointer (some ⟨gx, ox + q, none⟩))) HG.out (is_eq rfl)
                    simp only [Act.put, List.setIfInBounds_toArray, List.set_cons_zero, List.set_cons_succ, List.nil_append, List.cons_append]
                    refine inv_cons 33 (by rfl) (fun wx n_ s_ hn hcl hsi hG hR hd => ?_) (fun v33 => ?_)
                    · have dg : (Is (fun z_ => z_ = .bool true)) v16 wx := dep_get hd 16 (by rfl)
                      obtain rfl := dg
                      have d32 : (Is (fun z_ => z_ = .pointer (some ⟨gx, ox + q, none⟩))) v32 wx := dep_get hd 32 (by rfl)
                      obtain rfl := d32
                      have xb0 := cell_grow (y0) hG.grow (fun h => h)
                      refine inv_want (by rfl) ?_
                      have HG := Lib.hid hG
                      clear hG hR hcl hsi hn
                      unfold invAt invUpon; go_simp
                      exact post_upN (F := Is (fun z_ => z_ = .int .i64 y)) HG.out (is_eq rfl)
                    simp only [Act.put, List.setIfInBounds_toArray, List.set_cons_zero, List.set_cons_succ, List.nil_append, List.cons_append]
                    refine inv_cons 34 (by rfl) (fun wx n_ s_ hn hcl hsi hG hR hd => ?_) (fun v34 => ?_)
                    · have dg : (Is (fun z_ => z_ = .bool true)) v16 wx := dep_get hd 16 (by rfl)
                      obtain rfl := dg
                      have d24 : (Is (fun z_ => z_ = .int .i64 x)) v24 wx := dep_get hd 24 (by rfl)
                      obtain rfl := d24
                      have d33 : (Is (fun z_ => z_ = .int .i64 y)) v33 wx := dep_get hd 33 (by rfl)
                      obtain rfl := d33
                      refine inv_want (by rfl) ?_
                      have HG := Lib.hid hG
                      clear hG hR hcl hsi hn
                      unfold invAt invUpon; go_simp
                      exact post_upN (F := Is (fun z_ => z_ = .bool false)) HG.out (is_eq rfl)
                    simp only [Act.put, List.setIfInBounds_toArray, List.set_cons_zero, List.set_cons_succ, List.nil_append, List.cons_append]
                    refine inv_cons 35 (by rfl) (fun wx n_ s_ hn hcl hsi hG hR hd => ?_) (fun v35 => ?_)
                    · have dg : (Is (fun z_ => z_ = .bool false)) v13 wx := dep_get hd 13 (by rfl)
                      obtain rfl := dg
                      have d16 : (Is (fun z_ => z_ = .bool true)) v16 wx := dep_get hd 16 (by rfl)
                      obtain rfl := d16
                      have d34 : (Is (fun z_ => z_ = .bool false)) v34 wx := dep_get hd 34 (by rfl)
                      obtain rfl := d34
                      refine inv_want (by rfl) ?_
                      have HG := Lib.hid hG
                      clear hG hR hcl hsi hn
                      unfold invAt invUpon; go_simp
                      exact post_upN (F := Is (fun z_ => z_ = .bool false)) HG.out (is_eq rfl)
                    simp only [Act.put, List.setIfInBounds_toArray, List.set_cons_zero, List.set_cons_succ, List.nil_append, List.cons_append]
                    refine inv_cons 36 (by rfl) (fun wx n_ s_ hn hcl hsi hG hR hd => ?_) (fun v36 => ?_)
                    · have d13 : (Is (fun z_ => z_ = .bool false)) v13 wx := dep_get hd 13 (by rfl)
                      obtain rfl := d13
                      have d35 : (Is (fun z_ => z_ = .bool false)) v35 wx := dep_get hd 35 (by rfl)
                      obtain rfl := d35
                      refine inv_want (by rfl) ?_
                      have HG := Lib.hid hG
                      clear hG hR hcl hsi hn
                      unfold invAt invUpon; go_simp
                      exact post_upN (F := Is (fun z_ => z_ = .bool false)) HG.out (is_eq rfl)
                    simp only [Act.put, List.setIfInBounds_toArray, List.set_cons_zero, List.set_cons_succ, List.nil_append, List.cons_append]
                    refine inv_nil (fun wq nq sq hnq hGq hRq hall => ?_)
                    obtain ⟨f0, f1, f2, f3, f4, f5, f6, f7, f8, f9, f10, f11, f12, f13, f14, f15, f16, f17, f18, f19, f20, f21, f22, f23, f24, f25, f26, f27, f28, f29, f30, f31, f32, f33, f34, f35, f36, -⟩ := hall
                    obtain rfl : v36 = .bool false := f36
                    have hBq := Below.via (Grow.below0 hGq.grow) hBx
                    have hBrq := Lib.hid (Below.via (Grow.below0 hGq.grow) hBr.out)
                    clear p1 p2 p3 p4 p5 p6 p7
                    go_wp2_with fail
                    go_roundw
                    case rel => exact ⟨j + 1, by omega, by go_num, hst2, hBrq, hBq⟩
                    case measure => simp [intOf]; omega
            · obtain rfl : j = d.xs.length := by omega
              have HASC := Lib.hid (asc_end ((ds.length : Int) - 1) d.xs hst.out)
              rw [HASC.out, Bool.and_true] at HA
              clear hst HBAD HASC HXx
              go_wp2_with fail
              have LD0 := Lib.hid (fun (wx : World) (h : Below wr.heap.size wr wx) => LC0.out wx (Below.via h hBr.out))
              clear c0 c2
              go_loopw [5] (fun i wy => ∃ j : Nat, j ≤ k ∧ i = .int .i64 j ∧ Hid (∀ i (hi : i < j) (hk : i < ds.length), ¬ ds[i].nm = d.nm) ∧ Hid (Below wr.heap.size wr wy) ∧ Below w.heap.size w wy) (fun i _ => k - (intOf i).toNat)
              case atStart => exact ⟨0, Nat.zero_le _, rfl, fun j hj => by omega, Below.refl _ _, hBx⟩
              case round =>
                obtain ⟨j, hj, rfl, hne, hBy, hBx⟩ := hrel
                by_cases hjk : j < k
                · have hjk2 : (j : Int) < (k : Int) := by omega
                  have hjn : (j : Int) < (ds.length : Int) := by omega
                  obtain ⟨g', off', _, _, _, hv', _, _, b0, _, _, _, _, _, _⟩ := (H.out.below hBx).cells j (by omega)
                  simp only [Value.slice.injEq, Option.some.injEq, Addr.mk.injEq, and_true] at hv'
                  obtain ⟨⟨rfl, rfl⟩, -, rfl⟩ := hv'
                  have c0 := LD0.out _ hBy.out
                  by_cases he : ds[j].nm = d.nm
                  · rw [he] at b0
                    have hres := Lib.hid (show rValid ds = false from rValid_bad ds k hlt (by rw [HA.out, HYES.out j hjk he]; rfl))
                    have hss := str_self d.nm
                    clear he HYES HNO HA
                    go_wp2_with fail
                    have KXr : KeepB (fun _ => True) ∧ KeepB (fun _ => True) := ⟨keepB_true, keepB_true⟩
                    refine wp_region_inv (G := fun s n w_ => RgN (fun _ => False) (fun _ => True) wr w_) (R := RgR (fun _ => False) (fun _ => True))
                      (Fs := [Is (fun z_ => z_ = .slice (some ⟨g, off, none⟩) ds.length cap), Is (fun z_ => z_ = .int .i64 j), Is (fun z_ => z_ = .pointer (some ⟨g, off + j * 3, none⟩)), Is (fun z_ => z_ = .pointer (some ⟨g, off + j * 3, none⟩)), Is (fun z_ => z_ = .string d.nm), Is (fun z_ => z_ = .slice (some ⟨g, off, none⟩) ds.length cap), Is (fun z_ => z_ = .int .i64 k), Is (fun z_ => z_ = .pointer (some ⟨g, off + k * 3, none⟩)), Is (fun z_ => z_ = .pointer (some ⟨g, off + k * 3, none⟩)), Is (fun z_ => z_ = .string d.nm), Is (fun z_ => z_ = .bool true)])
                      (by kernel_rfl) (by kernel_rfl) (fun _ => RgR.refl _) (fun h k => h.trans k) ?_ (fun _ _ => ⟨(Grow.refl _ _).drew, trivial⟩) ?_
                    · (repeat' (first | exact lasts_nil | refine lasts_cons ?_ ?_))
                      all_goals (first | exact Lasts.is | exact Lasts.any)
                    refine inv_cons 0 (by rfl) (fun wx n_ s_ hn hcl hsi hG hR hd => ?_) (fun v0 => ?_)
                    · exact inv_want (by rfl) (inv_move (.tmp 0) rfl (post_upN (F := Is (fun z_ => z_ = .slice (some ⟨g, off, none⟩) ds.length cap)) hG (is_eq rfl)))
                    simp only [Act.put, List.setIfInBounds_toArray, List.set_cons_zero, List.set_cons_succ, List.nil_append, List.cons_append]
                    refine inv_cons 1 (by rfl) (fun wx n_ s_ hn hcl hsi hG hR hd => ?_) (fun v1 => ?_)
                    · exact inv_want (by rfl) (inv_move (.tmp 5) rfl (post_upN (F := Is (fun z_ => z_ = .int .i64 j)) hG (is_eq rfl)))
                    simp only [Act.put, List.setIfInBounds_toArray, List.set_cons_zero, List.set_cons_succ, List.nil_append, List.cons_append]
                    refine inv_cons 2 (by rfl) (fun wx n_ s_ hn hcl hsi hG hR hd => ?_) (fun v2 => ?_)
                    · have d0 : (Is (fun z_ => z_ = .slice (some ⟨g, off, none⟩) ds.length cap)) v0 wx := dep_get hd 0 (by rfl)
                      obtain rfl := d0
                      have d1 : (Is (fun z_ => z_ = .int .i64 j)) v1 wx := dep_get hd 1 (by rfl)
                      obtain rfl := d1
                      refine inv_want (by rfl) ?_
                      have HG := Lib.hid hG
                      clear hG hR hcl hsi hn
                      unfold invAt invUpon; go_simp
                      exact post_upN (F := Is (fun z_ => z_ = .pointer (some ⟨g, off + j * 3, none⟩))) HG.out (is_eq rfl)
                    simp only [Act.put, List.setIfInBounds_toArray, List.set_cons_zero, List.set_cons_succ, List.nil_append, List.cons_append]
                    refine inv_cons 3 (by rfl) (fun wx n_ s_ hn hcl hsi hG hR hd => ?_) (fun v3 => ?_)
                    · have d2 : (Is (fun z_ => z_ = .pointer (some ⟨g, off + j * 3, none⟩))) v2 wx := dep_get hd 2 (by rfl)
                      obtain rfl := d2
                      refine inv_want (by rfl) ?_
                      have HG := Lib.hid hG
                      clear hG hR hcl hsi hn
                      unfold invAt invUpon; go_simp
                      exact post_upN (F := Is (fun z_ => z_ = .pointer (some ⟨g, off + j * 3, none⟩))) HG.out (is_eq rfl)
                    simp only [Act.put, List.setIfInBounds_toArray, List.set_cons_zero, List.set_cons_succ, List.nil_append, List.cons_append]
                    refine inv_cons 4 (by rfl) (fun wx n_ s_ hn hcl hsi hG hR hd => ?_) (fun v4 => ?_)
                    · have d3 : (Is (fun z_ => z_ = .pointer (some ⟨g, off + j * 3, none⟩))) v3 wx := dep_get hd 3 (by rfl)
                      obtain rfl := d3
                      have xb0 := cell_grow (b0) hG.grow (fun h => h)
                      refine inv_want (by rfl) ?_
                      have HG := Lib.hid hG
                      clear hG hR hcl hsi hn
                      unfold invAt invUpon; go_simp
                      exact post_upN (F := Is (fun z_ => z_ = .string d.nm)) HG.out (is_eq rfl)
                    simp only [Act.put, List.setIfInBounds_toArray, List.set_cons_zero, List.set_cons_succ, List.nil_append, List.cons_append]
                    refine inv_cons 5 (by rfl) (fun wx n_ s_ hn hcl hsi hG hR hd => ?_) (fun v5 => ?_)
                    · exact inv_want (by rfl) (inv_move (.tmp 0) rfl (post_upN (F := Is (fun z_ => z_ = .slice (some ⟨g, off, none⟩) ds.length cap)) hG (is_eq rfl)))
                    simp only [Act.put, List.setIfInBounds_toArray, List.set_cons_zero, List.set_cons_succ, List.nil_append, List.cons_append]
                    refine inv_cons 6 (by rfl) (fun wx n_ s_ hn hcl hsi hG hR hd => ?_) (fun v6 => ?_)
                    · exact inv_want (by rfl) (inv_move (.tmp 3) rfl (post_upN (F := Is (fun z_ => z_ = .int .i64 k)) hG (is_eq rfl)))
                    simp only [Act.put, List.setIfInBounds_toArray, List.set_cons_zero, List.set_cons_succ, List.nil_append, List.cons_append]
                    refine inv_cons 7 (by rfl) (fun wx n_ s_ hn hcl hsi hG hR hd => ?_) (fun v7 => ?_)
                    · have d5 : (Is (fun z_ => z_ = .slice (some ⟨g, off, none⟩) ds.length cap)) v5 wx := dep_get hd 5 (by rfl)
                      obtain rfl := d5
                      have d6 : (Is (fun z_ => z_ = .int .i64 k)) v6 wx := dep_get hd 6 (by rfl)
                      obtain rfl := d6
                      refine inv_want (by rfl) ?_
                      have HG := Lib.hid hG
                      clear hG hR hcl hsi hn
                      unfold invAt invUpon; go_simp
                      exact post_upN (F := Is (fun z_ => z_ = .pointer (some ⟨g, off + k * 3, none⟩))) HG.out (is_eq rfl)
                    simp only [Act.put, List.setIfInBounds_toArray, List.set_cons_zero, List.set_cons_succ, List.nil_append, List.cons_append]
                    refine inv_cons 8 (by rfl) (fun wx n_ s_ hn hcl hsi hG hR hd => ?_) (fun v8 => ?_)
                    · have d7 : (Is (fun z_ => z_ = .pointer (some ⟨g, off + k * 3, none⟩))) v7 wx := dep_get hd 7 (by rfl)
                      obtain rfl := d7
                      refine inv_want (by rfl) ?_
                      have HG := Lib.hid hG
                      clear hG hR hcl hsi hn
                      unfold invAt invUpon; go_simp
                      exact post_upN (F := Is (fun z_ => z_ = .pointer (some ⟨g, off + k * 3, none⟩))) HG.out (is_eq rfl)
                    simp only [Act.put, List.setIfInBounds_toArray, List.set_cons_zero, List.set_cons_succ, List.nil_append, List.cons_append]
                    refine inv_cons 9 (by rfl) (fun wx n_ s_ hn hcl hsi hG hR hd => ?_) (fun v9 => ?_)
                    · have d8 : (Is (fun z_ => z_ = .pointer (some ⟨g, off + k * 3, none⟩))) v8 wx := dep_get hd 8 (by rfl)
                      obtain rfl := d8
                      have xb0 := cell_grow (c0) hG.grow (fun h => h)
                      refine inv_want (by rfl) ?_
                      have HG := Lib.hid hG
                      clear hG hR hcl hsi hn
                      unfold invAt invUpon; go_simp
                      exact post_upN (F := Is (fun z_ => z_ = .string d.nm)) HG.out (is_eq rfl)
                    simp only [Act.put, List.setIfInBounds_toArray, List.set_cons_zero, List.set_cons_succ, List.nil_append, List.cons_append]
                    refine inv_cons 10 (by rfl) (fun wx n_ s_ hn hcl hsi hG hR hd => ?_) (fun v10 => ?_)
                    · have d4 : (Is (fun z_ => z_ = .string d.nm)) v4 wx := dep_get hd 4 (by rfl)
                      obtain rfl := d4
                      have d9 : (Is (fun z_ => z_ = .string d.nm)) v9 wx := dep_get hd 9 (by rfl)
                      obtain rfl := d9
                      refine inv_want (by rfl) ?_
                      have HG := Lib.hid hG
                      clear hG hR hcl hsi hn
                      unfold invAt invUpon; go_simp
                      exact post_upN (F := Is (fun z_ => z_ = .bool true)) HG.out (is_eq rfl)
                    simp only [Act.put, List.setIfInBounds_toArray, List.set_cons_zero, List.set_cons_succ, List.nil_append, List.cons_append]
                    refine inv_nil (fun wq nq sq hnq hGq hRq hall => ?_)
                    obtain ⟨f0, f1, f2, f3, f4, f5, f6, f7, f8, f9, f10, -⟩ := hall
                    obtain rfl : v10 = .bool true := f10
                    have hBq := Below.via (Grow.below0 hGq.grow) hBx
                    go_wp2_with fail
                    go_ret
                    exact ⟨by rw [hres.out]; rfl, hBq⟩
                  · have hss := str_ne he
                    have hne2 := Lib.hid (show ∀ i (hi : i < j + 1) (hk : i < ds.length), ¬ ds[i].nm = d.nm from fun i hi hk => by
                      rcases Nat.lt_or_ge i j with h | h
                      · exact hne.out i h hk
                      · obtain rfl : i = j := by omega
                        exact he)
                    clear he hne
                    generalize ds[j].nm = s at b0 hss
                    go_wp2_with fail
                    have KXr : KeepB (fun _ => True) ∧ KeepB (fun _ => True) := ⟨keepB_true, keepB_true⟩
                    refine wp_region_inv (G := fun s n w_ => RgN (fun _ => False) (fun _ => True) wr w_) (R := RgR (fun _ => False) (fun _ => True))
                      (Fs := [Is (fun z_ => z_ = .slice (some ⟨g, off, none⟩) ds.length cap), Is (fun z_ => z_ = .int .i64 j), Is (fun z_ => z_ = .pointer (some ⟨g, off + j * 3, none⟩)), Is (fun z_ => z_ = .pointer (some ⟨g, off + j * 3, none⟩)), Is (fun z_ => z_ = .string s), Is (fun z_ => z_ = .slice (some ⟨g, off, none⟩) ds.length cap), Is (fun z_ => z_ = .int .i64 k), Is (fun z_ => z_ = .pointer (some ⟨g, off + k * 3, none⟩)), Is (fun z_ => z_ = .pointer (some ⟨g, off + k * 3, none⟩)), Is (fun z_ => z_ = .string d.nm), Is (fun z_ => z_ = .bool false)])
                      (by kernel_rfl) (by kernel_rfl) (fun _ => RgR.refl _) (fun h k => h.trans k) ?_ (fun _ _ => ⟨(Grow.refl _ _).drew, trivial⟩) ?_
                    · (repeat' (first | exact lasts_nil | refine lasts_cons ?_ ?_))
                      all_goals (first | exact Lasts.is | exact Lasts.any)
                    refine inv_cons 0 (by rfl) (fun wx n_ s_ hn hcl hsi hG hR hd => ?_) (fun v0 => ?_)
                    · exact inv_want (by rfl) (inv_move (.tmp 0) rfl (post_upN (F := Is (fun z_ => z_ = .slice (some ⟨g, off, none⟩) ds.length cap)) hG (is_eq rfl)))
                    simp only [Act.put, List.setIfInBounds_toArray, List.set_cons_zero, List.set_cons_succ, List.nil_append, List.cons_append]
                    refine inv_cons 1 (by rfl) (fun wx n_ s_ hn hcl hsi hG hR hd => ?_) (fun v1 => ?_)
                    · exact inv_want (by rfl) (inv_move (.tmp 5) rfl (post_upN (F := Is (fun z_ => z_ = .int .i64 j)) hG (is_eq rfl)))
                    simp only [Act.put, List.setIfInBounds_toArray, List.set_cons_zero, List.set_cons_succ, List.nil_append, List.cons_append]
                    refine inv_cons 2 (by rfl) (fun wx n_ s_ hn hcl hsi hG hR hd => ?_) (fun v2 => ?_)
                    · have d0 : (Is (fun z_ => z_ = .slice (some ⟨g, off, none⟩) ds.length cap)) v0 wx := dep_get hd 0 (by rfl)
                      obtain rfl := d0
                      have d1 : (Is (fun z_ => z_ = .int .i64 j)) v1 wx := dep_get hd 1 (by rfl)
                      obtain rfl := d1
                      refine inv_want (by rfl) ?_
                      have HG := Lib.hid hG
                      clear hG hR hcl hsi hn
                      unfold invAt invUpon; go_simp
                      exact post_upN (F := Is (fun z_ => z_ = .pointer (some ⟨g, off + j * 3, none⟩))) HG.out (is_eq rfl)
                    simp only [Act.put, List.setIfInBounds_toArray, List.set_cons_zero, List.set_cons_succ, List.nil_append, List.cons_append]
                    refine inv_cons 3 (by rfl) (fun wx n_ s_ hn hcl hsi hG hR hd => ?_) (fun v3 => ?_)
                    · have d2 : (Is (fun z_ => z_ = .pointer (some ⟨g, off + j * 3, none⟩))) v2 wx := dep_get hd 2 (by rfl)
                      obtain rfl := d2
                      refine inv_want (by rfl) ?_
                      have HG := Lib.hid hG
                      clear hG hR hcl hsi hn
                      unfold invAt invUpon; go_simp
                      exact post_upN (F := Is (fun z_ => z_ = .pointer (some ⟨g, off + j * 3, none⟩))) HG.out (is_eq rfl)
                    simp only [Act.put, List.setIfInBounds_toArray, List.set_cons_zero, List.set_cons_succ, List.nil_append, List.cons_append]
                    refine inv_cons 4 (by rfl) (fun wx n_ s_ hn hcl hsi hG hR hd => ?_) (fun v4 => ?_)
                    · have d3 : (Is (fun z_ => z_ = .pointer (some ⟨g, off + j * 3, none⟩))) v3 wx := dep_get hd 3 (by rfl)
                      obtain rfl := d3
                      have xb0 := cell_grow (b0) hG.grow (fun h => h)
                      refine inv_want (by rfl) ?_
                      have HG := Lib.hid hG
                      clear hG hR hcl hsi hn
                      unfold invAt invUpon; go_simp
                      exact post_upN (F := Is (fun z_ => z_ = .string s)) HG.out (is_eq rfl)
                    simp only [Act.put, List.setIfInBounds_toArray, List.set_cons_zero, List.set_cons_succ, List.nil_append, List.cons_append]
                    refine inv_cons 5 (by rfl) (fun wx n_ s_ hn hcl hsi hG hR hd => ?_) (fun v5 => ?_)
                    · exact inv_want (by rfl) (inv_move (.tmp 0) rfl (post_upN (F := Is (fun z_ => z_ = .slice (some ⟨g, off, none⟩) ds.length cap)) hG (is_eq rfl)))
                    simp only [Act.put, List.setIfInBounds_toArray, List.set_cons_zero, List.set_cons_succ, List.nil_append, List.cons_append]
                    refine inv_cons 6 (by rfl) (fun wx n_ s_ hn hcl hsi hG hR hd => ?_) (fun v6 => ?_)
                    · exact inv_want (by rfl) (inv_move (.tmp 3) rfl (post_upN (F := Is (fun z_ => z_ = .int .i64 k)) hG (is_eq rfl)))
                    simp only [Act.put, List.setIfInBounds_toArray, List.set_cons_zero, List.set_cons_succ, List.nil_append, List.cons_append]
                    refine inv_cons 7 (by rfl) (fun wx n_ s_ hn hcl hsi hG hR hd => ?_) (fun v7 => ?_)
                    · have d5 : (Is (fun z_ => z_ = .slice (some ⟨g, off, none⟩) ds.length cap)) v5 wx := dep_get hd 5 (by rfl)
                      obtain rfl := d5
                      have d6 : (Is (fun z_ => z_ = .int .i64 k)) v6 wx := dep_get hd 6 (by rfl)
                      obtain rfl := d6
                      refine inv_want (by rfl) ?_
                      have HG := Lib.hid hG
                      clear hG hR hcl hsi hn
                      unfold invAt invUpon; go_simp
                      exact post_upN (F := Is (fun z_ => z_ = .pointer (some ⟨g, off + k * 3, none⟩))) HG.out (is_eq rfl)
                    simp only [Act.put, List.setIfInBounds_toArray, List.set_cons_zero, List.set_cons_succ, List.nil_append, List.cons_append]
                    refine inv_cons 8 (by rfl) (fun wx n_ s_ hn hcl hsi hG hR hd => ?_) (fun v8 => ?_)
                    · have d7 : (Is (fun z_ => z_ = .pointer (some ⟨g, off + k * 3, none⟩))) v7 wx := dep_get hd 7 (by rfl)
                      obtain rfl := d7
                      refine inv_want (by rfl) ?_
                      have HG := Lib.hid hG
                      clear hG hR hcl hsi hn
                      unfold invAt invUpon; go_simp
                      exact post_upN (F := Is (fun z_ => z_ = .pointer (some ⟨g, off + k * 3, none⟩))) HG.out (is_eq rfl)
                    simp only [Act.put, List.setIfInBounds_toArray, List.set_cons_zero, List.set_cons_succ, List.nil_append, List.cons_append]
                    refine inv_cons 9 (by rfl) (fun wx n_ s_ hn hcl hsi hG hR hd => ?_) (fun v9 => ?_)
                    · have d8 : (Is (fun z_ => z_ = .pointer (some ⟨g, off + k * 3, none⟩))) v8 wx := dep_get hd 8 (by rfl)
                      obtain rfl := d8
                      have xb0 := cell_grow (c0) hG.grow (fun h => h)
                      refine inv_want (by rfl) ?_
                      have HG := Lib.hid hG
                      clear hG hR hcl hsi hn
                      unfold invAt invUpon; go_simp
                      exact post_upN (F := Is (fun z_ => z_ = .string d.nm)) HG.out (is_eq rfl)
                    simp only [Act.put, List.setIfInBounds_toArray, List.set_cons_zero, List.set_cons_succ, List.nil_append, List.cons_append]
                    refine inv_cons 10 (by rfl) (fun wx n_ s_ hn hcl hsi hG hR hd => ?_) (fun v10 => ?_)
                    · have d4 : (Is (fun z_ => z_ = .string s)) v4 wx := dep_get hd 4 (by rfl)
                      obtain rfl := d4
                      have d9 : (Is (fun z_ => z_ = .string d.nm)) v9 wx := dep_get hd 9 (by rfl)
                      obtain rfl := d9
                      refine inv_want (by rfl) ?_
                      have HG := Lib.hid hG
                      clear hG hR hcl hsi hn
                      unfold invAt invUpon; go_simp
                      exact post_upN (F := Is (fun z_ => z_ = .bool false)) HG.out (is_eq rfl)
                    simp only [Act.put, List.setIfInBounds_toArray, List.set_cons_zero, List.set_cons_succ, List.nil_append, List.cons_append]
                    refine inv_nil (fun wq nq sq hnq hGq hRq hall => ?_)
                    obtain ⟨f0, f1, f2, f3, f4, f5, f6, f7, f8, f9, f10, -⟩ := hall
                    obtain rfl : v10 = .bool false := f10
                    have hBq := Below.via (Grow.below0 hGq.grow) hBx
                    have hByq := Lib.hid (Below.via (Grow.below0 hGq.grow) hBy.out)
                    go_wp2_with fail
                    go_roundw
                    case rel => exact ⟨j + 1, by omega, by go_num, hne2, hByq, hBq⟩
                    case measure => simp [intOf]; omega
                · obtain rfl : j = k := by omega
                  have hnn := HNO.out (fun i hi => hne.out i hi (by omega))
                  rw [hnn] at HA
                  have HALL := Lib.hid (show ∀ i, i < j + 1 → rlAt ds i = true from fun i hi => by
                    rcases Nat.lt_or_ge i j with h | h
                    · exact hall.out i h
                    · obtain rfl : i = j := by omega
                      rw [HA.out]; rfl)
                  clear hnn HNO HYES HA hne hall
                  go_wp2_with fail
                  go_roundw
                  case rel => exact ⟨j + 1, by omega, by go_num, HALL, hBx⟩
                  case measure => simp [intOf]; omega
    · have hke : k = ds.length := by omega
      subst hke
      have hres := Lib.hid (rValid_end ds hall.out)
      clear hall
      go_wp2_with fail
      go_ret
      exact ⟨by show Ending.returned (.bool (decide ((ds.length : Int) ≤ 8))) = _; rw [hres.out, show decide ((ds.length : Int) ≤ 8) = decide (ds.length ≤ 8) from decide_eq_decide.2 (by omega)], hB⟩
end Go.Proofs.Ytlcjkehpdlgdoaa
