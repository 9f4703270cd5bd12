/-
  Words of a path: the reference's way (printed by wip/tools/mkPl.py). No condition.
-/
import Derived.Test.YtamhnhojfhlanaaDoorPw
import Derived.Laws.OwnMore
set_option linter.unusedSimpArgs false
set_option linter.unusedVariables false
namespace Go.Proofs.YtamhnhojfhlanaaDoor
open Go.RowKit
theorem take_get (s : ByteArray) (k : Nat) (h : k < s.size) : s.data.toList.take (k + 1) = s.data.toList.take k ++ [s[k]'h] := by
  rw [List.take_succ_eq_append_getElem (by rw [Array.length_toList]; exact h)]
  congr 2
theorem words_slash {l : List UInt8} {xs : List ByteArray} (h : Words l xs) : Words (l ++ [47]) (xs ++ [⟨#[]⟩]) := by
  unfold Words at h ⊢
  rw [wordsL_slash, List.map_append, h]
  rfl
theorem words_letter {l : List UInt8} {ys : List ByteArray} {z : ByteArray} (c : UInt8) (hc : c ≠ 47) (h : Words l (ys ++ [z])) (z' : ByteArray) (hz : z'.data.toList = z.data.toList ++ [c]) : Words (l ++ [c]) (ys ++ [z']) := by
  unfold Words at h ⊢
  obtain ⟨ws, w, h1, h2⟩ := wordsL_letter l c hc
  rw [h1, List.map_append, List.map_cons, List.map_nil] at h
  obtain ⟨e1, e2⟩ := List.append_inj' h rfl
  rw [h2, List.map_append, List.map_cons, List.map_nil, e1, hz]
  simp only [List.cons.injEq, and_true] at e2
  rw [e2]
theorem one_letter (s : ByteArray) (k : Nat) (h : k < s.size) : (s.extract k (k + 1)).data.toList = [s[k]'h] := by
  have e : (s.extract k (k + 1)).data.toList = (s.data.toList.drop k).take 1 := by simp [ByteArray.data_extract, List.extract_eq_take_drop]
  rw [e, List.drop_eq_getElem_cons (by rw [Array.length_toList]; exact h)]
  simp [ByteArray.getElem_eq_getElem_data]
set_option maxRecDepth 100000 in
set_option maxHeartbeats 3200000 in
theorem l30Words_any (s : ByteArray) (w : World) (hs : s.size ≤ 2097152) : Calls Tryd.prog 24 #[.string s] w (NewW s w) := by
  have hB0 := Below.al (Below.refl w.heap.size w) (.cells #[.string ⟨#[]⟩] 9)
  have OW := Lib.hid (show (w.alloc (.cells #[.string ⟨#[]⟩] 9)).ownsRow w.heap.size 9 1 (.slice (some ⟨w.heap.size, 0, none⟩) 1 1) 1 (cellsS [⟨#[]⟩]) from own_of_bk Bk.new (Nat.le_refl _) (by unfold maxLen; omega) rfl rfl (fun j hj => by obtain rfl : j = 0 := (by omega); rfl))
  go_enter Tryd.func24, Tryd.ntmps24
  go_wp2_with fail
  go_loopw [3, 4] (fun v i wr => ∃ (k : Nat) (xs : List ByteArray), k ≤ s.size ∧ i = .int .i64 k ∧ Hid (v ≠ .slice none 0 0) ∧ Hid (Words (s.data.toList.take k) xs) ∧ Hid (∀ x ∈ xs, x.size ≤ k) ∧ Hid (wr.ownsRow w.heap.size 9 1 v xs.length (cellsS xs)) ∧ Below w.heap.size w wr) (fun _ i _ => s.size - (intOf i).toNat)
  case atStart => exact ⟨0, [⟨#[]⟩], Nat.zero_le _, rfl, by simp [Hid], rfl, (by intro x hx; rw [List.mem_singleton.1 hx]; exact Nat.zero_le _), OW.out, hB0⟩
  case round =>
    clear hB0 OW
    obtain ⟨k, xs, hk, rfl, hvn, hW, hsz, hO, hB⟩ := hrel
    obtain ⟨vo, rfl⟩ : ∃ vo : Value, vo = u3 := ⟨_, rfl⟩
    have hz := hB.size
    have hwl := hW.out.len
    have htl : (s.data.toList.take k).length = k := by rw [List.length_take, Array.length_toList]; show min k s.size = k; omega
    by_cases hlt : k < s.size
    · have hlt2 : (k : Int) < (s.size : Int) := by omega
      have htk := Lib.hid (take_get s k hlt)
      by_cases hc : (s[k]'hlt).toNat = 47
      · have HW2 := Lib.hid (show Words (s.data.toList.take (k + 1)) (xs ++ [⟨#[]⟩]) by
          rw [htk.out, show s[k]'hlt = 47 from UInt8.toNat_inj.1 hc]
          exact words_slash hW.out)
        go_wp2_with (at_builtin; refine Hid.out ?_); refine Lib.hid ?_
        refine wpList_appS (s := .tmp 16) (x := .tmp 17) rfl 30 9 (.string ByteArray.empty) 1 16 rfl Tryd.underlying30 infoS rfl (by decide) (by decide) w.heap.size vo xs.length (cellsS xs) (by rfl) (own_alloc hO.out _) (.slice (some ⟨wr.heap.size, 0, none⟩) 1 1) 1 [.string ⟨#[]⟩] (by rfl) (slF_bk (k := 1) (n := 1) (cs := [.string ⟨#[]⟩]) (bk_atb rfl) rfl (by omega)) (cellsS_one [⟨#[]⟩]) (by omega) (by simp only [World.size_alloc]; omega) ?_
        intro v8 w8 o8 g8 l8 nn8
        have b8 : Below w.heap.size w w8 := Below.grown (Below.al hB _) g8 (by simp only [World.size_alloc]; omega) (own_gt hO.out)
        have O8 := Lib.hid (show w8.ownsRow w.heap.size 9 1 v8 (xs ++ [(⟨#[]⟩ : ByteArray)]).length (cellsS (xs ++ [⟨#[]⟩])) by
          unfold cellsS at o8 ⊢
          rw [List.map_append, List.length_append]
          exact o8)
        have N8 := Lib.hid (nn8 hvn.out)
        have Z8 := Lib.hid (show ∀ x ∈ xs ++ [⟨#[]⟩], x.size ≤ k + 1 from fun x hx => by
          rcases List.mem_append.1 hx with h | h
          · have := hsz.out x h
            omega
          · rw [List.mem_singleton.1 h]
            exact Nat.zero_le _)
        clear o8 g8 nn8 l8 hc
        go_wp2_with fail
        go_roundw
        case rel => exact ⟨k + 1, xs ++ [⟨#[]⟩], by omega, by go_num, N8, HW2, Z8, O8, b8⟩
        case measure => simp [intOf]; omega
      · have hc1 : ((((s[k]'hlt).toNat : Nat) : Int) == 47) = false := by rw [beq_eq_false_iff_ne]; omega
        obtain ⟨ys, z, rfl⟩ : ∃ ys z, xs = ys ++ [z] := ⟨xs.dropLast, xs.getLast (by intro e; rw [e] at hwl; simp at hwl), (List.dropLast_concat_getLast _).symm⟩
        obtain ⟨n, hn⟩ : ∃ n, ys.length = n := ⟨_, rfl⟩
        have hxl : (ys ++ [z]).length = n + 1 := by simp [hn]
        rw [hxl] at hO hwl
        obtain ⟨g, cp, rfl, hg, hcp, hcp2, hcell⟩ := own_ad hO.out hvn.out
        unfold maxLen at hcp2
        have hz0 : wr.cell? ⟨g, n, none⟩ = some (.string z) := by
          have := hcell n (.string z) (by unfold cellsS; rw [List.map_append, List.getElem?_append_right (by simp [hn])]; simp [hn])
          rw [addr_add] at this
          simpa using this
        have hfz := hO.out.frozenAt n
        have hzs := hsz.out z (by simp)
        have HW2 := Lib.hid (show Words (s.data.toList.take (k + 1)) (ys ++ [z ++ s.extract k (k + 1)]) by
          rw [htk.out]
          refine words_letter _ (fun e => hc (by rw [e]; rfl)) hW.out _ ?_
          rw [← one_letter s k hlt]
          simp)
        have hes : (s.extract k (k + 1)).size = 1 := by
          rw [ByteArray.size_extract]
          omega
        have Z8 := Lib.hid (show ∀ x ∈ ys ++ [z ++ s.extract k (k + 1)], x.size ≤ k + 1 from fun x hx => by
          rcases List.mem_append.1 hx with h | h
          · have := hsz.out x (by simp [h])
            omega
          · rw [List.mem_singleton.1 h, ByteArray.size_append, hes]
            omega)
        have wn : IntKind.i64.wrap (n : Int) = (n : Int) := IntWalk.i64_in _ (by omega)
        have wk : IntKind.i64.wrap ((k : Int) + 1) = (k : Int) + 1 := IntWalk.i64_in _ (by omega)
        have hzb : ¬ 9223372036854775807 < z.size + 1 := by omega
        have hnl : (n : Int) < (n : Int) + 1 := by omega
        have hkl : (k : Int) ≤ (k : Int) + 1 := by omega
        have hks : (k : Int) + 1 ≤ (s.size : Int) := by omega
        clear hc hcell
        go_wp2_with fail
        have KXr : KeepB (fun _ => True) ∧ KeepB (fun _ => True) := ⟨keepB_true, keepB_true⟩
        refine wp_region_invT 17 (G := fun s n w_ => RgN (fun _ => False) (fun _ => True) wr w_) (R := RgR (fun _ => False) (fun _ => True))
          (Fs := [Is (fun z_ => z_ = .slice (some ⟨g, 0, none⟩) (n + 1) cp), Is (fun z_ => z_ = .slice (some ⟨g, 0, none⟩) (n + 1) cp), Is (fun z_ => z_ = .int .i64 (((n + 1 : Nat) : Int))), Is (fun z_ => z_ = .int .i64 n), Is (fun z_ => z_ = .slice (some ⟨g, 0, none⟩) (n + 1) cp), Is (fun z_ => z_ = .slice (some ⟨g, 0, none⟩) (n + 1) cp), Is (fun z_ => z_ = .int .i64 (((n + 1 : Nat) : Int))), Is (fun z_ => z_ = .int .i64 n), Is (fun z_ => z_ = .pointer (some ⟨g, n, none⟩)), Is (fun z_ => z_ = .string z), Is (fun z_ => z_ = .string s), Is (fun z_ => z_ = .int .i64 k), Is (fun z_ => z_ = .int .i64 k), Is (fun z_ => z_ = .int .i64 ((k : Int) + 1)), Is (fun z_ => z_ = .string (s.extract k (k + 1))), Is (fun z_ => z_ = .string (z ++ s.extract k (k + 1))), Is (fun z_ => z_ = .pointer (some ⟨g, n, none⟩))])
          (by kernel_rfl) (by kernel_rfl) (fun _ => RgR.refl _) (fun h k => h.trans k) ?_ (fun _ _ => ⟨(Grow.refl _ _).drew, trivial⟩) ?_
        · (repeat' (first | exact lasts_nil | refine lasts_cons ?_ ?_))
          all_goals (first | exact Lasts.is | exact Lasts.any)
        show wpInv _ _ _ _ _ _ _ [_, _, _, _, _, _, _, _, _, _, _, _, _, _, _, _, _] _ _ _
        refine inv_cons 0 (by rfl) (fun wx n_ s_ hn hcl hsi hG hR hd => ?_) (fun v0 => ?_)
        · exact inv_want (by rfl) (inv_move (.tmp 3) rfl (post_upN (F := Is (fun z_ => z_ = .slice (some ⟨g, 0, none⟩) (n + 1) cp)) hG (is_eq rfl)))
        simp only [Act.put, List.setIfInBounds_toArray, List.set_cons_zero, List.set_cons_succ, List.nil_append, List.cons_append]
        refine inv_cons 1 (by rfl) (fun wx n_ s_ hn hcl hsi hG hR hd => ?_) (fun v1 => ?_)
        · exact inv_want (by rfl) (inv_move (.tmp 3) rfl (post_upN (F := Is (fun z_ => z_ = .slice (some ⟨g, 0, none⟩) (n + 1) cp)) hG (is_eq rfl)))
        simp only [Act.put, List.setIfInBounds_toArray, List.set_cons_zero, List.set_cons_succ, List.nil_append, List.cons_append]
        refine inv_cons 2 (by rfl) (fun wx n_ s_ hn hcl hsi hG hR hd => ?_) (fun v2 => ?_)
        · have d1 : (Is (fun z_ => z_ = .slice (some ⟨g, 0, none⟩) (n + 1) cp)) v1 wx := dep_get hd 1 (by rfl)
          obtain rfl := d1
          refine inv_want (by rfl) ?_
          have HG := Lib.hid hG
          clear hG hR hcl hsi hn
          unfold invAt invUpon; go_simp
          exact post_upN (F := Is (fun z_ => z_ = .int .i64 (((n + 1 : Nat) : Int)))) HG.out (is_eq rfl)
        simp only [Act.put, List.setIfInBounds_toArray, List.set_cons_zero, List.set_cons_succ, List.nil_append, List.cons_append]
        refine inv_cons 3 (by rfl) (fun wx n_ s_ hn hcl hsi hG hR hd => ?_) (fun v3 => ?_)
        · have d2 : (Is (fun z_ => z_ = .int .i64 (((n + 1 : Nat) : Int)))) v2 wx := dep_get hd 2 (by rfl)
          obtain rfl := d2
          refine inv_want (by rfl) ?_
          have HG := Lib.hid hG
          clear hG hR hcl hsi hn
          unfold invAt invUpon; go_simp
          exact post_upN (F := Is (fun z_ => z_ = .int .i64 n)) HG.out (is_eq rfl)
        simp only [Act.put, List.setIfInBounds_toArray, List.set_cons_zero, List.set_cons_succ, List.nil_append, List.cons_append]
        refine inv_cons 4 (by rfl) (fun wx n_ s_ hn hcl hsi hG hR hd => ?_) (fun v4 => ?_)
        · exact inv_want (by rfl) (inv_move (.tmp 3) rfl (post_upN (F := Is (fun z_ => z_ = .slice (some ⟨g, 0, none⟩) (n + 1) cp)) hG (is_eq rfl)))
        simp only [Act.put, List.setIfInBounds_toArray, List.set_cons_zero, List.set_cons_succ, List.nil_append, List.cons_append]
        refine inv_cons 5 (by rfl) (fun wx n_ s_ hn hcl hsi hG hR hd => ?_) (fun v5 => ?_)
        · exact inv_want (by rfl) (inv_move (.tmp 3) rfl (post_upN (F := Is (fun z_ => z_ = .slice (some ⟨g, 0, none⟩) (n + 1) cp)) hG (is_eq rfl)))
        simp only [Act.put, List.setIfInBounds_toArray, List.set_cons_zero, List.set_cons_succ, List.nil_append, List.cons_append]
        refine inv_cons 6 (by rfl) (fun wx n_ s_ hn hcl hsi hG hR hd => ?_) (fun v6 => ?_)
        · have d5 : (Is (fun z_ => z_ = .slice (some ⟨g, 0, none⟩) (n + 1) cp)) v5 wx := dep_get hd 5 (by rfl)
          obtain rfl := d5
          refine inv_want (by rfl) ?_
          have HG := Lib.hid hG
          clear hG hR hcl hsi hn
          unfold invAt invUpon; go_simp
          exact post_upN (F := Is (fun z_ => z_ = .int .i64 (((n + 1 : Nat) : Int)))) HG.out (is_eq rfl)
        simp only [Act.put, List.setIfInBounds_toArray, List.set_cons_zero, List.set_cons_succ, List.nil_append, List.cons_append]
        refine inv_cons 7 (by rfl) (fun wx n_ s_ hn hcl hsi hG hR hd => ?_) (fun v7 => ?_)
        · have d6 : (Is (fun z_ => z_ = .int .i64 (((n + 1 : Nat) : Int)))) v6 wx := dep_get hd 6 (by rfl)
          obtain rfl := d6
          refine inv_want (by rfl) ?_
          have HG := Lib.hid hG
          clear hG hR hcl hsi hn
          unfold invAt invUpon; go_simp
          exact post_upN (F := Is (fun z_ => z_ = .int .i64 n)) HG.out (is_eq rfl)
        simp only [Act.put, List.setIfInBounds_toArray, List.set_cons_zero, List.set_cons_succ, List.nil_append, List.cons_append]
        refine inv_cons 8 (by rfl) (fun wx n_ s_ hn hcl hsi hG hR hd => ?_) (fun v8 => ?_)
        · have d4 : (Is (fun z_ => z_ = .slice (some ⟨g, 0, none⟩) (n + 1) cp)) v4 wx := dep_get hd 4 (by rfl)
          obtain rfl := d4
          have d7 : (Is (fun z_ => z_ = .int .i64 n)) v7 wx := dep_get hd 7 (by rfl)
          obtain rfl := d7
          refine inv_want (by rfl) ?_
          have HG := Lib.hid hG
          clear hG hR hcl hsi hn
          unfold invAt invUpon; go_simp
          exact post_upN (F := Is (fun z_ => z_ = .pointer (some ⟨g, n, none⟩))) HG.out (is_eq rfl)
        simp only [Act.put, List.setIfInBounds_toArray, List.set_cons_zero, List.set_cons_succ, List.nil_append, List.cons_append]
        refine inv_cons 9 (by rfl) (fun wx n_ s_ hn hcl hsi hG hR hd => ?_) (fun v9 => ?_)
        · have d8 : (Is (fun z_ => z_ = .pointer (some ⟨g, n, none⟩))) v8 wx := dep_get hd 8 (by rfl)
          obtain rfl := d8
          have xb0 := cell_grow (hz0) hG.grow (fun h => h)
          refine inv_want (by rfl) ?_
          have HG := Lib.hid hG
          clear hG hR hcl hsi hn
          unfold invAt invUpon; go_simp
          exact post_upN (F := Is (fun z_ => z_ = .string z)) HG.out (is_eq rfl)
        simp only [Act.put, List.setIfInBounds_toArray, List.set_cons_zero, List.set_cons_succ, List.nil_append, List.cons_append]
        refine inv_cons 10 (by rfl) (fun wx n_ s_ hn hcl hsi hG hR hd => ?_) (fun v10 => ?_)
        · exact inv_want (by rfl) (inv_move (.tmp 0) rfl (post_upN (F := Is (fun z_ => z_ = .string s)) hG (is_eq rfl)))
        simp only [Act.put, List.setIfInBounds_toArray, List.set_cons_zero, List.set_cons_succ, List.nil_append, List.cons_append]
        refine inv_cons 11 (by rfl) (fun wx n_ s_ hn hcl hsi hG hR hd => ?_) (fun v11 => ?_)
        · exact inv_want (by rfl) (inv_move (.tmp 4) rfl (post_upN (F := Is (fun z_ => z_ = .int .i64 k)) hG (is_eq rfl)))
        simp only [Act.put, List.setIfInBounds_toArray, List.set_cons_zero, List.set_cons_succ, List.nil_append, List.cons_append]
        refine inv_cons 12 (by rfl) (fun wx n_ s_ hn hcl hsi hG hR hd => ?_) (fun v12 => ?_)
        · exact inv_want (by rfl) (inv_move (.tmp 4) rfl (post_upN (F := Is (fun z_ => z_ = .int .i64 k)) hG (is_eq rfl)))
        simp only [Act.put, List.setIfInBounds_toArray, List.set_cons_zero, List.set_cons_succ, List.nil_append, List.cons_append]
        refine inv_cons 13 (by rfl) (fun wx n_ s_ hn hcl hsi hG hR hd => ?_) (fun v13 => ?_)
        · have d12 : (Is (fun z_ => z_ = .int .i64 k)) v12 wx := dep_get hd 12 (by rfl)
          obtain rfl := d12
          refine inv_want (by rfl) ?_
          have HG := Lib.hid hG
          clear hG hR hcl hsi hn
          unfold invAt invUpon; go_simp
          exact post_upN (F := Is (fun z_ => z_ = .int .i64 ((k : Int) + 1))) HG.out (is_eq rfl)
        simp only [Act.put, List.setIfInBounds_toArray, List.set_cons_zero, List.set_cons_succ, List.nil_append, List.cons_append]
        refine inv_cons 14 (by rfl) (fun wx n_ s_ hn hcl hsi hG hR hd => ?_) (fun v14 => ?_)
        · have d10 : (Is (fun z_ => z_ = .string s)) v10 wx := dep_get hd 10 (by rfl)
          obtain rfl := d10
          have d11 : (Is (fun z_ => z_ = .int .i64 k)) v11 wx := dep_get hd 11 (by rfl)
          obtain rfl := d11
          have d13 : (Is (fun z_ => z_ = .int .i64 ((k : Int) + 1))) v13 wx := dep_get hd 13 (by rfl)
          obtain rfl := d13
          refine inv_want (by rfl) ?_
          have HG := Lib.hid hG
          clear hG hR hcl hsi hn
          unfold invAt invUpon; go_simp
          exact post_upN (F := Is (fun z_ => z_ = .string (s.extract k (k + 1)))) HG.out (is_eq rfl)
        simp only [Act.put, List.setIfInBounds_toArray, List.set_cons_zero, List.set_cons_succ, List.nil_append, List.cons_append]
        refine inv_cons 15 (by rfl) (fun wx n_ s_ hn hcl hsi hG hR hd => ?_) (fun v15 => ?_)
        · have d9 : (Is (fun z_ => z_ = .string z)) v9 wx := dep_get hd 9 (by rfl)
          obtain rfl := d9
          have d14 : (Is (fun z_ => z_ = .string (s.extract k (k + 1)))) v14 wx := dep_get hd 14 (by rfl)
          obtain rfl := d14
          refine inv_want (by rfl) ?_
          have HG := Lib.hid hG
          clear hG hR hcl hsi hn
          unfold invAt invUpon; go_simp
          exact post_upN (F := Is (fun z_ => z_ = .string (z ++ s.extract k (k + 1)))) HG.out (is_eq rfl)
        simp only [Act.put, List.setIfInBounds_toArray, List.set_cons_zero, List.set_cons_succ, List.nil_append, List.cons_append]
        refine inv_cons 16 (by rfl) (fun wx n_ s_ hn hcl hsi hG hR hd => ?_) (fun v16 => ?_)
        · have d0 : (Is (fun z_ => z_ = .slice (some ⟨g, 0, none⟩) (n + 1) cp)) v0 wx := dep_get hd 0 (by rfl)
          obtain rfl := d0
          have d3 : (Is (fun z_ => z_ = .int .i64 n)) v3 wx := dep_get hd 3 (by rfl)
          obtain rfl := d3
          refine inv_want (by rfl) ?_
          have HG := Lib.hid hG
          clear hG hR hcl hsi hn
          unfold invAt invUpon; go_simp
          exact post_upN (F := Is (fun z_ => z_ = .pointer (some ⟨g, n, none⟩))) HG.out (is_eq rfl)
        simp only [Act.put, List.setIfInBounds_toArray, List.set_cons_zero, List.set_cons_succ, List.nil_append, List.cons_append]
        refine inv_nil (fun wq nq sq hnq hGq hRq hall => ?_)
        obtain ⟨f0, f1, f2, f3, f4, f5, f6, f7, f8, f9, f10, f11, f12, f13, f14, f15, f16, -⟩ := hall
        obtain rfl : v15 = .string (z ++ s.extract k (k + 1)) := f15
        obtain rfl : v16 = .pointer (some ⟨g, n, none⟩) := f16
        have hBq := Below.via (Grow.below0 hGq.grow) hB
        have Oq := own_below hO.out (Grow.below0 hGq.grow)
        have hfq := Oq.frozenAt n
        have hzq := cell_grow hz0 hGq.grow (fun h => h)
        obtain ⟨OS, _⟩ := Oq.stored n (.string (z ++ s.extract k (k + 1)))
        have hset : (cellsS (ys ++ [z])).set n (.string (z ++ s.extract k (k + 1))) = cellsS (ys ++ [z ++ s.extract k (k + 1)]) := by
          unfold cellsS
          rw [List.map_append, List.set_append_right _ _ (by simp [hn]), List.map_append]
          simp [hn]
        rw [hset] at OS
        have hlen2 : (ys ++ [z ++ s.extract k (k + 1)]).length = n + 1 := by simp [hn]
        have OS2 := Lib.hid (show (wq.setCell ⟨g, n, none⟩ (.string (z ++ s.extract k (k + 1)))).ownsRow w.heap.size 9 1 (.slice (some ⟨g, 0, none⟩) (n + 1) cp) (ys ++ [z ++ s.extract k (k + 1)]).length (cellsS (ys ++ [z ++ s.extract k (k + 1)])) by rw [hlen2]; exact OS)
        have hBS := hBq.setCell (p := ⟨g, n, none⟩) (by show w.heap.size ≤ g; exact hg) (.string (z ++ s.extract k (k + 1)))
        have HN := Lib.hid hn
        clear OS hset hlen2 hxl hn Oq hz0
        go_wp2_with fail
        go_roundw
        case rel => exact ⟨k + 1, ys ++ [z ++ s.extract k (k + 1)], by omega, by go_num, hvn, HW2, Z8, OS2, hBS⟩
        case measure => simp [intOf]; omega
    · have hlt2 : ¬ (k : Int) < (s.size : Int) := by omega
      have HW2 := Lib.hid (show Words s.data.toList xs by
        have := hW.out
        rw [List.take_of_length_le (by rw [Array.length_toList]; show s.size ≤ k; omega)] at this
        exact this)
      go_wp2_with fail
      go_ret
      exact ⟨vo, xs, rfl, HW2.out, hvn.out, hO.out, hB⟩
end Go.Proofs.YtamhnhojfhlanaaDoor
