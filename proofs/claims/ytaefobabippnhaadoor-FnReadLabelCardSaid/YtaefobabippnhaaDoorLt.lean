/-
  Labels are read: the reference's way. No condition.
-/
import Derived.Test.YtaefobabippnhaaDoorLr
import Derived.Test.YtaefobabippnhaaDoorN
import Derived.Test.YtaefobabippnhaaDoorIv
import Derived.Test.YtaefobabippnhaaDoorRg
set_option linter.unusedSimpArgs false
set_option linter.unusedVariables false
namespace Go.Proofs.YtaefobabippnhaaDoor
open Go.RowKit
theorem list_len (s : ByteArray) : s.data.toList.length = s.size := Array.length_toList
theorem bit_at (s : ByteArray) (m : Nat) (h : m < s.size) : bitAt s.data.toList m = if 97 ≤ (s[m]'h).toNat ∧ (s[m]'h).toNat ≤ 101 then 1 <<< ((s[m]'h).toNat - 97) else 0 := by
  unfold bitAt
  have e : s.data.toList[m]? = some (s[m]'h) := by
    rw [List.getElem?_eq_getElem (by rw [list_len]; exact h)]
    simp [ByteArray.getElem_eq_getElem_data]
  rw [e]
theorem or_bit (a p : Nat) (ha : a < 32) (hp : p < 32) : bits .or .i64 (a : Int) (p : Int) = ((a ||| p : Nat) : Int) := bits_or_nat a p (by omega) (by omega)
set_option maxRecDepth 100000 in
set_option maxHeartbeats 6400000 in
theorem specReadLabel_any (s : ByteArray) (w : World) (hs : s.size ≤ 4194304) : Calls Tryd.prog 10 #[.string s] w fun e w' => RdL s e ∧ Below w.heap.size w w' := by
  have hB0 := Below.al (Below.refl w.heap.size w) (.cells #[.int .i64 0, .int .i64 0] 25)
  have k0 := Lib.hid (Bk.new (w := w) (vs := #[.int .i64 0, .int .i64 0]) (t := 25))
  go_enter Tryd.func10, Tryd.ntmps10
  go_wp2_with fail
  go_loopw [4] (fun i wr => ∃ k : Nat, k ≤ 4 ∧ i = .int .i64 k ∧ Hid (∀ l, l < k → ∀ a, ¬ IsLab s.data.toList l a) ∧ Hid (Bk wr w.heap.size #[.int .i64 0, .int .i64 0] 25) ∧ Below w.heap.size w wr) (fun i _ => 4 - (intOf i).toNat)
  case atStart => exact ⟨0, Nat.zero_le _, rfl, by intro l hl; omega, k0.out, hB0⟩
  case round =>
    clear hB0 k0
    obtain ⟨k, hk, rfl, hno, hK, hB⟩ := hrel
    obtain ⟨wo, hwo⟩ : ∃ wo : World, wo = wr := ⟨_, rfl⟩
    subst hwo
    have hzo := hK.out.lt
    by_cases hlt : k < 4
    · have hlt2 : (k : Int) ≤ 3 := by omega
      have hBn := Below.al hB (.cells #[.int .i64 k, .int .i64 0] 25)
      have kn := Bk.new (w := wo) (vs := #[.int .i64 k, .int .i64 0]) (t := 25)
      have xn := kn.cell
      have yn := kn.lt
      have CA := fun wx => specLabelText_any k 0 wx
      have hlab : labS (k : Int) ((0 : Nat) : Int) = ⟨(lvName k).toArray⟩ := by
        unfold labS
        rw [labTx_eq k 0 hlt (by omega)]
        have : arTo 0 5 = [] := by decide
        simp [labT, this]
      have hlab2 : labS (k : Int) 0 = ⟨(lvName k).toArray⟩ := hlab
      rw [hlab2] at CA
      clear hlab hlab2
      have HNL := Lib.hid (name_len k)
      have hnl : (⟨(lvName k).toArray⟩ : ByteArray).size = (lvName k).length := by show (lvName k).toArray.size = _; simp
      have hnl6 := name_len k
      generalize hnm : (⟨(lvName k).toArray⟩ : ByteArray) = nm at CA hnl
      clear hnm
      generalize hnn : (lvName k).length = n at hnl hnl6
      have HNN := Lib.hid hnn
      clear hnn
      go_wp2_with fail
      refine (CA _).mono ?_
      rintro e w3 ⟨rfl, b3⟩
      have kn3 := kn.below b3
      have hB3 := Below.via b3 hBn
      have K3 := (hK.out.alloc (.cells #[.int .i64 k, .int .i64 0] 25)).below b3
      clear xn yn kn CA b3 hBn hK
      have xn := kn3.cell
      have yn := kn3.lt
      go_wp2_with fail
      go_loopw [7] (fun i wx => ∃ j : Nat, j ≤ s.size ∧ i = .int .i64 (n + 1 + 2 * j : Nat) ∧ Hid (Bk wx wo.heap.size #[.int .i64 k, .int .i64 (arF s.data.toList n j : Nat)] 25) ∧ Hid (Bk wx w.heap.size #[.int .i64 0, .int .i64 0] 25) ∧ Below w.heap.size w wx) (fun i _ => s.size + 8 - (intOf i).toNat)
      case atStart => exact ⟨0, by omega, by go_num, kn3, K3, hB3⟩
      case round =>
        clear hB3 kn3 K3 xn yn
        obtain ⟨j, hj, rfl, hKn, hK, hB⟩ := hrel
        have xn := hKn.out.cell
        have yn := hKn.out.lt
        have fn := hKn.out.free
        have ha32 := arF_lt s.data.toList n j
        by_cases hjl : n + 1 + 2 * j < s.size
        · have hjl2 : ((n + 1 + 2 * j : Nat) : Int) < (s.size : Int) := by omega
          have hst := Lib.hid (show arF s.data.toList n (j + 1) = arF s.data.toList n j ||| bitAt s.data.toList (n + 1 + 2 * j) from rfl)
          have hmj := Lib.hid (show ((n + 1 + 2 * (j + 1) : Nat) : Int) = ((n + 1 + 2 * j : Nat) : Int) + 2 by omega)
          have hm6 : n + 1 + 2 * j ≤ 4194304 := by omega
          have hjs : j + 1 ≤ s.size := by omega
          generalize n + 1 + 2 * j = m at hjl hjl2 hst hmj hm6
          have hbt := Lib.hid (bit_at s m hjl)
          generalize hA : arF s.data.toList n j = A at *
          clear hA
          have hc : (s[m]'hjl).toNat < 97 ∨ 101 < (s[m]'hjl).toNat ∨ (s[m]'hjl).toNat = 97 ∨ (s[m]'hjl).toNat = 98 ∨ (s[m]'hjl).toNat = 99 ∨ (s[m]'hjl).toNat = 100 ∨ (s[m]'hjl).toNat = 101 := by omega
          rcases hc with hc | hc | hc | hc | hc | hc | hc
          · have hn97 : ¬ (97 : Int) ≤ (((s[m]'hjl).toNat : Nat) : Int) := by omega
            have hnx := Lib.hid (show arF s.data.toList n (j + 1) = A by rw [hst.out, hbt.out, if_neg (by omega), Nat.or_zero])
            go_wp2_with fail
            refine ⟨⟨j + 1, hjs, by rw [hmj.out], by rw [hnx.out]; exact hKn.out, hK.out, hB⟩, ?_⟩
            simp [intOf]
            omega
          · have h97 : (97 : Int) ≤ (((s[m]'hjl).toNat : Nat) : Int) := by omega
            have hn101 : ¬ (((s[m]'hjl).toNat : Nat) : Int) ≤ 101 := by omega
            have hnx := Lib.hid (show arF s.data.toList n (j + 1) = A by rw [hst.out, hbt.out, if_neg (by omega), Nat.or_zero])
            go_wp2_with fail
            refine ⟨⟨j + 1, hjs, by rw [hmj.out], by rw [hnx.out]; exact hKn.out, hK.out, hB⟩, ?_⟩
            simp [intOf]
            omega
          · have hbo := Lib.hid (or_bit A 1 ha32 (by decide))
            have hnx := Lib.hid (show arF s.data.toList n (j + 1) = A ||| 1 by rw [hst.out, hbt.out, if_pos (by omega), hc]; rfl)
            go_wp2_with fail
            have KXr : KeepB (fun _ => True) ∧ KeepB (fun _ => True) := ⟨keepB_true, keepB_true⟩
            refine wp_region_invT 9 (G := fun s n w_ => RgN (fun _ => False) (fun _ => True) wr w_) (R := RgR (fun _ => False) (fun _ => True))
              (Fs := [Is (fun z_ => z_ = .pointer (some ⟨wo.heap.size, 1, none⟩)), Is (fun z_ => z_ = .int .i64 A), Is (fun z_ => z_ = .string s), Is (fun z_ => z_ = .int .i64 m), Is (fun z_ => z_ = .int .u8 97), Is (fun z_ => z_ = .int .u8 0), Is (fun z_ => z_ = .int .i64 1), Is (fun z_ => z_ = .int .i64 (bits .or .i64 A 1)), Is (fun z_ => z_ = .pointer (some ⟨wo.heap.size, 1, none⟩))])
              (by kernel_rfl) (by kernel_rfl) (fun _ => RgR.refl _) (fun h k => h.trans k) ?_ (fun _ _ => ⟨(Grow.refl _ _).drew, trivial⟩) ?_
            · (repeat' (first | exact lasts_nil | refine lasts_cons ?_ ?_))
              all_goals (first | exact Lasts.is | exact Lasts.any)
            show wpInv _ _ _ _ _ _ _ [_, _, _, _, _, _, _, _, _] _ _ _
            refine inv_cons 0 (by rfl) (fun wx n_ s_ hn hcl hsi hG hR hd => ?_) (fun v0 => ?_)
            · refine inv_want (by rfl) ?_
              have HG := Lib.hid hG
              clear hG hR hcl hsi hn
              unfold invAt invUpon; go_simp
              exact post_upN (F := Is (fun z_ => z_ = .pointer (some ⟨wo.heap.size, 1, none⟩))) HG.out (is_eq rfl)
            simp only [Act.put, List.setIfInBounds_toArray, List.set_cons_zero, List.set_cons_succ, List.nil_append, List.cons_append]
            refine inv_cons 1 (by rfl) (fun wx n_ s_ hn hcl hsi hG hR hd => ?_) (fun v1 => ?_)
            · have d0 : (Is (fun z_ => z_ = .pointer (some ⟨wo.heap.size, 1, none⟩))) v0 wx := dep_get hd 0 (by rfl)
              obtain rfl := d0
              have xb := (Bk.grow (hKn.out) hG.grow (fun h => h)).cell
              refine inv_want (by rfl) ?_
              have HG := Lib.hid hG
              clear hG hR hcl hsi hn
              unfold invAt invUpon; go_simp
              exact post_upN (F := Is (fun z_ => z_ = .int .i64 A)) HG.out (is_eq rfl)
            simp only [Act.put, List.setIfInBounds_toArray, List.set_cons_zero, List.set_cons_succ, List.nil_append, List.cons_append]
            refine inv_cons 2 (by rfl) (fun wx n_ s_ hn hcl hsi hG hR hd => ?_) (fun v2 => ?_)
            · exact inv_want (by rfl) (inv_move (.tmp 0) rfl (post_upN (F := Is (fun z_ => z_ = .string s)) hG (is_eq rfl)))
            simp only [Act.put, List.setIfInBounds_toArray, List.set_cons_zero, List.set_cons_succ, List.nil_append, List.cons_append]
            refine inv_cons 3 (by rfl) (fun wx n_ s_ hn hcl hsi hG hR hd => ?_) (fun v3 => ?_)
            · exact inv_want (by rfl) (inv_move (.tmp 7) rfl (post_upN (F := Is (fun z_ => z_ = .int .i64 m)) hG (is_eq rfl)))
            simp only [Act.put, List.setIfInBounds_toArray, List.set_cons_zero, List.set_cons_succ, List.nil_append, List.cons_append]
            refine inv_cons 4 (by rfl) (fun wx n_ s_ hn hcl hsi hG hR hd => ?_) (fun v4 => ?_)
            · have d2 : (Is (fun z_ => z_ = .string s)) v2 wx := dep_get hd 2 (by rfl)
              obtain rfl := d2
              have d3 : (Is (fun z_ => z_ = .int .i64 m)) v3 wx := dep_get hd 3 (by rfl)
              obtain rfl := d3
              refine inv_want (by rfl) ?_
              have HG := Lib.hid hG
              clear hG hR hcl hsi hn
              unfold invAt invUpon; go_simp
              exact post_upN (F := Is (fun z_ => z_ = .int .u8 97)) HG.out (is_eq rfl)
            simp only [Act.put, List.setIfInBounds_toArray, List.set_cons_zero, List.set_cons_succ, List.nil_append, List.cons_append]
            refine inv_cons 5 (by rfl) (fun wx n_ s_ hn hcl hsi hG hR hd => ?_) (fun v5 => ?_)
            · have d4 : (Is (fun z_ => z_ = .int .u8 97)) v4 wx := dep_get hd 4 (by rfl)
              obtain rfl := d4
              refine inv_want (by rfl) ?_
              have HG := Lib.hid hG
              clear hG hR hcl hsi hn
              unfold invAt invUpon; go_simp
              exact post_upN (F := Is (fun z_ => z_ = .int .u8 0)) HG.out (is_eq rfl)
            simp only [Act.put, List.setIfInBounds_toArray, List.set_cons_zero, List.set_cons_succ, List.nil_append, List.cons_append]
            refine inv_cons 6 (by rfl) (fun wx n_ s_ hn hcl hsi hG hR hd => ?_) (fun v6 => ?_)
            · have d5 : (Is (fun z_ => z_ = .int .u8 0)) v5 wx := dep_get hd 5 (by rfl)
              obtain rfl := d5
              refine inv_want (by rfl) ?_
              have HG := Lib.hid hG
              clear hG hR hcl hsi hn
              unfold invAt invUpon; go_simp
              exact post_upN (F := Is (fun z_ => z_ = .int .i64 1)) HG.out (is_eq rfl)
            simp only [Act.put, List.setIfInBounds_toArray, List.set_cons_zero, List.set_cons_succ, List.nil_append, List.cons_append]
            refine inv_cons 7 (by rfl) (fun wx n_ s_ hn hcl hsi hG hR hd => ?_) (fun v7 => ?_)
            · have d1 : (Is (fun z_ => z_ = .int .i64 A)) v1 wx := dep_get hd 1 (by rfl)
              obtain rfl := d1
              have d6 : (Is (fun z_ => z_ = .int .i64 1)) v6 wx := dep_get hd 6 (by rfl)
              obtain rfl := d6
              refine inv_want (by rfl) ?_
              have HG := Lib.hid hG
              clear hG hR hcl hsi hn
              unfold invAt invUpon; go_simp
              exact post_upN (F := Is (fun z_ => z_ = .int .i64 (bits .or .i64 A 1))) HG.out (is_eq rfl)
            simp only [Act.put, List.setIfInBounds_toArray, List.set_cons_zero, List.set_cons_succ, List.nil_append, List.cons_append]
            refine inv_cons 8 (by rfl) (fun wx n_ s_ hn hcl hsi hG hR hd => ?_) (fun v8 => ?_)
            · refine inv_want (by rfl) ?_
              have HG := Lib.hid hG
              clear hG hR hcl hsi hn
              unfold invAt invUpon; go_simp
              exact post_upN (F := Is (fun z_ => z_ = .pointer (some ⟨wo.heap.size, 1, none⟩))) HG.out (is_eq rfl)
            simp only [Act.put, List.setIfInBounds_toArray, List.set_cons_zero, List.set_cons_succ, List.nil_append, List.cons_append]
            refine inv_nil (fun wq nq sq hnq hGq hRq hall => ?_)
            obtain ⟨f0, f1, f2, f3, f4, f5, f6, f7, f8, -⟩ := hall
            obtain rfl : v0 = .pointer (some ⟨wo.heap.size, 1, none⟩) := f0
            obtain rfl : v1 = .int .i64 A := f1
            obtain rfl : v2 = .string s := f2
            obtain rfl : v3 = .int .i64 m := f3
            obtain rfl : v4 = .int .u8 97 := f4
            obtain rfl : v5 = .int .u8 0 := f5
            obtain rfl : v6 = .int .i64 1 := f6
            obtain rfl : v7 = .int .i64 (bits .or .i64 A 1) := f7
            obtain rfl : v8 = .pointer (some ⟨wo.heap.size, 1, none⟩) := f8
            have hBq := Below.via (Grow.below0 hGq.grow) hB
            have KNq := Bk.grow hKn.out hGq.grow (fun h => h)
            have KRq := Bk.grow hK.out hGq.grow (fun h => h)
            clear xn yn fn
            have xn := KNq.cell
            have yn := KNq.lt
            have fn := KNq.free
            have KS := Lib.hid (KNq.same 1 (.int .i64 (bits .or .i64 A 1)))
            have KR := Lib.hid (KRq.far ⟨wo.heap.size, 1, none⟩ (by show wo.heap.size ≠ w.heap.size; omega) (.int .i64 (bits .or .i64 A 1)))
            have hBS := hBq.setCell (p := ⟨wo.heap.size, 1, none⟩) (by show w.heap.size ≤ wo.heap.size; omega) (.int .i64 (bits .or .i64 A 1))
            go_wp2_with fail
            refine ⟨⟨j + 1, hjs, by rw [hmj.out], by rw [hnx.out, ← hbo.out]; exact KS.out, KR.out, hBS⟩, ?_⟩
            simp [intOf]
            omega
          · have hbo := Lib.hid (or_bit A 2 ha32 (by decide))
            have hnx := Lib.hid (show arF s.data.toList n (j + 1) = A ||| 2 by rw [hst.out, hbt.out, if_pos (by omega), hc]; rfl)
            go_wp2_with fail
            have KXr : KeepB (fun _ => True) ∧ KeepB (fun _ => True) := ⟨keepB_true, keepB_true⟩
            refine wp_region_invT 9 (G := fun s n w_ => RgN (fun _ => False) (fun _ => True) wr w_) (R := RgR (fun _ => False) (fun _ => True))
              (Fs := [Is (fun z_ => z_ = .pointer (some ⟨wo.heap.size, 1, none⟩)), Is (fun z_ => z_ = .int .i64 A), Is (fun z_ => z_ = .string s), Is (fun z_ => z_ = .int .i64 m), Is (fun z_ => z_ = .int .u8 98), Is (fun z_ => z_ = .int .u8 1), Is (fun z_ => z_ = .int .i64 2), Is (fun z_ => z_ = .int .i64 (bits .or .i64 A 2)), Is (fun z_ => z_ = .pointer (some ⟨wo.heap.size, 1, none⟩))])
              (by kernel_rfl) (by kernel_rfl) (fun _ => RgR.refl _) (fun h k => h.trans k) ?_ (fun _ _ => ⟨(Grow.refl _ _).drew, trivial⟩) ?_
            · (repeat' (first | exact lasts_nil | refine lasts_cons ?_ ?_))
              all_goals (first | exact Lasts.is | exact Lasts.any)
            show wpInv _ _ _ _ _ _ _ [_, _, _, _, _, _, _, _, _] _ _ _
            refine inv_cons 0 (by rfl) (fun wx n_ s_ hn hcl hsi hG hR hd => ?_) (fun v0 => ?_)
            · refine inv_want (by rfl) ?_
              have HG := Lib.hid hG
              clear hG hR hcl hsi hn
              unfold invAt invUpon; go_simp
              exact post_upN (F := Is (fun z_ => z_ = .pointer (some ⟨wo.heap.size, 1, none⟩))) HG.out (is_eq rfl)
            simp only [Act.put, List.setIfInBounds_toArray, List.set_cons_zero, List.set_cons_succ, List.nil_append, List.cons_append]
            refine inv_cons 1 (by rfl) (fun wx n_ s_ hn hcl hsi hG hR hd => ?_) (fun v1 => ?_)
            · have d0 : (Is (fun z_ => z_ = .pointer (some ⟨wo.heap.size, 1, none⟩))) v0 wx := dep_get hd 0 (by rfl)
              obtain rfl := d0
              have xb := (Bk.grow (hKn.out) hG.grow (fun h => h)).cell
              refine inv_want (by rfl) ?_
              have HG := Lib.hid hG
              clear hG hR hcl hsi hn
              unfold invAt invUpon; go_simp
              exact post_upN (F := Is (fun z_ => z_ = .int .i64 A)) HG.out (is_eq rfl)
            simp only [Act.put, List.setIfInBounds_toArray, List.set_cons_zero, List.set_cons_succ, List.nil_append, List.cons_append]
            refine inv_cons 2 (by rfl) (fun wx n_ s_ hn hcl hsi hG hR hd => ?_) (fun v2 => ?_)
            · exact inv_want (by rfl) (inv_move (.tmp 0) rfl (post_upN (F := Is (fun z_ => z_ = .string s)) hG (is_eq rfl)))
            simp only [Act.put, List.setIfInBounds_toArray, List.set_cons_zero, List.set_cons_succ, List.nil_append, List.cons_append]
            refine inv_cons 3 (by rfl) (fun wx n_ s_ hn hcl hsi hG hR hd => ?_) (fun v3 => ?_)
            · exact inv_want (by rfl) (inv_move (.tmp 7) rfl (post_upN (F := Is (fun z_ => z_ = .int .i64 m)) hG (is_eq rfl)))
            simp only [Act.put, List.setIfInBounds_toArray, List.set_cons_zero, List.set_cons_succ, List.nil_append, List.cons_append]
            refine inv_cons 4 (by rfl) (fun wx n_ s_ hn hcl hsi hG hR hd => ?_) (fun v4 => ?_)
            · have d2 : (Is (fun z_ => z_ = .string s)) v2 wx := dep_get hd 2 (by rfl)
              obtain rfl := d2
              have d3 : (Is (fun z_ => z_ = .int .i64 m)) v3 wx := dep_get hd 3 (by rfl)
              obtain rfl := d3
              refine inv_want (by rfl) ?_
              have HG := Lib.hid hG
              clear hG hR hcl hsi hn
              unfold invAt invUpon; go_simp
              exact post_upN (F := Is (fun z_ => z_ = .int .u8 98)) HG.out (is_eq rfl)
            simp only [Act.put, List.setIfInBounds_toArray, List.set_cons_zero, List.set_cons_succ, List.nil_append, List.cons_append]
            refine inv_cons 5 (by rfl) (fun wx n_ s_ hn hcl hsi hG hR hd => ?_) (fun v5 => ?_)
            · have d4 : (Is (fun z_ => z_ = .int .u8 98)) v4 wx := dep_get hd 4 (by rfl)
              obtain rfl := d4
              refine inv_want (by rfl) ?_
              have HG := Lib.hid hG
              clear hG hR hcl hsi hn
              unfold invAt invUpon; go_simp
              exact post_upN (F := Is (fun z_ => z_ = .int .u8 1)) HG.out (is_eq rfl)
            simp only [Act.put, List.setIfInBounds_toArray, List.set_cons_zero, List.set_cons_succ, List.nil_append, List.cons_append]
            refine inv_cons 6 (by rfl) (fun wx n_ s_ hn hcl hsi hG hR hd => ?_) (fun v6 => ?_)
            · have d5 : (Is (fun z_ => z_ = .int .u8 1)) v5 wx := dep_get hd 5 (by rfl)
              obtain rfl := d5
              refine inv_want (by rfl) ?_
              have HG := Lib.hid hG
              clear hG hR hcl hsi hn
              unfold invAt invUpon; go_simp
              exact post_upN (F := Is (fun z_ => z_ = .int .i64 2)) HG.out (is_eq rfl)
            simp only [Act.put, List.setIfInBounds_toArray, List.set_cons_zero, List.set_cons_succ, List.nil_append, List.cons_append]
            refine inv_cons 7 (by rfl) (fun wx n_ s_ hn hcl hsi hG hR hd => ?_) (fun v7 => ?_)
            · have d1 : (Is (fun z_ => z_ = .int .i64 A)) v1 wx := dep_get hd 1 (by rfl)
              obtain rfl := d1
              have d6 : (Is (fun z_ => z_ = .int .i64 2)) v6 wx := dep_get hd 6 (by rfl)
              obtain rfl := d6
              refine inv_want (by rfl) ?_
              have HG := Lib.hid hG
              clear hG hR hcl hsi hn
              unfold invAt invUpon; go_simp
              exact post_upN (F := Is (fun z_ => z_ = .int .i64 (bits .or .i64 A 2))) HG.out (is_eq rfl)
            simp only [Act.put, List.setIfInBounds_toArray, List.set_cons_zero, List.set_cons_succ, List.nil_append, List.cons_append]
            refine inv_cons 8 (by rfl) (fun wx n_ s_ hn hcl hsi hG hR hd => ?_) (fun v8 => ?_)
            · refine inv_want (by rfl) ?_
              have HG := Lib.hid hG
              clear hG hR hcl hsi hn
              unfold invAt invUpon; go_simp
              exact post_upN (F := Is (fun z_ => z_ = .pointer (some ⟨wo.heap.size, 1, none⟩))) HG.out (is_eq rfl)
            simp only [Act.put, List.setIfInBounds_toArray, List.set_cons_zero, List.set_cons_succ, List.nil_append, List.cons_append]
            refine inv_nil (fun wq nq sq hnq hGq hRq hall => ?_)
            obtain ⟨f0, f1, f2, f3, f4, f5, f6, f7, f8, -⟩ := hall
            obtain rfl : v0 = .pointer (some ⟨wo.heap.size, 1, none⟩) := f0
            obtain rfl : v1 = .int .i64 A := f1
            obtain rfl : v2 = .string s := f2
            obtain rfl : v3 = .int .i64 m := f3
            obtain rfl : v4 = .int .u8 98 := f4
            obtain rfl : v5 = .int .u8 1 := f5
            obtain rfl : v6 = .int .i64 2 := f6
            obtain rfl : v7 = .int .i64 (bits .or .i64 A 2) := f7
            obtain rfl : v8 = .pointer (some ⟨wo.heap.size, 1, none⟩) := f8
            have hBq := Below.via (Grow.below0 hGq.grow) hB
            have KNq := Bk.grow hKn.out hGq.grow (fun h => h)
            have KRq := Bk.grow hK.out hGq.grow (fun h => h)
            clear xn yn fn
            have xn := KNq.cell
            have yn := KNq.lt
            have fn := KNq.free
            have KS := Lib.hid (KNq.same 1 (.int .i64 (bits .or .i64 A 2)))
            have KR := Lib.hid (KRq.far ⟨wo.heap.size, 1, none⟩ (by show wo.heap.size ≠ w.heap.size; omega) (.int .i64 (bits .or .i64 A 2)))
            have hBS := hBq.setCell (p := ⟨wo.heap.size, 1, none⟩) (by show w.heap.size ≤ wo.heap.size; omega) (.int .i64 (bits .or .i64 A 2))
            go_wp2_with fail
            refine ⟨⟨j + 1, hjs, by rw [hmj.out], by rw [hnx.out, ← hbo.out]; exact KS.out, KR.out, hBS⟩, ?_⟩
            simp [intOf]
            omega
          · have hbo := Lib.hid (or_bit A 4 ha32 (by decide))
            have hnx := Lib.hid (show arF s.data.toList n (j + 1) = A ||| 4 by rw [hst.out, hbt.out, if_pos (by omega), hc]; rfl)
            go_wp2_with fail
            have KXr : KeepB (fun _ => True) ∧ KeepB (fun _ => True) := ⟨keepB_true, keepB_true⟩
            refine wp_region_invT 9 (G := fun s n w_ => RgN (fun _ => False) (fun _ => True) wr w_) (R := RgR (fun _ => False) (fun _ => True))
              (Fs := [Is (fun z_ => z_ = .pointer (some ⟨wo.heap.size, 1, none⟩)), Is (fun z_ => z_ = .int .i64 A), Is (fun z_ => z_ = .string s), Is (fun z_ => z_ = .int .i64 m), Is (fun z_ => z_ = .int .u8 99), Is (fun z_ => z_ = .int .u8 2), Is (fun z_ => z_ = .int .i64 4), Is (fun z_ => z_ = .int .i64 (bits .or .i64 A 4)), Is (fun z_ => z_ = .pointer (some ⟨wo.heap.size, 1, none⟩))])
              (by kernel_rfl) (by kernel_rfl) (fun _ => RgR.refl _) (fun h k => h.trans k) ?_ (fun _ _ => ⟨(Grow.refl _ _).drew, trivial⟩) ?_
            · (repeat' (first | exact lasts_nil | refine lasts_cons ?_ ?_))
              all_goals (first | exact Lasts.is | exact Lasts.any)
            show wpInv _ _ _ _ _ _ _ [_, _, _, _, _, _, _, _, _] _ _ _
            refine inv_cons 0 (by rfl) (fun wx n_ s_ hn hcl hsi hG hR hd => ?_) (fun v0 => ?_)
            · refine inv_want (by rfl) ?_
              have HG := Lib.hid hG
              clear hG hR hcl hsi hn
              unfold invAt invUpon; go_simp
              exact post_upN (F := Is (fun z_ => z_ = .pointer (some ⟨wo.heap.size, 1, none⟩))) HG.out (is_eq rfl)
            simp only [Act.put, List.setIfInBounds_toArray, List.set_cons_zero, List.set_cons_succ, List.nil_append, List.cons_append]
            refine inv_cons 1 (by rfl) (fun wx n_ s_ hn hcl hsi hG hR hd => ?_) (fun v1 => ?_)
            · have d0 : (Is (fun z_ => z_ = .pointer (some ⟨wo.heap.size, 1, none⟩))) v0 wx := dep_get hd 0 (by rfl)
              obtain rfl := d0
              have xb := (Bk.grow (hKn.out) hG.grow (fun h => h)).cell
              refine inv_want (by rfl) ?_
              have HG := Lib.hid hG
              clear hG hR hcl hsi hn
              unfold invAt invUpon; go_simp
              exact post_upN (F := Is (fun z_ => z_ = .int .i64 A)) HG.out (is_eq rfl)
            simp only [Act.put, List.setIfInBounds_toArray, List.set_cons_zero, List.set_cons_succ, List.nil_append, List.cons_append]
            refine inv_cons 2 (by rfl) (fun wx n_ s_ hn hcl hsi hG hR hd => ?_) (fun v2 => ?_)
            · exact inv_want (by rfl) (inv_move (.tmp 0) rfl (post_upN (F := Is (fun z_ => z_ = .string s)) hG (is_eq rfl)))
            simp only [Act.put, List.setIfInBounds_toArray, List.set_cons_zero, List.set_cons_succ, List.nil_append, List.cons_append]
            refine inv_cons 3 (by rfl) (fun wx n_ s_ hn hcl hsi hG hR hd => ?_) (fun v3 => ?_)
            · exact inv_want (by rfl) (inv_move (.tmp 7) rfl (post_upN (F := Is (fun z_ => z_ = .int .i64 m)) hG (is_eq rfl)))
            simp only [Act.put, List.setIfInBounds_toArray, List.set_cons_zero, List.set_cons_succ, List.nil_append, List.cons_append]
            refine inv_cons 4 (by rfl) (fun wx n_ s_ hn hcl hsi hG hR hd => ?_) (fun v4 => ?_)
            · have d2 : (Is (fun z_ => z_ = .string s)) v2 wx := dep_get hd 2 (by rfl)
              obtain rfl := d2
              have d3 : (Is (fun z_ => z_ = .int .i64 m)) v3 wx := dep_get hd 3 (by rfl)
              obtain rfl := d3
              refine inv_want (by rfl) ?_
              have HG := Lib.hid hG
              clear hG hR hcl hsi hn
              unfold invAt invUpon; go_simp
              exact post_upN (F := Is (fun z_ => z_ = .int .u8 99)) HG.out (is_eq rfl)
            simp only [Act.put, List.setIfInBounds_toArray, List.set_cons_zero, List.set_cons_succ, List.nil_append, List.cons_append]
            refine inv_cons 5 (by rfl) (fun wx n_ s_ hn hcl hsi hG hR hd => ?_) (fun v5 => ?_)
            · have d4 : (Is (fun z_ => z_ = .int .u8 99)) v4 wx := dep_get hd 4 (by rfl)
              obtain rfl := d4
              refine inv_want (by rfl) ?_
              have HG := Lib.hid hG
              clear hG hR hcl hsi hn
              unfold invAt invUpon; go_simp
              exact post_upN (F := Is (fun z_ => z_ = .int .u8 2)) HG.out (is_eq rfl)
            simp only [Act.put, List.setIfInBounds_toArray, List.set_cons_zero, List.set_cons_succ, List.nil_append, List.cons_append]
            refine inv_cons 6 (by rfl) (fun wx n_ s_ hn hcl hsi hG hR hd => ?_) (fun v6 => ?_)
            · have d5 : (Is (fun z_ => z_ = .int .u8 2)) v5 wx := dep_get hd 5 (by rfl)
              obtain rfl := d5
              refine inv_want (by rfl) ?_
              have HG := Lib.hid hG
              clear hG hR hcl hsi hn
              unfold invAt invUpon; go_simp
              exact post_upN (F := Is (fun z_ => z_ = .int .i64 4)) HG.out (is_eq rfl)
            simp only [Act.put, List.setIfInBounds_toArray, List.set_cons_zero, List.set_cons_succ, List.nil_append, List.cons_append]
            refine inv_cons 7 (by rfl) (fun wx n_ s_ hn hcl hsi hG hR hd => ?_) (fun v7 => ?_)
            · have d1 : (Is (fun z_ => z_ = .int .i64 A)) v1 wx := dep_get hd 1 (by rfl)
              obtain rfl := d1
              have d6 : (Is (fun z_ => z_ = .int .i64 4)) v6 wx := dep_get hd 6 (by rfl)
              obtain rfl := d6
              refine inv_want (by rfl) ?_
              have HG := Lib.hid hG
              clear hG hR hcl hsi hn
              unfold invAt invUpon; go_simp
              exact post_upN (F := Is (fun z_ => z_ = .int .i64 (bits .or .i64 A 4))) HG.out (is_eq rfl)
            simp only [Act.put, List.setIfInBounds_toArray, List.set_cons_zero, List.set_cons_succ, List.nil_append, List.cons_append]
            refine inv_cons 8 (by rfl) (fun wx n_ s_ hn hcl hsi hG hR hd => ?_) (fun v8 => ?_)
            · refine inv_want (by rfl) ?_
              have HG := Lib.hid hG
              clear hG hR hcl hsi hn
              unfold invAt invUpon; go_simp
              exact post_upN (F := Is (fun z_ => z_ = .pointer (some ⟨wo.heap.size, 1, none⟩))) HG.out (is_eq rfl)
            simp only [Act.put, List.setIfInBounds_toArray, List.set_cons_zero, List.set_cons_succ, List.nil_append, List.cons_append]
            refine inv_nil (fun wq nq sq hnq hGq hRq hall => ?_)
            obtain ⟨f0, f1, f2, f3, f4, f5, f6, f7, f8, -⟩ := hall
            obtain rfl : v0 = .pointer (some ⟨wo.heap.size, 1, none⟩) := f0
            obtain rfl : v1 = .int .i64 A := f1
            obtain rfl : v2 = .string s := f2
            obtain rfl : v3 = .int .i64 m := f3
            obtain rfl : v4 = .int .u8 99 := f4
            obtain rfl : v5 = .int .u8 2 := f5
            obtain rfl : v6 = .int .i64 4 := f6
            obtain rfl : v7 = .int .i64 (bits .or .i64 A 4) := f7
            obtain rfl : v8 = .pointer (some ⟨wo.heap.size, 1, none⟩) := f8
            have hBq := Below.via (Grow.below0 hGq.grow) hB
            have KNq := Bk.grow hKn.out hGq.grow (fun h => h)
            have KRq := Bk.grow hK.out hGq.grow (fun h => h)
            clear xn yn fn
            have xn := KNq.cell
            have yn := KNq.lt
            have fn := KNq.free
            have KS := Lib.hid (KNq.same 1 (.int .i64 (bits .or .i64 A 4)))
            have KR := Lib.hid (KRq.far ⟨wo.heap.size, 1, none⟩ (by show wo.heap.size ≠ w.heap.size; omega) (.int .i64 (bits .or .i64 A 4)))
            have hBS := hBq.setCell (p := ⟨wo.heap.size, 1, none⟩) (by show w.heap.size ≤ wo.heap.size; omega) (.int .i64 (bits .or .i64 A 4))
            go_wp2_with fail
            refine ⟨⟨j + 1, hjs, by rw [hmj.out], by rw [hnx.out, ← hbo.out]; exact KS.out, KR.out, hBS⟩, ?_⟩
            simp [intOf]
            omega
          · have hbo := Lib.hid (or_bit A 8 ha32 (by decide))
            have hnx := Lib.hid (show arF s.data.toList n (j + 1) = A ||| 8 by rw [hst.out, hbt.out, if_pos (by omega), hc]; rfl)
            go_wp2_with fail
            have KXr : KeepB (fun _ => True) ∧ KeepB (fun _ => True) := ⟨keepB_true, keepB_true⟩
            refine wp_region_invT 9 (G := fun s n w_ => RgN (fun _ => False) (fun _ => True) wr w_) (R := RgR (fun _ => False) (fun _ => True))
              (Fs := [Is (fun z_ => z_ = .pointer (some ⟨wo.heap.size, 1, none⟩)), Is (fun z_ => z_ = .int .i64 A), Is (fun z_ => z_ = .string s), Is (fun z_ => z_ = .int .i64 m), Is (fun z_ => z_ = .int .u8 100), Is (fun z_ => z_ = .int .u8 3), Is (fun z_ => z_ = .int .i64 8), Is (fun z_ => z_ = .int .i64 (bits .or .i64 A 8)), Is (fun z_ => z_ = .pointer (some ⟨wo.heap.size, 1, none⟩))])
              (by kernel_rfl) (by kernel_rfl) (fun _ => RgR.refl _) (fun h k => h.trans k) ?_ (fun _ _ => ⟨(Grow.refl _ _).drew, trivial⟩) ?_
            · (repeat' (first | exact lasts_nil | refine lasts_cons ?_ ?_))
              all_goals (first | exact Lasts.is | exact Lasts.any)
            show wpInv _ _ _ _ _ _ _ [_, _, _, _, _, _, _, _, _] _ _ _
            refine inv_cons 0 (by rfl) (fun wx n_ s_ hn hcl hsi hG hR hd => ?_) (fun v0 => ?_)
            · refine inv_want (by rfl) ?_
              have HG := Lib.hid hG
              clear hG hR hcl hsi hn
              unfold invAt invUpon; go_simp
              exact post_upN (F := Is (fun z_ => z_ = .pointer (some ⟨wo.heap.size, 1, none⟩))) HG.out (is_eq rfl)
            simp only [Act.put, List.setIfInBounds_toArray, List.set_cons_zero, List.set_cons_succ, List.nil_append, List.cons_append]
            refine inv_cons 1 (by rfl) (fun wx n_ s_ hn hcl hsi hG hR hd => ?_) (fun v1 => ?_)
            · have d0 : (Is (fun z_ => z_ = .pointer (some ⟨wo.heap.size, 1, none⟩))) v0 wx := dep_get hd 0 (by rfl)
              obtain rfl := d0
              have xb := (Bk.grow (hKn.out) hG.grow (fun h => h)).cell
              refine inv_want (by rfl) ?_
              have HG := Lib.hid hG
              clear hG hR hcl hsi hn
              unfold invAt invUpon; go_simp
              exact post_upN (F := Is (fun z_ => z_ = .int .i64 A)) HG.out (is_eq rfl)
            simp only [Act.put, List.setIfInBounds_toArray, List.set_cons_zero, List.set_cons_succ, List.nil_append, List.cons_append]
            refine inv_cons 2 (by rfl) (fun wx n_ s_ hn hcl hsi hG hR hd => ?_) (fun v2 => ?_)
            · exact inv_want (by rfl) (inv_move (.tmp 0) rfl (post_upN (F := Is (fun z_ => z_ = .string s)) hG (is_eq rfl)))
            simp only [Act.put, List.setIfInBounds_toArray, List.set_cons_zero, List.set_cons_succ, List.nil_append, List.cons_append]
            refine inv_cons 3 (by rfl) (fun wx n_ s_ hn hcl hsi hG hR hd => ?_) (fun v3 => ?_)
            · exact inv_want (by rfl) (inv_move (.tmp 7) rfl (post_upN (F := Is (fun z_ => z_ = .int .i64 m)) hG (is_eq rfl)))
            simp only [Act.put, List.setIfInBounds_toArray, List.set_cons_zero, List.set_cons_succ, List.nil_append, List.cons_append]
            refine inv_cons 4 (by rfl) (fun wx n_ s_ hn hcl hsi hG hR hd => ?_) (fun v4 => ?_)
            · have d2 : (Is (fun z_ => z_ = .string s)) v2 wx := dep_get hd 2 (by rfl)
              obtain rfl := d2
              have d3 : (Is (fun z_ => z_ = .int .i64 m)) v3 wx := dep_get hd 3 (by rfl)
              obtain rfl := d3
              refine inv_want (by rfl) ?_
              have HG := Lib.hid hG
              clear hG hR hcl hsi hn
              unfold invAt invUpon; go_simp
              exact post_upN (F := Is (fun z_ => z_ = .int .u8 100)) HG.out (is_eq rfl)
            simp only [Act.put, List.setIfInBounds_toArray, List.set_cons_zero, List.set_cons_succ, List.nil_append, List.cons_append]
            refine inv_cons 5 (by rfl) (fun wx n_ s_ hn hcl hsi hG hR hd => ?_) (fun v5 => ?_)
            · have d4 : (Is (fun z_ => z_ = .int .u8 100)) v4 wx := dep_get hd 4 (by rfl)
              obtain rfl := d4
              refine inv_want (by rfl) ?_
              have HG := Lib.hid hG
              clear hG hR hcl hsi hn
              unfold invAt invUpon; go_simp
              exact post_upN (F := Is (fun z_ => z_ = .int .u8 3)) HG.out (is_eq rfl)
            simp only [Act.put, List.setIfInBounds_toArray, List.set_cons_zero, List.set_cons_succ, List.nil_append, List.cons_append]
            refine inv_cons 6 (by rfl) (fun wx n_ s_ hn hcl hsi hG hR hd => ?_) (fun v6 => ?_)
            · have d5 : (Is (fun z_ => z_ = .int .u8 3)) v5 wx := dep_get hd 5 (by rfl)
              obtain rfl := d5
              refine inv_want (by rfl) ?_
              have HG := Lib.hid hG
              clear hG hR hcl hsi hn
              unfold invAt invUpon; go_simp
              exact post_upN (F := Is (fun z_ => z_ = .int .i64 8)) HG.out (is_eq rfl)
            simp only [Act.put, List.setIfInBounds_toArray, List.set_cons_zero, List.set_cons_succ, List.nil_append, List.cons_append]
            refine inv_cons 7 (by rfl) (fun wx n_ s_ hn hcl hsi hG hR hd => ?_) (fun v7 => ?_)
            · have d1 : (Is (fun z_ => z_ = .int .i64 A)) v1 wx := dep_get hd 1 (by rfl)
              obtain rfl := d1
              have d6 : (Is (fun z_ => z_ = .int .i64 8)) v6 wx := dep_get hd 6 (by rfl)
              obtain rfl := d6
              refine inv_want (by rfl) ?_
              have HG := Lib.hid hG
              clear hG hR hcl hsi hn
              unfold invAt invUpon; go_simp
              exact post_upN (F := Is (fun z_ => z_ = .int .i64 (bits .or .i64 A 8))) HG.out (is_eq rfl)
            simp only [Act.put, List.setIfInBounds_toArray, List.set_cons_zero, List.set_cons_succ, List.nil_append, List.cons_append]
            refine inv_cons 8 (by rfl) (fun wx n_ s_ hn hcl hsi hG hR hd => ?_) (fun v8 => ?_)
            · refine inv_want (by rfl) ?_
              have HG := Lib.hid hG
              clear hG hR hcl hsi hn
              unfold invAt invUpon; go_simp
              exact post_upN (F := Is (fun z_ => z_ = .pointer (some ⟨wo.heap.size, 1, none⟩))) HG.out (is_eq rfl)
            simp only [Act.put, List.setIfInBounds_toArray, List.set_cons_zero, List.set_cons_succ, List.nil_append, List.cons_append]
            refine inv_nil (fun wq nq sq hnq hGq hRq hall => ?_)
            obtain ⟨f0, f1, f2, f3, f4, f5, f6, f7, f8, -⟩ := hall
            obtain rfl : v0 = .pointer (some ⟨wo.heap.size, 1, none⟩) := f0
            obtain rfl : v1 = .int .i64 A := f1
            obtain rfl : v2 = .string s := f2
            obtain rfl : v3 = .int .i64 m := f3
            obtain rfl : v4 = .int .u8 100 := f4
            obtain rfl : v5 = .int .u8 3 := f5
            obtain rfl : v6 = .int .i64 8 := f6
            obtain rfl : v7 = .int .i64 (bits .or .i64 A 8) := f7
            obtain rfl : v8 = .pointer (some ⟨wo.heap.size, 1, none⟩) := f8
            have hBq := Below.via (Grow.below0 hGq.grow) hB
            have KNq := Bk.grow hKn.out hGq.grow (fun h => h)
            have KRq := Bk.grow hK.out hGq.grow (fun h => h)
            clear xn yn fn
            have xn := KNq.cell
            have yn := KNq.lt
            have fn := KNq.free
            have KS := Lib.hid (KNq.same 1 (.int .i64 (bits .or .i64 A 8)))
            have KR := Lib.hid (KRq.far ⟨wo.heap.size, 1, none⟩ (by show wo.heap.size ≠ w.heap.size; omega) (.int .i64 (bits .or .i64 A 8)))
            have hBS := hBq.setCell (p := ⟨wo.heap.size, 1, none⟩) (by show w.heap.size ≤ wo.heap.size; omega) (.int .i64 (bits .or .i64 A 8))
            go_wp2_with fail
            refine ⟨⟨j + 1, hjs, by rw [hmj.out], by rw [hnx.out, ← hbo.out]; exact KS.out, KR.out, hBS⟩, ?_⟩
            simp [intOf]
            omega
          · have hbo := Lib.hid (or_bit A 16 ha32 (by decide))
            have hnx := Lib.hid (show arF s.data.toList n (j + 1) = A ||| 16 by rw [hst.out, hbt.out, if_pos (by omega), hc]; rfl)
            go_wp2_with fail
            have KXr : KeepB (fun _ => True) ∧ KeepB (fun _ => True) := ⟨keepB_true, keepB_true⟩
            refine wp_region_invT 9 (G := fun s n w_ => RgN (fun _ => False) (fun _ => True) wr w_) (R := RgR (fun _ => False) (fun _ => True))
              (Fs := [Is (fun z_ => z_ = .pointer (some ⟨wo.heap.size, 1, none⟩)), Is (fun z_ => z_ = .int .i64 A), Is (fun z_ => z_ = .string s), Is (fun z_ => z_ = .int .i64 m), Is (fun z_ => z_ = .int .u8 101), Is (fun z_ => z_ = .int .u8 4), Is (fun z_ => z_ = .int .i64 16), Is (fun z_ => z_ = .int .i64 (bits .or .i64 A 16)), Is (fun z_ => z_ = .pointer (some ⟨wo.heap.size, 1, none⟩))])
              (by kernel_rfl) (by kernel_rfl) (fun _ => RgR.refl _) (fun h k => h.trans k) ?_ (fun _ _ => ⟨(Grow.refl _ _).drew, trivial⟩) ?_
            · (repeat' (first | exact lasts_nil | refine lasts_cons ?_ ?_))
              all_goals (first | exact Lasts.is | exact Lasts.any)
            show wpInv _ _ _ _ _ _ _ [_, _, _, _, _, _, _, _, _] _ _ _
            refine inv_cons 0 (by rfl) (fun wx n_ s_ hn hcl hsi hG hR hd => ?_) (fun v0 => ?_)
            · refine inv_want (by rfl) ?_
              have HG := Lib.hid hG
              clear hG hR hcl hsi hn
              unfold invAt invUpon; go_simp
              exact post_upN (F := Is (fun z_ => z_ = .pointer (some ⟨wo.heap.size, 1, none⟩))) HG.out (is_eq rfl)
            simp only [Act.put, List.setIfInBounds_toArray, List.set_cons_zero, List.set_cons_succ, List.nil_append, List.cons_append]
            refine inv_cons 1 (by rfl) (fun wx n_ s_ hn hcl hsi hG hR hd => ?_) (fun v1 => ?_)
            · have d0 : (Is (fun z_ => z_ = .pointer (some ⟨wo.heap.size, 1, none⟩))) v0 wx := dep_get hd 0 (by rfl)
              obtain rfl := d0
              have xb := (Bk.grow (hKn.out) hG.grow (fun h => h)).cell
              refine inv_want (by rfl) ?_
              have HG := Lib.hid hG
              clear hG hR hcl hsi hn
              unfold invAt invUpon; go_simp
              exact post_upN (F := Is (fun z_ => z_ = .int .i64 A)) HG.out (is_eq rfl)
            simp only [Act.put, List.setIfInBounds_toArray, List.set_cons_zero, List.set_cons_succ, List.nil_append, List.cons_append]
            refine inv_cons 2 (by rfl) (fun wx n_ s_ hn hcl hsi hG hR hd => ?_) (fun v2 => ?_)
            · exact inv_want (by rfl) (inv_move (.tmp 0) rfl (post_upN (F := Is (fun z_ => z_ = .string s)) hG (is_eq rfl)))
            simp only [Act.put, List.setIfInBounds_toArray, List.set_cons_zero, List.set_cons_succ, List.nil_append, List.cons_append]
            refine inv_cons 3 (by rfl) (fun wx n_ s_ hn hcl hsi hG hR hd => ?_) (fun v3 => ?_)
            · exact inv_want (by rfl) (inv_move (.tmp 7) rfl (post_upN (F := Is (fun z_ => z_ = .int .i64 m)) hG (is_eq rfl)))
            simp only [Act.put, List.setIfInBounds_toArray, List.set_cons_zero, List.set_cons_succ, List.nil_append, List.cons_append]
            refine inv_cons 4 (by rfl) (fun wx n_ s_ hn hcl hsi hG hR hd => ?_) (fun v4 => ?_)
            · have d2 : (Is (fun z_ => z_ = .string s)) v2 wx := dep_get hd 2 (by rfl)
              obtain rfl := d2
              have d3 : (Is (fun z_ => z_ = .int .i64 m)) v3 wx := dep_get hd 3 (by rfl)
              obtain rfl := d3
              refine inv_want (by rfl) ?_
              have HG := Lib.hid hG
              clear hG hR hcl hsi hn
              unfold invAt invUpon; go_simp
              exact post_upN (F := Is (fun z_ => z_ = .int .u8 101)) HG.out (is_eq rfl)
            simp only [Act.put, List.setIfInBounds_toArray, List.set_cons_zero, List.set_cons_succ, List.nil_append, List.cons_append]
            refine inv_cons 5 (by rfl) (fun wx n_ s_ hn hcl hsi hG hR hd => ?_) (fun v5 => ?_)
            · have d4 : (Is (fun z_ => z_ = .int .u8 101)) v4 wx := dep_get hd 4 (by rfl)
              obtain rfl := d4
              refine inv_want (by rfl) ?_
              have HG := Lib.hid hG
              clear hG hR hcl hsi hn
              unfold invAt invUpon; go_simp
              exact post_upN (F := Is (fun z_ => z_ = .int .u8 4)) HG.out (is_eq rfl)
            simp only [Act.put, List.setIfInBounds_toArray, List.set_cons_zero, List.set_cons_succ, List.nil_append, List.cons_append]
            refine inv_cons 6 (by rfl) (fun wx n_ s_ hn hcl hsi hG hR hd => ?_) (fun v6 => ?_)
            · have d5 : (Is (fun z_ => z_ = .int .u8 4)) v5 wx := dep_get hd 5 (by rfl)
              obtain rfl := d5
              refine inv_want (by rfl) ?_
              have HG := Lib.hid hG
              clear hG hR hcl hsi hn
              unfold invAt invUpon; go_simp
              exact post_upN (F := Is (fun z_ => z_ = .int .i64 16)) HG.out (is_eq rfl)
            simp only [Act.put, List.setIfInBounds_toArray, List.set_cons_zero, List.set_cons_succ, List.nil_append, List.cons_append]
            refine inv_cons 7 (by rfl) (fun wx n_ s_ hn hcl hsi hG hR hd => ?_) (fun v7 => ?_)
            · have d1 : (Is (fun z_ => z_ = .int .i64 A)) v1 wx := dep_get hd 1 (by rfl)
              obtain rfl := d1
              have d6 : (Is (fun z_ => z_ = .int .i64 16)) v6 wx := dep_get hd 6 (by rfl)
              obtain rfl := d6
              refine inv_want (by rfl) ?_
              have HG := Lib.hid hG
              clear hG hR hcl hsi hn
              unfold invAt invUpon; go_simp
              exact post_upN (F := Is (fun z_ => z_ = .int .i64 (bits .or .i64 A 16))) HG.out (is_eq rfl)
            simp only [Act.put, List.setIfInBounds_toArray, List.set_cons_zero, List.set_cons_succ, List.nil_append, List.cons_append]
            refine inv_cons 8 (by rfl) (fun wx n_ s_ hn hcl hsi hG hR hd => ?_) (fun v8 => ?_)
            · refine inv_want (by rfl) ?_
              have HG := Lib.hid hG
              clear hG hR hcl hsi hn
              unfold invAt invUpon; go_simp
              exact post_upN (F := Is (fun z_ => z_ = .pointer (some ⟨wo.heap.size, 1, none⟩))) HG.out (is_eq rfl)
            simp only [Act.put, List.setIfInBounds_toArray, List.set_cons_zero, List.set_cons_succ, List.nil_append, List.cons_append]
            refine inv_nil (fun wq nq sq hnq hGq hRq hall => ?_)
            obtain ⟨f0, f1, f2, f3, f4, f5, f6, f7, f8, -⟩ := hall
            obtain rfl : v0 = .pointer (some ⟨wo.heap.size, 1, none⟩) := f0
            obtain rfl : v1 = .int .i64 A := f1
            obtain rfl : v2 = .string s := f2
            obtain rfl : v3 = .int .i64 m := f3
            obtain rfl : v4 = .int .u8 101 := f4
            obtain rfl : v5 = .int .u8 4 := f5
            obtain rfl : v6 = .int .i64 16 := f6
            obtain rfl : v7 = .int .i64 (bits .or .i64 A 16) := f7
            obtain rfl : v8 = .pointer (some ⟨wo.heap.size, 1, none⟩) := f8
            have hBq := Below.via (Grow.below0 hGq.grow) hB
            have KNq := Bk.grow hKn.out hGq.grow (fun h => h)
            have KRq := Bk.grow hK.out hGq.grow (fun h => h)
            clear xn yn fn
            have xn := KNq.cell
            have yn := KNq.lt
            have fn := KNq.free
            have KS := Lib.hid (KNq.same 1 (.int .i64 (bits .or .i64 A 16)))
            have KR := Lib.hid (KRq.far ⟨wo.heap.size, 1, none⟩ (by show wo.heap.size ≠ w.heap.size; omega) (.int .i64 (bits .or .i64 A 16)))
            have hBS := hBq.setCell (p := ⟨wo.heap.size, 1, none⟩) (by show w.heap.size ≤ wo.heap.size; omega) (.int .i64 (bits .or .i64 A 16))
            go_wp2_with fail
            refine ⟨⟨j + 1, hjs, by rw [hmj.out], by rw [hnx.out, ← hbo.out]; exact KS.out, KR.out, hBS⟩, ?_⟩
            simp [intOf]
            omega
        · have hjl2 : ¬ ((n + 1 + 2 * j : Nat) : Int) < (s.size : Int) := by omega
          have hfin := arF_end s.data.toList n j (by rw [list_len]; omega) (by rw [list_len]; omega)
          rw [hfin] at hKn xn ha32
          have HIL := Lib.hid (fun a (h : IsLab s.data.toList k a) => (show a = arE s.data.toList n by rw [← HNN.out]; exact (isLab_areas h).symm))
          have hm6 : n + 1 + 2 * j ≤ 8388616 := by omega
          clear hfin
          generalize arE s.data.toList n = A at hKn xn ha32 HIL
          have HA := Lib.hid (labS_eq k A hlt ha32 s)
          have CA := fun wx => specLabelText_any k A wx
          generalize labS (k : Int) (A : Int) = t at HA CA
          generalize n + 1 + 2 * j = m at hjl hjl2 hm6
          go_wp2_with fail
          refine (CA _).mono ?_
          rintro e w4 ⟨rfl, b4⟩
          have kn4 := hKn.out.below b4
          have K4 := hK.out.below b4
          have hB4 := Below.via b4 hB
          clear xn yn fn hKn hK CA b4 hB
          have xn := kn4.cell
          have yn := kn4.lt
          by_cases he : t = s
          · have HL := Lib.hid (HA.out.1 he)
            have hbe : (t.toList == s.toList) = true := by rw [he]; exact str_yes s
            have fr := K4.free
            have yr := K4.lt
            have xr := K4.cell
            have kr := ((K4.same 0 (.int .i64 k)).same 1 (.int .i64 A)).cell
            clear he HA
            go_wp2_with fail
            (try simp only [Exit.inBlock, Exit.then]); refine bodyPost_ret (by simp [results, Tryd.results10, go_sem, kr]; try rfl) rfl ?_
            refine ⟨.inl ⟨k, A, HL.out, rfl⟩, ?_⟩
            (repeat' first | (with_reducible exact Below.refl _ _) | (with_reducible refine Below.rd (by assumption) ?_ ?_) | (with_reducible refine Below.via (by assumption) ?_) | (with_reducible refine Below.al ?_ _) | (with_reducible refine Below.dn ?_ _) | (with_reducible refine Below.dr ?_) | (with_reducible refine Below.setCell ?_ ?_ _) | (dsimp only; omega) | (simp only [World.size_alloc, World.size_drew]; omega) | (simp; done) | omega)
          · have HL := Lib.hid (fun h => he (HA.out.2 h))
            have hbe : (t.toList == s.toList) = false := str_no he
            clear he HA
            go_wp2_with fail
            go_roundw
            case rel => exact ⟨k + 1, by omega, by go_num, fun l hl a hla => by
              rcases Nat.lt_or_ge l k with h | h
              · exact hno.out l h a hla
              · obtain rfl : l = k := by omega
                have e := HIL.out a hla
                subst e
                exact HL.out hla, K4, hB4⟩
            case measure => simp [intOf]; omega
    · have hlt2 : ¬ (k : Int) ≤ 3 := by omega
      have x0 := hK.out.cell
      have f0 := hK.out.free
      have y0 := hK.out.lt
      have kr := ((hK.out.same 0 (.int .i64 0)).same 1 (.int .i64 0)).cell
      go_wp2_with fail
      (try simp only [Exit.inBlock, Exit.then]); refine bodyPost_ret (by simp [results, Tryd.results10, go_sem, kr]; try rfl) rfl ?_
      refine ⟨.inr ⟨noLab_all fun l hl => hno.out l (by omega), rfl⟩, ?_⟩
      (repeat' first | (with_reducible exact Below.refl _ _) | (with_reducible refine Below.rd (by assumption) ?_ ?_) | (with_reducible refine Below.via (by assumption) ?_) | (with_reducible refine Below.al ?_ _) | (with_reducible refine Below.dn ?_ _) | (with_reducible refine Below.dr ?_) | (with_reducible refine Below.setCell ?_ ?_ _) | (dsimp only; omega) | (simp only [World.size_alloc, World.size_drew]; omega) | (simp; done) | omega)
end Go.Proofs.YtaefobabippnhaaDoor
