/-
  Tuples are read: the reference's way (printed by wip/tools/mkTxs.py). No condition.
-/
import Derived.Test.YtgfcikckomhbeaaDoorTxr
import Derived.Test.YtgfcikckomhbeaaDoorTxq
import Derived.Test.YtgfcikckomhbeaaDoorUb
set_option linter.unusedSimpArgs false
set_option linter.unusedVariables false
namespace Go.Proofs.YtgfcikckomhbeaaDoor
open Go.RowKit
theorem extract_size (s : ByteArray) (a b : Nat) : (s.extract a b).size ≤ s.size := by
  rw [ByteArray.size_extract]
  omega
set_option maxRecDepth 100000 in
set_option maxHeartbeats 1600000 in
theorem specReadTuple_any (s : ByteArray) (w : World) (hs : s.size ≤ 4194304) : Calls Tryd.prog 15 #[.string s] w fun e w' => RdT s e ∧ Below w.heap.size w w' := by
  have hB0 := Below.al (Below.refl w.heap.size w) (.cells #[.int .i64 0, .string ⟨#[]⟩, .int .i64 0, .string ⟨#[]⟩] 26)
  have k0 := Lib.hid (Bk.new (w := w) (vs := #[.int .i64 0, .string ⟨#[]⟩, .int .i64 0, .string ⟨#[]⟩]) (t := 26))
  go_enter Tryd.func15, Tryd.ntmps15
  go_wp2_with fail
  obtain ⟨w0, hw0⟩ : ∃ w0, w0 = w.alloc (.cells #[.int .i64 0, .string ⟨#[]⟩, .int .i64 0, .string ⟨#[]⟩] 26) := ⟨_, rfl⟩
  rw [← hw0] at hB0 k0
  have HW0 := Lib.hid hw0
  go_loopw [4] (fun i wr => ∃ k : Nat, k ≤ s.size ∧ i = .int .i64 k ∧ Hid (∀ j, j < k → s.data.toList[j]? ≠ some 64) ∧ wr = w0) (fun i _ => s.size - (intOf i).toNat)
  case atStart => exact ⟨0, Nat.zero_le _, rfl, (by intro j hj; omega), hw0.symm⟩
  case round =>
    clear hw0
    obtain ⟨k, hk, rfl, hno, rfl⟩ := hrel
    by_cases hgo : ∃ h : k < s.size, (s[k]'h).toNat ≠ 64
    · obtain ⟨hkl, hc⟩ := hgo
      have hkl2 : (k : Int) < (s.size : Int) := by omega
      have hc1 : ((((s[k]'hkl).toNat : Nat) : Int) == 64) = false := by rw [beq_eq_false_iff_ne]; omega
      have hc2 : ((((s[k]'hkl).toNat : Nat) : Int) != 64) = true := by rw [bne, hc1]; rfl
      have HN := Lib.hid (show ∀ j, j < k + 1 → s.data.toList[j]? ≠ some 64 from fun j hj => by
        rcases Nat.lt_or_ge j k with h | h
        · exact hno.out j h
        · obtain rfl : j = k := by omega
          rw [get_list s j hkl]
          intro e
          injection e with e
          rw [e] at hc
          exact hc (by decide))
      clear hc
      go_wp2_with fail
      go_roundw
      case rel => exact ⟨k + 1, by omega, by go_num, HN, trivial⟩
      case measure => simp [intOf]; omega
    · have hat : k = s.size ∨ s.data.toList[k]? = some 64 := by
        rcases Nat.lt_or_ge k s.size with h | h
        · right
          rw [get_list s k h]
          have : (s[k]'h).toNat = 64 := Decidable.byContradiction fun hh => hgo ⟨h, hh⟩
          rw [show s[k]'h = 64 from UInt8.toNat_inj.1 this]
        · left
          omega
      have HU := Lib.hid (fun u (h : IsTup s.data.toList u) => spec_tup h k hno.out hat)
      have hend : (decide ((k : Int) < (s.size : Int)) && (if h : k < s.size then decide ((s[k]'h).toNat ≠ 64) else false)) = false := by
        rcases Nat.lt_or_ge k s.size with h | h
        · have : (s[k]'h).toNat = 64 := Decidable.byContradiction fun hh => hgo ⟨h, hh⟩
          simp [h, this]
        · simp [Nat.not_lt.2 h]
      have hx0 := k0.out.cell
      have hf0 := k0.out.free
      have hl0 := k0.out.lt
      have xz := (Bk.four (a := .int .i64 0) (b := .string ⟨#[]⟩) (c := .int .i64 0) (d := .string ⟨#[]⟩) k0.out).cell
      by_cases h4 : 4 ≤ k ∧ k + 3 ≤ s.size
      · obtain ⟨hk4, hk3⟩ := h4
        have hkl : k < s.size := by omega
        have h64 : (s[k]'hkl).toNat = 64 := Decidable.byContradiction fun hh => hgo ⟨hkl, hh⟩
        have h1s : 1 < s.size := by omega
        have h2s : k + 2 < s.size := by omega
        have kl : (k : Int) < (s.size : Int) := by omega
        have kn4 : ¬ (k : Int) < 4 := by omega
        have kn3 : ¬ (s.size : Int) < (k : Int) + 3 := by omega
        have i1 : (1 : Int) < (s.size : Int) := by omega
        have i2 : (k : Int) + 2 < (s.size : Int) := by omega
        have HU2 := Lib.hid (show ∀ u, IsTup s.data.toList u → ((s[1]'h1s).toNat : Int) - 48 = u.f0 ∧ s.extract 3 k = u.f1 ∧ ((s[k + 2]'h2s).toNat : Int) - 48 = u.f2 ∧ (if k + 4 < s.size then s.extract (k + 4) s.size else ⟨#[]⟩) = u.f3 from fun u hu => by
          obtain ⟨_, _, _, hh⟩ := HU.out u hu
          exact hh)
        have b1 : (s[1]'h1s).toNat < 256 := (s[1]'h1s).toNat_lt
        have b2 : (s[k + 2]'h2s).toNat < 256 := (s[k + 2]'h2s).toNat_lt
        have wr1 : IntKind.i64.wrap ((s[1]'h1s).toNat : Int) = ((s[1]'h1s).toNat : Int) := IntWalk.i64_in _ (by omega)
        have wr2 : IntKind.i64.wrap (((s[1]'h1s).toNat : Int) - 48) = ((s[1]'h1s).toNat : Int) - 48 := IntWalk.i64_in _ (by omega)
        have wr3 : IntKind.i64.wrap ((s[k + 2]'h2s).toNat : Int) = ((s[k + 2]'h2s).toNat : Int) := IntWalk.i64_in _ (by omega)
        have wr4 : IntKind.i64.wrap (((s[k + 2]'h2s).toNat : Int) - 48) = ((s[k + 2]'h2s).toNat : Int) - 48 := IntWalk.i64_in _ (by omega)
        have wr5 : IntKind.i64.wrap ((k : Int) + 2) = (k : Int) + 2 := IntWalk.i64_in _ (by omega)
        have k3 : (3 : Int) ≤ (k : Int) := by omega
        have z1 := extract_size s 3 k
        have z2 := extract_size s (k + 4) s.size
        clear HU hend hgo hat
        go_wp2_with fail
        have KXr : KeepB (fun _ => True) ∧ KeepB (fun _ => True) := ⟨keepB_true, keepB_true⟩
        refine wp_region_invT 15 (G := fun s n w_ => RgN (fun _ => False) (fun _ => True) wr w_) (R := RgR (fun _ => False) (fun _ => True))
          (Fs := [Is (fun z_ => z_ = .string s), Is (fun z_ => z_ = .int .u8 ((s[1]'h1s).toNat : Int)), Is (fun z_ => z_ = .int .i64 ((s[1]'h1s).toNat : Int)), Is (fun z_ => z_ = .int .i64 (((s[1]'h1s).toNat : Int) - 48)), Is (fun z_ => z_ = .string s), Is (fun z_ => z_ = .int .i64 k), Is (fun z_ => z_ = .string (s.extract 3 k)), Is (fun z_ => z_ = .string s), Is (fun z_ => z_ = .int .i64 k), Is (fun z_ => z_ = .int .i64 ((k : Int) + 2)), Is (fun z_ => z_ = .int .u8 ((s[k + 2]'h2s).toNat : Int)), Is (fun z_ => z_ = .int .i64 ((s[k + 2]'h2s).toNat : Int)), Is (fun z_ => z_ = .int .i64 (((s[k + 2]'h2s).toNat : Int) - 48)), Is (fun z_ => z_ = .agg #[.int .i64 (((s[1]'h1s).toNat : Int) - 48), .string (s.extract 3 k), .int .i64 (((s[k + 2]'h2s).toNat : Int) - 48), .string ⟨#[]⟩]), IsBox (wr.heap.size) 4 26])
          (by kernel_rfl) (by kernel_rfl) (fun _ => RgR.refl _) (fun h k => h.trans k) ?_ (fun _ _ => ⟨(Grow.refl _ _).drew, trivial⟩) ?_
        · (repeat' (first | exact lasts_nil | refine lasts_cons ?_ ?_))
          all_goals (first | exact Lasts.is | exact Lasts.any | exact Lasts.box (fun i hi => by cases hi))
        show wpInv _ _ _ _ _ _ _ [_, _, _, _, _, _, _, _, _, _, _, _, _, _, _] _ _ _
        refine inv_cons 0 (by rfl) (fun wx n_ s_ hn hcl hsi hG hR hd => ?_) (fun v0 => ?_)
        · exact inv_want (by rfl) (inv_move (.tmp 0) rfl (post_upN (F := Is (fun z_ => z_ = .string s)) hG (is_eq rfl)))
        simp only [Act.put, List.setIfInBounds_toArray, List.set_cons_zero, List.set_cons_succ, List.nil_append, List.cons_append]
        refine inv_cons 1 (by rfl) (fun wx n_ s_ hn hcl hsi hG hR hd => ?_) (fun v1 => ?_)
        · have d0 : (Is (fun z_ => z_ = .string s)) v0 wx := dep_get hd 0 (by rfl)
          obtain rfl := d0
          refine inv_want (by rfl) ?_
          have HG := Lib.hid hG
          clear hG hR hcl hsi hn
          unfold invAt invUpon; go_simp
          exact post_upN (F := Is (fun z_ => z_ = .int .u8 ((s[1]'h1s).toNat : Int))) HG.out (is_eq rfl)
        simp only [Act.put, List.setIfInBounds_toArray, List.set_cons_zero, List.set_cons_succ, List.nil_append, List.cons_append]
        refine inv_cons 2 (by rfl) (fun wx n_ s_ hn hcl hsi hG hR hd => ?_) (fun v2 => ?_)
        · have d1 : (Is (fun z_ => z_ = .int .u8 ((s[1]'h1s).toNat : Int))) v1 wx := dep_get hd 1 (by rfl)
          obtain rfl := d1
          refine inv_want (by rfl) ?_
          have HG := Lib.hid hG
          clear hG hR hcl hsi hn
          unfold invAt invUpon; go_simp
          exact post_upN (F := Is (fun z_ => z_ = .int .i64 ((s[1]'h1s).toNat : Int))) HG.out (is_eq rfl)
        simp only [Act.put, List.setIfInBounds_toArray, List.set_cons_zero, List.set_cons_succ, List.nil_append, List.cons_append]
        refine inv_cons 3 (by rfl) (fun wx n_ s_ hn hcl hsi hG hR hd => ?_) (fun v3 => ?_)
        · have d2 : (Is (fun z_ => z_ = .int .i64 ((s[1]'h1s).toNat : Int))) v2 wx := dep_get hd 2 (by rfl)
          obtain rfl := d2
          refine inv_want (by rfl) ?_
          have HG := Lib.hid hG
          clear hG hR hcl hsi hn
          unfold invAt invUpon; go_simp
          exact post_upN (F := Is (fun z_ => z_ = .int .i64 (((s[1]'h1s).toNat : Int) - 48))) HG.out (is_eq rfl)
        simp only [Act.put, List.setIfInBounds_toArray, List.set_cons_zero, List.set_cons_succ, List.nil_append, List.cons_append]
        refine inv_cons 4 (by rfl) (fun wx n_ s_ hn hcl hsi hG hR hd => ?_) (fun v4 => ?_)
        · exact inv_want (by rfl) (inv_move (.tmp 0) rfl (post_upN (F := Is (fun z_ => z_ = .string s)) hG (is_eq rfl)))
        simp only [Act.put, List.setIfInBounds_toArray, List.set_cons_zero, List.set_cons_succ, List.nil_append, List.cons_append]
        refine inv_cons 5 (by rfl) (fun wx n_ s_ hn hcl hsi hG hR hd => ?_) (fun v5 => ?_)
        · exact inv_want (by rfl) (inv_move (.tmp 4) rfl (post_upN (F := Is (fun z_ => z_ = .int .i64 k)) hG (is_eq rfl)))
        simp only [Act.put, List.setIfInBounds_toArray, List.set_cons_zero, List.set_cons_succ, List.nil_append, List.cons_append]
        refine inv_cons 6 (by rfl) (fun wx n_ s_ hn hcl hsi hG hR hd => ?_) (fun v6 => ?_)
        · have d4 : (Is (fun z_ => z_ = .string s)) v4 wx := dep_get hd 4 (by rfl)
          obtain rfl := d4
          have d5 : (Is (fun z_ => z_ = .int .i64 k)) v5 wx := dep_get hd 5 (by rfl)
          obtain rfl := d5
          refine inv_want (by rfl) ?_
          have HG := Lib.hid hG
          clear hG hR hcl hsi hn
          unfold invAt invUpon; go_simp
          exact post_upN (F := Is (fun z_ => z_ = .string (s.extract 3 k))) HG.out (is_eq rfl)
        simp only [Act.put, List.setIfInBounds_toArray, List.set_cons_zero, List.set_cons_succ, List.nil_append, List.cons_append]
        refine inv_cons 7 (by rfl) (fun wx n_ s_ hn hcl hsi hG hR hd => ?_) (fun v7 => ?_)
        · exact inv_want (by rfl) (inv_move (.tmp 0) rfl (post_upN (F := Is (fun z_ => z_ = .string s)) hG (is_eq rfl)))
        simp only [Act.put, List.setIfInBounds_toArray, List.set_cons_zero, List.set_cons_succ, List.nil_append, List.cons_append]
        refine inv_cons 8 (by rfl) (fun wx n_ s_ hn hcl hsi hG hR hd => ?_) (fun v8 => ?_)
        · exact inv_want (by rfl) (inv_move (.tmp 4) rfl (post_upN (F := Is (fun z_ => z_ = .int .i64 k)) hG (is_eq rfl)))
        simp only [Act.put, List.setIfInBounds_toArray, List.set_cons_zero, List.set_cons_succ, List.nil_append, List.cons_append]
        refine inv_cons 9 (by rfl) (fun wx n_ s_ hn hcl hsi hG hR hd => ?_) (fun v9 => ?_)
        · have d8 : (Is (fun z_ => z_ = .int .i64 k)) v8 wx := dep_get hd 8 (by rfl)
          obtain rfl := d8
          refine inv_want (by rfl) ?_
          have HG := Lib.hid hG
          clear hG hR hcl hsi hn
          unfold invAt invUpon; go_simp
          exact post_upN (F := Is (fun z_ => z_ = .int .i64 ((k : Int) + 2))) HG.out (is_eq rfl)
        simp only [Act.put, List.setIfInBounds_toArray, List.set_cons_zero, List.set_cons_succ, List.nil_append, List.cons_append]
        refine inv_cons 10 (by rfl) (fun wx n_ s_ hn hcl hsi hG hR hd => ?_) (fun v10 => ?_)
        · have d7 : (Is (fun z_ => z_ = .string s)) v7 wx := dep_get hd 7 (by rfl)
          obtain rfl := d7
          have d9 : (Is (fun z_ => z_ = .int .i64 ((k : Int) + 2))) v9 wx := dep_get hd 9 (by rfl)
          obtain rfl := d9
          refine inv_want (by rfl) ?_
          have HG := Lib.hid hG
          clear hG hR hcl hsi hn
          unfold invAt invUpon; go_simp
          exact post_upN (F := Is (fun z_ => z_ = .int .u8 ((s[k + 2]'h2s).toNat : Int))) HG.out (is_eq rfl)
        simp only [Act.put, List.setIfInBounds_toArray, List.set_cons_zero, List.set_cons_succ, List.nil_append, List.cons_append]
        refine inv_cons 11 (by rfl) (fun wx n_ s_ hn hcl hsi hG hR hd => ?_) (fun v11 => ?_)
        · have d10 : (Is (fun z_ => z_ = .int .u8 ((s[k + 2]'h2s).toNat : Int))) v10 wx := dep_get hd 10 (by rfl)
          obtain rfl := d10
          refine inv_want (by rfl) ?_
          have HG := Lib.hid hG
          clear hG hR hcl hsi hn
          unfold invAt invUpon; go_simp
          exact post_upN (F := Is (fun z_ => z_ = .int .i64 ((s[k + 2]'h2s).toNat : Int))) HG.out (is_eq rfl)
        simp only [Act.put, List.setIfInBounds_toArray, List.set_cons_zero, List.set_cons_succ, List.nil_append, List.cons_append]
        refine inv_cons 12 (by rfl) (fun wx n_ s_ hn hcl hsi hG hR hd => ?_) (fun v12 => ?_)
        · have d11 : (Is (fun z_ => z_ = .int .i64 ((s[k + 2]'h2s).toNat : Int))) v11 wx := dep_get hd 11 (by rfl)
          obtain rfl := d11
          refine inv_want (by rfl) ?_
          have HG := Lib.hid hG
          clear hG hR hcl hsi hn
          unfold invAt invUpon; go_simp
          exact post_upN (F := Is (fun z_ => z_ = .int .i64 (((s[k + 2]'h2s).toNat : Int) - 48))) HG.out (is_eq rfl)
        simp only [Act.put, List.setIfInBounds_toArray, List.set_cons_zero, List.set_cons_succ, List.nil_append, List.cons_append]
        refine inv_cons 13 (by rfl) (fun wx n_ s_ hn hcl hsi hG hR hd => ?_) (fun v13 => ?_)
        · have d3 : (Is (fun z_ => z_ = .int .i64 (((s[1]'h1s).toNat : Int) - 48))) v3 wx := dep_get hd 3 (by rfl)
          obtain rfl := d3
          have d6 : (Is (fun z_ => z_ = .string (s.extract 3 k))) v6 wx := dep_get hd 6 (by rfl)
          obtain rfl := d6
          have d12 : (Is (fun z_ => z_ = .int .i64 (((s[k + 2]'h2s).toNat : Int) - 48))) v12 wx := dep_get hd 12 (by rfl)
          obtain rfl := d12
          refine inv_want (by rfl) ?_
          have HG := Lib.hid hG
          clear hG hR hcl hsi hn
          unfold invAt invUpon; go_simp
          exact post_upN (F := Is (fun z_ => z_ = .agg #[.int .i64 (((s[1]'h1s).toNat : Int) - 48), .string (s.extract 3 k), .int .i64 (((s[k + 2]'h2s).toNat : Int) - 48), .string ⟨#[]⟩])) HG.out (is_eq rfl)
        simp only [Act.put, List.setIfInBounds_toArray, List.set_cons_zero, List.set_cons_succ, List.nil_append, List.cons_append]
        refine inv_cons 14 (by rfl) (fun wx n_ s_ hn hcl hsi hG hR hd => ?_) (fun v14 => ?_)
        · refine inv_want (by rfl) ?_
          have HG := Lib.hid hG
          clear hG hR hcl hsi hn
          unfold invAt invUpon; go_simp
          exact post_newN (F := IsBox (wr.heap.size) 4 26) KXr HG.out (below_al _ _) ⟨_, _, rfl, by have := HG.out.grow.size; (try simp only [World.size_alloc, World.size_drew] at this); omega, rfl, Bk.new⟩
        simp only [Act.put, List.setIfInBounds_toArray, List.set_cons_zero, List.set_cons_succ, List.nil_append, List.cons_append]
        refine inv_nil (fun wq nq sq hnq hGq hRq hall => ?_)
        obtain ⟨f0, f1, f2, f3, f4, f5, f6, f7, f8, f9, f10, f11, f12, f13, f14, -⟩ := hall
        obtain ⟨m0, hm0⟩ : ∃ m0 : Int, m0 = ((s[1]'h1s).toNat : Int) - 48 := ⟨_, rfl⟩
        obtain ⟨m2, hm2⟩ : ∃ m2 : Int, m2 = ((s[k + 2]'h2s).toNat : Int) - 48 := ⟨_, rfl⟩
        obtain ⟨nm, hnm⟩ : ∃ nm, nm = s.extract 3 k := ⟨_, rfl⟩
        rw [← hnm] at z1
        rw [← hm0, ← hm2, ← hnm] at f13
        obtain ⟨g5, vs5, hv5, hl5, hs5, hb5⟩ := f14
        obtain ⟨y0, y1, y2, y3, rfl⟩ := arr4 hs5
        obtain rfl : v13 = .agg #[.int .i64 m0, .string nm, .int .i64 m2, .string ⟨#[]⟩] := f13
        subst hv5
        have kr3 := Bk.grow k0.out hGq.grow (fun h => h)
        have hBq := Below.via (Grow.below0 hGq.grow) hB0
        have hzw := k0.out.lt
        have kt := Bk.four (a := .int .i64 m0) (b := .string nm) (c := .int .i64 m2) (d := .string ⟨#[]⟩) hb5
        have hne : g5 ≠ w.heap.size := by omega
        have kr4 := (((kr3.far ⟨g5, 0, none⟩ hne (.int .i64 m0)).far ⟨g5, 1, none⟩ hne (.string nm)).far ⟨g5, 2, none⟩ hne (.int .i64 m2)).far ⟨g5, 3, none⟩ hne (.string ⟨#[]⟩)
        have hBs := (((hBq.setCell (p := ⟨g5, 0, none⟩) (by show w.heap.size ≤ g5; omega) (.int .i64 m0)).setCell (p := ⟨g5, 1, none⟩) (by show w.heap.size ≤ g5; omega) (.string nm)).setCell (p := ⟨g5, 2, none⟩) (by show w.heap.size ≤ g5; omega) (.int .i64 m2)).setCell (p := ⟨g5, 3, none⟩) (by show w.heap.size ≤ g5; omega) (.string ⟨#[]⟩)
        have x5 := hb5.cell
        have f5 := hb5.free
        have y5 := hb5.lt
        have x6 := kt.cell
        have f6 := kt.free
        have y6 := kt.lt
        have w4 : IntKind.i64.wrap ((k : Int) + 4) = (k : Int) + 4 := IntWalk.i64_in _ (by omega)
        have hemp : s.data.toList ≠ [] := fun hh => by
          have : s.data.toList.length = s.size := Array.length_toList
          rw [hh] at this
          simp at this
          omega
        clear wr1 wr2 wr3 wr4 xz hx0 hf0 hb5 hBq kr3
        by_cases hv4 : k + 4 < s.size
        · have hv5 : (k : Int) + 4 < (s.size : Int) := by omega
          obtain ⟨via, hvia⟩ : ∃ via, via = s.extract (k + 4) s.size := ⟨_, rfl⟩
          have HQ2 := Lib.hid (show ∀ u, IsTup s.data.toList u → u = ⟨m0, nm, m2, via⟩ from fun u hu => by
            have hh := HU2.out u hu
            rw [← hm0, ← hm2, ← hnm, if_pos hv4, ← hvia] at hh
            obtain ⟨u0, u1, u2, u3⟩ := u
            obtain ⟨q0, q1, q2, q3⟩ := hh
            simp only at q0 q1 q2 q3
            rw [q0, q1, q2, q3])
          have z3 : via.size ≤ s.size := by rw [hvia]; exact z2
          have hk4s : (k : Int) + 4 ≤ (s.size : Int) := by omega
          have kt2 := kt.same 3 (.string via)
          have kr5 := kr4.far ⟨g5, 3, none⟩ hne (.string via)
          have hBt := hBs.setCell (p := ⟨g5, 3, none⟩) (by show w.heap.size ≤ g5; omega) (.string via)
          have HVIA := Lib.hid hvia
          have hvia2 : s.extract (k + 4) s.size = via := hvia.symm
          clear hvia hm0 hm2 hnm h64 hno HU2
          go_wp2_with fail
          have hz9 : (((((wq.setCell ⟨g5, 0, none⟩ (.int .i64 m0)).setCell ⟨g5, 1, none⟩ (.string nm)).setCell ⟨g5, 2, none⟩ (.int .i64 m2)).setCell ⟨g5, 3, none⟩ (.string ⟨#[]⟩)).setCell ⟨g5, 3, none⟩ (.string via)).heap.size = wq.heap.size := by simp
          have ktH := Lib.hid kt2
          have krH := Lib.hid kr5
          have hbH := Lib.hid hBt
          generalize hw9 : (((((wq.setCell ⟨g5, 0, none⟩ (.int .i64 m0)).setCell ⟨g5, 1, none⟩ (.string nm)).setCell ⟨g5, 2, none⟩ (.int .i64 m2)).setCell ⟨g5, 3, none⟩ (.string ⟨#[]⟩)).setCell ⟨g5, 3, none⟩ (.string via)) = w9 at *
          clear hw9 x5 f5 y5 x6 f6 y6
          have kt9 := ktH.out
          have kr9 := krH.out
          have hB9 := hbH.out
          try simp only [List.setIfInBounds_toArray, List.set_cons_zero, List.set_cons_succ] at kt9
          have ST := slT_one (w := w9) ⟨m0, nm, m2, via⟩
          dsimp only at ST
          rw [hz9] at ST
          have hstr : Str ⟨m0, nm, m2, via⟩ := by unfold Str maxLen; constructor <;> (simp only; omega)
          have CV := specTValid_any [⟨m0, nm, m2, via⟩] _ _ ST (fun d hd => by rw [List.mem_singleton.1 hd]; exact hstr)
          rw [tValid_one] at CV
          have hBa := Below.al hB9 (.cells #[.int .i64 m0, .string nm, .int .i64 m2, .string via] 26)
          have kta := kt9.alloc (.cells #[.int .i64 m0, .string nm, .int .i64 m2, .string via] 26)
          have kra := kr9.alloc (.cells #[.int .i64 m0, .string nm, .int .i64 m2, .string via] 26)
          cases hv : tOk ⟨m0, nm, m2, via⟩
          · rw [hv] at CV
            have HNO := Lib.hid (show NoTup s.data.toList from fun u hu => by
              have e := HQ2.out u hu
              subst e
              have := hu.1
              rw [hv] at this
              cases this)
            refine CV.mono ?_
            rintro e w10 ⟨rfl, b10⟩
            have hB10 := Below.via b10 hBa
            have kr10 := kra.below b10
            have xr := kr10.cell
            have fr := kr10.free
            have yr := kr10.lt
            have xz := (Bk.four (a := .int .i64 0) (b := .string ⟨#[]⟩) (c := .int .i64 0) (d := .string ⟨#[]⟩) kr10).cell
            clear hv hz9 ST hemp CV hstr
            go_wp2_with fail
            (try simp only [Exit.inBlock, Exit.then]); refine bodyPost_ret (by simp [results, Tryd.results15, go_sem, xz]; try rfl) rfl ?_
            refine ⟨.inr ⟨HNO.out, rfl⟩, ?_⟩
            clear xz xr fr
            (repeat' first | (with_reducible exact Below.refl _ _) | (with_reducible refine Below.rd (by assumption) ?_ ?_) | (with_reducible refine Below.via (by assumption) ?_) | (with_reducible refine Below.al ?_ _) | (with_reducible refine Below.dn ?_ _) | (with_reducible refine Below.dr ?_) | (with_reducible refine Below.setCell ?_ ?_ _) | (dsimp only; omega) | (simp only [World.size_alloc, World.size_drew]; omega) | (simp; done) | omega)
          · rw [hv] at CV
            refine CV.mono ?_
            rintro e w10 ⟨rfl, b10⟩
            have hB10 := Below.via b10 hBa
            have kr10 := kra.below b10
            have kt10 := kta.below b10
            have x7 := kt10.cell
            have y7 := kt10.lt
            have HT := Lib.hid (tupS_eq hemp ⟨m0, nm, m2, via⟩)
            have CT := Lib.hid (fun wx => specTupleText_any ⟨m0, nm, m2, via⟩ wx hstr)
            generalize tupS ⟨m0, nm, m2, via⟩ = tx at HT CT
            clear hv hz9 ST hemp CV hstr
            go_wp2_with fail
            refine (CT.out _).mono ?_
            rintro e w11 ⟨rfl, b11⟩
            have hB11 := Below.via b11 hB10
            have kr11 := kr10.below b11
            have kt11 := kt10.below b11
            clear x7 y7
            have x7 := kt11.cell
            have y7 := kt11.lt
            have xr := kr11.cell
            have fr := kr11.free
            have yr := kr11.lt
            by_cases hq : tx = s
            · have HL := Lib.hid (HT.out.1 hq)
              have hbe : (tx.toList == s.toList) = true := by rw [hq]; exact str_yes s
              have hbn : (!(tx.toList == s.toList)) = false := by rw [hbe]; rfl
              have xz := (Bk.four (a := .int .i64 m0) (b := .string nm) (c := .int .i64 m2) (d := .string via) kr11).cell
              clear hq HT
              go_wp2_with fail
              (try simp only [Exit.inBlock, Exit.then]); refine bodyPost_ret (by simp [results, Tryd.results15, go_sem, xz]; try rfl) rfl ?_
              refine ⟨.inl ⟨_, HL.out, rfl⟩, ?_⟩
              clear xz xr fr x7
              (repeat' first | (with_reducible exact Below.refl _ _) | (with_reducible refine Below.rd (by assumption) ?_ ?_) | (with_reducible refine Below.via (by assumption) ?_) | (with_reducible refine Below.al ?_ _) | (with_reducible refine Below.dn ?_ _) | (with_reducible refine Below.dr ?_) | (with_reducible refine Below.setCell ?_ ?_ _) | (dsimp only; omega) | (simp only [World.size_alloc, World.size_drew]; omega) | (simp; done) | omega)
            · have HL := Lib.hid (show NoTup s.data.toList from fun u hu => hq (HT.out.2 (HQ2.out u hu ▸ hu)))
              have hbe : (tx.toList == s.toList) = false := str_no hq
              have hbn : (!(tx.toList == s.toList)) = true := by rw [hbe]; rfl
              have xz := (Bk.four (a := .int .i64 0) (b := .string ⟨#[]⟩) (c := .int .i64 0) (d := .string ⟨#[]⟩) kr11).cell
              clear hq HT
              go_wp2_with fail
              (try simp only [Exit.inBlock, Exit.then]); refine bodyPost_ret (by simp [results, Tryd.results15, go_sem, xz]; try rfl) rfl ?_
              refine ⟨.inr ⟨HL.out, rfl⟩, ?_⟩
              clear xz xr fr x7
              (repeat' first | (with_reducible exact Below.refl _ _) | (with_reducible refine Below.rd (by assumption) ?_ ?_) | (with_reducible refine Below.via (by assumption) ?_) | (with_reducible refine Below.al ?_ _) | (with_reducible refine Below.dn ?_ _) | (with_reducible refine Below.dr ?_) | (with_reducible refine Below.setCell ?_ ?_ _) | (dsimp only; omega) | (simp only [World.size_alloc, World.size_drew]; omega) | (simp; done) | omega)
        · have hv5 : ¬ (k : Int) + 4 < (s.size : Int) := by omega
          have HQ2 := Lib.hid (show ∀ u, IsTup s.data.toList u → u = ⟨m0, nm, m2, ⟨#[]⟩⟩ from fun u hu => by
            have hh := HU2.out u hu
            rw [← hm0, ← hm2, ← hnm, if_neg hv4] at hh
            obtain ⟨u0, u1, u2, u3⟩ := u
            obtain ⟨q0, q1, q2, q3⟩ := hh
            simp only at q0 q1 q2 q3
            rw [q0, q1, q2, q3])
          have z3 : (⟨#[]⟩ : ByteArray).size ≤ s.size := Nat.zero_le _
          clear hm0 hm2 hnm h64 hno HU2
          go_wp2_with fail
          have hz9 : ((((wq.setCell ⟨g5, 0, none⟩ (.int .i64 m0)).setCell ⟨g5, 1, none⟩ (.string nm)).setCell ⟨g5, 2, none⟩ (.int .i64 m2)).setCell ⟨g5, 3, none⟩ (.string ⟨#[]⟩)).heap.size = wq.heap.size := by simp
          have ktH := Lib.hid kt
          have krH := Lib.hid kr4
          have hbH := Lib.hid hBs
          generalize hw9 : ((((wq.setCell ⟨g5, 0, none⟩ (.int .i64 m0)).setCell ⟨g5, 1, none⟩ (.string nm)).setCell ⟨g5, 2, none⟩ (.int .i64 m2)).setCell ⟨g5, 3, none⟩ (.string ⟨#[]⟩)) = w9 at *
          clear hw9 x5 f5 y5 x6 f6 y6
          have kt9 := ktH.out
          have kr9 := krH.out
          have hB9 := hbH.out
          try simp only [List.setIfInBounds_toArray, List.set_cons_zero, List.set_cons_succ] at kt9
          have ST := slT_one (w := w9) ⟨m0, nm, m2, ⟨#[]⟩⟩
          dsimp only at ST
          rw [hz9] at ST
          have hstr : Str ⟨m0, nm, m2, ⟨#[]⟩⟩ := by unfold Str maxLen; constructor <;> (simp only; omega)
          have CV := specTValid_any [⟨m0, nm, m2, ⟨#[]⟩⟩] _ _ ST (fun d hd => by rw [List.mem_singleton.1 hd]; exact hstr)
          rw [tValid_one] at CV
          have hBa := Below.al hB9 (.cells #[.int .i64 m0, .string nm, .int .i64 m2, .string ⟨#[]⟩] 26)
          have kta := kt9.alloc (.cells #[.int .i64 m0, .string nm, .int .i64 m2, .string ⟨#[]⟩] 26)
          have kra := kr9.alloc (.cells #[.int .i64 m0, .string nm, .int .i64 m2, .string ⟨#[]⟩] 26)
          cases hv : tOk ⟨m0, nm, m2, ⟨#[]⟩⟩
          · rw [hv] at CV
            have HNO := Lib.hid (show NoTup s.data.toList from fun u hu => by
              have e := HQ2.out u hu
              subst e
              have := hu.1
              rw [hv] at this
              cases this)
            refine CV.mono ?_
            rintro e w10 ⟨rfl, b10⟩
            have hB10 := Below.via b10 hBa
            have kr10 := kra.below b10
            have xr := kr10.cell
            have fr := kr10.free
            have yr := kr10.lt
            have xz := (Bk.four (a := .int .i64 0) (b := .string ⟨#[]⟩) (c := .int .i64 0) (d := .string ⟨#[]⟩) kr10).cell
            clear hv hz9 ST hemp CV hstr
            go_wp2_with fail
            (try simp only [Exit.inBlock, Exit.then]); refine bodyPost_ret (by simp [results, Tryd.results15, go_sem, xz]; try rfl) rfl ?_
            refine ⟨.inr ⟨HNO.out, rfl⟩, ?_⟩
            clear xz xr fr
            (repeat' first | (with_reducible exact Below.refl _ _) | (with_reducible refine Below.rd (by assumption) ?_ ?_) | (with_reducible refine Below.via (by assumption) ?_) | (with_reducible refine Below.al ?_ _) | (with_reducible refine Below.dn ?_ _) | (with_reducible refine Below.dr ?_) | (with_reducible refine Below.setCell ?_ ?_ _) | (dsimp only; omega) | (simp only [World.size_alloc, World.size_drew]; omega) | (simp; done) | omega)
          · rw [hv] at CV
            refine CV.mono ?_
            rintro e w10 ⟨rfl, b10⟩
            have hB10 := Below.via b10 hBa
            have kr10 := kra.below b10
            have kt10 := kta.below b10
            have x7 := kt10.cell
            have y7 := kt10.lt
            have HT := Lib.hid (tupS_eq hemp ⟨m0, nm, m2, ⟨#[]⟩⟩)
            have CT := Lib.hid (fun wx => specTupleText_any ⟨m0, nm, m2, ⟨#[]⟩⟩ wx hstr)
            generalize tupS ⟨m0, nm, m2, ⟨#[]⟩⟩ = tx at HT CT
            clear hv hz9 ST hemp CV hstr
            go_wp2_with fail
            refine (CT.out _).mono ?_
            rintro e w11 ⟨rfl, b11⟩
            have hB11 := Below.via b11 hB10
            have kr11 := kr10.below b11
            have kt11 := kt10.below b11
            clear x7 y7
            have x7 := kt11.cell
            have y7 := kt11.lt
            have xr := kr11.cell
            have fr := kr11.free
            have yr := kr11.lt
            by_cases hq : tx = s
            · have HL := Lib.hid (HT.out.1 hq)
              have hbe : (tx.toList == s.toList) = true := by rw [hq]; exact str_yes s
              have hbn : (!(tx.toList == s.toList)) = false := by rw [hbe]; rfl
              have xz := (Bk.four (a := .int .i64 m0) (b := .string nm) (c := .int .i64 m2) (d := .string ⟨#[]⟩) kr11).cell
              clear hq HT
              go_wp2_with fail
              (try simp only [Exit.inBlock, Exit.then]); refine bodyPost_ret (by simp [results, Tryd.results15, go_sem, xz]; try rfl) rfl ?_
              refine ⟨.inl ⟨_, HL.out, rfl⟩, ?_⟩
              clear xz xr fr x7
              (repeat' first | (with_reducible exact Below.refl _ _) | (with_reducible refine Below.rd (by assumption) ?_ ?_) | (with_reducible refine Below.via (by assumption) ?_) | (with_reducible refine Below.al ?_ _) | (with_reducible refine Below.dn ?_ _) | (with_reducible refine Below.dr ?_) | (with_reducible refine Below.setCell ?_ ?_ _) | (dsimp only; omega) | (simp only [World.size_alloc, World.size_drew]; omega) | (simp; done) | omega)
            · have HL := Lib.hid (show NoTup s.data.toList from fun u hu => hq (HT.out.2 (HQ2.out u hu ▸ hu)))
              have hbe : (tx.toList == s.toList) = false := str_no hq
              have hbn : (!(tx.toList == s.toList)) = true := by rw [hbe]; rfl
              have xz := (Bk.four (a := .int .i64 0) (b := .string ⟨#[]⟩) (c := .int .i64 0) (d := .string ⟨#[]⟩) kr11).cell
              clear hq HT
              go_wp2_with fail
              (try simp only [Exit.inBlock, Exit.then]); refine bodyPost_ret (by simp [results, Tryd.results15, go_sem, xz]; try rfl) rfl ?_
              refine ⟨.inr ⟨HL.out, rfl⟩, ?_⟩
              clear xz xr fr x7
              (repeat' first | (with_reducible exact Below.refl _ _) | (with_reducible refine Below.rd (by assumption) ?_ ?_) | (with_reducible refine Below.via (by assumption) ?_) | (with_reducible refine Below.al ?_ _) | (with_reducible refine Below.dn ?_ _) | (with_reducible refine Below.dr ?_) | (with_reducible refine Below.setCell ?_ ?_ _) | (dsimp only; omega) | (simp only [World.size_alloc, World.size_drew]; omega) | (simp; done) | omega)
      · have HNO := Lib.hid (show NoTup s.data.toList from fun u hu => by
          obtain ⟨a, b, c, _⟩ := HU.out u hu
          omega)
        rcases Nat.lt_or_ge k s.size with h | h
        · have hkl2 : (k : Int) < (s.size : Int) := by omega
          have h64 : (s[k]'h).toNat = 64 := Decidable.byContradiction fun hh => hgo ⟨h, hh⟩
          by_cases hk4 : (k : Int) < 4
          · go_wp2_with fail
            (try simp only [Exit.inBlock, Exit.then]); refine bodyPost_ret (by simp [results, Tryd.results15, go_sem, xz]; try rfl) rfl ?_
            refine ⟨.inr ⟨HNO.out, rfl⟩, ?_⟩
            clear xz hx0 hf0
            (repeat' first | (with_reducible exact Below.refl _ _) | (with_reducible refine Below.rd (by assumption) ?_ ?_) | (with_reducible refine Below.via (by assumption) ?_) | (with_reducible refine Below.al ?_ _) | (with_reducible refine Below.dn ?_ _) | (with_reducible refine Below.dr ?_) | (with_reducible refine Below.setCell ?_ ?_ _) | (dsimp only; omega) | (simp only [World.size_alloc, World.size_drew]; omega) | (simp; done) | omega)
          · have hk3 : (s.size : Int) < (k : Int) + 3 := by omega
            go_wp2_with fail
            (try simp only [Exit.inBlock, Exit.then]); refine bodyPost_ret (by simp [results, Tryd.results15, go_sem, xz]; try rfl) rfl ?_
            refine ⟨.inr ⟨HNO.out, rfl⟩, ?_⟩
            clear xz hx0 hf0
            (repeat' first | (with_reducible exact Below.refl _ _) | (with_reducible refine Below.rd (by assumption) ?_ ?_) | (with_reducible refine Below.via (by assumption) ?_) | (with_reducible refine Below.al ?_ _) | (with_reducible refine Below.dn ?_ _) | (with_reducible refine Below.dr ?_) | (with_reducible refine Below.setCell ?_ ?_ _) | (dsimp only; omega) | (simp only [World.size_alloc, World.size_drew]; omega) | (simp; done) | omega)
        · obtain rfl : k = s.size := by omega
          have hkl2 : ¬ (s.size : Int) < (s.size : Int) := by omega
          have hk3 : (s.size : Int) < (s.size : Int) + 3 := by omega
          by_cases hk4 : (s.size : Int) < 4
          all_goals
            go_wp2_with fail
            (try simp only [Exit.inBlock, Exit.then]); refine bodyPost_ret (by simp [results, Tryd.results15, go_sem, xz]; try rfl) rfl ?_
            refine ⟨.inr ⟨HNO.out, rfl⟩, ?_⟩
            clear xz hx0 hf0
            (repeat' first | (with_reducible exact Below.refl _ _) | (with_reducible refine Below.rd (by assumption) ?_ ?_) | (with_reducible refine Below.via (by assumption) ?_) | (with_reducible refine Below.al ?_ _) | (with_reducible refine Below.dn ?_ _) | (with_reducible refine Below.dr ?_) | (with_reducible refine Below.setCell ?_ ?_ _) | (dsimp only; omega) | (simp only [World.size_alloc, World.size_drew]; omega) | (simp; done) | omega)
end Go.Proofs.YtgfcikckomhbeaaDoor
