/-
  Texts of tuples: the program's way and the reference's (printed by wip/tools/mkTxa.py). Condition: strings as long as memory allows.
-/
import Derived.Test.YtgfcikckomhbeaaDoorTxp
import Derived.Test.YtgfcikckomhbeaaDoorSi
import Derived.Test.YtgfcikckomhbeaaDoorIv
import Derived.Test.YtgfcikckomhbeaaDoorRg
set_option linter.unusedSimpArgs false
set_option linter.unusedVariables false
namespace Go.Proofs.YtgfcikckomhbeaaDoor
open Go.RowKit
theorem tValid_one (t : Tup) : tValid [t] = tOk t := by simp [tValid]
theorem slT_one {w : World} (t : Tup) : SlT (w.alloc (.cells #[.int .i64 t.f0, .string t.f1, .int .i64 t.f2, .string t.f3] 26)) (.slice (some ⟨w.heap.size, 0, none⟩) 1 1) [t] := by
  refine ⟨rfl, some ⟨w.heap.size, 0, none⟩, 1, rfl, Nat.le_refl _, by decide, .inr ⟨_, _, rfl, fun j hj => ?_⟩⟩
  have k := Bk.new (w := w) (vs := #[.int .i64 t.f0, .string t.f1, .int .i64 t.f2, .string t.f3]) (t := 26)
  rw [k.cell]
  simp [cellsT, encT]
theorem one_string (x : Int) (w : World) : (convert 29 9 (.slice (some ⟨w.heap.size, 0, none⟩) 1 1)).run Tryd.prog (w.alloc (.cells #[.int .u8 x] 5)) = .ok (.string (strOfNums [x])) (w.alloc (.cells #[.int .u8 x] 5)) :=
  run_convert_bytes_arg _ 29 5 Tryd.underlying29 Tryd.underlying5 w.heap.size 0 1 1 [x] rfl (fun i hi => by
    obtain rfl : i = 0 := by omega
    simp [World.cell?_alloc_new]) 9 Tryd.underlying9
theorem one_dgt (n : Nat) : strOfNums [(48 + (n : Int))] = ⟨(dgt (n : Int)).toArray⟩ := by
  apply bytes_ext
  unfold strOfNums dgt
  have e : (48 + (n : Int)).toNat = 48 + n := by omega
  simp [e]
theorem l1Number_any (n : Nat) (w : World) (h : n < 10) : Calls Tryd.prog 19 #[.int .i64 n] w fun e w' => e = .returned (.string ⟨(dgt (n : Int)).toArray⟩) ∧ Below w.heap.size w w' := by
  have hconv := one_string
  have HD := Lib.hid (one_dgt n)
  have hb := Below.al (Below.refl w.heap.size w) (.cells #[.int .u8 (48 + (n : Int))] 5)
  have hmod : (n : Int).tmod 10 = n := by rw [Int.tmod_eq_emod_of_nonneg (by omega)]; omega
  have h9 : ¬ (9 : Int) < (n : Int) := by omega
  go_enter Tryd.func19, Tryd.ntmps19
  go_wp2_with fail
  go_loopw [0, 3] (fun v s wr => v = .int .i64 n ∧ s = .string (strOfNums [48 + (n : Int)]) ∧ wr = w.alloc (.cells #[.int .u8 (48 + (n : Int))] 5)) (fun _ _ _ => 0)
  case atStart => exact ⟨rfl, rfl, rfl⟩
  case round =>
    obtain ⟨rfl, rfl, rfl⟩ := hrel
    go_wp2_with fail
    go_ret
    exact ⟨by rw [← HD.out]; rfl, hb⟩
theorem itoa_any (n : Nat) (w : World) (h : n < 10) : Calls Tryd.prog 20 #[.int .i64 n] w fun e w' => e = .returned (.string ⟨(dgt (n : Int)).toArray⟩) ∧ Below w.heap.size w w' := by
  refine (Tryd.strconv_Itoa_small n (by omega) w).mono ?_
  rintro e w' ⟨rfl, rfl⟩
  rw [dig_small n h]
  exact ⟨rfl, Below.refl _ _⟩
set_option maxRecDepth 100000 in
set_option maxHeartbeats 3200000 in
theorem implTupleText_any (t : Tup) (w : World) (hst : Str t) : Calls Tryd.prog 10 #[.agg #[.int .i64 t.f0, .string t.f1, .int .i64 t.f2, .string t.f3]] w fun e w' => e = .returned (.string (tupS t)) ∧ Below w.heap.size w w' := by
  have hB0 := Below.al (Below.refl w.heap.size w) (.cells #[.int .i64 t.f0, .string t.f1, .int .i64 t.f2, .string t.f3] 26)
  have k1 := Bk.new (w := w) (vs := #[.int .i64 t.f0, .string t.f1, .int .i64 t.f2, .string t.f3]) (t := 26)
  have x1 := k1.cell
  have CV := Lib.hid (fun wx (h : SlT wx (.slice (some ⟨w.heap.size + 1, 0, none⟩) 1 1) [t]) => implTValid_any [t] (.slice (some ⟨w.heap.size + 1, 0, none⟩) 1 1) wx h (fun d hd => by rw [List.mem_singleton.1 hd]; exact hst))
  have hone := tValid_one t
  have hB0b := Below.al hB0 (.cells #[.int .i64 t.f0, .string t.f1, .int .i64 t.f2, .string t.f3] 26)
  have k1b := k1.alloc (.cells #[.int .i64 t.f0, .string t.f1, .int .i64 t.f2, .string t.f3] 26)
  have ST := Lib.hid (slT_one (w := w.alloc (.cells #[.int .i64 t.f0, .string t.f1, .int .i64 t.f2, .string t.f3] 26)) t)
  rw [hone] at CV
  cases hv : tOk t
  · rw [tupS_bad hv]
    rw [hv] at CV
    clear hv hone hst
    go_enter Tryd.func10, Tryd.ntmps10
    go_wp2_with fail
    refine (CV.out _ (by simpa using ST.out)).mono ?_
    rintro e w1 ⟨rfl, b1⟩
    go_wp2_with fail
    go_ret
    exact ⟨rfl, Below.via b1 hB0b⟩
  · rw [hv] at CV
    have HT := Lib.hid (show ∀ s : ByteArray, s.data.toList = tupT t → s = tupS t from fun s hs => bytes_ext (by rw [tupS_list, tupTx, if_pos hv, hs]))
    obtain ⟨⟨p0, p1⟩, ⟨p2, p3⟩, q1, q3⟩ := tOk_parts hv
    clear hv hone hst
    obtain ⟨u0, s1, u2, s3⟩ := t
    simp only at p0 p1 p2 p3 q1 q3 CV HT ST k1 k1b x1 hB0 hB0b
    obtain ⟨m, rfl⟩ := Int.eq_ofNat_of_zero_le p0
    obtain ⟨n, rfl⟩ := Int.eq_ofNat_of_zero_le p2
    have hm : m < 7 := by omega
    have hn : n < 7 := by omega
    obtain ⟨D0, hD0⟩ : ∃ D0 : ByteArray, D0 = ⟨(dgt (m : Int)).toArray⟩ := ⟨_, rfl⟩
    obtain ⟨D2, hD2⟩ : ∃ D2 : ByteArray, D2 = ⟨(dgt (n : Int)).toArray⟩ := ⟨_, rfl⟩
    have CD0 := Lib.hid (fun wx => hD0 ▸ itoa_any m wx (by omega))
    have CD2 := Lib.hid (fun wx => hD2 ▸ itoa_any n wx (by omega))
    have z0 : D0.size = 1 := by rw [hD0]; rfl
    have z2 : D2.size = 1 := by rw [hD2]; rfl
    have z1 : s1.size ≤ 8 := by have := (name_len q1).2; simpa using this
    have g1 : ¬ 9223372036854775807 < 3 + s1.size := by omega
    have g2 : ¬ 9223372036854775807 < 3 + s1.size + 2 := by omega
    have g3 : ¬ 9223372036854775807 < 3 + s1.size + 2 + 1 := by omega
    have c1 : (⟨#[35]⟩ : ByteArray).size = 1 := rfl
    have c2 : (⟨#[58]⟩ : ByteArray).size = 1 := rfl
    have c3 : (⟨#[64, 35]⟩ : ByteArray).size = 2 := rfl
    have HD0 := Lib.hid (show D0.data.toList = dgt (m : Int) by rw [hD0])
    have HD2 := Lib.hid (show D2.data.toList = dgt (n : Int) by rw [hD2])
    clear hD0 hD2
    go_enter Tryd.func10, Tryd.ntmps10
    go_wp2_with fail
    refine (CV.out _ (by simpa using ST.out)).mono ?_
    rintro e w1 ⟨rfl, b1⟩
    have k2 := k1b.below b1
    have hB1 := Below.via b1 hB0b
    clear x1 CV ST k1 k1b b1 hB0 hB0b
    have x2 := k2.cell
    have y2 := k2.lt
    go_wp2_with fail
    have KXr : KeepB (fun _ => True) ∧ KeepB (fun _ => True) := ⟨keepB_true, keepB_true⟩
    refine wp_region_inv (G := fun s n w_ => RgN (fun _ => False) (fun _ => True) w1 w_) (R := RgR (fun _ => False) (fun _ => True))
      (Fs := [Is (fun z_ => z_ = .pointer (some ⟨w.heap.size, 0, none⟩)), Is (fun z_ => z_ = .int .i64 (m : Int)), Is (fun z_ => z_ = .string D0), Is (fun z_ => z_ = .string (⟨#[35]⟩ ++ D0)), Is (fun z_ => z_ = .string (⟨#[35]⟩ ++ D0 ++ ⟨#[58]⟩)), Is (fun z_ => z_ = .pointer (some ⟨w.heap.size, 1, none⟩)), Is (fun z_ => z_ = .string s1), Is (fun z_ => z_ = .string (⟨#[35]⟩ ++ D0 ++ ⟨#[58]⟩ ++ s1)), Is (fun z_ => z_ = .string (⟨#[35]⟩ ++ D0 ++ ⟨#[58]⟩ ++ s1 ++ ⟨#[64, 35]⟩)), Is (fun z_ => z_ = .pointer (some ⟨w.heap.size, 2, none⟩)), Is (fun z_ => z_ = .int .i64 (n : Int)), Is (fun z_ => z_ = .string D2), Is (fun z_ => z_ = .string (⟨#[35]⟩ ++ D0 ++ ⟨#[58]⟩ ++ s1 ++ ⟨#[64, 35]⟩ ++ D2)), Is (fun z_ => z_ = .string (⟨#[35]⟩ ++ D0 ++ ⟨#[58]⟩ ++ s1 ++ ⟨#[64, 35]⟩ ++ D2))])
      (by kernel_rfl) (by kernel_rfl) (fun _ => RgR.refl _) (fun h k => h.trans k) ?_ (fun _ _ => ⟨(Grow.refl _ _).drew, trivial⟩) ?_
    · (repeat' (first | exact lasts_nil | refine lasts_cons ?_ ?_))
      all_goals (first | exact Lasts.is | exact Lasts.any)
    refine inv_cons 0 (by rfl) (fun wx n_ s_ hn hcl hsi hG hR hd => ?_) (fun v0 => ?_)
    · refine inv_want (by rfl) ?_
      have HG := Lib.hid hG
      clear hG hR hcl hsi hn
      unfold invAt invUpon; go_simp
      exact post_upN (F := Is (fun z_ => z_ = .pointer (some ⟨w.heap.size, 0, none⟩))) HG.out (is_eq rfl)
    simp only [Act.put, List.setIfInBounds_toArray, List.set_cons_zero, List.set_cons_succ, List.nil_append, List.cons_append]
    refine inv_cons 1 (by rfl) (fun wx n_ s_ hn hcl hsi hG hR hd => ?_) (fun v1 => ?_)
    · have d0 : (Is (fun z_ => z_ = .pointer (some ⟨w.heap.size, 0, none⟩))) v0 wx := dep_get hd 0 (by rfl)
      obtain rfl := d0
      have xb := (Bk.grow (k2) hG.grow (fun h => h)).cell
      refine inv_want (by rfl) ?_
      have HG := Lib.hid hG
      clear hG hR hcl hsi hn
      unfold invAt invUpon; go_simp
      exact post_upN (F := Is (fun z_ => z_ = .int .i64 (m : Int))) HG.out (is_eq rfl)
    simp only [Act.put, List.setIfInBounds_toArray, List.set_cons_zero, List.set_cons_succ, List.nil_append, List.cons_append]
    refine inv_cons 2 (by rfl) (fun wx n_ s_ hn hcl hsi hG hR hd => ?_) (fun v2 => ?_)
    · have d1 : (Is (fun z_ => z_ = .int .i64 (m : Int))) v1 wx := dep_get hd 1 (by rfl)
      obtain rfl := d1
      refine inv_want (by rfl) ?_
      have HG := Lib.hid hG
      clear hG hR hcl hsi hn
      unfold invAt invUpon; go_simp
      refine (CD0.out wx).mono ?_
      rintro e w' ⟨rfl, hb⟩
      exact ⟨_, rfl, post_newN (F := Is (fun z_ => z_ = .string D0)) KXr HG.out hb (is_eq rfl)⟩
    simp only [Act.put, List.setIfInBounds_toArray, List.set_cons_zero, List.set_cons_succ, List.nil_append, List.cons_append]
    refine inv_cons 3 (by rfl) (fun wx n_ s_ hn hcl hsi hG hR hd => ?_) (fun v3 => ?_)
    · have d2 : (Is (fun z_ => z_ = .string D0)) v2 wx := dep_get hd 2 (by rfl)
      obtain rfl := d2
      refine inv_want (by rfl) ?_
      have HG := Lib.hid hG
      clear hG hR hcl hsi hn
      unfold invAt invUpon; go_simp
      exact post_upN (F := Is (fun z_ => z_ = .string (⟨#[35]⟩ ++ D0))) HG.out (is_eq rfl)
    simp only [Act.put, List.setIfInBounds_toArray, List.set_cons_zero, List.set_cons_succ, List.nil_append, List.cons_append]
    refine inv_cons 4 (by rfl) (fun wx n_ s_ hn hcl hsi hG hR hd => ?_) (fun v4 => ?_)
    · have d3 : (Is (fun z_ => z_ = .string (⟨#[35]⟩ ++ D0))) v3 wx := dep_get hd 3 (by rfl)
      obtain rfl := d3
      refine inv_want (by rfl) ?_
      have HG := Lib.hid hG
      clear hG hR hcl hsi hn
      unfold invAt invUpon; go_simp
      exact post_upN (F := Is (fun z_ => z_ = .string (⟨#[35]⟩ ++ D0 ++ ⟨#[58]⟩))) HG.out (is_eq rfl)
    simp only [Act.put, List.setIfInBounds_toArray, List.set_cons_zero, List.set_cons_succ, List.nil_append, List.cons_append]
    refine inv_cons 5 (by rfl) (fun wx n_ s_ hn hcl hsi hG hR hd => ?_) (fun v5 => ?_)
    · refine inv_want (by rfl) ?_
      have HG := Lib.hid hG
      clear hG hR hcl hsi hn
      unfold invAt invUpon; go_simp
      exact post_upN (F := Is (fun z_ => z_ = .pointer (some ⟨w.heap.size, 1, none⟩))) HG.out (is_eq rfl)
    simp only [Act.put, List.setIfInBounds_toArray, List.set_cons_zero, List.set_cons_succ, List.nil_append, List.cons_append]
    refine inv_cons 6 (by rfl) (fun wx n_ s_ hn hcl hsi hG hR hd => ?_) (fun v6 => ?_)
    · have d5 : (Is (fun z_ => z_ = .pointer (some ⟨w.heap.size, 1, none⟩))) v5 wx := dep_get hd 5 (by rfl)
      obtain rfl := d5
      have xb := (Bk.grow (k2) hG.grow (fun h => h)).cell
      refine inv_want (by rfl) ?_
      have HG := Lib.hid hG
      clear hG hR hcl hsi hn
      unfold invAt invUpon; go_simp
      exact post_upN (F := Is (fun z_ => z_ = .string s1)) HG.out (is_eq rfl)
    simp only [Act.put, List.setIfInBounds_toArray, List.set_cons_zero, List.set_cons_succ, List.nil_append, List.cons_append]
    refine inv_cons 7 (by rfl) (fun wx n_ s_ hn hcl hsi hG hR hd => ?_) (fun v7 => ?_)
    · have d4 : (Is (fun z_ => z_ = .string (⟨#[35]⟩ ++ D0 ++ ⟨#[58]⟩))) v4 wx := dep_get hd 4 (by rfl)
      obtain rfl := d4
      have d6 : (Is (fun z_ => z_ = .string s1)) v6 wx := dep_get hd 6 (by rfl)
      obtain rfl := d6
      refine inv_want (by rfl) ?_
      have HG := Lib.hid hG
      clear hG hR hcl hsi hn
      unfold invAt invUpon; go_simp
      exact post_upN (F := Is (fun z_ => z_ = .string (⟨#[35]⟩ ++ D0 ++ ⟨#[58]⟩ ++ s1))) HG.out (is_eq rfl)
    simp only [Act.put, List.setIfInBounds_toArray, List.set_cons_zero, List.set_cons_succ, List.nil_append, List.cons_append]
    refine inv_cons 8 (by rfl) (fun wx n_ s_ hn hcl hsi hG hR hd => ?_) (fun v8 => ?_)
    · have d7 : (Is (fun z_ => z_ = .string (⟨#[35]⟩ ++ D0 ++ ⟨#[58]⟩ ++ s1))) v7 wx := dep_get hd 7 (by rfl)
      obtain rfl := d7
      refine inv_want (by rfl) ?_
      have HG := Lib.hid hG
      clear hG hR hcl hsi hn
      unfold invAt invUpon; go_simp
      exact post_upN (F := Is (fun z_ => z_ = .string (⟨#[35]⟩ ++ D0 ++ ⟨#[58]⟩ ++ s1 ++ ⟨#[64, 35]⟩))) HG.out (is_eq rfl)
    simp only [Act.put, List.setIfInBounds_toArray, List.set_cons_zero, List.set_cons_succ, List.nil_append, List.cons_append]
    refine inv_cons 9 (by rfl) (fun wx n_ s_ hn hcl hsi hG hR hd => ?_) (fun v9 => ?_)
    · refine inv_want (by rfl) ?_
      have HG := Lib.hid hG
      clear hG hR hcl hsi hn
      unfold invAt invUpon; go_simp
      exact post_upN (F := Is (fun z_ => z_ = .pointer (some ⟨w.heap.size, 2, none⟩))) HG.out (is_eq rfl)
    simp only [Act.put, List.setIfInBounds_toArray, List.set_cons_zero, List.set_cons_succ, List.nil_append, List.cons_append]
    refine inv_cons 10 (by rfl) (fun wx n_ s_ hn hcl hsi hG hR hd => ?_) (fun v10 => ?_)
    · have d9 : (Is (fun z_ => z_ = .pointer (some ⟨w.heap.size, 2, none⟩))) v9 wx := dep_get hd 9 (by rfl)
      obtain rfl := d9
      have xb := (Bk.grow (k2) hG.grow (fun h => h)).cell
      refine inv_want (by rfl) ?_
      have HG := Lib.hid hG
      clear hG hR hcl hsi hn
      unfold invAt invUpon; go_simp
      exact post_upN (F := Is (fun z_ => z_ = .int .i64 (n : Int))) HG.out (is_eq rfl)
    simp only [Act.put, List.setIfInBounds_toArray, List.set_cons_zero, List.set_cons_succ, List.nil_append, List.cons_append]
    refine inv_cons 11 (by rfl) (fun wx n_ s_ hn hcl hsi hG hR hd => ?_) (fun v11 => ?_)
    · have d10 : (Is (fun z_ => z_ = .int .i64 (n : Int))) v10 wx := dep_get hd 10 (by rfl)
      obtain rfl := d10
      refine inv_want (by rfl) ?_
      have HG := Lib.hid hG
      clear hG hR hcl hsi hn
      unfold invAt invUpon; go_simp
      refine (CD2.out wx).mono ?_
      rintro e w' ⟨rfl, hb⟩
      exact ⟨_, rfl, post_newN (F := Is (fun z_ => z_ = .string D2)) KXr HG.out hb (is_eq rfl)⟩
    simp only [Act.put, List.setIfInBounds_toArray, List.set_cons_zero, List.set_cons_succ, List.nil_append, List.cons_append]
    refine inv_cons 12 (by rfl) (fun wx n_ s_ hn hcl hsi hG hR hd => ?_) (fun v12 => ?_)
    · have d8 : (Is (fun z_ => z_ = .string (⟨#[35]⟩ ++ D0 ++ ⟨#[58]⟩ ++ s1 ++ ⟨#[64, 35]⟩))) v8 wx := dep_get hd 8 (by rfl)
      obtain rfl := d8
      have d11 : (Is (fun z_ => z_ = .string D2)) v11 wx := dep_get hd 11 (by rfl)
      obtain rfl := d11
      refine inv_want (by rfl) ?_
      have HG := Lib.hid hG
      clear hG hR hcl hsi hn
      unfold invAt invUpon; go_simp
      exact post_upN (F := Is (fun z_ => z_ = .string (⟨#[35]⟩ ++ D0 ++ ⟨#[58]⟩ ++ s1 ++ ⟨#[64, 35]⟩ ++ D2))) HG.out (is_eq rfl)
    simp only [Act.put, List.setIfInBounds_toArray, List.set_cons_zero, List.set_cons_succ, List.nil_append, List.cons_append]
    refine inv_cons 13 (by rfl) (fun wx n_ s_ hn hcl hsi hG hR hd => ?_) (fun v13 => ?_)
    · have d12 : (Is (fun z_ => z_ = .string (⟨#[35]⟩ ++ D0 ++ ⟨#[58]⟩ ++ s1 ++ ⟨#[64, 35]⟩ ++ D2))) v12 wx := dep_get hd 12 (by rfl)
      obtain rfl := d12
      exact inv_want (by rfl) (inv_assign (.tmp 20) rfl (post_upN (F := Is (fun z_ => z_ = .string (⟨#[35]⟩ ++ D0 ++ ⟨#[58]⟩ ++ s1 ++ ⟨#[64, 35]⟩ ++ D2))) hG (is_eq rfl)))
    simp only [Act.put, List.setIfInBounds_toArray, List.set_cons_zero, List.set_cons_succ, List.nil_append, List.cons_append]
    refine inv_nil (fun wq nq sq hnq hGq hRq hall => ?_)
    obtain ⟨f0, f1, f2, f3, f4, f5, f6, f7, f8, f9, f10, f11, f12, f13, -⟩ := hall
    obtain rfl : v13 = .string (⟨#[35]⟩ ++ D0 ++ ⟨#[58]⟩ ++ s1 ++ ⟨#[64, 35]⟩ ++ D2) := f13
    have hBq := Below.via (Grow.below0 hGq.grow) hB1
    have k3 := Bk.grow k2 hGq.grow (fun h => h)
    clear x2 y2 k2 CD0 CD2
    have x3 := k3.cell
    have y3 := k3.lt
    cases p4 : s3.toList.isEmpty
    · have n4 : (!s3.toList.isEmpty) = true := by rw [p4]; rfl
      have z3 : s3.size ≤ 8 := by
        have hv3 : nameOk s3.data.toList = true := by
          unfold viaOk at q3
          simpa [p4] using q3
        have := (name_len hv3).2
        simpa using this
      have HE := Lib.hid (HT.out (⟨#[35]⟩ ++ D0 ++ ⟨#[58]⟩ ++ s1 ++ ⟨#[64, 35]⟩ ++ D2 ++ (⟨#[58]⟩ ++ s3)) (by
        rw [tupT, viaT, p4]
        simp [HD0.out, HD2.out]))
      clear p4
      go_wp2_with fail
      go_ret
      exact ⟨by rw [← HE.out]; rfl, hBq⟩
    · have n4 : (!s3.toList.isEmpty) = false := by rw [p4]; rfl
      have HE := Lib.hid (HT.out (⟨#[35]⟩ ++ D0 ++ ⟨#[58]⟩ ++ s1 ++ ⟨#[64, 35]⟩ ++ D2) (by
        rw [tupT, viaT, p4]
        simp [HD0.out, HD2.out]))
      clear p4
      go_wp2_with fail
      go_ret
      exact ⟨by rw [← HE.out]; rfl, hBq⟩
set_option maxRecDepth 100000 in
set_option maxHeartbeats 3200000 in
theorem specTupleText_any (t : Tup) (w : World) (hst : Str t) : Calls Tryd.prog 8 #[.agg #[.int .i64 t.f0, .string t.f1, .int .i64 t.f2, .string t.f3]] w fun e w' => e = .returned (.string (tupS t)) ∧ Below w.heap.size w w' := by
  have hB0 := Below.al (Below.refl w.heap.size w) (.cells #[.int .i64 t.f0, .string t.f1, .int .i64 t.f2, .string t.f3] 26)
  have k1 := Bk.new (w := w) (vs := #[.int .i64 t.f0, .string t.f1, .int .i64 t.f2, .string t.f3]) (t := 26)
  have x1 := k1.cell
  have CV := Lib.hid (fun wx (h : SlT wx (.slice (some ⟨w.heap.size + 1, 0, none⟩) 1 1) [t]) => specTValid_any [t] (.slice (some ⟨w.heap.size + 1, 0, none⟩) 1 1) wx h (fun d hd => by rw [List.mem_singleton.1 hd]; exact hst))
  have hone := tValid_one t
  have hB0b := Below.al hB0 (.cells #[.int .i64 t.f0, .string t.f1, .int .i64 t.f2, .string t.f3] 26)
  have k1b := k1.alloc (.cells #[.int .i64 t.f0, .string t.f1, .int .i64 t.f2, .string t.f3] 26)
  have ST := Lib.hid (slT_one (w := w.alloc (.cells #[.int .i64 t.f0, .string t.f1, .int .i64 t.f2, .string t.f3] 26)) t)
  rw [hone] at CV
  cases hv : tOk t
  · rw [tupS_bad hv]
    rw [hv] at CV
    clear hv hone hst
    go_enter Tryd.func8, Tryd.ntmps8
    go_wp2_with fail
    refine (CV.out _ (by simpa using ST.out)).mono ?_
    rintro e w1 ⟨rfl, b1⟩
    go_wp2_with fail
    go_ret
    exact ⟨rfl, Below.via b1 hB0b⟩
  · rw [hv] at CV
    have HT := Lib.hid (show ∀ s : ByteArray, s.data.toList = tupT t → s = tupS t from fun s hs => bytes_ext (by rw [tupS_list, tupTx, if_pos hv, hs]))
    obtain ⟨⟨p0, p1⟩, ⟨p2, p3⟩, q1, q3⟩ := tOk_parts hv
    clear hv hone hst
    obtain ⟨u0, s1, u2, s3⟩ := t
    simp only at p0 p1 p2 p3 q1 q3 CV HT ST k1 k1b x1 hB0 hB0b
    obtain ⟨m, rfl⟩ := Int.eq_ofNat_of_zero_le p0
    obtain ⟨n, rfl⟩ := Int.eq_ofNat_of_zero_le p2
    have hm : m < 7 := by omega
    have hn : n < 7 := by omega
    obtain ⟨D0, hD0⟩ : ∃ D0 : ByteArray, D0 = ⟨(dgt (m : Int)).toArray⟩ := ⟨_, rfl⟩
    obtain ⟨D2, hD2⟩ : ∃ D2 : ByteArray, D2 = ⟨(dgt (n : Int)).toArray⟩ := ⟨_, rfl⟩
    have CD0 := Lib.hid (fun wx => hD0 ▸ l1Number_any m wx (by omega))
    have CD2 := Lib.hid (fun wx => hD2 ▸ l1Number_any n wx (by omega))
    have z0 : D0.size = 1 := by rw [hD0]; rfl
    have z2 : D2.size = 1 := by rw [hD2]; rfl
    have z1 : s1.size ≤ 8 := by have := (name_len q1).2; simpa using this
    have g1 : ¬ 9223372036854775807 < 3 + s1.size := by omega
    have g2 : ¬ 9223372036854775807 < 3 + s1.size + 2 := by omega
    have g3 : ¬ 9223372036854775807 < 3 + s1.size + 2 + 1 := by omega
    have c1 : (⟨#[35]⟩ : ByteArray).size = 1 := rfl
    have c2 : (⟨#[58]⟩ : ByteArray).size = 1 := rfl
    have c3 : (⟨#[64, 35]⟩ : ByteArray).size = 2 := rfl
    have HD0 := Lib.hid (show D0.data.toList = dgt (m : Int) by rw [hD0])
    have HD2 := Lib.hid (show D2.data.toList = dgt (n : Int) by rw [hD2])
    clear hD0 hD2
    go_enter Tryd.func8, Tryd.ntmps8
    go_wp2_with fail
    refine (CV.out _ (by simpa using ST.out)).mono ?_
    rintro e w1 ⟨rfl, b1⟩
    have k2 := k1b.below b1
    have hB1 := Below.via b1 hB0b
    clear x1 CV ST k1 k1b b1 hB0 hB0b
    have x2 := k2.cell
    have y2 := k2.lt
    go_wp2_with fail
    have KXr : KeepB (fun _ => True) ∧ KeepB (fun _ => True) := ⟨keepB_true, keepB_true⟩
    refine wp_region_inv (G := fun s n w_ => RgN (fun _ => False) (fun _ => True) w1 w_) (R := RgR (fun _ => False) (fun _ => True))
      (Fs := [Is (fun z_ => z_ = .pointer (some ⟨w.heap.size, 0, none⟩)), Is (fun z_ => z_ = .int .i64 (m : Int)), Is (fun z_ => z_ = .string D0), Is (fun z_ => z_ = .string (⟨#[35]⟩ ++ D0)), Is (fun z_ => z_ = .string (⟨#[35]⟩ ++ D0 ++ ⟨#[58]⟩)), Is (fun z_ => z_ = .pointer (some ⟨w.heap.size, 1, none⟩)), Is (fun z_ => z_ = .string s1), Is (fun z_ => z_ = .string (⟨#[35]⟩ ++ D0 ++ ⟨#[58]⟩ ++ s1)), Is (fun z_ => z_ = .string (⟨#[35]⟩ ++ D0 ++ ⟨#[58]⟩ ++ s1 ++ ⟨#[64, 35]⟩)), Is (fun z_ => z_ = .pointer (some ⟨w.heap.size, 2, none⟩)), Is (fun z_ => z_ = .int .i64 (n : Int)), Is (fun z_ => z_ = .string D2), Is (fun z_ => z_ = .string (⟨#[35]⟩ ++ D0 ++ ⟨#[58]⟩ ++ s1 ++ ⟨#[64, 35]⟩ ++ D2)), Is (fun z_ => z_ = .string (⟨#[35]⟩ ++ D0 ++ ⟨#[58]⟩ ++ s1 ++ ⟨#[64, 35]⟩ ++ D2))])
      (by kernel_rfl) (by kernel_rfl) (fun _ => RgR.refl _) (fun h k => h.trans k) ?_ (fun _ _ => ⟨(Grow.refl _ _).drew, trivial⟩) ?_
    · (repeat' (first | exact lasts_nil | refine lasts_cons ?_ ?_))
      all_goals (first | exact Lasts.is | exact Lasts.any)
    refine inv_cons 0 (by rfl) (fun wx n_ s_ hn hcl hsi hG hR hd => ?_) (fun v0 => ?_)
    · refine inv_want (by rfl) ?_
      have HG := Lib.hid hG
      clear hG hR hcl hsi hn
      unfold invAt invUpon; go_simp
      exact post_upN (F := Is (fun z_ => z_ = .pointer (some ⟨w.heap.size, 0, none⟩))) HG.out (is_eq rfl)
    simp only [Act.put, List.setIfInBounds_toArray, List.set_cons_zero, List.set_cons_succ, List.nil_append, List.cons_append]
    refine inv_cons 1 (by rfl) (fun wx n_ s_ hn hcl hsi hG hR hd => ?_) (fun v1 => ?_)
    · have d0 : (Is (fun z_ => z_ = .pointer (some ⟨w.heap.size, 0, none⟩))) v0 wx := dep_get hd 0 (by rfl)
      obtain rfl := d0
      have xb := (Bk.grow (k2) hG.grow (fun h => h)).cell
      refine inv_want (by rfl) ?_
      have HG := Lib.hid hG
      clear hG hR hcl hsi hn
      unfold invAt invUpon; go_simp
      exact post_upN (F := Is (fun z_ => z_ = .int .i64 (m : Int))) HG.out (is_eq rfl)
    simp only [Act.put, List.setIfInBounds_toArray, List.set_cons_zero, List.set_cons_succ, List.nil_append, List.cons_append]
    refine inv_cons 2 (by rfl) (fun wx n_ s_ hn hcl hsi hG hR hd => ?_) (fun v2 => ?_)
    · have d1 : (Is (fun z_ => z_ = .int .i64 (m : Int))) v1 wx := dep_get hd 1 (by rfl)
      obtain rfl := d1
      refine inv_want (by rfl) ?_
      have HG := Lib.hid hG
      clear hG hR hcl hsi hn
      unfold invAt invUpon; go_simp
      refine (CD0.out wx).mono ?_
      rintro e w' ⟨rfl, hb⟩
      exact ⟨_, rfl, post_newN (F := Is (fun z_ => z_ = .string D0)) KXr HG.out hb (is_eq rfl)⟩
    simp only [Act.put, List.setIfInBounds_toArray, List.set_cons_zero, List.set_cons_succ, List.nil_append, List.cons_append]
    refine inv_cons 3 (by rfl) (fun wx n_ s_ hn hcl hsi hG hR hd => ?_) (fun v3 => ?_)
    · have d2 : (Is (fun z_ => z_ = .string D0)) v2 wx := dep_get hd 2 (by rfl)
      obtain rfl := d2
      refine inv_want (by rfl) ?_
      have HG := Lib.hid hG
      clear hG hR hcl hsi hn
      unfold invAt invUpon; go_simp
      exact post_upN (F := Is (fun z_ => z_ = .string (⟨#[35]⟩ ++ D0))) HG.out (is_eq rfl)
    simp only [Act.put, List.setIfInBounds_toArray, List.set_cons_zero, List.set_cons_succ, List.nil_append, List.cons_append]
    refine inv_cons 4 (by rfl) (fun wx n_ s_ hn hcl hsi hG hR hd => ?_) (fun v4 => ?_)
    · have d3 : (Is (fun z_ => z_ = .string (⟨#[35]⟩ ++ D0))) v3 wx := dep_get hd 3 (by rfl)
      obtain rfl := d3
      refine inv_want (by rfl) ?_
      have HG := Lib.hid hG
      clear hG hR hcl hsi hn
      unfold invAt invUpon; go_simp
      exact post_upN (F := Is (fun z_ => z_ = .string (⟨#[35]⟩ ++ D0 ++ ⟨#[58]⟩))) HG.out (is_eq rfl)
    simp only [Act.put, List.setIfInBounds_toArray, List.set_cons_zero, List.set_cons_succ, List.nil_append, List.cons_append]
    refine inv_cons 5 (by rfl) (fun wx n_ s_ hn hcl hsi hG hR hd => ?_) (fun v5 => ?_)
    · refine inv_want (by rfl) ?_
      have HG := Lib.hid hG
      clear hG hR hcl hsi hn
      unfold invAt invUpon; go_simp
      exact post_upN (F := Is (fun z_ => z_ = .pointer (some ⟨w.heap.size, 1, none⟩))) HG.out (is_eq rfl)
    simp only [Act.put, List.setIfInBounds_toArray, List.set_cons_zero, List.set_cons_succ, List.nil_append, List.cons_append]
    refine inv_cons 6 (by rfl) (fun wx n_ s_ hn hcl hsi hG hR hd => ?_) (fun v6 => ?_)
    · have d5 : (Is (fun z_ => z_ = .pointer (some ⟨w.heap.size, 1, none⟩))) v5 wx := dep_get hd 5 (by rfl)
      obtain rfl := d5
      have xb := (Bk.grow (k2) hG.grow (fun h => h)).cell
      refine inv_want (by rfl) ?_
      have HG := Lib.hid hG
      clear hG hR hcl hsi hn
      unfold invAt invUpon; go_simp
      exact post_upN (F := Is (fun z_ => z_ = .string s1)) HG.out (is_eq rfl)
    simp only [Act.put, List.setIfInBounds_toArray, List.set_cons_zero, List.set_cons_succ, List.nil_append, List.cons_append]
    refine inv_cons 7 (by rfl) (fun wx n_ s_ hn hcl hsi hG hR hd => ?_) (fun v7 => ?_)
    · have d4 : (Is (fun z_ => z_ = .string (⟨#[35]⟩ ++ D0 ++ ⟨#[58]⟩))) v4 wx := dep_get hd 4 (by rfl)
      obtain rfl := d4
      have d6 : (Is (fun z_ => z_ = .string s1)) v6 wx := dep_get hd 6 (by rfl)
      obtain rfl := d6
      refine inv_want (by rfl) ?_
      have HG := Lib.hid hG
      clear hG hR hcl hsi hn
      unfold invAt invUpon; go_simp
      exact post_upN (F := Is (fun z_ => z_ = .string (⟨#[35]⟩ ++ D0 ++ ⟨#[58]⟩ ++ s1))) HG.out (is_eq rfl)
    simp only [Act.put, List.setIfInBounds_toArray, List.set_cons_zero, List.set_cons_succ, List.nil_append, List.cons_append]
    refine inv_cons 8 (by rfl) (fun wx n_ s_ hn hcl hsi hG hR hd => ?_) (fun v8 => ?_)
    · have d7 : (Is (fun z_ => z_ = .string (⟨#[35]⟩ ++ D0 ++ ⟨#[58]⟩ ++ s1))) v7 wx := dep_get hd 7 (by rfl)
      obtain rfl := d7
      refine inv_want (by rfl) ?_
      have HG := Lib.hid hG
      clear hG hR hcl hsi hn
      unfold invAt invUpon; go_simp
      exact post_upN (F := Is (fun z_ => z_ = .string (⟨#[35]⟩ ++ D0 ++ ⟨#[58]⟩ ++ s1 ++ ⟨#[64, 35]⟩))) HG.out (is_eq rfl)
    simp only [Act.put, List.setIfInBounds_toArray, List.set_cons_zero, List.set_cons_succ, List.nil_append, List.cons_append]
    refine inv_cons 9 (by rfl) (fun wx n_ s_ hn hcl hsi hG hR hd => ?_) (fun v9 => ?_)
    · refine inv_want (by rfl) ?_
      have HG := Lib.hid hG
      clear hG hR hcl hsi hn
      unfold invAt invUpon; go_simp
      exact post_upN (F := Is (fun z_ => z_ = .pointer (some ⟨w.heap.size, 2, none⟩))) HG.out (is_eq rfl)
    simp only [Act.put, List.setIfInBounds_toArray, List.set_cons_zero, List.set_cons_succ, List.nil_append, List.cons_append]
    refine inv_cons 10 (by rfl) (fun wx n_ s_ hn hcl hsi hG hR hd => ?_) (fun v10 => ?_)
    · have d9 : (Is (fun z_ => z_ = .pointer (some ⟨w.heap.size, 2, none⟩))) v9 wx := dep_get hd 9 (by rfl)
      obtain rfl := d9
      have xb := (Bk.grow (k2) hG.grow (fun h => h)).cell
      refine inv_want (by rfl) ?_
      have HG := Lib.hid hG
      clear hG hR hcl hsi hn
      unfold invAt invUpon; go_simp
      exact post_upN (F := Is (fun z_ => z_ = .int .i64 (n : Int))) HG.out (is_eq rfl)
    simp only [Act.put, List.setIfInBounds_toArray, List.set_cons_zero, List.set_cons_succ, List.nil_append, List.cons_append]
    refine inv_cons 11 (by rfl) (fun wx n_ s_ hn hcl hsi hG hR hd => ?_) (fun v11 => ?_)
    · have d10 : (Is (fun z_ => z_ = .int .i64 (n : Int))) v10 wx := dep_get hd 10 (by rfl)
      obtain rfl := d10
      refine inv_want (by rfl) ?_
      have HG := Lib.hid hG
      clear hG hR hcl hsi hn
      unfold invAt invUpon; go_simp
      refine (CD2.out wx).mono ?_
      rintro e w' ⟨rfl, hb⟩
      exact ⟨_, rfl, post_newN (F := Is (fun z_ => z_ = .string D2)) KXr HG.out hb (is_eq rfl)⟩
    simp only [Act.put, List.setIfInBounds_toArray, List.set_cons_zero, List.set_cons_succ, List.nil_append, List.cons_append]
    refine inv_cons 12 (by rfl) (fun wx n_ s_ hn hcl hsi hG hR hd => ?_) (fun v12 => ?_)
    · have d8 : (Is (fun z_ => z_ = .string (⟨#[35]⟩ ++ D0 ++ ⟨#[58]⟩ ++ s1 ++ ⟨#[64, 35]⟩))) v8 wx := dep_get hd 8 (by rfl)
      obtain rfl := d8
      have d11 : (Is (fun z_ => z_ = .string D2)) v11 wx := dep_get hd 11 (by rfl)
      obtain rfl := d11
      refine inv_want (by rfl) ?_
      have HG := Lib.hid hG
      clear hG hR hcl hsi hn
      unfold invAt invUpon; go_simp
      exact post_upN (F := Is (fun z_ => z_ = .string (⟨#[35]⟩ ++ D0 ++ ⟨#[58]⟩ ++ s1 ++ ⟨#[64, 35]⟩ ++ D2))) HG.out (is_eq rfl)
    simp only [Act.put, List.setIfInBounds_toArray, List.set_cons_zero, List.set_cons_succ, List.nil_append, List.cons_append]
    refine inv_cons 13 (by rfl) (fun wx n_ s_ hn hcl hsi hG hR hd => ?_) (fun v13 => ?_)
    · have d12 : (Is (fun z_ => z_ = .string (⟨#[35]⟩ ++ D0 ++ ⟨#[58]⟩ ++ s1 ++ ⟨#[64, 35]⟩ ++ D2))) v12 wx := dep_get hd 12 (by rfl)
      obtain rfl := d12
      exact inv_want (by rfl) (inv_assign (.tmp 20) rfl (post_upN (F := Is (fun z_ => z_ = .string (⟨#[35]⟩ ++ D0 ++ ⟨#[58]⟩ ++ s1 ++ ⟨#[64, 35]⟩ ++ D2))) hG (is_eq rfl)))
    simp only [Act.put, List.setIfInBounds_toArray, List.set_cons_zero, List.set_cons_succ, List.nil_append, List.cons_append]
    refine inv_nil (fun wq nq sq hnq hGq hRq hall => ?_)
    obtain ⟨f0, f1, f2, f3, f4, f5, f6, f7, f8, f9, f10, f11, f12, f13, -⟩ := hall
    obtain rfl : v13 = .string (⟨#[35]⟩ ++ D0 ++ ⟨#[58]⟩ ++ s1 ++ ⟨#[64, 35]⟩ ++ D2) := f13
    have hBq := Below.via (Grow.below0 hGq.grow) hB1
    have k3 := Bk.grow k2 hGq.grow (fun h => h)
    clear x2 y2 k2 CD0 CD2
    have x3 := k3.cell
    have y3 := k3.lt
    cases p4 : s3.toList.isEmpty
    · have n4 : (!s3.toList.isEmpty) = true := by rw [p4]; rfl
      have z3 : s3.size ≤ 8 := by
        have hv3 : nameOk s3.data.toList = true := by
          unfold viaOk at q3
          simpa [p4] using q3
        have := (name_len hv3).2
        simpa using this
      have HE := Lib.hid (HT.out (⟨#[35]⟩ ++ D0 ++ ⟨#[58]⟩ ++ s1 ++ ⟨#[64, 35]⟩ ++ D2 ++ ⟨#[58]⟩ ++ s3) (by
        rw [tupT, viaT, p4]
        simp [HD0.out, HD2.out]))
      clear p4
      go_wp2_with fail
      go_ret
      exact ⟨by rw [← HE.out]; rfl, hBq⟩
    · have n4 : (!s3.toList.isEmpty) = false := by rw [p4]; rfl
      have HE := Lib.hid (HT.out (⟨#[35]⟩ ++ D0 ++ ⟨#[58]⟩ ++ s1 ++ ⟨#[64, 35]⟩ ++ D2) (by
        rw [tupT, viaT, p4]
        simp [HD0.out, HD2.out]))
      clear p4
      go_wp2_with fail
      go_ret
      exact ⟨by rw [← HE.out]; rfl, hBq⟩
end Go.Proofs.YtgfcikckomhbeaaDoor
