/-
  The law on the acts of roles, walked. Condition: the bytes can be read.
-/
import Derived.Test.YtlcjkehpdlgdoaaRla
import Derived.Test.YtlcjkehpdlgdoaaRld
set_option linter.unusedSimpArgs false
set_option linter.unusedVariables false
namespace Go.Proofs.Ytlcjkehpdlgdoaa
open Go.RowKit
/-- Roles and a number are drawn from bytes. -/
def DgR (w : World) (e : Ending) (w' : World) : Prop :=
  ∃ (v : Value) (ds : List Rl) (n : Int), e = .returned (.tuple #[v, .int .i64 n]) ∧ SlRl w' v ds ∧ ds.length ≤ 6 ∧ Below w.heap.size w w'
theorem drawRolesWith_any (a : Option Addr) (len cap : Nat) (w : World) (h : Bytes w a len cap) : Calls Try.prog 67 #[.slice a len cap] w (DgR w) := by
  have H := Lib.hid h
  clear h
  go_enter Try.func67, Try.ntmps67
  go_wp2_with fail
  refine (open_any a len cap _ H.out).mono ?_
  rintro e w1 ⟨rfl, r1, h1⟩
  have zb := r1.lt
  have z1 := h1.size
  go_wp2_with fail
  refine (l20Roles_any _ 9 _ _ r1 (by omega) (by omega) (by omega)).mono ?_
  rintro e w2 ⟨v, ds, rfl, hv, hl6, ho, r2⟩
  have z2 := r2.size
  obtain ⟨va, vc, rfl, hc1, hc2⟩ := SlRl.shape ho.sl
  unfold maxLen at hc2
  go_wp2_with fail
  refine (pick_any _ (ds.length + 1) _ _ r2.rd (by omega) (by omega)).mono ?_
  rintro e w3 ⟨x, rfl, lo3, hi3, r3⟩
  have ho3 := ho.rd r3 (by omega)
  go_wp2_with fail
  refine (pick_any _ 14 _ _ r3.rd (by omega) (by omega)).mono ?_
  rintro e w4 ⟨y, rfl, lo4, hi4, r4⟩
  have HS := Lib.hid (ho3.rd r4 (by omega)).sl
  have hB := Below.rd r4 (Below.rd r3 (Below.rd r2 h1 (Nat.le_refl _)) (Nat.le_refl _)) (Nat.le_refl _)
  clear ho ho3
  go_wp2_with fail
  go_ret2
  exact ⟨_, ds, _, rfl, HS.out, hl6, hB⟩
theorem drawRoleActs_any (a : Option Addr) (len cap : Nat) (w : World) (h : Bytes w a len cap) : Calls Try.prog 42 #[.slice a len cap] w (DgR w) := by
  have H := Lib.hid h
  clear h
  go_enter Try.func42, Try.ntmps42
  go_wp2_with fail
  refine (drawRolesWith_any a len cap _ H.out).mono ?_
  rintro e w1 ⟨v, ds, n, rfl, hs, hl6, b1⟩
  have HS := Lib.hid hs
  clear hs
  go_wp2_with fail
  go_ret2
  exact ⟨v, ds, n, rfl, HS.out, hl6, b1⟩
theorem orF_has (f : Int → Nat) (L : List Int) (x : Int) (hx : x ∈ L) : f x &&& orF f L = f x := by
  refine Nat.eq_of_testBit_eq fun a => ?_
  rw [Nat.testBit_and, orF_bit]
  cases h : (f x).testBit a
  · rfl
  · rw [show anyF f L a = true from List.any_eq_true.2 ⟨x, hx, h⟩]
    rfl
set_option maxRecDepth 100000 in
set_option maxHeartbeats 12800000 in
theorem roleActs_walk (a : Option Addr) (len cap : Nat) (w : World) (h : Bytes w a len cap) : Calls Try.prog 11 #[.slice a len cap] w fun e w' => e = .returned (.bool true) ∧ Below w.heap.size w w' := by
  have h1 := h.1
  have h2 := h.2.1
  unfold maxLen at h2
  have H := Lib.hid h
  clear h
  by_cases hl : 1048576 < len
  · go_enter Try.func11, Try.ntmps11
    go_wp2_with fail
    go_ret
    exact ⟨rfl, Below.refl _ _⟩
  · go_enter Try.func11, Try.ntmps11
    go_wp2_with fail
    refine (drawRoleActs_any a len cap _ H.out).mono ?_
    rintro e w1 ⟨v, ds, n, rfl, hs, hl6, b1⟩
    obtain ⟨va, vc, rfl, hc1, hc2⟩ := SlRl.shape hs
    unfold maxLen at hc2
    have HS1 := Lib.hid hs
    clear hs
    have CI := fun wx h => implRoleActs_any ds n (.slice va ds.length vc) wx h (by omega)
    have CS := fun wx h => specRoleActs_any ds n (.slice va ds.length vc) wx h (by omega)
    have CW := Lib.hid (fun wx h => implRolesWith_any ds n (.slice va ds.length vc) wx h (by omega))
    cases hok : rValid ds && inR n 0 (ds.length - 1)
    · have e : actsR ds n = -1 := by simp [actsR, hok]
      rw [e] at CI CS
      clear e hok
      go_wp2_with fail
      refine (CI _ HS1.out).mono ?_
      rintro e w2 ⟨rfl, b2⟩
      go_wp2_with fail
      refine (CS _ (SlRl.below HS1.out b2)).mono ?_
      rintro e w3 ⟨rfl, b3⟩
      have hB3 := Below.via b3 (Below.via b2 b1)
      go_wp2_with ((go_at_call 20; refine (alive_any _).mono ?_; rintro e w' ⟨rfl, rfl⟩))
      go_ret
      exact ⟨rfl, hB3⟩
    · have e : actsR ds n = ((orF (aOf ds) (withR ds n) : Nat) : Int) := by unfold actsR; rw [hok, if_pos rfl]
      rw [e] at CI CS
      have HIL := Lib.hid (withR_in ds n)
      have hLl := withR_len ds n
      clear e hok
      generalize withR ds n = L at CI CS CW HIL hLl
      have hA16 := foldF_lt (aOf ds) L 0 HIL.out.lt (by omega)
      have HHAS := Lib.hid (fun x hx => orF_has (aOf ds) L x hx)
      have hA : orF (aOf ds) L < 16 := hA16
      obtain ⟨A, hAe⟩ : ∃ A, A = orF (aOf ds) L := ⟨_, rfl⟩
      rw [← hAe] at CI CS HHAS hA
      have HAE := Lib.hid hAe
      clear hAe hA16
      go_wp2_with fail
      refine (CI _ HS1.out).mono ?_
      rintro e w2 ⟨rfl, b2⟩
      go_wp2_with fail
      refine (CS _ (SlRl.below HS1.out b2)).mono ?_
      rintro e w3 ⟨rfl, b3⟩
      have b13 := Below.via b3 b2
      have hB3 := Below.via b13 b1
      have hnn : (((A : Nat) : Int) != (A : Int)) = false := by simp
      go_wp2_with fail
      refine (CW.out _ (SlRl.below HS1.out b13)).mono ?_
      rintro e w4 ⟨vx, rfl, ox, b4⟩
      have hB4 := Below.via b4 hB3
      have HS4 := Lib.hid (SlRl.below HS1.out (Below.via b4 b13))
      have HX := Lib.hid (show SlI w4 vx L from own_sl ox)
      obtain ⟨xa, xc, rfl, hx1, hx2⟩ := SlF.shape (own_sl ox)
      unfold maxLen at hx2
      clear ox CI CS CW HS1 b2 b3 b4 b13 hB3
      go_wp2_with fail
      go_loopw [7, 8] (fun s i wr => ∃ k : Nat, k ≤ L.length ∧ i = .int .i64 k ∧ s = .int .i64 (orF (aOf ds) (L.take k) : Nat) ∧ Hid (Below w4.heap.size w4 wr) ∧ Below w.heap.size w wr) (fun _ i _ => L.length - (intOf i).toNat)
      case atStart => exact ⟨0, Nat.zero_le _, rfl, rfl, Below.refl _ _, hB4⟩
      case round =>
        clear hB4
        obtain ⟨k, hk, rfl, rfl, hBo, hB⟩ := hrel
        by_cases hlt : k < L.length
        · have hlt2 : (k : Int) < (L.length : Int) := by omega
          obtain ⟨gx, ox, cx, hvx, _, _, x0⟩ := SlI.cell (SlI.below HX.out hBo.out) k hlt
          simp only [Value.slice.injEq] at hvx
          obtain ⟨rfl, -, rfl⟩ := hvx
          have hst := Lib.hid (orF_step (aOf ds) L k hlt)
          have hol := orF_lt (aOf ds) L HIL.out.lt k
          have hhas := HHAS.out (L[k]'hlt) (List.getElem_mem hlt)
          obtain ⟨i, hi, hxi, ha0, ha1⟩ := HIL.out (L[k]'hlt) (List.getElem_mem hlt)
          rw [hxi, aOf_eq ds i hi] at hst hhas
          rw [hxi] at x0
          obtain ⟨g, off, cap', xa2, xc2, hv, _, _, c0, c1, c2, hx, _, _, _⟩ := (SlRl.below HS4.out hBo.out).cells i hi
          simp only [Value.slice.injEq] at hv
          obtain ⟨rfl, -, rfl⟩ := hv
          clear hx hxi c0 c2
          have hi2 : (i : Int) < (ds.length : Int) := by omega
          generalize ds[i] = d at c1 hst hhas ha0 ha1
          obtain ⟨ac, hac⟩ : ∃ ac : Nat, d.acts = (ac : Int) := ⟨d.acts.toNat, by omega⟩
          rw [hac] at c1 ha1 hst hhas
          rw [Int.toNat_natCast] at hst hhas
          generalize orF (aOf ds) (L.take k) = T at hst hol
          have hbor := bits_or_nat T ac (by omega) (by omega)
          have hand : bits .and .i64 ((ac : Nat) : Int) (A : Int) = (ac : Int) := (bits_and_nat _ _ (by omega) (by omega)).trans (by rw [hhas])
          clear hac ha0 hhas
          go_wp2_with fail
          have KXr : KeepB (fun _ => True) ∧ KeepB (fun _ => True) := ⟨keepB_true, keepB_true⟩
          refine wp_region_inv (G := fun s n w_ => RgN (fun _ => False) (fun _ => True) wr w_) (R := RgR (fun _ => False) (fun _ => True))
            (Fs := [Is (fun z_ => z_ = .slice (some ⟨g, off, none⟩) ds.length vc), Is (fun z_ => z_ = .slice (some ⟨gx, ox, none⟩) L.length xc), Is (fun z_ => z_ = .int .i64 k), Is (fun z_ => z_ = .pointer (some ⟨gx, ox + k, none⟩)), Is (fun z_ => z_ = .int .i64 i), Is (fun z_ => z_ = .pointer (some ⟨g, off + i * 3, none⟩)), Is (fun z_ => z_ = .pointer (some ⟨g, off + i * 3 + 1, none⟩)), Is (fun z_ => z_ = .int .i64 ac), Is (fun z_ => z_ = .int .i64 A), Is (fun z_ => z_ = .int .i64 ac), Is (fun z_ => z_ = .slice (some ⟨g, off, none⟩) ds.length vc), Is (fun z_ => z_ = .slice (some ⟨gx, ox, none⟩) L.length xc), Is (fun z_ => z_ = .int .i64 k), Is (fun z_ => z_ = .pointer (some ⟨gx, ox + k, none⟩)), Is (fun z_ => z_ = .int .i64 i), Is (fun z_ => z_ = .pointer (some ⟨g, off + i * 3, none⟩)), Is (fun z_ => z_ = .pointer (some ⟨g, off + i * 3 + 1, none⟩)), Is (fun z_ => z_ = .int .i64 ac), Is (fun z_ => z_ = .bool false)])
            (by kernel_rfl) (by kernel_rfl) (fun _ => RgR.refl _) (fun h k => h.trans k) ?_ (fun _ _ => ⟨(Grow.refl _ _).drew, trivial⟩) ?_
          · (repeat' (first | exact lasts_nil | refine lasts_cons ?_ ?_))
            all_goals (first | exact Lasts.is | exact Lasts.any)
          refine inv_cons 0 (by rfl) (fun wx n_ s_ hn hcl hsi hG hR hd => ?_) (fun v0 => ?_)
          · exact inv_want (by rfl) (inv_move (.tmp 3) rfl (post_upN (F := Is (fun z_ => z_ = .slice (some ⟨g, off, none⟩) ds.length vc)) hG (is_eq rfl)))
          simp only [Act.put, List.setIfInBounds_toArray, List.set_cons_zero, List.set_cons_succ, List.nil_append, List.cons_append]
          refine inv_cons 1 (by rfl) (fun wx n_ s_ hn hcl hsi hG hR hd => ?_) (fun v1 => ?_)
          · exact inv_want (by rfl) (inv_move (.tmp 6) rfl (post_upN (F := Is (fun z_ => z_ = .slice (some ⟨gx, ox, none⟩) L.length xc)) hG (is_eq rfl)))
          simp only [Act.put, List.setIfInBounds_toArray, List.set_cons_zero, List.set_cons_succ, List.nil_append, List.cons_append]
          refine inv_cons 2 (by rfl) (fun wx n_ s_ hn hcl hsi hG hR hd => ?_) (fun v2 => ?_)
          · exact inv_want (by rfl) (inv_move (.tmp 8) rfl (post_upN (F := Is (fun z_ => z_ = .int .i64 k)) hG (is_eq rfl)))
          simp only [Act.put, List.setIfInBounds_toArray, List.set_cons_zero, List.set_cons_succ, List.nil_append, List.cons_append]
          refine inv_cons 3 (by rfl) (fun wx n_ s_ hn hcl hsi hG hR hd => ?_) (fun v3 => ?_)
          · have d1 : (Is (fun z_ => z_ = .slice (some ⟨gx, ox, none⟩) L.length xc)) v1 wx := dep_get hd 1 (by rfl)
            obtain rfl := d1
            have d2 : (Is (fun z_ => z_ = .int .i64 k)) v2 wx := dep_get hd 2 (by rfl)
            obtain rfl := d2
            refine inv_want (by rfl) ?_
            have HG := Lib.hid hG
            clear hG hR hcl hsi hn
            unfold invAt invUpon; go_simp
            exact post_upN (F := Is (fun z_ => z_ = .pointer (some ⟨gx, ox + k, none⟩))) HG.out (is_eq rfl)
          simp only [Act.put, List.setIfInBounds_toArray, List.set_cons_zero, List.set_cons_succ, List.nil_append, List.cons_append]
          refine inv_cons 4 (by rfl) (fun wx n_ s_ hn hcl hsi hG hR hd => ?_) (fun v4 => ?_)
          · have d3 : (Is (fun z_ => z_ = .pointer (some ⟨gx, ox + k, none⟩))) v3 wx := dep_get hd 3 (by rfl)
            obtain rfl := d3
            have xb0 := cell_grow (x0) hG.grow (fun h => h)
            refine inv_want (by rfl) ?_
            have HG := Lib.hid hG
            clear hG hR hcl hsi hn
            unfold invAt invUpon; go_simp
            exact post_upN (F := Is (fun z_ => z_ = .int .i64 i)) HG.out (is_eq rfl)
          simp only [Act.put, List.setIfInBounds_toArray, List.set_cons_zero, List.set_cons_succ, List.nil_append, List.cons_append]
          refine inv_cons 5 (by rfl) (fun wx n_ s_ hn hcl hsi hG hR hd => ?_) (fun v5 => ?_)
          · have d0 : (Is (fun z_ => z_ = .slice (some ⟨g, off, none⟩) ds.length vc)) v0 wx := dep_get hd 0 (by rfl)
            obtain rfl := d0
            have d4 : (Is (fun z_ => z_ = .int .i64 i)) v4 wx := dep_get hd 4 (by rfl)
            obtain rfl := d4
            refine inv_want (by rfl) ?_
            have HG := Lib.hid hG
            clear hG hR hcl hsi hn
            unfold invAt invUpon; go_simp
            exact post_upN (F := Is (fun z_ => z_ = .pointer (some ⟨g, off + i * 3, none⟩))) HG.out (is_eq rfl)
          simp only [Act.put, List.setIfInBounds_toArray, List.set_cons_zero, List.set_cons_succ, List.nil_append, List.cons_append]
          refine inv_cons 6 (by rfl) (fun wx n_ s_ hn hcl hsi hG hR hd => ?_) (fun v6 => ?_)
          · have d5 : (Is (fun z_ => z_ = .pointer (some ⟨g, off + i * 3, none⟩))) v5 wx := dep_get hd 5 (by rfl)
            obtain rfl := d5
            refine inv_want (by rfl) ?_
            have HG := Lib.hid hG
            clear hG hR hcl hsi hn
            unfold invAt invUpon; go_simp
            exact post_upN (F := Is (fun z_ => z_ = .pointer (some ⟨g, off + i * 3 + 1, none⟩))) HG.out (is_eq rfl)
          simp only [Act.put, List.setIfInBounds_toArray, List.set_cons_zero, List.set_cons_succ, List.nil_append, List.cons_append]
          refine inv_cons 7 (by rfl) (fun wx n_ s_ hn hcl hsi hG hR hd => ?_) (fun v7 => ?_)
          · have d6 : (Is (fun z_ => z_ = .pointer (some ⟨g, off + i * 3 + 1, none⟩))) v6 wx := dep_get hd 6 (by rfl)
            obtain rfl := d6
            have xb0 := cell_grow (c1) hG.grow (fun h => h)
            refine inv_want (by rfl) ?_
            have HG := Lib.hid hG
            clear hG hR hcl hsi hn
            unfold invAt invUpon; go_simp
            exact post_upN (F := Is (fun z_ => z_ = .int .i64 ac)) HG.out (is_eq rfl)
          simp only [Act.put, List.setIfInBounds_toArray, List.set_cons_zero, List.set_cons_succ, List.nil_append, List.cons_append]
          refine inv_cons 8 (by rfl) (fun wx n_ s_ hn hcl hsi hG hR hd => ?_) (fun v8 => ?_)
          · exact inv_want (by rfl) (inv_move (.tmp 5) rfl (post_upN (F := Is (fun z_ => z_ = .int .i64 A)) hG (is_eq rfl)))
          simp only [Act.put, List.setIfInBounds_toArray, List.set_cons_zero, List.set_cons_succ, List.nil_append, List.cons_append]
          refine inv_cons 9 (by rfl) (fun wx n_ s_ hn hcl hsi hG hR hd => ?_) (fun v9 => ?_)
          · have d7 : (Is (fun z_ => z_ = .int .i64 ac)) v7 wx := dep_get hd 7 (by rfl)
            obtain rfl := d7
            have d8 : (Is (fun z_ => z_ = .int .i64 A)) v8 wx := dep_get hd 8 (by rfl)
            obtain rfl := d8
            refine inv_want (by rfl) ?_
            have HG := Lib.hid hG
            clear hG hR hcl hsi hn
            unfold invAt invUpon; go_simp
            exact post_upN (F := Is (fun z_ => z_ = .int .i64 ac)) HG.out (is_eq rfl)
          simp only [Act.put, List.setIfInBounds_toArray, List.set_cons_zero, List.set_cons_succ, List.nil_append, List.cons_append]
          refine inv_cons 10 (by rfl) (fun wx n_ s_ hn hcl hsi hG hR hd => ?_) (fun v10 => ?_)
          · exact inv_want (by rfl) (inv_move (.tmp 3) rfl (post_upN (F := Is (fun z_ => z_ = .slice (some ⟨g, off, none⟩) ds.length vc)) hG (is_eq rfl)))
          simp only [Act.put, List.setIfInBounds_toArray, List.set_cons_zero, List.set_cons_succ, List.nil_append, List.cons_append]
          refine inv_cons 11 (by rfl) (fun wx n_ s_ hn hcl hsi hG hR hd => ?_) (fun v11 => ?_)
          · exact inv_want (by rfl) (inv_move (.tmp 6) rfl (post_upN (F := Is (fun z_ => z_ = .slice (some ⟨gx, ox, none⟩) L.length xc)) hG (is_eq rfl)))
          simp only [Act.put, List.setIfInBounds_toArray, List.set_cons_zero, List.set_cons_succ, List.nil_append, List.cons_append]
          refine inv_cons 12 (by rfl) (fun wx n_ s_ hn hcl hsi hG hR hd => ?_) (fun v12 => ?_)
          · exact inv_want (by rfl) (inv_move (.tmp 8) rfl (post_upN (F := Is (fun z_ => z_ = .int .i64 k)) hG (is_eq rfl)))
          simp only [Act.put, List.setIfInBounds_toArray, List.set_cons_zero, List.set_cons_succ, List.nil_append, List.cons_append]
          refine inv_cons 13 (by rfl) (fun wx n_ s_ hn hcl hsi hG hR hd => ?_) (fun v13 => ?_)
          · have d11 : (Is (fun z_ => z_ = .slice (some ⟨gx, ox, none⟩) L.length xc)) v11 wx := dep_get hd 11 (by rfl)
            obtain rfl := d11
            have d12 : (Is (fun z_ => z_ = .int .i64 k)) v12 wx := dep_get hd 12 (by rfl)
            obtain rfl := d12
            refine inv_want (by rfl) ?_
            have HG := Lib.hid hG
            clear hG hR hcl hsi hn
            unfold invAt invUpon; go_simp
            exact post_upN (F := Is (fun z_ => z_ = .pointer (some ⟨gx, ox + k, none⟩))) HG.out (is_eq rfl)
          simp only [Act.put, List.setIfInBounds_toArray, List.set_cons_zero, List.set_cons_succ, List.nil_append, List.cons_append]
          refine inv_cons 14 (by rfl) (fun wx n_ s_ hn hcl hsi hG hR hd => ?_) (fun v14 => ?_)
          · have d13 : (Is (fun z_ => z_ = .pointer (some ⟨gx, ox + k, none⟩))) v13 wx := dep_get hd 13 (by rfl)
            obtain rfl := d13
            have xb0 := cell_grow (x0) hG.grow (fun h => h)
            refine inv_want (by rfl) ?_
            have HG := Lib.hid hG
            clear hG hR hcl hsi hn
            unfold invAt invUpon; go_simp
            exact post_upN (F := Is (fun z_ => z_ = .int .i64 i)) HG.out (is_eq rfl)
          simp only [Act.put, List.setIfInBounds_toArray, List.set_cons_zero, List.set_cons_succ, List.nil_append, List.cons_append]
          refine inv_cons 15 (by rfl) (fun wx n_ s_ hn hcl hsi hG hR hd => ?_) (fun v15 => ?_)
          · have d10 : (Is (fun z_ => z_ = .slice (some ⟨g, off, none⟩) ds.length vc)) v10 wx := dep_get hd 10 (by rfl)
            obtain rfl := d10
            have d14 : (Is (fun z_ => z_ = .int .i64 i)) v14 wx := dep_get hd 14 (by rfl)
            obtain rfl := d14
            refine inv_want (by rfl) ?_
            have HG := Lib.hid hG
            clear hG hR hcl hsi hn
            unfold invAt invUpon; go_simp
            exact post_upN (F := Is (fun z_ => z_ = .pointer (some ⟨g, off + i * 3, none⟩))) HG.out (is_eq rfl)
          simp only [Act.put, List.setIfInBounds_toArray, List.set_cons_zero, List.set_cons_succ, List.nil_append, List.cons_append]
          refine inv_cons 16 (by rfl) (fun wx n_ s_ hn hcl hsi hG hR hd => ?_) (fun v16 => ?_)
          · have d15 : (Is (fun z_ => z_ = .pointer (some ⟨g, off + i * 3, none⟩))) v15 wx := dep_get hd 15 (by rfl)
            obtain rfl := d15
            refine inv_want (by rfl) ?_
            have HG := Lib.hid hG
            clear hG hR hcl hsi hn
            unfold invAt invUpon; go_simp
            exact post_upN (F := Is (fun z_ => z_ = .pointer (some ⟨g, off + i * 3 + 1, none⟩))) HG.out (is_eq rfl)
          simp only [Act.put, List.setIfInBounds_toArray, List.set_cons_zero, List.set_cons_succ, List.nil_append, List.cons_append]
          refine inv_cons 17 (by rfl) (fun wx n_ s_ hn hcl hsi hG hR hd => ?_) (fun v17 => ?_)
          · have d16 : (Is (fun z_ => z_ = .pointer (some ⟨g, off + i * 3 + 1, none⟩))) v16 wx := dep_get hd 16 (by rfl)
            obtain rfl := d16
            have xb0 := cell_grow (c1) hG.grow (fun h => h)
            refine inv_want (by rfl) ?_
            have HG := Lib.hid hG
            clear hG hR hcl hsi hn
            unfold invAt invUpon; go_simp
            exact post_upN (F := Is (fun z_ => z_ = .int .i64 ac)) HG.out (is_eq rfl)
          simp only [Act.put, List.setIfInBounds_toArray, List.set_cons_zero, List.set_cons_succ, List.nil_append, List.cons_append]
          refine inv_cons 18 (by rfl) (fun wx n_ s_ hn hcl hsi hG hR hd => ?_) (fun v18 => ?_)
          · have d9 : (Is (fun z_ => z_ = .int .i64 ac)) v9 wx := dep_get hd 9 (by rfl)
            obtain rfl := d9
            have d17 : (Is (fun z_ => z_ = .int .i64 ac)) v17 wx := dep_get hd 17 (by rfl)
            obtain rfl := d17
            refine inv_want (by rfl) ?_
            have HG := Lib.hid hG
            clear hG hR hcl hsi hn
            unfold invAt invUpon; go_simp
            exact post_upN (F := Is (fun z_ => z_ = .bool false)) HG.out (is_eq rfl)
          simp only [Act.put, List.setIfInBounds_toArray, List.set_cons_zero, List.set_cons_succ, List.nil_append, List.cons_append]
          refine inv_nil (fun wq nq sq hnq hGq hRq hall => ?_)
          obtain ⟨f0, f1, f2, f3, f4, f5, f6, f7, f8, f9, f10, f11, f12, f13, f14, f15, f16, f17, f18, -⟩ := hall
          obtain rfl : v18 = .bool false := f18
          have hBq := Below.via (Grow.below0 hGq.grow) hB
          have hBoq := Lib.hid (Below.via (Grow.below0 hGq.grow) hBo.out)
          have x1 := cell_grow x0 hGq.grow (fun h => h)
          have c3 := cell_grow c1 hGq.grow (fun h => h)
          clear x0 c1
          go_wp2_with fail
          go_roundw
          case rel => exact ⟨k + 1, by omega, by go_num, by rw [hst.out], hBoq, hBq⟩
          case measure => simp [intOf]; omega
        · have hf : orF (aOf ds) (L.take k) = A := by rw [List.take_of_length_le (by omega)]; exact HAE.out.symm
          rw [hf]
          clear hf
          go_wp2_with fail
          go_ret
          exact ⟨by simp, hB⟩
end Go.Proofs.Ytlcjkehpdlgdoaa
