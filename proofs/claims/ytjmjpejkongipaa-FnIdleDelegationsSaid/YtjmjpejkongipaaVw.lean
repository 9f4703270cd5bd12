/-
  The law on delegated acts, walked. Condition: the bytes can be read.
-/
import Derived.Test.YtjmjpejkongipaaVd
import Derived.Test.YtjmjpejkongipaaVq
import Derived.Test.YtjmjpejkongipaaVu
import Derived.Test.YtjmjpejkongipaaI
set_option linter.unusedSimpArgs false
set_option linter.unusedVariables false
namespace Go.Proofs.Ytjmjpejkongipaa
open Go.RowKit
/-- Own acts and delegations are drawn from bytes. -/
def DgD (w : World) (e : Ending) (w' : World) : Prop :=
  ∃ (g off cap g2 cap2 : Nat) (xs : List Int) (ds : List Deleg), e = .returned (.tuple #[.slice (some ⟨g, off, none⟩) xs.length cap, .slice (some ⟨g2, 0, none⟩) ds.length cap2]) ∧ SlI w' (.slice (some ⟨g, off, none⟩) xs.length cap) xs ∧ SlD w' (.slice (some ⟨g2, 0, none⟩) ds.length cap2) ds ∧ ds.length ≤ 8 ∧ Below w.heap.size w w'
theorem drawDA_any (a : Option Addr) (len cap : Nat) (w : World) (h : Bytes w a len cap) : Calls Try.prog 23 #[.slice a len cap] w (DgD w) := by
  have H := Lib.hid h
  clear h
  go_enter Try.func23, Try.ntmps23
  go_wp2_with fail
  refine (open_any a len cap _ H.out).mono ?_
  rintro e w1 ⟨rfl, r1, h1⟩
  have zb := r1.lt
  have z1 := h1.size
  go_wp2_with fail
  refine (l20Owns_any _ 9 _ _ r1 (by omega) (by omega) (by omega)).mono ?_
  rintro e w2 ⟨g, off, c, xs, rfl, hrow, hl7, r2⟩
  have HR := Lib.hid hrow
  have z2 := r2.size
  clear hrow
  go_wp2_with fail
  refine (l20Delegations_any _ 9 _ _ r2.rd (by omega) (by omega) (by omega)).mono ?_
  rintro e w3 ⟨v, ds, rfl, hv, hl, ho, r3⟩
  have HS := Lib.hid (RowAt.sl (RowAt.rd HR.out r3 zb))
  obtain ⟨g2, c2, rfl, _⟩ := own_ad ho hv
  have HD := Lib.hid (show SlD w3 (.slice (some ⟨g2, 0, none⟩) ds.length c2) ds from own_sl ho)
  have hB := Below.rd r3 (Below.rd r2 h1 (Nat.le_refl _)) (Nat.le_refl _)
  clear ho hv HR
  go_wp2_with fail
  go_ret2
  exact ⟨g, off, c, g2, c2, xs, ds, rfl, HS.out, HD.out, hl, hB⟩
theorem getN (ns : List Int) (ho : ownsOk ns = true) (k : Nat) (h : k < ns.length) : ns[k] = (((natsOf ns).getD k 0 : Nat) : Int) := by
  simp only [ownsOk, Bool.and_eq_true, decide_eq_true_eq, List.all_eq_true, inR_iff] at ho
  have := ho.2 ns[k] (List.getElem_mem h)
  unfold natsOf
  rw [List.getD_eq_getElem?_getD, List.getElem?_map, List.getElem?_eq_getElem h]
  simp only [Option.map_some, Option.getD_some]
  omega
theorem foldl_or_lt : ∀ (os : List Nat) (x : Nat), x < 16 → (∀ y ∈ os, y < 16) → os.foldl (· ||| ·) x < 16
  | [], x, hx, _ => hx
  | o :: os, x, hx, h => foldl_or_lt os (x ||| o) (Nat.or_lt_two_pow (n := 4) hx (h o (List.mem_cons_self ..))) (fun y hy => h y (List.mem_cons_of_mem _ hy))
theorem orTo_lt (os : List Nat) (k : Nat) (h : ∀ y ∈ os, y < 16) : orTo os k < 16 := foldl_or_lt _ 0 (by omega) (fun y hy => h y (List.mem_of_mem_take hy))
set_option maxRecDepth 100000 in
set_option maxHeartbeats 12800000 in
theorem delegatedActs_walk (a : Option Addr) (len cap : Nat) (w : World) (h : Bytes w a len cap) : Calls Try.prog 6 #[.slice a len cap] w fun e w' => e = .returned (.bool true) ∧ Below w.heap.size w w' := by
  have h1 := h.1
  have h2 := h.2.1
  unfold maxLen at h2
  have H := Lib.hid h
  clear h
  by_cases hl : 1048576 < len
  · go_enter Try.func6, Try.ntmps6
    go_wp2_with fail
    go_ret
    exact ⟨rfl, Below.refl _ _⟩
  · go_enter Try.func6, Try.ntmps6
    go_wp2_with fail
    refine (drawDA_any a len cap _ H.out).mono ?_
    rintro e w1 ⟨g, off, c, g2, c2, xs, ds, rfl, hs, hd, hl8, b1⟩
    have HS1 := Lib.hid hs
    have HD1 := Lib.hid hd
    clear hs hd
    have CI := fun wx h hm => implDA_any xs ds (.slice (some ⟨g, off, none⟩) xs.length c) (.slice (some ⟨g2, 0, none⟩) ds.length c2) wx h hm
    have CS := fun wx h hm => specDA_any xs ds (.slice (some ⟨g, off, none⟩) xs.length c) (.slice (some ⟨g2, 0, none⟩) ds.length c2) wx h hm
    cases hok : ownsOk xs && dValid ds
    · have hR : delR xs ds = [] := by simp [delR, hok]
      rw [hR] at CI CS
      clear hR hok
      go_wp2_with fail
      refine (CI _ HS1.out HD1.out).mono ?_
      rintro e w2 ⟨v2, rfl, ho2, b2⟩
      go_wp2_with fail
      refine (CS _ (SlI.below HS1.out b2) (SlD.below HD1.out b2)).mono ?_
      rintro e w3 ⟨v3, rfl, ho3, b3⟩
      have hB3 := Below.via b3 (Below.via b2 b1)
      have O2 := Lib.hid (own_sl (own_below ho2 b3))
      have O3 := Lib.hid (own_sl ho3)
      clear ho2 ho3
      obtain ⟨xa, xc, rfl, _, _⟩ := SlF.shape O2.out
      go_wp2_with fail
      refine (sameInts_any [] [] _ _ _ O2.out O3.out).mono ?_
      rintro e w4 ⟨rfl, b4⟩
      have hB4 := Below.via b4 hB3
      go_wp2_with ((go_at_call 15; refine (alive_any _).mono ?_; rintro e w' ⟨rfl, rfl⟩))
      go_ret
      exact ⟨rfl, hB4⟩
    · rw [Bool.and_eq_true] at hok
      obtain ⟨ho, hv⟩ := hok
      obtain ⟨n1, n2, n3⟩ := nats_ok xs ho
      have hx7 : xs.length = 7 := by rw [← n1, toI_len, n2]
      have e0 : delR xs ds = toI (itN ds 7 (natsOf xs)) := by simp [delR, ho, hv]
      have hag := delR_again xs ds ho hv
      have CA := Lib.hid (fun v u wx h hm => hag ▸ implDA_any (delR xs ds) ds v u wx h hm)
      have HGN := Lib.hid (getN xs ho)
      have HOK := Lib.hid (own_kept ds (natsOf xs))
      have HAD := Lib.hid (fun d hd ht => all_done ds (natsOf xs) n2 d hd ht)
      have HOS := Lib.hid (or_same ds (natsOf xs) n2)
      have HRL := Lib.hid ((itN_len ds (natsOf xs) 7).trans n2)
      have HR16 := Lib.hid (bound_it ds (natsOf xs) n3 7)
      have HO16 := Lib.hid n3
      have HN2 := Lib.hid n2
      obtain ⟨hd10, hdf⟩ := dValid_of hv
      have HF := Lib.hid hdf
      rw [e0] at CI CS CA
      clear hag e0 n1 n2 n3 ho hv hdf
      generalize itN ds 7 (natsOf xs) = R at CI CS CA HOK HAD HOS HRL HR16
      generalize natsOf xs = os at HGN HOK HOS HO16 HN2
      rw [hx7]
      rw [hx7] at CI CS
      have HS2 : Hid (SlI w1 (.slice (some ⟨g, off, none⟩) 7 c) xs) := Lib.hid (hx7 ▸ HS1.out)
      have HX7 := Lib.hid hx7
      clear HS1 hx7
      go_wp2_with fail
      refine (CI _ HS2.out HD1.out).mono ?_
      rintro e w2 ⟨v2, rfl, ho2, b2⟩
      go_wp2_with fail
      refine (CS _ (SlI.below HS2.out b2) (SlD.below HD1.out b2)).mono ?_
      rintro e w3 ⟨v3, rfl, ho3, b3⟩
      have b13 := Below.via b3 b2
      have hB3 := Below.via b13 b1
      have O2 := Lib.hid (own_sl (own_below ho2 b3))
      have O3 := Lib.hid (own_sl ho3)
      clear ho2 ho3
      obtain ⟨xa, xc, rfl, hx1, hx2⟩ := SlF.shape O2.out
      have hR7 : (toI R).length = 7 := by rw [toI_len, HRL.out]
      have HX3 : Hid (SlI w3 (.slice xa 7 xc) (toI R)) := Lib.hid (by unfold SlI; have q := O2.out; rw [hR7] at q ⊢; exact q)
      rw [hR7] at hx1 ⊢
      have HR7 := Lib.hid hR7
      unfold maxLen at hx2
      clear O2 hR7
      go_wp2_with fail
      refine (sameInts_any (toI R) (toI R) _ _ _ HX3.out O3.out).mono ?_
      rintro e w4 ⟨rfl, b4⟩
      have hB4 := Below.via b4 hB3
      have HX4 := Lib.hid (SlI.below HX3.out b4)
      have HS4 := Lib.hid (SlI.below HS2.out (Below.via b4 b13))
      have HD4 := Lib.hid (SlD.below HD1.out (Below.via b4 b13))
      clear CI CS O3 HX3 HS2 HD1 b2 b3 b4 b13
      go_wp2_with fail
      go_loopw [6, 7, 8] (fun s1 s2 i wr => ∃ k : Nat, k ≤ 7 ∧ i = .int .i64 k ∧ s1 = .int .i64 ((orTo os k : Nat) : Int) ∧ s2 = .int .i64 ((orTo R k : Nat) : Int) ∧ Hid (Below w4.heap.size w4 wr) ∧ Below w.heap.size w wr) (fun _ _ i _ => 7 - (intOf i).toNat)
      case atStart => exact ⟨0, by omega, rfl, rfl, rfl, Below.refl _ _, hB4⟩
      case round =>
        clear hB4
        obtain ⟨k, hk, rfl, rfl, rfl, hBo, hB⟩ := hrel
        by_cases hlt : k < 7
        · have hlt2 : (k : Int) < 7 := by omega
          obtain ⟨gx, ox, cx2, hvx, _, _, x0⟩ := SlI.cell (SlI.below HX4.out hBo.out) k (by rw [HR7.out]; exact hlt)
          rw [HR7.out] at hvx
          simp only [Value.slice.injEq] at hvx
          obtain ⟨rfl, -, rfl⟩ := hvx
          rw [toI_get] at x0
          obtain ⟨gl, ol, cl, hvl, _, _, p0⟩ := SlI.cell (SlI.below HS4.out hBo.out) k (by rw [HX7.out]; exact hlt)
          rw [HX7.out] at hvl
          simp only [Value.slice.injEq, Option.some.injEq, Addr.mk.injEq, and_true] at hvl
          obtain ⟨⟨rfl, rfl⟩, -, rfl⟩ := hvl
          rw [HGN.out k (by rw [HX7.out]; exact hlt)] at p0
          have hkp := HOK.out k
          have hx16 := get16 os HO16.out k
          have hy16 := get16 R HR16.out k
          have ha16 := orTo_lt os k HO16.out
          have he16 := orTo_lt R k HR16.out
          have hs1 := Lib.hid (orTo_step os k (by rw [HN2.out]; exact hlt))
          have hs2 := Lib.hid (orTo_step R k (by rw [HRL.out]; exact hlt))
          have hb1 : bits .or .i64 ((orTo os k : Nat) : Int) ((os.getD k 0 : Nat) : Int) = ((orTo os k ||| os.getD k 0 : Nat) : Int) := bits_or_nat _ _ (by omega) (by omega)
          have hb2 : bits .or .i64 ((orTo R k : Nat) : Int) ((R.getD k 0 : Nat) : Int) = ((orTo R k ||| R.getD k 0 : Nat) : Int) := bits_or_nat _ _ (by omega) (by omega)
          have hb3 : bits .and .i64 ((os.getD k 0 : Nat) : Int) ((R.getD k 0 : Nat) : Int) = ((os.getD k 0 : Nat) : Int) := (bits_and_nat _ _ (by omega) (by omega)).trans (by rw [hkp])
          generalize orTo os k ||| os.getD k 0 = a2 at hb1 hs1
          generalize orTo R k ||| R.getD k 0 = e2 at hb2 hs2
          generalize orTo os k = a1 at hb1 ha16
          generalize orTo R k = e1 at hb2 he16
          generalize os.getD k 0 = x at hb1 hb3 p0 hkp hx16
          generalize R.getD k 0 = y at hb2 hb3 x0 hkp hy16
          clear hkp
          go_wp2_with fail
          have KXr : KeepB (fun _ => True) ∧ KeepB (fun _ => True) := ⟨keepB_true, keepB_true⟩
          refine wp_region_inv (G := fun s n w_ => RgN (fun _ => False) (fun _ => True) wr w_) (R := RgR (fun _ => False) (fun _ => True))
            (Fs := [Is (fun z_ => z_ = .slice (some ⟨g, off, none⟩) 7 c), Is (fun z_ => z_ = .int .i64 k), Is (fun z_ => z_ = .pointer (some ⟨g, off + k, none⟩)), Is (fun z_ => z_ = .int .i64 x), Is (fun z_ => z_ = .slice (some ⟨gx, ox, none⟩) 7 xc), Is (fun z_ => z_ = .int .i64 k), Is (fun z_ => z_ = .pointer (some ⟨gx, ox + k, none⟩)), Is (fun z_ => z_ = .int .i64 y), Is (fun z_ => z_ = .int .i64 x), Is (fun z_ => z_ = .slice (some ⟨g, off, none⟩) 7 c), Is (fun z_ => z_ = .int .i64 k), Is (fun z_ => z_ = .pointer (some ⟨g, off + k, none⟩)), Is (fun z_ => z_ = .int .i64 x), Is (fun z_ => z_ = .bool false)])
            (by kernel_rfl) (by kernel_rfl) (fun _ => RgR.refl _) (fun h k => h.trans k) ?_ (fun _ _ => ⟨(Grow.refl _ _).drew, trivial⟩) ?_
          · (repeat' (first | exact lasts_nil | refine lasts_cons ?_ ?_))
            all_goals (first | exact Lasts.is | exact Lasts.any)
          refine inv_cons 0 (by rfl) (fun wx n_ s_ hn hcl hsi hG hR hd => ?_) (fun v0 => ?_)
          · exact inv_want (by rfl) (inv_move (.tmp 3) rfl (post_upN (F := Is (fun z_ => z_ = .slice (some ⟨g, off, none⟩) 7 c)) hG (is_eq rfl)))
          simp only [Act.put, List.setIfInBounds_toArray, List.set_cons_zero, List.set_cons_succ, List.nil_append, List.cons_append]
          refine inv_cons 1 (by rfl) (fun wx n_ s_ hn hcl hsi hG hR hd => ?_) (fun v1 => ?_)
          · exact inv_want (by rfl) (inv_move (.tmp 8) rfl (post_upN (F := Is (fun z_ => z_ = .int .i64 k)) hG (is_eq rfl)))
          simp only [Act.put, List.setIfInBounds_toArray, List.set_cons_zero, List.set_cons_succ, List.nil_append, List.cons_append]
          refine inv_cons 2 (by rfl) (fun wx n_ s_ hn hcl hsi hG hR hd => ?_) (fun v2 => ?_)
          · have d0 : (Is (fun z_ => z_ = .slice (some ⟨g, off, none⟩) 7 c)) v0 wx := dep_get hd 0 (by rfl)
            obtain rfl := d0
            have d1 : (Is (fun z_ => z_ = .int .i64 k)) v1 wx := dep_get hd 1 (by rfl)
            obtain rfl := d1
            refine inv_want (by rfl) ?_
            have HG := Lib.hid hG
            clear hG hR hcl hsi hn
            unfold invAt invUpon; go_simp
            exact post_upN (F := Is (fun z_ => z_ = .pointer (some ⟨g, off + k, none⟩))) HG.out (is_eq rfl)
          simp only [Act.put, List.setIfInBounds_toArray, List.set_cons_zero, List.set_cons_succ, List.nil_append, List.cons_append]
          refine inv_cons 3 (by rfl) (fun wx n_ s_ hn hcl hsi hG hR hd => ?_) (fun v3 => ?_)
          · have d2 : (Is (fun z_ => z_ = .pointer (some ⟨g, off + k, none⟩))) v2 wx := dep_get hd 2 (by rfl)
            obtain rfl := d2
            have xb0 := cell_grow (p0) hG.grow (fun h => h)
            refine inv_want (by rfl) ?_
            have HG := Lib.hid hG
            clear hG hR hcl hsi hn
            unfold invAt invUpon; go_simp
            exact post_upN (F := Is (fun z_ => z_ = .int .i64 x)) HG.out (is_eq rfl)
          simp only [Act.put, List.setIfInBounds_toArray, List.set_cons_zero, List.set_cons_succ, List.nil_append, List.cons_append]
          refine inv_cons 4 (by rfl) (fun wx n_ s_ hn hcl hsi hG hR hd => ?_) (fun v4 => ?_)
          · exact inv_want (by rfl) (inv_move (.tmp 5) rfl (post_upN (F := Is (fun z_ => z_ = .slice (some ⟨gx, ox, none⟩) 7 xc)) hG (is_eq rfl)))
          simp only [Act.put, List.setIfInBounds_toArray, List.set_cons_zero, List.set_cons_succ, List.nil_append, List.cons_append]
          refine inv_cons 5 (by rfl) (fun wx n_ s_ hn hcl hsi hG hR hd => ?_) (fun v5 => ?_)
          · exact inv_want (by rfl) (inv_move (.tmp 8) rfl (post_upN (F := Is (fun z_ => z_ = .int .i64 k)) hG (is_eq rfl)))
          simp only [Act.put, List.setIfInBounds_toArray, List.set_cons_zero, List.set_cons_succ, List.nil_append, List.cons_append]
          refine inv_cons 6 (by rfl) (fun wx n_ s_ hn hcl hsi hG hR hd => ?_) (fun v6 => ?_)
          · have d4 : (Is (fun z_ => z_ = .slice (some ⟨gx, ox, none⟩) 7 xc)) v4 wx := dep_get hd 4 (by rfl)
            obtain rfl := d4
            have d5 : (Is (fun z_ => z_ = .int .i64 k)) v5 wx := dep_get hd 5 (by rfl)
            obtain rfl := d5
            refine inv_want (by rfl) ?_
            have HG := Lib.hid hG
            clear hG hR hcl hsi hn
            unfold invAt invUpon; go_simp
            exact post_upN (F := Is (fun z_ => z_ = .pointer (some ⟨gx, ox + k, none⟩))) HG.out (is_eq rfl)
          simp only [Act.put, List.setIfInBounds_toArray, List.set_cons_zero, List.set_cons_succ, List.nil_append, List.cons_append]
          refine inv_cons 7 (by rfl) (fun wx n_ s_ hn hcl hsi hG hR hd => ?_) (fun v7 => ?_)
          · have d6 : (Is (fun z_ => z_ = .pointer (some ⟨gx, ox + k, none⟩))) v6 wx := dep_get hd 6 (by rfl)
            obtain rfl := d6
            have xb0 := cell_grow (x0) hG.grow (fun h => h)
            refine inv_want (by rfl) ?_
            have HG := Lib.hid hG
            clear hG hR hcl hsi hn
            unfold invAt invUpon; go_simp
            exact post_upN (F := Is (fun z_ => z_ = .int .i64 y)) HG.out (is_eq rfl)
          simp only [Act.put, List.setIfInBounds_toArray, List.set_cons_zero, List.set_cons_succ, List.nil_append, List.cons_append]
          refine inv_cons 8 (by rfl) (fun wx n_ s_ hn hcl hsi hG hR hd => ?_) (fun v8 => ?_)
          · have d3 : (Is (fun z_ => z_ = .int .i64 x)) v3 wx := dep_get hd 3 (by rfl)
            obtain rfl := d3
            have d7 : (Is (fun z_ => z_ = .int .i64 y)) v7 wx := dep_get hd 7 (by rfl)
            obtain rfl := d7
            refine inv_want (by rfl) ?_
            have HG := Lib.hid hG
            clear hG hR hcl hsi hn
            unfold invAt invUpon; go_simp
            exact post_upN (F := Is (fun z_ => z_ = .int .i64 x)) HG.out (is_eq rfl)
          simp only [Act.put, List.setIfInBounds_toArray, List.set_cons_zero, List.set_cons_succ, List.nil_append, List.cons_append]
          refine inv_cons 9 (by rfl) (fun wx n_ s_ hn hcl hsi hG hR hd => ?_) (fun v9 => ?_)
          · exact inv_want (by rfl) (inv_move (.tmp 3) rfl (post_upN (F := Is (fun z_ => z_ = .slice (some ⟨g, off, none⟩) 7 c)) hG (is_eq rfl)))
          simp only [Act.put, List.setIfInBounds_toArray, List.set_cons_zero, List.set_cons_succ, List.nil_append, List.cons_append]
          refine inv_cons 10 (by rfl) (fun wx n_ s_ hn hcl hsi hG hR hd => ?_) (fun v10 => ?_)
          · exact inv_want (by rfl) (inv_move (.tmp 8) rfl (post_upN (F := Is (fun z_ => z_ = .int .i64 k)) hG (is_eq rfl)))
          simp only [Act.put, List.setIfInBounds_toArray, List.set_cons_zero, List.set_cons_succ, List.nil_append, List.cons_append]
          refine inv_cons 11 (by rfl) (fun wx n_ s_ hn hcl hsi hG hR hd => ?_) (fun v11 => ?_)
          · have d9 : (Is (fun z_ => z_ = .slice (some ⟨g, off, none⟩) 7 c)) v9 wx := dep_get hd 9 (by rfl)
            obtain rfl := d9
            have d10 : (Is (fun z_ => z_ = .int .i64 k)) v10 wx := dep_get hd 10 (by rfl)
            obtain rfl := d10
            refine inv_want (by rfl) ?_
            have HG := Lib.hid hG
            clear hG hR hcl hsi hn
            unfold invAt invUpon; go_simp
            exact post_upN (F := Is (fun z_ => z_ = .pointer (some ⟨g, off + k, none⟩))) HG.out (is_eq rfl)
          simp only [Act.put, List.setIfInBounds_toArray, List.set_cons_zero, List.set_cons_succ, List.nil_append, List.cons_append]
          refine inv_cons 12 (by rfl) (fun wx n_ s_ hn hcl hsi hG hR hd => ?_) (fun v12 => ?_)
          · have d11 : (Is (fun z_ => z_ = .pointer (some ⟨g, off + k, none⟩))) v11 wx := dep_get hd 11 (by rfl)
            obtain rfl := d11
            have xb0 := cell_grow (p0) hG.grow (fun h => h)
            refine inv_want (by rfl) ?_
            have HG := Lib.hid hG
            clear hG hR hcl hsi hn
            unfold invAt invUpon; go_simp
            exact post_upN (F := Is (fun z_ => z_ = .int .i64 x)) HG.out (is_eq rfl)
          simp only [Act.put, List.setIfInBounds_toArray, List.set_cons_zero, List.set_cons_succ, List.nil_append, List.cons_append]
          refine inv_cons 13 (by rfl) (fun wx n_ s_ hn hcl hsi hG hR hd => ?_) (fun v13 => ?_)
          · have d8 : (Is (fun z_ => z_ = .int .i64 x)) v8 wx := dep_get hd 8 (by rfl)
            obtain rfl := d8
            have d12 : (Is (fun z_ => z_ = .int .i64 x)) v12 wx := dep_get hd 12 (by rfl)
            obtain rfl := d12
            refine inv_want (by rfl) ?_
            have HG := Lib.hid hG
            clear hG hR hcl hsi hn
            unfold invAt invUpon; go_simp
            exact post_upN (F := Is (fun z_ => z_ = .bool false)) HG.out (is_eq rfl)
          simp only [Act.put, List.setIfInBounds_toArray, List.set_cons_zero, List.set_cons_succ, List.nil_append, List.cons_append]
          refine inv_nil (fun wq nq sq hnq hGq hRq hall => ?_)
          obtain ⟨f0, f1, f2, f3, f4, f5, f6, f7, f8, f9, f10, f11, f12, f13, -⟩ := hall
          obtain rfl : v13 = .bool false := f13
          have hBq := Below.via (Grow.below0 hGq.grow) hB
          have hBoq := Lib.hid (Below.via (Grow.below0 hGq.grow) hBo.out)
          go_wp2_with fail
          go_roundw
          case rel => first | exact ⟨k + 1, by omega, by go_num, by rw [hs1.out], by rw [hs2.out], hBoq, hBq⟩ | ((repeat apply Exists.intro); exact ⟨⟨k + 1, by omega, by go_num, by rw [hs1.out], by rw [hs2.out], hBoq, hBq⟩, rfl⟩)
          case measure => simp [intOf]; omega
        · obtain rfl : k = 7 := by omega
          rw [HOS.out]
          generalize orTo os 7 = al
          clear HOS HOK HGN HS4 HX7
          go_wp2_with fail
          go_loopw [9] (fun i wr => ∃ k : Nat, k ≤ ds.length ∧ i = .int .i64 k ∧ Hid (Below w4.heap.size w4 wr) ∧ Below w.heap.size w wr) (fun i _ => ds.length - (intOf i).toNat)
          case atStart => exact ⟨0, Nat.zero_le _, rfl, hBo.out, hB⟩
          case round =>
            clear hBo hB
            obtain ⟨k, hk, rfl, hBo, hB⟩ := hrel
            by_cases hlt : k < ds.length
            · have hlt2 : (k : Int) < (ds.length : Int) := by omega
              obtain ⟨gd, od, cd, hvv, _, _, c0, c1, c3⟩ := SlD.cells (SlD.below HD4.out hBo.out) k hlt
              simp only [Value.slice.injEq, Option.some.injEq, Addr.mk.injEq, and_true] at hvv
              obtain ⟨⟨rfl, rfl⟩, -, rfl⟩ := hvv
              simp only [Nat.zero_add] at c0 c1 c3
              have hdk := HF.out ds[k] (List.getElem_mem hlt)
              have had := Lib.hid (HAD.out ds[k] (List.getElem_mem hlt) (by omega))
              generalize ds[k] = d at c0 c1 c3 hdk had
              obtain ⟨f, hf⟩ : ∃ f : Nat, d.f0 = f := ⟨d.f0.toNat, by omega⟩
              obtain ⟨t, ht⟩ : ∃ t : Nat, d.f1 = t := ⟨d.f1.toNat, by omega⟩
              obtain ⟨ac, hac⟩ : ∃ ac : Nat, d.f2 = ac := ⟨d.f2.toNat, by omega⟩
              rw [hf] at c0 hdk
              rw [ht] at c1 hdk
              rw [hac] at c3 hdk
              have hhd := had.out
              rw [hf, ht, hac, Int.toNat_natCast, Int.toNat_natCast, Int.toNat_natCast] at hhd
              obtain ⟨gx, ox, cx2, hvx, _, _, x0⟩ := SlI.cell (SlI.below HX4.out hBo.out) f (by rw [HR7.out]; omega)
              rw [HR7.out] at hvx
              simp only [Value.slice.injEq] at hvx
              obtain ⟨rfl, -, rfl⟩ := hvx
              obtain ⟨gy, oy, cy2, hvx, _, _, y0⟩ := SlI.cell (SlI.below HX4.out hBo.out) t (by rw [HR7.out]; omega)
              rw [HR7.out] at hvx
              simp only [Value.slice.injEq, Option.some.injEq, Addr.mk.injEq, and_true] at hvx
              obtain ⟨⟨rfl, rfl⟩, -, rfl⟩ := hvx
              rw [toI_get] at x0 y0
              have hx16 := get16 R HR16.out f
              have hy16 := get16 R HR16.out t
              have hb1 : bits .and .i64 ((R.getD f 0 : Nat) : Int) ((ac : Nat) : Int) = ((R.getD f 0 &&& ac : Nat) : Int) := bits_and_nat _ _ (by omega) (by omega)
              have hb2 : bits .and .i64 ((R.getD f 0 &&& ac : Nat) : Int) ((R.getD t 0 : Nat) : Int) = ((R.getD f 0 &&& ac : Nat) : Int) := by
                have e : R.getD f 0 &&& ac ≤ R.getD f 0 := Nat.and_le_left
                rw [bits_and_nat _ _ (by omega) (by omega), hhd]
              clear had hhd hf ht hac
              generalize R.getD f 0 &&& ac = xa2 at hb1 hb2
              generalize R.getD f 0 = x at hb1 x0 hx16
              generalize R.getD t 0 = y at hb2 y0 hy16
              have hA := Below.al (Below.refl wr.heap.size wr) (.cells #[.int .i64 f, .int .i64 t, .int .i64 ac] 32)
              have KM := Bk.new (w := wr) (vs := #[.int .i64 f, .int .i64 t, .int .i64 ac]) (t := 32)
              have p0 := (hA.cell (World.block_lt_of_cell? _ _ x0)).trans x0
              have p1 := (hA.cell (World.block_lt_of_cell? _ _ y0)).trans y0
              have hBA := Below.via hA hB
              have hBAo := Lib.hid (Below.via hA hBo.out)
              have hf7 : (f : Int) < 7 := by omega
              have ht7 : (t : Int) < 7 := by omega
              clear x0 y0
              go_wp2_with fail
              have KXr : KeepB (fun _ => True) ∧ KeepB (fun _ => True) := ⟨keepB_true, keepB_true⟩
              refine wp_region_inv (G := fun s n w_ => RgN (fun _ => False) (fun _ => True) (wr.alloc (.cells #[.int .i64 f, .int .i64 t, .int .i64 ac] 32)) w_) (R := RgR (fun _ => False) (fun _ => True))
                (Fs := [Is (fun z_ => z_ = .slice (some ⟨gx, ox, none⟩) 7 xc), Is (fun z_ => z_ = .pointer (some ⟨wr.heap.size, 0, none⟩)), Is (fun z_ => z_ = .int .i64 f), Is (fun z_ => z_ = .pointer (some ⟨gx, ox + f, none⟩)), Is (fun z_ => z_ = .int .i64 x), Is (fun z_ => z_ = .pointer (some ⟨wr.heap.size, 2, none⟩)), Is (fun z_ => z_ = .int .i64 ac), Is (fun z_ => z_ = .int .i64 xa2), Is (fun z_ => z_ = .slice (some ⟨gx, ox, none⟩) 7 xc), Is (fun z_ => z_ = .pointer (some ⟨wr.heap.size, 1, none⟩)), Is (fun z_ => z_ = .int .i64 t), Is (fun z_ => z_ = .pointer (some ⟨gx, ox + t, none⟩)), Is (fun z_ => z_ = .int .i64 y), Is (fun z_ => z_ = .int .i64 xa2), Is (fun z_ => z_ = .slice (some ⟨gx, ox, none⟩) 7 xc), Is (fun z_ => z_ = .pointer (some ⟨wr.heap.size, 0, none⟩)), Is (fun z_ => z_ = .int .i64 f), Is (fun z_ => z_ = .pointer (some ⟨gx, ox + f, none⟩)), Is (fun z_ => z_ = .int .i64 x), Is (fun z_ => z_ = .pointer (some ⟨wr.heap.size, 2, none⟩)), Is (fun z_ => z_ = .int .i64 ac), Is (fun z_ => z_ = .int .i64 xa2), Is (fun z_ => z_ = .bool false)])
                (by kernel_rfl) (by kernel_rfl) (fun _ => RgR.refl _) (fun h k => h.trans k) ?_ (fun _ _ => ⟨(Grow.refl _ _).drew, trivial⟩) ?_
              · (repeat' (first | exact lasts_nil | refine lasts_cons ?_ ?_))
                all_goals (first | exact Lasts.is | exact Lasts.any)
              refine inv_cons 0 (by rfl) (fun wx n_ s_ hn hcl hsi hG hR hd => ?_) (fun v0 => ?_)
              · exact inv_want (by rfl) (inv_move (.tmp 5) rfl (post_upN (F := Is (fun z_ => z_ = .slice (some ⟨gx, ox, none⟩) 7 xc)) hG (is_eq rfl)))
              simp only [Act.put, List.setIfInBounds_toArray, List.set_cons_zero, List.set_cons_succ, List.nil_append, List.cons_append]
              refine inv_cons 1 (by rfl) (fun wx n_ s_ hn hcl hsi hG hR hd => ?_) (fun v1 => ?_)
              · refine inv_want (by rfl) ?_
                have HG := Lib.hid hG
                clear hG hR hcl hsi hn
                unfold invAt invUpon; go_simp
                exact post_upN (F := Is (fun z_ => z_ = .pointer (some ⟨wr.heap.size, 0, none⟩))) HG.out (is_eq rfl)
              simp only [Act.put, List.setIfInBounds_toArray, List.set_cons_zero, List.set_cons_succ, List.nil_append, List.cons_append]
              refine inv_cons 2 (by rfl) (fun wx n_ s_ hn hcl hsi hG hR hd => ?_) (fun v2 => ?_)
              · have d1 : (Is (fun z_ => z_ = .pointer (some ⟨wr.heap.size, 0, none⟩))) v1 wx := dep_get hd 1 (by rfl)
                obtain rfl := d1
                have xb := (Bk.grow (KM) hG.grow (fun h => h)).cell
                refine inv_want (by rfl) ?_
                have HG := Lib.hid hG
                clear hG hR hcl hsi hn
                unfold invAt invUpon; go_simp
                exact post_upN (F := Is (fun z_ => z_ = .int .i64 f)) HG.out (is_eq rfl)
              simp only [Act.put, List.setIfInBounds_toArray, List.set_cons_zero, List.set_cons_succ, List.nil_append, List.cons_append]
              refine inv_cons 3 (by rfl) (fun wx n_ s_ hn hcl hsi hG hR hd => ?_) (fun v3 => ?_)
              · have d0 : (Is (fun z_ => z_ = .slice (some ⟨gx, ox, none⟩) 7 xc)) v0 wx := dep_get hd 0 (by rfl)
                obtain rfl := d0
                have d2 : (Is (fun z_ => z_ = .int .i64 f)) v2 wx := dep_get hd 2 (by rfl)
                obtain rfl := d2
                refine inv_want (by rfl) ?_
                have HG := Lib.hid hG
                clear hG hR hcl hsi hn
                unfold invAt invUpon; go_simp
                exact post_upN (F := Is (fun z_ => z_ = .pointer (some ⟨gx, ox + f, none⟩))) HG.out (is_eq rfl)
              simp only [Act.put, List.setIfInBounds_toArray, List.set_cons_zero, List.set_cons_succ, List.nil_append, List.cons_append]
              refine inv_cons 4 (by rfl) (fun wx n_ s_ hn hcl hsi hG hR hd => ?_) (fun v4 => ?_)
              · have d3 : (Is (fun z_ => z_ = .pointer (some ⟨gx, ox + f, none⟩))) v3 wx := dep_get hd 3 (by rfl)
                obtain rfl := d3
                have xb0 := cell_grow (p0) hG.grow (fun h => h)
                refine inv_want (by rfl) ?_
                have HG := Lib.hid hG
                clear hG hR hcl hsi hn
                unfold invAt invUpon; go_simp
                exact post_upN (F := Is (fun z_ => z_ = .int .i64 x)) HG.out (is_eq rfl)
              simp only [Act.put, List.setIfInBounds_toArray, List.set_cons_zero, List.set_cons_succ, List.nil_append, List.cons_append]
              refine inv_cons 5 (by rfl) (fun wx n_ s_ hn hcl hsi hG hR hd => ?_) (fun v5 => ?_)
              · refine inv_want (by rfl) ?_
                have HG := Lib.hid hG
                clear hG hR hcl hsi hn
                unfold invAt invUpon; go_simp
                exact post_upN (F := Is (fun z_ => z_ = .pointer (some ⟨wr.heap.size, 2, none⟩))) HG.out (is_eq rfl)
              simp only [Act.put, List.setIfInBounds_toArray, List.set_cons_zero, List.set_cons_succ, List.nil_append, List.cons_append]
              refine inv_cons 6 (by rfl) (fun wx n_ s_ hn hcl hsi hG hR hd => ?_) (fun v6 => ?_)
              · have d5 : (Is (fun z_ => z_ = .pointer (some ⟨wr.heap.size, 2, none⟩))) v5 wx := dep_get hd 5 (by rfl)
                obtain rfl := d5
                have xb := (Bk.grow (KM) hG.grow (fun h => h)).cell
                refine inv_want (by rfl) ?_
                have HG := Lib.hid hG
                clear hG hR hcl hsi hn
                unfold invAt invUpon; go_simp
                exact post_upN (F := Is (fun z_ => z_ = .int .i64 ac)) HG.out (is_eq rfl)
              simp only [Act.put, List.setIfInBounds_toArray, List.set_cons_zero, List.set_cons_succ, List.nil_append, List.cons_append]
              refine inv_cons 7 (by rfl) (fun wx n_ s_ hn hcl hsi hG hR hd => ?_) (fun v7 => ?_)
              · have d4 : (Is (fun z_ => z_ = .int .i64 x)) v4 wx := dep_get hd 4 (by rfl)
                obtain rfl := d4
                have d6 : (Is (fun z_ => z_ = .int .i64 ac)) v6 wx := dep_get hd 6 (by rfl)
                obtain rfl := d6
                refine inv_want (by rfl) ?_
                have HG := Lib.hid hG
                clear hG hR hcl hsi hn
                unfold invAt invUpon; go_simp
                exact post_upN (F := Is (fun z_ => z_ = .int .i64 xa2)) HG.out (is_eq rfl)
              simp only [Act.put, List.setIfInBounds_toArray, List.set_cons_zero, List.set_cons_succ, List.nil_append, List.cons_append]
              refine inv_cons 8 (by rfl) (fun wx n_ s_ hn hcl hsi hG hR hd => ?_) (fun v8 => ?_)
              · exact inv_want (by rfl) (inv_move (.tmp 5) rfl (post_upN (F := Is (fun z_ => z_ = .slice (some ⟨gx, ox, none⟩) 7 xc)) hG (is_eq rfl)))
              simp only [Act.put, List.setIfInBounds_toArray, List.set_cons_zero, List.set_cons_succ, List.nil_append, List.cons_append]
              refine inv_cons 9 (by rfl) (fun wx n_ s_ hn hcl hsi hG hR hd => ?_) (fun v9 => ?_)
              · refine inv_want (by rfl) ?_
                have HG := Lib.hid hG
                clear hG hR hcl hsi hn
                unfold invAt invUpon; go_simp
                exact post_upN (F := Is (fun z_ => z_ = .pointer (some ⟨wr.heap.size, 1, none⟩))) HG.out (is_eq rfl)
              simp only [Act.put, List.setIfInBounds_toArray, List.set_cons_zero, List.set_cons_succ, List.nil_append, List.cons_append]
              refine inv_cons 10 (by rfl) (fun wx n_ s_ hn hcl hsi hG hR hd => ?_) (fun v10 => ?_)
              · have d9 : (Is (fun z_ => z_ = .pointer (some ⟨wr.heap.size, 1, none⟩))) v9 wx := dep_get hd 9 (by rfl)
                obtain rfl := d9
                have xb := (Bk.grow (KM) hG.grow (fun h => h)).cell
                refine inv_want (by rfl) ?_
                have HG := Lib.hid hG
                clear hG hR hcl hsi hn
                unfold invAt invUpon; go_simp
                exact post_upN (F := Is (fun z_ => z_ = .int .i64 t)) HG.out (is_eq rfl)
              simp only [Act.put, List.setIfInBounds_toArray, List.set_cons_zero, List.set_cons_succ, List.nil_append, List.cons_append]
              refine inv_cons 11 (by rfl) (fun wx n_ s_ hn hcl hsi hG hR hd => ?_) (fun v11 => ?_)
              · have d8 : (Is (fun z_ => z_ = .slice (some ⟨gx, ox, none⟩) 7 xc)) v8 wx := dep_get hd 8 (by rfl)
                obtain rfl := d8
                have d10 : (Is (fun z_ => z_ = .int .i64 t)) v10 wx := dep_get hd 10 (by rfl)
                obtain rfl := d10
                refine inv_want (by rfl) ?_
                have HG := Lib.hid hG
                clear hG hR hcl hsi hn
                unfold invAt invUpon; go_simp
                exact post_upN (F := Is (fun z_ => z_ = .pointer (some ⟨gx, ox + t, none⟩))) HG.out (is_eq rfl)
              simp only [Act.put, List.setIfInBounds_toArray, List.set_cons_zero, List.set_cons_succ, List.nil_append, List.cons_append]
              refine inv_cons 12 (by rfl) (fun wx n_ s_ hn hcl hsi hG hR hd => ?_) (fun v12 => ?_)
              · have d11 : (Is (fun z_ => z_ = .pointer (some ⟨gx, ox + t, none⟩))) v11 wx := dep_get hd 11 (by rfl)
                obtain rfl := d11
                have xb0 := cell_grow (p1) hG.grow (fun h => h)
                refine inv_want (by rfl) ?_
                have HG := Lib.hid hG
                clear hG hR hcl hsi hn
                unfold invAt invUpon; go_simp
                exact post_upN (F := Is (fun z_ => z_ = .int .i64 y)) HG.out (is_eq rfl)
              simp only [Act.put, List.setIfInBounds_toArray, List.set_cons_zero, List.set_cons_succ, List.nil_append, List.cons_append]
              refine inv_cons 13 (by rfl) (fun wx n_ s_ hn hcl hsi hG hR hd => ?_) (fun v13 => ?_)
              · have d7 : (Is (fun z_ => z_ = .int .i64 xa2)) v7 wx := dep_get hd 7 (by rfl)
                obtain rfl := d7
                have d12 : (Is (fun z_ => z_ = .int .i64 y)) v12 wx := dep_get hd 12 (by rfl)
                obtain rfl := d12
                refine inv_want (by rfl) ?_
                have HG := Lib.hid hG
                clear hG hR hcl hsi hn
                unfold invAt invUpon; go_simp
                exact post_upN (F := Is (fun z_ => z_ = .int .i64 xa2)) HG.out (is_eq rfl)
              simp only [Act.put, List.setIfInBounds_toArray, List.set_cons_zero, List.set_cons_succ, List.nil_append, List.cons_append]
              refine inv_cons 14 (by rfl) (fun wx n_ s_ hn hcl hsi hG hR hd => ?_) (fun v14 => ?_)
              · exact inv_want (by rfl) (inv_move (.tmp 5) rfl (post_upN (F := Is (fun z_ => z_ = .slice (some ⟨gx, ox, none⟩) 7 xc)) hG (is_eq rfl)))
              simp only [Act.put, List.setIfInBounds_toArray, List.set_cons_zero, List.set_cons_succ, List.nil_append, List.cons_append]
              refine inv_cons 15 (by rfl) (fun wx n_ s_ hn hcl hsi hG hR hd => ?_) (fun v15 => ?_)
              · refine inv_want (by rfl) ?_
                have HG := Lib.hid hG
                clear hG hR hcl hsi hn
                unfold invAt invUpon; go_simp
                exact post_upN (F := Is (fun z_ => z_ = .pointer (some ⟨wr.heap.size, 0, none⟩))) HG.out (is_eq rfl)
              simp only [Act.put, List.setIfInBounds_toArray, List.set_cons_zero, List.set_cons_succ, List.nil_append, List.cons_append]
              refine inv_cons 16 (by rfl) (fun wx n_ s_ hn hcl hsi hG hR hd => ?_) (fun v16 => ?_)
              · have d15 : (Is (fun z_ => z_ = .pointer (some ⟨wr.heap.size, 0, none⟩))) v15 wx := dep_get hd 15 (by rfl)
                obtain rfl := d15
                have xb := (Bk.grow (KM) hG.grow (fun h => h)).cell
                refine inv_want (by rfl) ?_
                have HG := Lib.hid hG
                clear hG hR hcl hsi hn
                unfold invAt invUpon; go_simp
                exact post_upN (F := Is (fun z_ => z_ = .int .i64 f)) HG.out (is_eq rfl)
              simp only [Act.put, List.setIfInBounds_toArray, List.set_cons_zero, List.set_cons_succ, List.nil_append, List.cons_append]
              refine inv_cons 17 (by rfl) (fun wx n_ s_ hn hcl hsi hG hR hd => ?_) (fun v17 => ?_)
              · have d14 : (Is (fun z_ => z_ = .slice (some ⟨gx, ox, none⟩) 7 xc)) v14 wx := dep_get hd 14 (by rfl)
                obtain rfl := d14
                have d16 : (Is (fun z_ => z_ = .int .i64 f)) v16 wx := dep_get hd 16 (by rfl)
                obtain rfl := d16
                refine inv_want (by rfl) ?_
                have HG := Lib.hid hG
                clear hG hR hcl hsi hn
                unfold invAt invUpon; go_simp
                exact post_upN (F := Is (fun z_ => z_ = .pointer (some ⟨gx, ox + f, none⟩))) HG.out (is_eq rfl)
              simp only [Act.put, List.setIfInBounds_toArray, List.set_cons_zero, List.set_cons_succ, List.nil_append, List.cons_append]
              refine inv_cons 18 (by rfl) (fun wx n_ s_ hn hcl hsi hG hR hd => ?_) (fun v18 => ?_)
              · have d17 : (Is (fun z_ => z_ = .pointer (some ⟨gx, ox + f, none⟩))) v17 wx := dep_get hd 17 (by rfl)
                obtain rfl := d17
                have xb0 := cell_grow (p0) hG.grow (fun h => h)
                refine inv_want (by rfl) ?_
                have HG := Lib.hid hG
                clear hG hR hcl hsi hn
                unfold invAt invUpon; go_simp
                exact post_upN (F := Is (fun z_ => z_ = .int .i64 x)) HG.out (is_eq rfl)
              simp only [Act.put, List.setIfInBounds_toArray, List.set_cons_zero, List.set_cons_succ, List.nil_append, List.cons_append]
              refine inv_cons 19 (by rfl) (fun wx n_ s_ hn hcl hsi hG hR hd => ?_) (fun v19 => ?_)
              · refine inv_want (by rfl) ?_
                have HG := Lib.hid hG
                clear hG hR hcl hsi hn
                unfold invAt invUpon; go_simp
                exact post_upN (F := Is (fun z_ => z_ = .pointer (some ⟨wr.heap.size, 2, none⟩))) HG.out (is_eq rfl)
              simp only [Act.put, List.setIfInBounds_toArray, List.set_cons_zero, List.set_cons_succ, List.nil_append, List.cons_append]
              refine inv_cons 20 (by rfl) (fun wx n_ s_ hn hcl hsi hG hR hd => ?_) (fun v20 => ?_)
              · have d19 : (Is (fun z_ => z_ = .pointer (some ⟨wr.heap.size, 2, none⟩))) v19 wx := dep_get hd 19 (by rfl)
                obtain rfl := d19
                have xb := (Bk.grow (KM) hG.grow (fun h => h)).cell
                refine inv_want (by rfl) ?_
                have HG := Lib.hid hG
                clear hG hR hcl hsi hn
                unfold invAt invUpon; go_simp
                exact post_upN (F := Is (fun z_ => z_ = .int .i64 ac)) HG.out (is_eq rfl)
              simp only [Act.put, List.setIfInBounds_toArray, List.set_cons_zero, List.set_cons_succ, List.nil_append, List.cons_append]
              refine inv_cons 21 (by rfl) (fun wx n_ s_ hn hcl hsi hG hR hd => ?_) (fun v21 => ?_)
              · have d18 : (Is (fun z_ => z_ = .int .i64 x)) v18 wx := dep_get hd 18 (by rfl)
                obtain rfl := d18
                have d20 : (Is (fun z_ => z_ = .int .i64 ac)) v20 wx := dep_get hd 20 (by rfl)
                obtain rfl := d20
                refine inv_want (by rfl) ?_
                have HG := Lib.hid hG
                clear hG hR hcl hsi hn
                unfold invAt invUpon; go_simp
                exact post_upN (F := Is (fun z_ => z_ = .int .i64 xa2)) HG.out (is_eq rfl)
              simp only [Act.put, List.setIfInBounds_toArray, List.set_cons_zero, List.set_cons_succ, List.nil_append, List.cons_append]
              refine inv_cons 22 (by rfl) (fun wx n_ s_ hn hcl hsi hG hR hd => ?_) (fun v22 => ?_)
              · have d13 : (Is (fun z_ => z_ = .int .i64 xa2)) v13 wx := dep_get hd 13 (by rfl)
                obtain rfl := d13
                have d21 : (Is (fun z_ => z_ = .int .i64 xa2)) v21 wx := dep_get hd 21 (by rfl)
                obtain rfl := d21
                refine inv_want (by rfl) ?_
                have HG := Lib.hid hG
                clear hG hR hcl hsi hn
                unfold invAt invUpon; go_simp
                exact post_upN (F := Is (fun z_ => z_ = .bool false)) HG.out (is_eq rfl)
              simp only [Act.put, List.setIfInBounds_toArray, List.set_cons_zero, List.set_cons_succ, List.nil_append, List.cons_append]
              refine inv_nil (fun wq nq sq hnq hGq hRq hall => ?_)
              obtain ⟨f0, f1, f2, f3, f4, f5, f6, f7, f8, f9, f10, f11, f12, f13, f14, f15, f16, f17, f18, f19, f20, f21, f22, -⟩ := hall
              obtain rfl : v22 = .bool false := f22
              have hBq := Below.via (Grow.below0 hGq.grow) hBA
              have hBoq := Lib.hid (Below.via (Grow.below0 hGq.grow) hBAo.out)
              go_wp2_with fail
              go_roundw
              case rel => first | exact ⟨k + 1, by omega, by go_num, hBoq, hBq⟩ | exact ⟨k + 1, by omega, by omega⟩ | ((repeat apply Exists.intro); exact ⟨⟨k + 1, by omega, by go_num, hBoq, hBq⟩, rfl⟩)
              case measure => simp [intOf]; omega
            · obtain rfl : k = ds.length := by omega
              have hlt2 : ¬ ((ds.length : Nat) : Int) < (ds.length : Int) := by omega
              have HXr := Lib.hid (SlI.below HX4.out hBo.out)
              have HDr := Lib.hid (SlD.below HD4.out hBo.out)
              have hBw := hB
              clear hB hBo
              go_wp2_with fail
              refine (CA.out _ _ _ HXr.out HDr.out).mono ?_
              rintro e w5 ⟨v5, rfl, o5, b5⟩
              have O5 := Lib.hid (own_sl o5)
              have hB5 := Below.via b5 hBw
              clear o5
              go_wp2_with fail
              refine (sameInts_any (toI R) (toI R) _ _ _ O5.out (SlI.below HXr.out b5)).mono ?_
              rintro e w6 ⟨rfl, b6⟩
              have hB6 := Below.via b6 hB5
              go_wp2_with fail
              go_ret
              exact ⟨rfl, hB6⟩
end Go.Proofs.Ytjmjpejkongipaa
