/-
  What the program delegates. No condition.
-/
import Derived.Test.YtjmjpejkongipaaVr
import Derived.Deep.LoopGhost
set_option linter.unusedSimpArgs false
set_option linter.unusedVariables false
namespace Go.Proofs.Ytjmjpejkongipaa
open Go.RowKit
def toI (os : List Nat) : List Int := os.map fun (n : Nat) => (n : Int)
theorem RowI.own7 {w : World} {lo g cap : Nat} {ds : List Int} {n : Nat} (h : RowI w lo g cap ds) (hn : ds.length = n) : w.ownsRow lo 3 1 (.slice (some ⟨g, 0, none⟩) n cap) n (cellsI ds) := hn ▸ h.own
theorem toI_len (os : List Nat) : (toI os).length = os.length := by simp [toI]
theorem toI_get (os : List Nat) (i : Nat) (h : i < (toI os).length) : (toI os)[i] = ((os.getD i 0 : Nat) : Int) := by
  rw [toI_len] at h
  simp only [toI, List.getElem_map]
  rw [List.getD_eq_getElem?_getD, List.getElem?_eq_getElem h]; rfl
theorem toI_set (os : List Nat) (i x : Nat) : (toI os).set i (x : Int) = toI (os.set i x) := by simp [toI, List.map_set]
theorem get16 (os : List Nat) (h : ∀ x ∈ os, x < 16) (i : Nat) : os.getD i 0 < 16 := by
  rw [List.getD_eq_getElem?_getD]
  cases e : os[i]? with
  | none => simp
  | some y => exact h y (List.mem_of_getElem? e)
/-- What a delegation adds. -/
def moreN (os : List Nat) (d : Deleg) : Nat := (os.getD d.f0.toNat 0 &&& d.f2.toNat) ^^^ ((os.getD d.f0.toNat 0 &&& d.f2.toNat) &&& os.getD d.f1.toNat 0)
theorem or_more (x y : Nat) : x ||| (y ^^^ (y &&& x)) = x ||| y := by
  refine Nat.eq_of_testBit_eq fun i => ?_
  simp only [Nat.testBit_or, Nat.testBit_xor, Nat.testBit_and]
  cases x.testBit i <;> cases y.testBit i <;> rfl
theorem dst_more (os : List Nat) (d : Deleg) : dstN os d = os.set d.f1.toNat (os.getD d.f1.toNat 0 ||| moreN os d) := by
  unfold dstN moreN
  rw [or_more]
theorem set_self (B : List Nat) (i : Nat) : B.set i (B.getD i 0) = B := by
  refine List.ext_getElem? fun j => ?_
  rw [List.getElem?_set]
  by_cases h : i = j
  · subst h
    rw [if_pos rfl]
    by_cases hi : i < B.length
    · rw [if_pos hi, List.getD_eq_getElem?_getD, List.getElem?_eq_getElem hi]; rfl
    · rw [if_neg hi, List.getElem?_eq_none (by omega)]
  · rw [if_neg h]
theorem dst_none (os : List Nat) (d : Deleg) (h : moreN os d = 0) : dstN os d = os := by
  rw [dst_more, h, Nat.or_zero, set_self]
theorem sum_set (B : List Nat) : ∀ i x, i < B.length → B.getD i 0 < x → B.sum < (B.set i x).sum := by
  induction B with
  | nil => intro i x h; simp at h
  | cons b B ih =>
    intro i x h hx
    cases i with
    | zero => simp at hx ⊢; omega
    | succ i =>
      have := ih i x (by simpa using h) (by simpa using hx)
      simp only [List.set_cons_succ, List.sum_cons]
      omega
theorem more_lt (x m : Nat) (y : Nat) (hm : m = y ^^^ (y &&& x)) (h : m ≠ 0) : x < x ||| m := by
  have h1 : x ≤ x ||| m := Nat.left_le_or
  rcases Nat.lt_or_eq_of_le h1 with h2 | h2
  · exact h2
  · exfalso
    apply h
    refine Nat.eq_of_testBit_eq fun i => ?_
    have e := congrArg (fun z => z.testBit i) h2
    simp only [Nat.testBit_or] at e
    rw [hm] at e ⊢
    simp only [Nat.testBit_xor, Nat.testBit_and, Nat.zero_testBit] at e ⊢
    cases hx : x.testBit i <;> cases hy : y.testBit i <;> simp [hx, hy] at e ⊢
theorem dst_some (os : List Nat) (d : Deleg) (ht : d.f1.toNat < os.length) (h : moreN os d ≠ 0) : os.sum < (dstN os d).sum := by
  rw [dst_more]
  exact sum_set os _ _ ht (more_lt _ _ _ rfl h)
theorem dValid_of {ds : List Deleg} (h : dValid ds = true) : ds.length ≤ 10 ∧ ∀ d ∈ ds, (0 ≤ d.f0 ∧ d.f0 ≤ 6) ∧ (0 ≤ d.f1 ∧ d.f1 ≤ 6) ∧ (1 ≤ d.f2 ∧ d.f2 ≤ 15) := by
  simp only [dValid, Bool.and_eq_true, decide_eq_true_eq, List.all_eq_true] at h
  refine ⟨h.2, fun d hd => ?_⟩
  have := h.1 d hd
  simp only [dOk, Bool.and_eq_true, inR_iff] at this
  exact ⟨this.1.1.1, this.1.1.2, this.2⟩
theorem SlD.shape {w : World} {v : Value} {ds : List Deleg} (h : SlD w v ds) : ∃ a cap, v = .slice a ds.length cap ∧ ds.length ≤ cap ∧ cap ≤ maxLen := SlF.shape h
theorem bits3 (x y c : Nat) (hx : x < 16) (hy : y < 16) (hc : c < 16) : bits .andNot .i64 (bits .and .i64 (x : Int) (c : Int)) (y : Int) = (((x &&& c) ^^^ ((x &&& c) &&& y) : Nat) : Int) := by
  have h1 : x &&& c ≤ x := Nat.and_le_left
  rw [bits_and_nat x c (by omega) (by omega), bits_andNot_nat _ y (by omega) (by omega)]
set_option maxRecDepth 100000 in
set_option maxHeartbeats 6400000 in
theorem delegated_any (os : List Nat) (ds : List Deleg) (v u : Value) (w : World) (h : SlI w v (toI os)) (hd : SlD w u ds) (hl : os.length = 7) (hb : ∀ x ∈ os, x < 16) (hv : dValid ds = true) :
    Calls Try.prog 39 #[v, u] w fun e w' => ∃ v' : Value, e = .returned v' ∧ w'.ownsRow w.heap.size 3 1 v' 7 (cellsI (toI (itN ds 7 os))) ∧ Below w.heap.size w w' := by
  obtain ⟨hd10, hdf⟩ := dValid_of hv
  have HF := Lib.hid hdf
  have HD := Lib.hid hd
  have HI := Lib.hid h
  obtain ⟨a2, cap2, rfl, h3, h4⟩ := SlD.shape hd
  have CC := fun wx h => cloneI_any (toI os) v wx h (by rw [toI_len]; omega) (by rw [toI_len]; omega)
  rw [toI_len, hl] at CC
  have HL := Lib.hid (fun n => (itN_len ds os n).trans hl)
  have HB := Lib.hid (bound_it ds os hb)
  have HDN := Lib.hid (fun n hn h => itN_done ds os n hn h)
  have HMO := Lib.hid (fun n hn h => itN_more ds os hl n hn h)
  have HLI := Lib.hid (fun n => (toI_len (itN ds n os)).trans (HL.out n))
  unfold maxLen at h4
  clear hv hdf hd h hb hl
  go_enter Try.func39, Try.ntmps39
  go_wp2_with fail
  refine (CC _ HI.out).mono ?_
  rintro e w1 ⟨g, c, rfl, hr, b1⟩
  have HR := Lib.hid hr
  have hg1 := RowI.lt hr
  clear hr CC
  go_wp2_with fail
  go_loopg [6] 9 (fun gk b wr => ∃ (n : Nat) (q : Bool), b = .bool q ∧ Hid (RowI wr w.heap.size g c (toI (itN ds n os))) ∧ Hid (Below w.heap.size w wr) ∧ ((q = true ∧ n ≤ 7 ∧ gk = 9 - n) ∨ (q = false ∧ itN ds n os = itN ds 7 os)))
  case atStart => exact ⟨0, true, rfl, HR.out, b1, .inl ⟨rfl, by omega, rfl⟩⟩
  case round =>
    obtain ⟨n, q, rfl, hR, hBo, hq⟩ := hrel
    rcases hq with ⟨rfl, hn, rfl⟩ | ⟨rfl, hfin⟩
    · have hP7 := Lib.hid (fun k => (passN_len (ds.take k) (itN ds n os)).trans (HL.out n))
      have hP16 := Lib.hid (fun k => bound_pass (ds.take k) (itN ds n os) (HB.out n))
      have hdn := Lib.hid (HDN.out n hn)
      have hmo := Lib.hid (HMO.out n hn)
      have hnx : Hid (passN ds (itN ds n os) = itN ds (n + 1) os) := Lib.hid rfl
      generalize itN ds n os = O at hR hP7 hP16 hdn hmo hnx
      clear HDN HMO HLI HB HL
      go_wp2_with fail
      go_loopw [6, 15] (fun b i wx => ∃ (k : Nat) (q : Bool), k ≤ ds.length ∧ i = .int .i64 k ∧ b = .bool q ∧ Hid (RowI wx w.heap.size g c (toI (passN (ds.take k) O))) ∧ Hid (Below w.heap.size w wx) ∧ Hid ((q = false ∧ passN (ds.take k) O = O) ∨ (q = true ∧ O.sum < (passN (ds.take k) O).sum))) (fun _ i _ => ds.length - (intOf i).toNat)
      case atStart => exact ⟨0, false, Nat.zero_le _, rfl, rfl, hR.out, hBo.out, .inl ⟨rfl, rfl⟩⟩
      case round =>
        clear hR hBo
        obtain ⟨k, q, hk, rfl, rfl, hR, hBo, hq⟩ := hrel
        by_cases hlt : k < ds.length
        · have hlt2 : (k : Int) < (ds.length : Int) := by omega
          obtain ⟨g2, off, cx, hvv, _, _, c0, c1, c2⟩ := SlD.cells (SlD.below HD.out hBo.out) k hlt
          simp only [Value.slice.injEq] at hvv
          obtain ⟨rfl, -, rfl⟩ := hvv
          have hst := Lib.hid (passN_step ds O k hlt)
          have hdk := HF.out ds[k] (List.getElem_mem hlt)
          have hP := hP7.out k
          have hP2 := hP16.out k
          generalize ds[k] = d at c0 c1 c2 hst hdk
          generalize passN (ds.take k) O = P at hR hst hP hP2 hq
          obtain ⟨f, hf⟩ : ∃ f : Nat, d.f0 = f := ⟨d.f0.toNat, by omega⟩
          obtain ⟨t, ht⟩ : ∃ t : Nat, d.f1 = t := ⟨d.f1.toNat, by omega⟩
          obtain ⟨ac, hac⟩ : ∃ ac : Nat, d.f2 = ac := ⟨d.f2.toNat, by omega⟩
          rw [hf] at c0 hdk
          rw [ht] at c1 hdk
          rw [hac] at c2 hdk
          have hx := get16 P hP2 f
          have hy := get16 P hP2 t
          have r0 := (RowI.at hR.out f (by rw [toI_len, hP]; omega)).1
          have r1 := (RowI.at hR.out t (by rw [toI_len, hP]; omega)).1
          rw [toI_get] at r0 r1
          have hmr : moreN P d = (P.getD f 0 &&& ac) ^^^ ((P.getD f 0 &&& ac) &&& P.getD t 0) := by unfold moreN; rw [hf, ht, hac]; rfl
          have hds : dstN P d = P.set t (P.getD t 0 ||| moreN P d) := by rw [dst_more, ht]; rfl
          have hdz := Lib.hid (dst_none P d)
          have hdp := Lib.hid (dst_some P d (by rw [ht, hP]; omega))
          have hb1 : bits .and .i64 ((P.getD f 0 : Nat) : Int) (ac : Int) = ((P.getD f 0 &&& ac : Nat) : Int) := bits_and_nat _ _ (by omega) (by omega)
          have hb2 : bits .andNot .i64 ((P.getD f 0 &&& ac : Nat) : Int) ((P.getD t 0 : Nat) : Int) = ((moreN P d : Nat) : Int) := by
            have e : P.getD f 0 &&& ac ≤ P.getD f 0 := Nat.and_le_left
            rw [hmr, bits_andNot_nat _ _ (by omega) (by omega)]
          have hm63 : moreN P d < 16 := by
            have e : P.getD f 0 &&& ac ≤ P.getD f 0 := Nat.and_le_left
            rw [hmr]
            exact Nat.xor_lt_two_pow (n := 4) (by omega) (Nat.and_lt_two_pow _ (by omega))
          have hb3 : bits .or .i64 ((P.getD t 0 : Nat) : Int) ((moreN P d : Nat) : Int) = ((P.getD t 0 ||| moreN P d : Nat) : Int) := bits_or_nat _ _ (by omega) (by omega)
          have hds2 := Lib.hid (show toI (dstN P d) = (toI P).set t ((P.getD t 0 ||| moreN P d : Nat) : Int) by rw [hds, toI_set])
          generalize P.getD t 0 ||| moreN P d = z at hb3 hds2 hds
          generalize P.getD f 0 &&& ac = xa at hb1 hb2 hmr
          generalize P.getD f 0 = x at hb1 r0 hx
          generalize P.getD t 0 = y at hb2 hb3 r1 hy hmr
          have hA := Below.al (Below.refl wr.heap.size wr) (.cells #[.int .i64 f, .int .i64 t, .int .i64 ac] 32)
          have KM := Bk.new (w := wr) (vs := #[.int .i64 f, .int .i64 t, .int .i64 ac]) (t := 32)
          have HRW := Lib.hid (RowI.below hR.out hA)
          have hBA := Below.via hA hBo.out
          have q0 := hA.cell (World.block_lt_of_cell? _ _ r0)
          have q1 := hA.cell (World.block_lt_of_cell? _ _ r1)
          have p0 := q0.trans r0
          have p1 := q1.trans r1
          clear hR hmr hds q0 q1 r0 r1 hf ht hac hBo
          have hf7 : (f : Int) < 7 := by omega
          have ht7 : (t : Int) < 7 := by omega
          by_cases hm : moreN P d = 0
          · have hz := Lib.hid (hdz.out hm)
            rw [hm] at hb2
            clear hb3 hds2 hdz hdp hm63
            go_wp2_with fail
            have KXr : KeepB (fun _ => True) ∧ KeepB (fun _ => True) := ⟨keepB_true, keepB_true⟩
            refine wp_region_inv (G := fun s n w_ => RgN (fun _ => False) (fun _ => True) (wr.alloc (.cells #[.int .i64 f, .int .i64 t, .int .i64 ac] 32)) w_) (R := RgR (fun _ => False) (fun _ => True))
              (Fs := [Is (fun z_ => z_ = .slice (some ⟨g, 0, none⟩) 7 c), Is (fun z_ => z_ = .pointer (some ⟨wr.heap.size, 0, none⟩)), Is (fun z_ => z_ = .int .i64 f), Is (fun z_ => z_ = .pointer (some ⟨g, f, none⟩)), Is (fun z_ => z_ = .int .i64 x), Is (fun z_ => z_ = .pointer (some ⟨wr.heap.size, 2, none⟩)), Is (fun z_ => z_ = .int .i64 ac), Is (fun z_ => z_ = .int .i64 xa), Is (fun z_ => z_ = .slice (some ⟨g, 0, none⟩) 7 c), Is (fun z_ => z_ = .pointer (some ⟨wr.heap.size, 1, none⟩)), Is (fun z_ => z_ = .int .i64 t), Is (fun z_ => z_ = .pointer (some ⟨g, t, none⟩)), Is (fun z_ => z_ = .int .i64 y), Is (fun z_ => z_ = .int .i64 0), Is (fun z_ => z_ = .int .i64 0)])
              (by kernel_rfl) (by kernel_rfl) (fun _ => RgR.refl _) (fun h k => h.trans k) ?_ (fun _ _ => ⟨(Grow.refl _ _).drew, trivial⟩) ?_
            · (repeat' (first | exact lasts_nil | refine lasts_cons ?_ ?_))
              all_goals (first | exact Lasts.is | exact Lasts.any)
            refine inv_cons 0 (by rfl) (fun wx n_ s_ hn hcl hsi hG hR hd => ?_) (fun v0 => ?_)
            · exact inv_want (by rfl) (inv_move (.tmp 5) rfl (post_upN (F := Is (fun z_ => z_ = .slice (some ⟨g, 0, none⟩) 7 c)) hG (is_eq rfl)))
            simp only [Act.put, List.setIfInBounds_toArray, List.set_cons_zero, List.set_cons_succ, List.nil_append, List.cons_append]
            refine inv_cons 1 (by rfl) (fun wx n_ s_ hn hcl hsi hG hR hd => ?_) (fun v1 => ?_)
            · refine inv_want (by rfl) ?_
              have HG := Lib.hid hG
              clear hG hR hcl hsi hn
              unfold invAt invUpon; go_simp
              exact post_upN (F := Is (fun z_ => z_ = .pointer (some ⟨wr.heap.size, 0, none⟩))) HG.out (is_eq rfl)
            simp only [Act.put, List.setIfInBounds_toArray, List.set_cons_zero, List.set_cons_succ, List.nil_append, List.cons_append]
            refine inv_cons 2 (by rfl) (fun wx n_ s_ hn hcl hsi hG hR hd => ?_) (fun v2 => ?_)
            · have d1 : (Is (fun z_ => z_ = .pointer (some ⟨wr.heap.size, 0, none⟩))) v1 wx := dep_get hd 1 (by rfl)
              obtain rfl := d1
              have xb := (Bk.grow (KM) hG.grow (fun h => h)).cell
              refine inv_want (by rfl) ?_
              have HG := Lib.hid hG
              clear hG hR hcl hsi hn
              unfold invAt invUpon; go_simp
              exact post_upN (F := Is (fun z_ => z_ = .int .i64 f)) HG.out (is_eq rfl)
            simp only [Act.put, List.setIfInBounds_toArray, List.set_cons_zero, List.set_cons_succ, List.nil_append, List.cons_append]
            refine inv_cons 3 (by rfl) (fun wx n_ s_ hn hcl hsi hG hR hd => ?_) (fun v3 => ?_)
            · have d0 : (Is (fun z_ => z_ = .slice (some ⟨g, 0, none⟩) 7 c)) v0 wx := dep_get hd 0 (by rfl)
              obtain rfl := d0
              have d2 : (Is (fun z_ => z_ = .int .i64 f)) v2 wx := dep_get hd 2 (by rfl)
              obtain rfl := d2
              refine inv_want (by rfl) ?_
              have HG := Lib.hid hG
              clear hG hR hcl hsi hn
              unfold invAt invUpon; go_simp
              exact post_upN (F := Is (fun z_ => z_ = .pointer (some ⟨g, f, none⟩))) HG.out (is_eq rfl)
            simp only [Act.put, List.setIfInBounds_toArray, List.set_cons_zero, List.set_cons_succ, List.nil_append, List.cons_append]
            refine inv_cons 4 (by rfl) (fun wx n_ s_ hn hcl hsi hG hR hd => ?_) (fun v4 => ?_)
            · have d3 : (Is (fun z_ => z_ = .pointer (some ⟨g, f, none⟩))) v3 wx := dep_get hd 3 (by rfl)
              obtain rfl := d3
              have xb0 := cell_grow (p0) hG.grow (fun h => h)
              refine inv_want (by rfl) ?_
              have HG := Lib.hid hG
              clear hG hR hcl hsi hn
              unfold invAt invUpon; go_simp
              exact post_upN (F := Is (fun z_ => z_ = .int .i64 x)) HG.out (is_eq rfl)
            simp only [Act.put, List.setIfInBounds_toArray, List.set_cons_zero, List.set_cons_succ, List.nil_append, List.cons_append]
            refine inv_cons 5 (by rfl) (fun wx n_ s_ hn hcl hsi hG hR hd => ?_) (fun v5 => ?_)
            · refine inv_want (by rfl) ?_
              have HG := Lib.hid hG
              clear hG hR hcl hsi hn
              unfold invAt invUpon; go_simp
              exact post_upN (F := Is (fun z_ => z_ = .pointer (some ⟨wr.heap.size, 2, none⟩))) HG.out (is_eq rfl)
            simp only [Act.put, List.setIfInBounds_toArray, List.set_cons_zero, List.set_cons_succ, List.nil_append, List.cons_append]
            refine inv_cons 6 (by rfl) (fun wx n_ s_ hn hcl hsi hG hR hd => ?_) (fun v6 => ?_)
            · have d5 : (Is (fun z_ => z_ = .pointer (some ⟨wr.heap.size, 2, none⟩))) v5 wx := dep_get hd 5 (by rfl)
              obtain rfl := d5
              have xb := (Bk.grow (KM) hG.grow (fun h => h)).cell
              refine inv_want (by rfl) ?_
              have HG := Lib.hid hG
              clear hG hR hcl hsi hn
              unfold invAt invUpon; go_simp
              exact post_upN (F := Is (fun z_ => z_ = .int .i64 ac)) HG.out (is_eq rfl)
            simp only [Act.put, List.setIfInBounds_toArray, List.set_cons_zero, List.set_cons_succ, List.nil_append, List.cons_append]
            refine inv_cons 7 (by rfl) (fun wx n_ s_ hn hcl hsi hG hR hd => ?_) (fun v7 => ?_)
            · have d4 : (Is (fun z_ => z_ = .int .i64 x)) v4 wx := dep_get hd 4 (by rfl)
              obtain rfl := d4
              have d6 : (Is (fun z_ => z_ = .int .i64 ac)) v6 wx := dep_get hd 6 (by rfl)
              obtain rfl := d6
              refine inv_want (by rfl) ?_
              have HG := Lib.hid hG
              clear hG hR hcl hsi hn
              unfold invAt invUpon; go_simp
              exact post_upN (F := Is (fun z_ => z_ = .int .i64 xa)) HG.out (is_eq rfl)
            simp only [Act.put, List.setIfInBounds_toArray, List.set_cons_zero, List.set_cons_succ, List.nil_append, List.cons_append]
            refine inv_cons 8 (by rfl) (fun wx n_ s_ hn hcl hsi hG hR hd => ?_) (fun v8 => ?_)
            · exact inv_want (by rfl) (inv_move (.tmp 5) rfl (post_upN (F := Is (fun z_ => z_ = .slice (some ⟨g, 0, none⟩) 7 c)) hG (is_eq rfl)))
            simp only [Act.put, List.setIfInBounds_toArray, List.set_cons_zero, List.set_cons_succ, List.nil_append, List.cons_append]
            refine inv_cons 9 (by rfl) (fun wx n_ s_ hn hcl hsi hG hR hd => ?_) (fun v9 => ?_)
            · refine inv_want (by rfl) ?_
              have HG := Lib.hid hG
              clear hG hR hcl hsi hn
              unfold invAt invUpon; go_simp
              exact post_upN (F := Is (fun z_ => z_ = .pointer (some ⟨wr.heap.size, 1, none⟩))) HG.out (is_eq rfl)
            simp only [Act.put, List.setIfInBounds_toArray, List.set_cons_zero, List.set_cons_succ, List.nil_append, List.cons_append]
            refine inv_cons 10 (by rfl) (fun wx n_ s_ hn hcl hsi hG hR hd => ?_) (fun v10 => ?_)
            · have d9 : (Is (fun z_ => z_ = .pointer (some ⟨wr.heap.size, 1, none⟩))) v9 wx := dep_get hd 9 (by rfl)
              obtain rfl := d9
              have xb := (Bk.grow (KM) hG.grow (fun h => h)).cell
              refine inv_want (by rfl) ?_
              have HG := Lib.hid hG
              clear hG hR hcl hsi hn
              unfold invAt invUpon; go_simp
              exact post_upN (F := Is (fun z_ => z_ = .int .i64 t)) HG.out (is_eq rfl)
            simp only [Act.put, List.setIfInBounds_toArray, List.set_cons_zero, List.set_cons_succ, List.nil_append, List.cons_append]
            refine inv_cons 11 (by rfl) (fun wx n_ s_ hn hcl hsi hG hR hd => ?_) (fun v11 => ?_)
            · have d8 : (Is (fun z_ => z_ = .slice (some ⟨g, 0, none⟩) 7 c)) v8 wx := dep_get hd 8 (by rfl)
              obtain rfl := d8
              have d10 : (Is (fun z_ => z_ = .int .i64 t)) v10 wx := dep_get hd 10 (by rfl)
              obtain rfl := d10
              refine inv_want (by rfl) ?_
              have HG := Lib.hid hG
              clear hG hR hcl hsi hn
              unfold invAt invUpon; go_simp
              exact post_upN (F := Is (fun z_ => z_ = .pointer (some ⟨g, t, none⟩))) HG.out (is_eq rfl)
            simp only [Act.put, List.setIfInBounds_toArray, List.set_cons_zero, List.set_cons_succ, List.nil_append, List.cons_append]
            refine inv_cons 12 (by rfl) (fun wx n_ s_ hn hcl hsi hG hR hd => ?_) (fun v12 => ?_)
            · have d11 : (Is (fun z_ => z_ = .pointer (some ⟨g, t, none⟩))) v11 wx := dep_get hd 11 (by rfl)
              obtain rfl := d11
              have xb0 := cell_grow (p1) hG.grow (fun h => h)
              refine inv_want (by rfl) ?_
              have HG := Lib.hid hG
              clear hG hR hcl hsi hn
              unfold invAt invUpon; go_simp
              exact post_upN (F := Is (fun z_ => z_ = .int .i64 y)) HG.out (is_eq rfl)
            simp only [Act.put, List.setIfInBounds_toArray, List.set_cons_zero, List.set_cons_succ, List.nil_append, List.cons_append]
            refine inv_cons 13 (by rfl) (fun wx n_ s_ hn hcl hsi hG hR hd => ?_) (fun v13 => ?_)
            · have d7 : (Is (fun z_ => z_ = .int .i64 xa)) v7 wx := dep_get hd 7 (by rfl)
              obtain rfl := d7
              have d12 : (Is (fun z_ => z_ = .int .i64 y)) v12 wx := dep_get hd 12 (by rfl)
              obtain rfl := d12
              refine inv_want (by rfl) ?_
              have HG := Lib.hid hG
              clear hG hR hcl hsi hn
              unfold invAt invUpon; go_simp
              exact post_upN (F := Is (fun z_ => z_ = .int .i64 0)) HG.out (is_eq rfl)
            simp only [Act.put, List.setIfInBounds_toArray, List.set_cons_zero, List.set_cons_succ, List.nil_append, List.cons_append]
            refine inv_cons 14 (by rfl) (fun wx n_ s_ hn hcl hsi hG hR hd => ?_) (fun v14 => ?_)
            · have d13 : (Is (fun z_ => z_ = .int .i64 0)) v13 wx := dep_get hd 13 (by rfl)
              obtain rfl := d13
              exact inv_want (by rfl) (inv_assign (.tmp 32) rfl (post_upN (F := Is (fun z_ => z_ = .int .i64 0)) hG (is_eq rfl)))
            simp only [Act.put, List.setIfInBounds_toArray, List.set_cons_zero, List.set_cons_succ, List.nil_append, List.cons_append]
            refine inv_nil (fun wq nq sq hnq hGq hRq hall => ?_)
            obtain ⟨f0, f1, f2, f3, f4, f5, f6, f7, f8, f9, f10, f11, f12, f13, f14, -⟩ := hall
            obtain rfl : v14 = .int .i64 0 := f14
            have hBq := Lib.hid (Below.via (Grow.below0 hGq.grow) hBA)
            have HRq := Lib.hid (RowI.below HRW.out (Grow.below0 hGq.grow))
            go_wp2_with fail
            go_roundw
            case rel => exact ⟨k + 1, q, by omega, by go_num, rfl, by rw [hst.out, hz.out]; exact HRq, hBq, by rw [hst.out, hz.out]; exact hq⟩
            case measure => simp [intOf]; omega
          · have hsm := Lib.hid (hdp.out hm)
            generalize moreN P d = m at hm hb2 hb3 hm63
            have hmz : ¬ ((m : Nat) : Int) = 0 := by omega
            clear hdz hdp hm
            go_wp2_with fail
            have KXr : KeepB (fun _ => True) ∧ KeepB (fun _ => True) := ⟨keepB_true, keepB_true⟩
            refine wp_region_inv (G := fun s n w_ => RgN (fun _ => False) (fun _ => True) (wr.alloc (.cells #[.int .i64 f, .int .i64 t, .int .i64 ac] 32)) w_) (R := RgR (fun _ => False) (fun _ => True))
              (Fs := [Is (fun z_ => z_ = .slice (some ⟨g, 0, none⟩) 7 c), Is (fun z_ => z_ = .pointer (some ⟨wr.heap.size, 0, none⟩)), Is (fun z_ => z_ = .int .i64 f), Is (fun z_ => z_ = .pointer (some ⟨g, f, none⟩)), Is (fun z_ => z_ = .int .i64 x), Is (fun z_ => z_ = .pointer (some ⟨wr.heap.size, 2, none⟩)), Is (fun z_ => z_ = .int .i64 ac), Is (fun z_ => z_ = .int .i64 xa), Is (fun z_ => z_ = .slice (some ⟨g, 0, none⟩) 7 c), Is (fun z_ => z_ = .pointer (some ⟨wr.heap.size, 1, none⟩)), Is (fun z_ => z_ = .int .i64 t), Is (fun z_ => z_ = .pointer (some ⟨g, t, none⟩)), Is (fun z_ => z_ = .int .i64 y), Is (fun z_ => z_ = .int .i64 m), Is (fun z_ => z_ = .int .i64 m)])
              (by kernel_rfl) (by kernel_rfl) (fun _ => RgR.refl _) (fun h k => h.trans k) ?_ (fun _ _ => ⟨(Grow.refl _ _).drew, trivial⟩) ?_
            · (repeat' (first | exact lasts_nil | refine lasts_cons ?_ ?_))
              all_goals (first | exact Lasts.is | exact Lasts.any)
            refine inv_cons 0 (by rfl) (fun wx n_ s_ hn hcl hsi hG hR hd => ?_) (fun v0 => ?_)
            · exact inv_want (by rfl) (inv_move (.tmp 5) rfl (post_upN (F := Is (fun z_ => z_ = .slice (some ⟨g, 0, none⟩) 7 c)) hG (is_eq rfl)))
            simp only [Act.put, List.setIfInBounds_toArray, List.set_cons_zero, List.set_cons_succ, List.nil_append, List.cons_append]
            refine inv_cons 1 (by rfl) (fun wx n_ s_ hn hcl hsi hG hR hd => ?_) (fun v1 => ?_)
            · refine inv_want (by rfl) ?_
              have HG := Lib.hid hG
              clear hG hR hcl hsi hn
              unfold invAt invUpon; go_simp
              exact post_upN (F := Is (fun z_ => z_ = .pointer (some ⟨wr.heap.size, 0, none⟩))) HG.out (is_eq rfl)
            simp only [Act.put, List.setIfInBounds_toArray, List.set_cons_zero, List.set_cons_succ, List.nil_append, List.cons_append]
            refine inv_cons 2 (by rfl) (fun wx n_ s_ hn hcl hsi hG hR hd => ?_) (fun v2 => ?_)
            · have d1 : (Is (fun z_ => z_ = .pointer (some ⟨wr.heap.size, 0, none⟩))) v1 wx := dep_get hd 1 (by rfl)
              obtain rfl := d1
              have xb := (Bk.grow (KM) hG.grow (fun h => h)).cell
              refine inv_want (by rfl) ?_
              have HG := Lib.hid hG
              clear hG hR hcl hsi hn
              unfold invAt invUpon; go_simp
              exact post_upN (F := Is (fun z_ => z_ = .int .i64 f)) HG.out (is_eq rfl)
            simp only [Act.put, List.setIfInBounds_toArray, List.set_cons_zero, List.set_cons_succ, List.nil_append, List.cons_append]
            refine inv_cons 3 (by rfl) (fun wx n_ s_ hn hcl hsi hG hR hd => ?_) (fun v3 => ?_)
            · have d0 : (Is (fun z_ => z_ = .slice (some ⟨g, 0, none⟩) 7 c)) v0 wx := dep_get hd 0 (by rfl)
              obtain rfl := d0
              have d2 : (Is (fun z_ => z_ = .int .i64 f)) v2 wx := dep_get hd 2 (by rfl)
              obtain rfl := d2
              refine inv_want (by rfl) ?_
              have HG := Lib.hid hG
              clear hG hR hcl hsi hn
              unfold invAt invUpon; go_simp
              exact post_upN (F := Is (fun z_ => z_ = .pointer (some ⟨g, f, none⟩))) HG.out (is_eq rfl)
            simp only [Act.put, List.setIfInBounds_toArray, List.set_cons_zero, List.set_cons_succ, List.nil_append, List.cons_append]
            refine inv_cons 4 (by rfl) (fun wx n_ s_ hn hcl hsi hG hR hd => ?_) (fun v4 => ?_)
            · have d3 : (Is (fun z_ => z_ = .pointer (some ⟨g, f, none⟩))) v3 wx := dep_get hd 3 (by rfl)
              obtain rfl := d3
              have xb0 := cell_grow (p0) hG.grow (fun h => h)
              refine inv_want (by rfl) ?_
              have HG := Lib.hid hG
              clear hG hR hcl hsi hn
              unfold invAt invUpon; go_simp
              exact post_upN (F := Is (fun z_ => z_ = .int .i64 x)) HG.out (is_eq rfl)
            simp only [Act.put, List.setIfInBounds_toArray, List.set_cons_zero, List.set_cons_succ, List.nil_append, List.cons_append]
            refine inv_cons 5 (by rfl) (fun wx n_ s_ hn hcl hsi hG hR hd => ?_) (fun v5 => ?_)
            · refine inv_want (by rfl) ?_
              have HG := Lib.hid hG
              clear hG hR hcl hsi hn
              unfold invAt invUpon; go_simp
              exact post_upN (F := Is (fun z_ => z_ = .pointer (some ⟨wr.heap.size, 2, none⟩))) HG.out (is_eq rfl)
            simp only [Act.put, List.setIfInBounds_toArray, List.set_cons_zero, List.set_cons_succ, List.nil_append, List.cons_append]
            refine inv_cons 6 (by rfl) (fun wx n_ s_ hn hcl hsi hG hR hd => ?_) (fun v6 => ?_)
            · have d5 : (Is (fun z_ => z_ = .pointer (some ⟨wr.heap.size, 2, none⟩))) v5 wx := dep_get hd 5 (by rfl)
              obtain rfl := d5
              have xb := (Bk.grow (KM) hG.grow (fun h => h)).cell
              refine inv_want (by rfl) ?_
              have HG := Lib.hid hG
              clear hG hR hcl hsi hn
              unfold invAt invUpon; go_simp
              exact post_upN (F := Is (fun z_ => z_ = .int .i64 ac)) HG.out (is_eq rfl)
            simp only [Act.put, List.setIfInBounds_toArray, List.set_cons_zero, List.set_cons_succ, List.nil_append, List.cons_append]
            refine inv_cons 7 (by rfl) (fun wx n_ s_ hn hcl hsi hG hR hd => ?_) (fun v7 => ?_)
            · have d4 : (Is (fun z_ => z_ = .int .i64 x)) v4 wx := dep_get hd 4 (by rfl)
              obtain rfl := d4
              have d6 : (Is (fun z_ => z_ = .int .i64 ac)) v6 wx := dep_get hd 6 (by rfl)
              obtain rfl := d6
              refine inv_want (by rfl) ?_
              have HG := Lib.hid hG
              clear hG hR hcl hsi hn
              unfold invAt invUpon; go_simp
              exact post_upN (F := Is (fun z_ => z_ = .int .i64 xa)) HG.out (is_eq rfl)
            simp only [Act.put, List.setIfInBounds_toArray, List.set_cons_zero, List.set_cons_succ, List.nil_append, List.cons_append]
            refine inv_cons 8 (by rfl) (fun wx n_ s_ hn hcl hsi hG hR hd => ?_) (fun v8 => ?_)
            · exact inv_want (by rfl) (inv_move (.tmp 5) rfl (post_upN (F := Is (fun z_ => z_ = .slice (some ⟨g, 0, none⟩) 7 c)) hG (is_eq rfl)))
            simp only [Act.put, List.setIfInBounds_toArray, List.set_cons_zero, List.set_cons_succ, List.nil_append, List.cons_append]
            refine inv_cons 9 (by rfl) (fun wx n_ s_ hn hcl hsi hG hR hd => ?_) (fun v9 => ?_)
            · refine inv_want (by rfl) ?_
              have HG := Lib.hid hG
              clear hG hR hcl hsi hn
              unfold invAt invUpon; go_simp
              exact post_upN (F := Is (fun z_ => z_ = .pointer (some ⟨wr.heap.size, 1, none⟩))) HG.out (is_eq rfl)
            simp only [Act.put, List.setIfInBounds_toArray, List.set_cons_zero, List.set_cons_succ, List.nil_append, List.cons_append]
            refine inv_cons 10 (by rfl) (fun wx n_ s_ hn hcl hsi hG hR hd => ?_) (fun v10 => ?_)
            · have d9 : (Is (fun z_ => z_ = .pointer (some ⟨wr.heap.size, 1, none⟩))) v9 wx := dep_get hd 9 (by rfl)
              obtain rfl := d9
              have xb := (Bk.grow (KM) hG.grow (fun h => h)).cell
              refine inv_want (by rfl) ?_
              have HG := Lib.hid hG
              clear hG hR hcl hsi hn
              unfold invAt invUpon; go_simp
              exact post_upN (F := Is (fun z_ => z_ = .int .i64 t)) HG.out (is_eq rfl)
            simp only [Act.put, List.setIfInBounds_toArray, List.set_cons_zero, List.set_cons_succ, List.nil_append, List.cons_append]
            refine inv_cons 11 (by rfl) (fun wx n_ s_ hn hcl hsi hG hR hd => ?_) (fun v11 => ?_)
            · have d8 : (Is (fun z_ => z_ = .slice (some ⟨g, 0, none⟩) 7 c)) v8 wx := dep_get hd 8 (by rfl)
              obtain rfl := d8
              have d10 : (Is (fun z_ => z_ = .int .i64 t)) v10 wx := dep_get hd 10 (by rfl)
              obtain rfl := d10
              refine inv_want (by rfl) ?_
              have HG := Lib.hid hG
              clear hG hR hcl hsi hn
              unfold invAt invUpon; go_simp
              exact post_upN (F := Is (fun z_ => z_ = .pointer (some ⟨g, t, none⟩))) HG.out (is_eq rfl)
            simp only [Act.put, List.setIfInBounds_toArray, List.set_cons_zero, List.set_cons_succ, List.nil_append, List.cons_append]
            refine inv_cons 12 (by rfl) (fun wx n_ s_ hn hcl hsi hG hR hd => ?_) (fun v12 => ?_)
            · have d11 : (Is (fun z_ => z_ = .pointer (some ⟨g, t, none⟩))) v11 wx := dep_get hd 11 (by rfl)
              obtain rfl := d11
              have xb0 := cell_grow (p1) hG.grow (fun h => h)
              refine inv_want (by rfl) ?_
              have HG := Lib.hid hG
              clear hG hR hcl hsi hn
              unfold invAt invUpon; go_simp
              exact post_upN (F := Is (fun z_ => z_ = .int .i64 y)) HG.out (is_eq rfl)
            simp only [Act.put, List.setIfInBounds_toArray, List.set_cons_zero, List.set_cons_succ, List.nil_append, List.cons_append]
            refine inv_cons 13 (by rfl) (fun wx n_ s_ hn hcl hsi hG hR hd => ?_) (fun v13 => ?_)
            · have d7 : (Is (fun z_ => z_ = .int .i64 xa)) v7 wx := dep_get hd 7 (by rfl)
              obtain rfl := d7
              have d12 : (Is (fun z_ => z_ = .int .i64 y)) v12 wx := dep_get hd 12 (by rfl)
              obtain rfl := d12
              refine inv_want (by rfl) ?_
              have HG := Lib.hid hG
              clear hG hR hcl hsi hn
              unfold invAt invUpon; go_simp
              exact post_upN (F := Is (fun z_ => z_ = .int .i64 m)) HG.out (is_eq rfl)
            simp only [Act.put, List.setIfInBounds_toArray, List.set_cons_zero, List.set_cons_succ, List.nil_append, List.cons_append]
            refine inv_cons 14 (by rfl) (fun wx n_ s_ hn hcl hsi hG hR hd => ?_) (fun v14 => ?_)
            · have d13 : (Is (fun z_ => z_ = .int .i64 m)) v13 wx := dep_get hd 13 (by rfl)
              obtain rfl := d13
              exact inv_want (by rfl) (inv_assign (.tmp 32) rfl (post_upN (F := Is (fun z_ => z_ = .int .i64 m)) hG (is_eq rfl)))
            simp only [Act.put, List.setIfInBounds_toArray, List.set_cons_zero, List.set_cons_succ, List.nil_append, List.cons_append]
            refine inv_nil (fun wq nq sq hnq hGq hRq hall => ?_)
            obtain ⟨f0, f1, f2, f3, f4, f5, f6, f7, f8, f9, f10, f11, f12, f13, f14, -⟩ := hall
            obtain rfl : v14 = .int .i64 m := f14
            have hBq := Below.via (Grow.below0 hGq.grow) hBA
            have HRq := Lib.hid (RowI.below HRW.out (Grow.below0 hGq.grow))
            have KMq := Bk.grow KM hGq.grow (fun h => h)
            have mb := KMq.cell
            have hgl := RowI.lt HRq.out
            have xf := (RowI.at HRq.out t (by rw [toI_len, hP]; omega)).2
            have y0 := cell_grow p1 hGq.grow (fun h => h)
            have HRS := Lib.hid (RowI.set HRq.out t (z : Int))
            have hBS := Lib.hid (hBq.setCell (p := ⟨g, t, none⟩) hgl.1 (.int .i64 (z : Int)))
            have hqq := Lib.hid (show O.sum < (dstN P d).sum by
              have := hsm.out
              rcases hq.out with ⟨_, e⟩ | ⟨_, e⟩
              · rw [← e]; exact this
              · omega)
            clear KM KMq HRW hA hq
            go_wp2_with fail
            go_roundw
            case rel => exact ⟨k + 1, true, by omega, by go_num, rfl, by rw [hst.out, hds2.out]; exact HRS, hBS, by rw [hst.out]; exact .inr ⟨rfl, hqq.out⟩⟩
            case measure => simp [intOf]; omega
        · obtain rfl : k = ds.length := by omega
          have hlt2 : ¬ ((ds.length : Nat) : Int) < (ds.length : Int) := by omega
          have he := Lib.hid (passN_end ds O ds.length hlt)
          rw [he.out, hnx.out] at hR hq
          rcases hq.out with ⟨rfl, e⟩ | ⟨rfl, e⟩
          · have hfx := Lib.hid (hdn.out e)
            have e2 := Lib.hid e
            clear e hq
            go_wp2_with fail
            go_roundg (8 - n)
            case measure => omega
            case rel => exact ⟨n + 1, false, rfl, hR, hBo, .inr ⟨rfl, e2.out.trans hfx.out⟩⟩
          · have hne := Lib.hid (hmo.out (fun h => by rw [h] at e; omega))
            have e2 := Lib.hid e
            clear e hq
            go_wp2_with fail
            go_roundg (8 - n)
            case measure => omega
            case rel => exact ⟨n + 1, true, rfl, hR, hBo, .inl ⟨rfl, hne.out, by omega⟩⟩
    · have HL7 := Lib.hid (HLI.out n)
      have hf := Lib.hid hfin
      clear hfin
      go_wp2_with fail
      go_ret
      exact ⟨_, rfl, by rw [← hf.out]; exact RowI.own7 hR.out HL7.out, hBo.out⟩
end Go.Proofs.Ytjmjpejkongipaa
