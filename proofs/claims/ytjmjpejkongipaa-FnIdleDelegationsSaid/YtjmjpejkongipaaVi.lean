/-
  Idle delegations: the reference's way. No condition.
-/
import Derived.Test.YtjmjpejkongipaaVg
import Derived.Test.YtjmjpejkongipaaVu
import Derived.Test.YtjmjpejkongipaaJw
import Derived.Deep.RegionLaw
set_option linter.unusedSimpArgs false
set_option linter.unusedVariables false
namespace Go.Proofs.Ytjmjpejkongipaa
open Go.RowKit
theorem SlF.take0 {w : World} {a : Option Addr} {k n cap : Nat} {cs : List Value} (h : SlF w (.slice a n cap) k n cs) (m : Nat) (hm : m ≤ n) : SlF w (.slice a m cap) k m (cs.take (m * k)) := by
  obtain ⟨h1, a', cap', h2, h3, h4, h5⟩ := h
  cases h2
  have hmk : m * k ≤ n * k := Nat.mul_le_mul_right _ hm
  refine ⟨by rw [List.length_take, h1]; omega, a, cap, rfl, by omega, by omega, ?_⟩
  rcases h5 with h5 | ⟨g, off, rfl, hc⟩
  · exact .inl (by omega)
  · exact .inr ⟨g, off, rfl, fun j hj => by rw [hc j (by omega), List.getElem?_take, if_pos hj]⟩
/-- The delegations but one, as the reference puts them together. -/
theorem region6 (ds : List Deleg) (k n : Nat) (hn : ds.length = n) (hk : k < n) (a2 : Option Addr) (cap2 : Nat) (w : World) (h : SlF w (.slice a2 n cap2) 3 n (cellsD ds)) : ∃ a3 c3, (if cap2 = k + 1 then a2 else a2.map fun x => x.add ((k + 1) * 3)) = a3 ∧ c3 = cap2 - (k + 1) ∧ SlF w (.slice a3 (n - (k + 1)) c3) 3 (n - (k + 1)) ((cellsD ds).drop ((k + 1) * 3)) := by
  have s := SlF.drop h (k + 1) hk
  exact ⟨_, _, rfl, rfl, s⟩
/-- The rows agree up to j. -/
def agree (xs ys : List Int) (j : Nat) : Bool := (List.range j).all fun i => decide (xs.getD i 0 = ys.getD i 0)
theorem agree_step (xs ys : List Int) (j : Nat) : agree xs ys (j + 1) = (agree xs ys j && decide (xs.getD j 0 = ys.getD j 0)) := by
  unfold agree
  rw [List.range_succ, List.all_append]
  simp
theorem agree_end (xs ys : List Int) (n : Nat) (h1 : xs.length = n) (h2 : ys.length = n) : agree xs ys n = decide (xs = ys) := by
  rw [Bool.eq_iff_iff]
  simp only [agree, List.all_eq_true, List.mem_range, decide_eq_true_eq]
  constructor
  · intro h
    refine List.ext_getElem (by omega) fun i a b => ?_
    have := h i (by omega)
    rw [List.getD_eq_getElem?_getD, List.getD_eq_getElem?_getD, List.getElem?_eq_getElem a, List.getElem?_eq_getElem b] at this
    exact this
  · rintro rfl i _
    rfl
set_option maxRecDepth 100000 in
set_option maxHeartbeats 12800000 in
theorem specIdle_any (ns : List Int) (ds : List Deleg) (v u : Value) (w : World) (h : SlI w v ns) (hd : SlD w u ds) : Calls Try.prog 25 #[v, u] w (NewN (idleR ns ds) w) := by
  obtain ⟨a, cap, rfl, h1, h2⟩ := SlF.shape h
  obtain ⟨a2, cap2, rfl, h3, h4⟩ := SlD.shape hd
  unfold maxLen at h4
  have hA0 := Below.al (Below.refl w.heap.size w) (.cells #[] 3)
  have H := Lib.hid h
  have HD := Lib.hid hd
  have O0 := Lib.hid (own_made w w.heap.size 3 1 (Nat.le_refl _))
  clear h hd
  have hmk0 : ∀ w : World, (Instr.buildSlice 35 0 #[]).run Try.prog w = .ok (.slice (some ⟨w.heap.size, 0, none⟩) 0 0) (w.alloc (.cells #[] 3)) := fun w => by kernel_rfl
  have CA := fun wx h hd => specDA_any ns ds (.slice a ns.length cap) (.slice a2 ds.length cap2) wx h hd
  cases hok : ownsOk ns && dValid ds
  · have e : idleR ns ds = [] := by simp [idleR, hok]
    have e2 : delR ns ds = [] := by simp [delR, hok]
    rw [e]
    rw [e2] at CA
    clear e e2 hok
    go_enter Try.func25, Try.ntmps25
    go_wp2_with fail
    refine (CA _ (SlI.below H.out hA0) (SlD.below HD.out hA0)).mono ?_
    rintro e w1 ⟨v1, rfl, o1, b1⟩
    have hB1 := Below.via b1 hA0
    have O1 := Lib.hid (own_below O0.out b1)
    obtain ⟨xa, xc, rfl, _, _⟩ := SlF.shape (own_sl o1)
    clear o1
    by_cases hz : 0 < ds.length
    all_goals
      go_wp2_with fail
      go_loopw [5, 7] (fun q i wr => q = .slice (some ⟨w.heap.size, 0, none⟩) 0 0 ∧ i = .int .i64 0 ∧ wr = w1) (fun _ _ _ => 0)
      case atStart => exact ⟨rfl, rfl, rfl⟩
      case round =>
        obtain ⟨rfl, rfl, rfl⟩ := hrel
        go_wp2_with fail
        go_ret
        exact ⟨_, rfl, O1.out, hB1⟩
  · rw [Bool.and_eq_true] at hok
    obtain ⟨ho, hv⟩ := hok
    have e : idleR ns ds = idleTo ns ds ds.length := by simp [idleR, ho, hv]
    rw [e]
    have hl7 : ∀ es, dValid es = true → (delR ns es).length = 7 := fun es he => by
      rw [delR, if_pos (by rw [ho, he]; rfl), toI_len, itN_len, (nats_ok ns ho).2.1]
    have HL7 := Lib.hid (hl7 ds hv)
    have HE7 := Lib.hid (fun k => hl7 _ (dValid_erase ds k hv))
    have h10 := (dValid_of hv).1
    have HLE := Lib.hid (fun k => idleTo_len ns ds k)
    have CE := Lib.hid (fun k u wx h hd => specDA_any ns (ds.eraseIdx k) (.slice a ns.length cap) u wx h hd)
    have hmk1 : ∀ w : World, (Instr.buildSlice 25 0 #[]).run Try.prog w = .ok (.slice (some ⟨w.heap.size, 0, none⟩) 0 0) (w.alloc (.cells #[] 32)) := fun w => by kernel_rfl
    have HIB := Lib.hid (fun k => (show idleB ns ds k = decide (delR ns (ds.eraseIdx k) = delR ns ds) from rfl))
    clear e ho hv hl7
    generalize delR ns ds = X at CA HL7 HIB
    go_enter Try.func25, Try.ntmps25
    go_wp2_with fail
    refine (CA _ (SlI.below H.out hA0) (SlD.below HD.out hA0)).mono ?_
    rintro e w1 ⟨v1, rfl, o1, b1⟩
    have hB1 := Below.via b1 hA0
    have O1 := Lib.hid (own_below O0.out b1)
    rw [HL7.out] at o1
    have HX0 := Lib.hid (show w1.ownsRow (w.heap.size + 1) 3 1 v1 7 (cellsI X) by simpa [World.size_alloc] using o1)
    obtain ⟨xa, xc, rfl, hx1, hx2⟩ := SlF.shape (own_sl o1)
    have HX := HX0
    have HSX := Lib.hid (fun wx (h : wx.ownsRow (w.heap.size + 1) 3 1 (.slice xa 7 xc) 7 (cellsI X)) => (show SlI wx (.slice xa 7 xc) X by unfold SlI; rw [HL7.out]; exact own_sl h))
    have HSP := Lib.hid (show ∀ j, Value.ownBlock (.slice (some ⟨w.heap.size, 0, none⟩) 0 0) = some j → ∀ j', Value.ownBlock (.slice xa 7 xc) = some j' → j' ≠ j from fun j h1 j' h2 => by
      have q := own_gt HX.out j' h2
      have e : w.heap.size = j := Option.some.inj h1
      omega)
    clear o1 CA O0 b1 hA0 HX0
    go_wp2_with fail
    go_loopw [5, 7] (fun v i wr => ∃ k : Nat, k ≤ ds.length ∧ i = .int .i64 k ∧ Hid (wr.ownsRow w.heap.size 3 1 v (idleTo ns ds k).length (cellsI (idleTo ns ds k))) ∧ Hid (v ≠ .slice none 0 0) ∧ Hid (wr.ownsRow (w.heap.size + 1) 3 1 (.slice xa 7 xc) 7 (cellsI X)) ∧ Hid (∀ j, Value.ownBlock v = some j → ∀ j', Value.ownBlock (.slice xa 7 xc) = some j' → j' ≠ j) ∧ Below w.heap.size w wr) (fun _ i _ => ds.length - (intOf i).toNat)
    case atStart => exact ⟨0, Nat.zero_le _, rfl, O1.out, by simp [Hid], HX.out, HSP.out, hB1⟩
    case round =>
      clear hB1 O1 HX HSP
      obtain ⟨k, hk, rfl, hO, hvn, hX, hsp, hB⟩ := hrel
      obtain ⟨vo, rfl⟩ : ∃ vo : Value, vo = u5 := ⟨_, rfl⟩
      by_cases hlt : k < ds.length
      · have hlt2 : (k : Int) < (ds.length : Int) := by omega
        have hz := hB.size
        have q1 : (0 : Int) ≤ (k : Int) + 1 := by omega
        have q2 : (k : Int) + 1 ≤ (ds.length : Int) := by omega
        have q3 : ((k : Int) + 1).toNat = k + 1 := by omega
        have q5 : IntKind.i64.wrap ((k : Int) + 1) = (k : Int) + 1 := IntWalk.i64_in _ (by omega)
        have q4 : (k : Int) ≤ (cap2 : Int) := by omega
        have HDr := Lib.hid (SlD.below HD.out hB)
        obtain ⟨gs, os_, cs_, hvs, _, _, _⟩ := SlF.at HDr.out (by omega)
        simp only [Value.slice.injEq] at hvs
        obtain ⟨rfl, -, rfl⟩ := hvs
        obtain ⟨a3, c3, ha3, hc3, hs3⟩ := region6 ds k ds.length rfl hlt (some ⟨gs, os_, none⟩) cap2 wr HDr.out
        simp only [Option.map_some, addr_add] at ha3
        have HS3 := Lib.hid hs3
        have HS2 := Lib.hid (SlF.take0 HDr.out k hk)
        have ht1 : (cellsD ds).take (k * 3) ++ (cellsD ds).drop ((k + 1) * 3) = cellsD (ds.eraseIdx k) := cellsD_erase ds k hlt
        have HT1 := Lib.hid ht1
        have HON := Lib.hid (show (wr.drew.alloc (.cells #[] 32)).ownsRow wr.heap.size 32 3 (.slice (some ⟨wr.heap.size, 0, none⟩) 0 0) 0 [] from own_made wr.drew _ _ _ (Nat.le_refl _))
        have HBD : Below wr.heap.size wr (wr.drew.alloc (.cells #[] 32)) := (Below.al (Below.refl wr.heap.size wr) (.cells #[] 32)).drew
        have hlen : k + (ds.length - (k + 1)) = ds.length - 1 := by omega
        subst hc3
        have hone := Lib.hid (cellsD_one1 ds)
        clear hs3 ht1
        go_wp2_with fail
        go_region_law
          (first
            | (refine step_appS (by rfl) (.tmp 27) (.tmp 30) 25 32 (.agg #[.int .i64 0, .int .i64 0, .int .i64 0]) 3 24 (by rfl) Try.underlying25 infoDg rfl (by decide) (by decide) wr.heap.size (.slice (some ⟨wr.heap.size, 0, none⟩) 0 0) 0 [] (by rfl) HON.out (.slice (some ⟨gs, os_, none⟩) k cap2) k ((cellsD ds).take (k * 3)) (by rfl) (SlF.below HS2.out HBD) (fun u hu => hone.out u (List.mem_of_mem_take hu)) (by omega) (by simp) ?_; intro v4 w4 o4 g4 _ nn4; have b4 : Below wr.heap.size wr w4 := Below.grown HBD g4 (by simp) (own_gt HON.out); have O4 := Lib.hid o4; clear o4 g4 nn4)
            | (refine step_appS (by rfl) (.tmp 31) (.tmp 35) 25 32 (.agg #[.int .i64 0, .int .i64 0, .int .i64 0]) 3 24 (by rfl) Try.underlying25 infoDg rfl (by decide) (by decide) wr.heap.size v4 (0 + k) ([] ++ (cellsD ds).take (k * 3)) (by rfl) O4.out (.slice a3 (ds.length - (k + 1)) (cap2 - (k + 1))) (ds.length - (k + 1)) ((cellsD ds).drop ((k + 1) * 3)) (by rfl) (SlF.below HS3.out b4) (fun u hu => hone.out u (List.mem_of_mem_drop hu)) (by omega) (by have := b4.size; omega) ?_; intro v5 w5 o5 g5 _ nn5; have b5 : Below wr.heap.size wr w5 := Below.grown b4 g5 (by have := b4.size; omega) (own_gt O4.out); rw [Nat.zero_add, List.nil_append, HT1.out, hlen] at o5; have O5 := Lib.hid o5; have HE5 := Lib.hid (show SlD w5 v5 (ds.eraseIdx k) by unfold SlD; rw [List.length_eraseIdx_of_lt hlt]; exact own_sl o5); clear o5 g5 nn5)
            | (go_simp; go_at_call 16; (with_reducible refine (CE.out k _ _ (SlI.below H.out (Below.via b5 hB)) HE5.out).mono ?_); rintro e w6 ⟨v6, rfl, o6, b6⟩))
        all_goals
          have b56 := Below.via b6 b5
          have hB6 := Below.via b56 hB
          have hO6 := Lib.hid (own_below hO.out b56)
          have hX6 := Lib.hid (own_below hX.out b56)
          rw [HE7.out k] at o6
          have hY6 := Lib.hid (show SlI w6 v6 (delR ns (ds.eraseIdx k)) by unfold SlI; rw [HE7.out k]; exact own_sl o6)
          obtain ⟨ya, yc, rfl, _, _⟩ := SlF.shape (own_sl o6)
          have HIk := Lib.hid (HIB.out k)
          have HY7 := Lib.hid (HE7.out k)
          generalize delR ns (ds.eraseIdx k) = Y at hY6 HIk HY7
          clear o6 b6 b5 b4 b56 hO hX hB HBD HON HS2 HS3 HT1 O4 O5 HE5 HDr
          go_wp2_with fail
          go_loopw [9, 10] (fun q i wx => ∃ j : Nat, j ≤ 7 ∧ i = .int .i64 j ∧ q = .bool (agree Y X j) ∧ Hid (wx.ownsRow w.heap.size 3 1 vo (idleTo ns ds k).length (cellsI (idleTo ns ds k))) ∧ Hid (SlI wx (.slice ya 7 yc) Y) ∧ Hid (wx.ownsRow (w.heap.size + 1) 3 1 (.slice xa 7 xc) 7 (cellsI X)) ∧ Below w.heap.size w wx) (fun _ i _ => 7 - (intOf i).toNat)
          case atStart => exact ⟨0, by omega, rfl, rfl, hO6.out, hY6.out, hX6.out, hB6⟩
          case round =>
            clear hO6 hY6 hX6 hB6
            obtain ⟨j, hj, rfl, rfl, hO, hY, hX, hB⟩ := hrel
            by_cases hj7 : j < 7
            · have hj72 : (j : Int) < 7 := by omega
              obtain ⟨gy, oy, cy, hvy, _, _, y0⟩ := SlI.cell hY.out j (by rw [HY7.out]; exact hj7)
              rw [HY7.out] at hvy
              simp only [Value.slice.injEq] at hvy
              obtain ⟨rfl, -, rfl⟩ := hvy
              obtain ⟨gx, ox, cx, hvx, _, _, x0⟩ := SlI.cell (HSX.out _ hX.out) j (by rw [HL7.out]; exact hj7)
              rw [HL7.out] at hvx
              simp only [Value.slice.injEq] at hvx
              obtain ⟨rfl, -, rfl⟩ := hvx
              have hst := Lib.hid (show agree Y X (j + 1) = (agree Y X j && decide (Y[j]'(by rw [HY7.out]; exact hj7) = X[j]'(by rw [HL7.out]; exact hj7))) by
                rw [agree_step, List.getD_eq_getElem?_getD, List.getD_eq_getElem?_getD, List.getElem?_eq_getElem (by rw [HY7.out]; exact hj7), List.getElem?_eq_getElem (by rw [HL7.out]; exact hj7)]; rfl)
              generalize Y[j]'(by rw [HY7.out]; exact hj7) = y at y0 hst
              generalize X[j]'(by rw [HL7.out]; exact hj7) = x at x0 hst
              cases hag : agree Y X j
              · rw [hag, Bool.false_and] at hst
                clear hag
                go_wp2_with fail
                have KXr : KeepB (fun _ => True) ∧ KeepB (fun _ => True) := ⟨keepB_true, keepB_true⟩
                refine wp_region_inv (G := fun s n w_ => RgN (fun _ => False) (fun _ => True) wr w_) (R := RgR (fun _ => False) (fun _ => True))
                  (Fs := [Is (fun z_ => z_ = .bool false), Is (fun z_ => z_ = .bool false), Is (fun z_ => z_ = undef), Is (fun z_ => z_ = undef), Is (fun z_ => z_ = undef), Is (fun z_ => z_ = undef), Is (fun z_ => z_ = undef), Is (fun z_ => z_ = undef), Is (fun z_ => z_ = undef), Is (fun z_ => z_ = undef), Is (fun z_ => z_ = undef), Is (fun z_ => z_ = .bool false), Is (fun z_ => z_ = .bool false)])
                  (by kernel_rfl) (by kernel_rfl) (fun _ => RgR.refl _) (fun h k => h.trans k) ?_ (fun _ _ => ⟨(Grow.refl _ _).drew, trivial⟩) ?_
                · (repeat' (first | exact lasts_nil | refine lasts_cons ?_ ?_))
                  all_goals (first | exact Lasts.is | exact Lasts.any)
                refine inv_cons 0 (by rfl) (fun wx n_ s_ hn hcl hsi hG hR hd => ?_) (fun v0 => ?_)
                · exact inv_want (by rfl) (inv_move (.tmp 9) rfl (post_upN (F := Is (fun z_ => z_ = .bool false)) hG (is_eq rfl)))
                simp only [Act.put, List.setIfInBounds_toArray, List.set_cons_zero, List.set_cons_succ, List.nil_append, List.cons_append]
                refine inv_cons 1 (by rfl) (fun wx n_ s_ hn hcl hsi hG hR hd => ?_) (fun v1 => ?_)
                · have d0 : (Is (fun z_ => z_ = .bool false)) v0 wx := dep_get hd 0 (by rfl)
                  obtain rfl := d0
                  exact inv_want (by rfl) (inv_move (.tmp 44) rfl (post_upN (F := Is (fun z_ => z_ = .bool false)) hG (is_eq rfl)))
                simp only [Act.put, List.setIfInBounds_toArray, List.set_cons_zero, List.set_cons_succ, List.nil_append, List.cons_append]
                refine inv_cons 2 (by rfl) (fun wx n_ s_ hn hcl hsi hG hR hd => ?_) (fun v2 => ?_)
                · have dg : (Is (fun z_ => z_ = .bool false)) v1 wx := dep_get hd 1 (by rfl)
                  obtain rfl := dg
                  exact inv_skip (by rfl) hG (is_eq rfl)
                simp only [Act.put, List.setIfInBounds_toArray, List.set_cons_zero, List.set_cons_succ, List.nil_append, List.cons_append]
                refine inv_cons 3 (by rfl) (fun wx n_ s_ hn hcl hsi hG hR hd => ?_) (fun v3 => ?_)
                · have dg : (Is (fun z_ => z_ = .bool false)) v1 wx := dep_get hd 1 (by rfl)
                  obtain rfl := dg
                  exact inv_skip (by rfl) hG (is_eq rfl)
                simp only [Act.put, List.setIfInBounds_toArray, List.set_cons_zero, List.set_cons_succ, List.nil_append, List.cons_append]
                refine inv_cons 4 (by rfl) (fun wx n_ s_ hn hcl hsi hG hR hd => ?_) (fun v4 => ?_)
                · have dg : (Is (fun z_ => z_ = .bool false)) v1 wx := dep_get hd 1 (by rfl)
                  obtain rfl := dg
                  exact inv_skip (by rfl) hG (is_eq rfl)
                simp only [Act.put, List.setIfInBounds_toArray, List.set_cons_zero, List.set_cons_succ, List.nil_append, List.cons_append]
                refine inv_cons 5 (by rfl) (fun wx n_ s_ hn hcl hsi hG hR hd => ?_) (fun v5 => ?_)
                · have dg : (Is (fun z_ => z_ = .bool false)) v1 wx := dep_get hd 1 (by rfl)
                  obtain rfl := dg
                  exact inv_skip (by rfl) hG (is_eq rfl)
                simp only [Act.put, List.setIfInBounds_toArray, List.set_cons_zero, List.set_cons_succ, List.nil_append, List.cons_append]
                refine inv_cons 6 (by rfl) (fun wx n_ s_ hn hcl hsi hG hR hd => ?_) (fun v6 => ?_)
                · have dg : (Is (fun z_ => z_ = .bool false)) v1 wx := dep_get hd 1 (by rfl)
                  obtain rfl := dg
                  exact inv_skip (by rfl) hG (is_eq rfl)
                simp only [Act.put, List.setIfInBounds_toArray, List.set_cons_zero, List.set_cons_succ, List.nil_append, List.cons_append]
                refine inv_cons 7 (by rfl) (fun wx n_ s_ hn hcl hsi hG hR hd => ?_) (fun v7 => ?_)
                · have dg : (Is (fun z_ => z_ = .bool false)) v1 wx := dep_get hd 1 (by rfl)
                  obtain rfl := dg
                  exact inv_skip (by rfl) hG (is_eq rfl)
                simp only [Act.put, List.setIfInBounds_toArray, List.set_cons_zero, List.set_cons_succ, List.nil_append, List.cons_append]
                refine inv_cons 8 (by rfl) (fun wx n_ s_ hn hcl hsi hG hR hd => ?_) (fun v8 => ?_)
                · have dg : (Is (fun z_ => z_ = .bool false)) v1 wx := dep_get hd 1 (by rfl)
                  obtain rfl := dg
                  exact inv_skip (by rfl) hG (is_eq rfl)
                simp only [Act.put, List.setIfInBounds_toArray, List.set_cons_zero, List.set_cons_succ, List.nil_append, List.cons_append]
                refine inv_cons 9 (by rfl) (fun wx n_ s_ hn hcl hsi hG hR hd => ?_) (fun v9 => ?_)
                · have dg : (Is (fun z_ => z_ = .bool false)) v1 wx := dep_get hd 1 (by rfl)
                  obtain rfl := dg
                  exact inv_skip (by rfl) hG (is_eq rfl)
                simp only [Act.put, List.setIfInBounds_toArray, List.set_cons_zero, List.set_cons_succ, List.nil_append, List.cons_append]
                refine inv_cons 10 (by rfl) (fun wx n_ s_ hn hcl hsi hG hR hd => ?_) (fun v10 => ?_)
                · have dg : (Is (fun z_ => z_ = .bool false)) v1 wx := dep_get hd 1 (by rfl)
                  obtain rfl := dg
                  exact inv_skip (by rfl) hG (is_eq rfl)
                simp only [Act.put, List.setIfInBounds_toArray, List.set_cons_zero, List.set_cons_succ, List.nil_append, List.cons_append]
                refine inv_cons 11 (by rfl) (fun wx n_ s_ hn hcl hsi hG hR hd => ?_) (fun v11 => ?_)
                · have d1 : (Is (fun z_ => z_ = .bool false)) v1 wx := dep_get hd 1 (by rfl)
                  obtain rfl := d1
                  have d10 : (Is (fun z_ => z_ = undef)) v10 wx := dep_get hd 10 (by rfl)
                  obtain rfl := d10
                  refine inv_want (by rfl) ?_
                  have HG := Lib.hid hG
                  clear hG hR hcl hsi hn
                  unfold invAt invUpon; go_simp
                  exact post_upN (F := Is (fun z_ => z_ = .bool false)) HG.out (is_eq rfl)
                simp only [Act.put, List.setIfInBounds_toArray, List.set_cons_zero, List.set_cons_succ, List.nil_append, List.cons_append]
                refine inv_cons 12 (by rfl) (fun wx n_ s_ hn hcl hsi hG hR hd => ?_) (fun v12 => ?_)
                · have d11 : (Is (fun z_ => z_ = .bool false)) v11 wx := dep_get hd 11 (by rfl)
                  obtain rfl := d11
                  exact inv_want (by rfl) (inv_assign (.tmp 55) rfl (post_upN (F := Is (fun z_ => z_ = .bool false)) hG (is_eq rfl)))
                simp only [Act.put, List.setIfInBounds_toArray, List.set_cons_zero, List.set_cons_succ, List.nil_append, List.cons_append]
                refine inv_nil (fun wq nq sq hnq hGq hRq hall => ?_)
                obtain ⟨f0, f1, f2, f3, f4, f5, f6, f7, f8, f9, f10, f11, f12, -⟩ := hall
                obtain rfl : v12 = .bool false := f12
                have bq := Grow.below0 hGq.grow
                have hBq := Below.via bq hB
                have hOq := Lib.hid (own_below hO.out bq)
                have hYq := Lib.hid (SlI.below hY.out bq)
                have hXq := Lib.hid (own_below hX.out bq)
                go_wp2_with fail
                go_roundw
                case rel => first | exact ⟨j + 1, by omega, by go_num, by rw [hst.out], hOq, hYq, hXq, hBq⟩ | ((repeat apply Exists.intro); exact ⟨⟨j + 1, by omega, by go_num, by rw [hst.out], hOq, hYq, hXq, hBq⟩, rfl⟩)
                case measure => simp [intOf]; omega
              · rw [hag, Bool.true_and] at hst
                clear hag
                by_cases he : y = x
                · subst he
                  rw [decide_eq_true rfl] at hst
                  go_wp2_with fail
                  have KXr : KeepB (fun _ => True) ∧ KeepB (fun _ => True) := ⟨keepB_true, keepB_true⟩
                  refine wp_region_inv (G := fun s n w_ => RgN (fun _ => False) (fun _ => True) wr w_) (R := RgR (fun _ => False) (fun _ => True))
                    (Fs := [Is (fun z_ => z_ = .bool true), Is (fun z_ => z_ = .bool true), Is (fun z_ => z_ = .slice (some ⟨gy, oy, none⟩) 7 yc), Is (fun z_ => z_ = .int .i64 j), Is (fun z_ => z_ = .pointer (some ⟨gy, oy + j, none⟩)), Is (fun z_ => z_ = .int .i64 y), Is (fun z_ => z_ = .slice (some ⟨gx, ox, none⟩) 7 xc), Is (fun z_ => z_ = .int .i64 j), Is (fun z_ => z_ = .pointer (some ⟨gx, ox + j, none⟩)), Is (fun z_ => z_ = .int .i64 y), Is (fun z_ => z_ = .bool true), Is (fun z_ => z_ = .bool true), Is (fun z_ => z_ = .bool true)])
                    (by kernel_rfl) (by kernel_rfl) (fun _ => RgR.refl _) (fun h k => h.trans k) ?_ (fun _ _ => ⟨(Grow.refl _ _).drew, trivial⟩) ?_
                  · (repeat' (first | exact lasts_nil | refine lasts_cons ?_ ?_))
                    all_goals (first | exact Lasts.is | exact Lasts.any)
                  refine inv_cons 0 (by rfl) (fun wx n_ s_ hn hcl hsi hG hR hd => ?_) (fun v0 => ?_)
                  · exact inv_want (by rfl) (inv_move (.tmp 9) rfl (post_upN (F := Is (fun z_ => z_ = .bool true)) hG (is_eq rfl)))
                  simp only [Act.put, List.setIfInBounds_toArray, List.set_cons_zero, List.set_cons_succ, List.nil_append, List.cons_append]
                  refine inv_cons 1 (by rfl) (fun wx n_ s_ hn hcl hsi hG hR hd => ?_) (fun v1 => ?_)
                  · have d0 : (Is (fun z_ => z_ = .bool true)) v0 wx := dep_get hd 0 (by rfl)
                    obtain rfl := d0
                    exact inv_want (by rfl) (inv_move (.tmp 44) rfl (post_upN (F := Is (fun z_ => z_ = .bool true)) hG (is_eq rfl)))
                  simp only [Act.put, List.setIfInBounds_toArray, List.set_cons_zero, List.set_cons_succ, List.nil_append, List.cons_append]
                  refine inv_cons 2 (by rfl) (fun wx n_ s_ hn hcl hsi hG hR hd => ?_) (fun v2 => ?_)
                  · have dg : (Is (fun z_ => z_ = .bool true)) v1 wx := dep_get hd 1 (by rfl)
                    obtain rfl := dg
                    exact inv_want (by rfl) (inv_move (.tmp 8) rfl (post_upN (F := Is (fun z_ => z_ = .slice (some ⟨gy, oy, none⟩) 7 yc)) hG (is_eq rfl)))
                  simp only [Act.put, List.setIfInBounds_toArray, List.set_cons_zero, List.set_cons_succ, List.nil_append, List.cons_append]
                  refine inv_cons 3 (by rfl) (fun wx n_ s_ hn hcl hsi hG hR hd => ?_) (fun v3 => ?_)
                  · have dg : (Is (fun z_ => z_ = .bool true)) v1 wx := dep_get hd 1 (by rfl)
                    obtain rfl := dg
                    exact inv_want (by rfl) (inv_move (.tmp 10) rfl (post_upN (F := Is (fun z_ => z_ = .int .i64 j)) hG (is_eq rfl)))
                  simp only [Act.put, List.setIfInBounds_toArray, List.set_cons_zero, List.set_cons_succ, List.nil_append, List.cons_append]
                  refine inv_cons 4 (by rfl) (fun wx n_ s_ hn hcl hsi hG hR hd => ?_) (fun v4 => ?_)
                  · have dg : (Is (fun z_ => z_ = .bool true)) v1 wx := dep_get hd 1 (by rfl)
                    obtain rfl := dg
                    have d2 : (Is (fun z_ => z_ = .slice (some ⟨gy, oy, none⟩) 7 yc)) v2 wx := dep_get hd 2 (by rfl)
                    obtain rfl := d2
                    have d3 : (Is (fun z_ => z_ = .int .i64 j)) v3 wx := dep_get hd 3 (by rfl)
                    obtain rfl := d3
                    refine inv_want (by rfl) ?_
                    have HG := Lib.hid hG
                    clear hG hR hcl hsi hn
                    unfold invAt invUpon; go_simp
                    exact post_upN (F := Is (fun z_ => z_ = .pointer (some ⟨gy, oy + j, none⟩))) HG.out (is_eq rfl)
                  simp only [Act.put, List.setIfInBounds_toArray, List.set_cons_zero, List.set_cons_succ, List.nil_append, List.cons_append]
                  refine inv_cons 5 (by rfl) (fun wx n_ s_ hn hcl hsi hG hR hd => ?_) (fun v5 => ?_)
                  · have dg : (Is (fun z_ => z_ = .bool true)) v1 wx := dep_get hd 1 (by rfl)
                    obtain rfl := dg
                    have d4 : (Is (fun z_ => z_ = .pointer (some ⟨gy, oy + j, none⟩))) v4 wx := dep_get hd 4 (by rfl)
                    obtain rfl := d4
                    have xb0 := cell_grow (y0) hG.grow (fun h => h)
                    refine inv_want (by rfl) ?_
                    have HG := Lib.hid hG
                    clear hG hR hcl hsi hn
                    unfold invAt invUpon; go_simp
                    exact post_upN (F := Is (fun z_ => z_ = .int .i64 y)) HG.out (is_eq rfl)
                  simp only [Act.put, List.setIfInBounds_toArray, List.set_cons_zero, List.set_cons_succ, List.nil_append, List.cons_append]
                  refine inv_cons 6 (by rfl) (fun wx n_ s_ hn hcl hsi hG hR hd => ?_) (fun v6 => ?_)
                  · have dg : (Is (fun z_ => z_ = .bool true)) v1 wx := dep_get hd 1 (by rfl)
                    obtain rfl := dg
                    exact inv_want (by rfl) (inv_move (.tmp 6) rfl (post_upN (F := Is (fun z_ => z_ = .slice (some ⟨gx, ox, none⟩) 7 xc)) hG (is_eq rfl)))
                  simp only [Act.put, List.setIfInBounds_toArray, List.set_cons_zero, List.set_cons_succ, List.nil_append, List.cons_append]
                  refine inv_cons 7 (by rfl) (fun wx n_ s_ hn hcl hsi hG hR hd => ?_) (fun v7 => ?_)
                  · have dg : (Is (fun z_ => z_ = .bool true)) v1 wx := dep_get hd 1 (by rfl)
                    obtain rfl := dg
                    exact inv_want (by rfl) (inv_move (.tmp 10) rfl (post_upN (F := Is (fun z_ => z_ = .int .i64 j)) hG (is_eq rfl)))
                  simp only [Act.put, List.setIfInBounds_toArray, List.set_cons_zero, List.set_cons_succ, List.nil_append, List.cons_append]
                  refine inv_cons 8 (by rfl) (fun wx n_ s_ hn hcl hsi hG hR hd => ?_) (fun v8 => ?_)
                  · have dg : (Is (fun z_ => z_ = .bool true)) v1 wx := dep_get hd 1 (by rfl)
                    obtain rfl := dg
                    have d6 : (Is (fun z_ => z_ = .slice (some ⟨gx, ox, none⟩) 7 xc)) v6 wx := dep_get hd 6 (by rfl)
                    obtain rfl := d6
                    have d7 : (Is (fun z_ => z_ = .int .i64 j)) v7 wx := dep_get hd 7 (by rfl)
                    obtain rfl := d7
                    refine inv_want (by rfl) ?_
                    have HG := Lib.hid hG
                    clear hG hR hcl hsi hn
                    unfold invAt invUpon; go_simp
                    exact post_upN (F := Is (fun z_ => z_ = .pointer (some ⟨gx, ox + j, none⟩))) HG.out (is_eq rfl)
                  simp only [Act.put, List.setIfInBounds_toArray, List.set_cons_zero, List.set_cons_succ, List.nil_append, List.cons_append]
                  refine inv_cons 9 (by rfl) (fun wx n_ s_ hn hcl hsi hG hR hd => ?_) (fun v9 => ?_)
                  · have dg : (Is (fun z_ => z_ = .bool true)) v1 wx := dep_get hd 1 (by rfl)
                    obtain rfl := dg
                    have d8 : (Is (fun z_ => z_ = .pointer (some ⟨gx, ox + j, none⟩))) v8 wx := dep_get hd 8 (by rfl)
                    obtain rfl := d8
                    have xb0 := cell_grow (x0) hG.grow (fun h => h)
                    refine inv_want (by rfl) ?_
                    have HG := Lib.hid hG
                    clear hG hR hcl hsi hn
                    unfold invAt invUpon; go_simp
                    exact post_upN (F := Is (fun z_ => z_ = .int .i64 y)) HG.out (is_eq rfl)
                  simp only [Act.put, List.setIfInBounds_toArray, List.set_cons_zero, List.set_cons_succ, List.nil_append, List.cons_append]
                  refine inv_cons 10 (by rfl) (fun wx n_ s_ hn hcl hsi hG hR hd => ?_) (fun v10 => ?_)
                  · have dg : (Is (fun z_ => z_ = .bool true)) v1 wx := dep_get hd 1 (by rfl)
                    obtain rfl := dg
                    have d5 : (Is (fun z_ => z_ = .int .i64 y)) v5 wx := dep_get hd 5 (by rfl)
                    obtain rfl := d5
                    have d9 : (Is (fun z_ => z_ = .int .i64 y)) v9 wx := dep_get hd 9 (by rfl)
                    obtain rfl := d9
                    refine inv_want (by rfl) ?_
                    have HG := Lib.hid hG
                    clear hG hR hcl hsi hn
                    unfold invAt invUpon; go_simp
                    exact post_upN (F := Is (fun z_ => z_ = .bool true)) HG.out (is_eq rfl)
                  simp only [Act.put, List.setIfInBounds_toArray, List.set_cons_zero, List.set_cons_succ, List.nil_append, List.cons_append]
                  refine inv_cons 11 (by rfl) (fun wx n_ s_ hn hcl hsi hG hR hd => ?_) (fun v11 => ?_)
                  · have d1 : (Is (fun z_ => z_ = .bool true)) v1 wx := dep_get hd 1 (by rfl)
                    obtain rfl := d1
                    have d10 : (Is (fun z_ => z_ = .bool true)) v10 wx := dep_get hd 10 (by rfl)
                    obtain rfl := d10
                    refine inv_want (by rfl) ?_
                    have HG := Lib.hid hG
                    clear hG hR hcl hsi hn
                    unfold invAt invUpon; go_simp
                    exact post_upN (F := Is (fun z_ => z_ = .bool true)) HG.out (is_eq rfl)
                  simp only [Act.put, List.setIfInBounds_toArray, List.set_cons_zero, List.set_cons_succ, List.nil_append, List.cons_append]
                  refine inv_cons 12 (by rfl) (fun wx n_ s_ hn hcl hsi hG hR hd => ?_) (fun v12 => ?_)
                  · have d11 : (Is (fun z_ => z_ = .bool true)) v11 wx := dep_get hd 11 (by rfl)
                    obtain rfl := d11
                    exact inv_want (by rfl) (inv_assign (.tmp 55) rfl (post_upN (F := Is (fun z_ => z_ = .bool true)) hG (is_eq rfl)))
                  simp only [Act.put, List.setIfInBounds_toArray, List.set_cons_zero, List.set_cons_succ, List.nil_append, List.cons_append]
                  refine inv_nil (fun wq nq sq hnq hGq hRq hall => ?_)
                  obtain ⟨f0, f1, f2, f3, f4, f5, f6, f7, f8, f9, f10, f11, f12, -⟩ := hall
                  obtain rfl : v12 = .bool true := f12
                  have bq := Grow.below0 hGq.grow
                  have hBq := Below.via bq hB
                  have hOq := Lib.hid (own_below hO.out bq)
                  have hYq := Lib.hid (SlI.below hY.out bq)
                  have hXq := Lib.hid (own_below hX.out bq)
                  go_wp2_with fail
                  go_roundw
                  case rel => first | exact ⟨j + 1, by omega, by go_num, by rw [hst.out], hOq, hYq, hXq, hBq⟩ | ((repeat apply Exists.intro); exact ⟨⟨j + 1, by omega, by go_num, by rw [hst.out], hOq, hYq, hXq, hBq⟩, rfl⟩)
                  case measure => simp [intOf]; omega
                · rw [decide_eq_false he] at hst
                  have hne : (y == x) = false := by simp [he]
                  go_wp2_with fail
                  have KXr : KeepB (fun _ => True) ∧ KeepB (fun _ => True) := ⟨keepB_true, keepB_true⟩
                  refine wp_region_inv (G := fun s n w_ => RgN (fun _ => False) (fun _ => True) wr w_) (R := RgR (fun _ => False) (fun _ => True))
                    (Fs := [Is (fun z_ => z_ = .bool true), Is (fun z_ => z_ = .bool true), Is (fun z_ => z_ = .slice (some ⟨gy, oy, none⟩) 7 yc), Is (fun z_ => z_ = .int .i64 j), Is (fun z_ => z_ = .pointer (some ⟨gy, oy + j, none⟩)), Is (fun z_ => z_ = .int .i64 y), Is (fun z_ => z_ = .slice (some ⟨gx, ox, none⟩) 7 xc), Is (fun z_ => z_ = .int .i64 j), Is (fun z_ => z_ = .pointer (some ⟨gx, ox + j, none⟩)), Is (fun z_ => z_ = .int .i64 x), Is (fun z_ => z_ = .bool false), Is (fun z_ => z_ = .bool false), Is (fun z_ => z_ = .bool false)])
                    (by kernel_rfl) (by kernel_rfl) (fun _ => RgR.refl _) (fun h k => h.trans k) ?_ (fun _ _ => ⟨(Grow.refl _ _).drew, trivial⟩) ?_
                  · (repeat' (first | exact lasts_nil | refine lasts_cons ?_ ?_))
                    all_goals (first | exact Lasts.is | exact Lasts.any)
                  refine inv_cons 0 (by rfl) (fun wx n_ s_ hn hcl hsi hG hR hd => ?_) (fun v0 => ?_)
                  · exact inv_want (by rfl) (inv_move (.tmp 9) rfl (post_upN (F := Is (fun z_ => z_ = .bool true)) hG (is_eq rfl)))
                  simp only [Act.put, List.setIfInBounds_toArray, List.set_cons_zero, List.set_cons_succ, List.nil_append, List.cons_append]
                  refine inv_cons 1 (by rfl) (fun wx n_ s_ hn hcl hsi hG hR hd => ?_) (fun v1 => ?_)
                  · have d0 : (Is (fun z_ => z_ = .bool true)) v0 wx := dep_get hd 0 (by rfl)
                    obtain rfl := d0
                    exact inv_want (by rfl) (inv_move (.tmp 44) rfl (post_upN (F := Is (fun z_ => z_ = .bool true)) hG (is_eq rfl)))
                  simp only [Act.put, List.setIfInBounds_toArray, List.set_cons_zero, List.set_cons_succ, List.nil_append, List.cons_append]
                  refine inv_cons 2 (by rfl) (fun wx n_ s_ hn hcl hsi hG hR hd => ?_) (fun v2 => ?_)
                  · have dg : (Is (fun z_ => z_ = .bool true)) v1 wx := dep_get hd 1 (by rfl)
                    obtain rfl := dg
                    exact inv_want (by rfl) (inv_move (.tmp 8) rfl (post_upN (F := Is (fun z_ => z_ = .slice (some ⟨gy, oy, none⟩) 7 yc)) hG (is_eq rfl)))
                  simp only [Act.put, List.setIfInBounds_toArray, List.set_cons_zero, List.set_cons_succ, List.nil_append, List.cons_append]
                  refine inv_cons 3 (by rfl) (fun wx n_ s_ hn hcl hsi hG hR hd => ?_) (fun v3 => ?_)
                  · have dg : (Is (fun z_ => z_ = .bool true)) v1 wx := dep_get hd 1 (by rfl)
                    obtain rfl := dg
                    exact inv_want (by rfl) (inv_move (.tmp 10) rfl (post_upN (F := Is (fun z_ => z_ = .int .i64 j)) hG (is_eq rfl)))
                  simp only [Act.put, List.setIfInBounds_toArray, List.set_cons_zero, List.set_cons_succ, List.nil_append, List.cons_append]
                  refine inv_cons 4 (by rfl) (fun wx n_ s_ hn hcl hsi hG hR hd => ?_) (fun v4 => ?_)
                  · have dg : (Is (fun z_ => z_ = .bool true)) v1 wx := dep_get hd 1 (by rfl)
                    obtain rfl := dg
                    have d2 : (Is (fun z_ => z_ = .slice (some ⟨gy, oy, none⟩) 7 yc)) v2 wx := dep_get hd 2 (by rfl)
                    obtain rfl := d2
                    have d3 : (Is (fun z_ => z_ = .int .i64 j)) v3 wx := dep_get hd 3 (by rfl)
                    obtain rfl := d3
                    refine inv_want (by rfl) ?_
                    have HG := Lib.hid hG
                    clear hG hR hcl hsi hn
                    unfold invAt invUpon; go_simp
                    exact post_upN (F := Is (fun z_ => z_ = .pointer (some ⟨gy, oy + j, none⟩))) HG.out (is_eq rfl)
                  simp only [Act.put, List.setIfInBounds_toArray, List.set_cons_zero, List.set_cons_succ, List.nil_append, List.cons_append]
                  refine inv_cons 5 (by rfl) (fun wx n_ s_ hn hcl hsi hG hR hd => ?_) (fun v5 => ?_)
                  · have dg : (Is (fun z_ => z_ = .bool true)) v1 wx := dep_get hd 1 (by rfl)
                    obtain rfl := dg
                    have d4 : (Is (fun z_ => z_ = .pointer (some ⟨gy, oy + j, none⟩))) v4 wx := dep_get hd 4 (by rfl)
                    obtain rfl := d4
                    have xb0 := cell_grow (y0) hG.grow (fun h => h)
                    refine inv_want (by rfl) ?_
                    have HG := Lib.hid hG
                    clear hG hR hcl hsi hn
                    unfold invAt invUpon; go_simp
                    exact post_upN (F := Is (fun z_ => z_ = .int .i64 y)) HG.out (is_eq rfl)
                  simp only [Act.put, List.setIfInBounds_toArray, List.set_cons_zero, List.set_cons_succ, List.nil_append, List.cons_append]
                  refine inv_cons 6 (by rfl) (fun wx n_ s_ hn hcl hsi hG hR hd => ?_) (fun v6 => ?_)
                  · have dg : (Is (fun z_ => z_ = .bool true)) v1 wx := dep_get hd 1 (by rfl)
                    obtain rfl := dg
                    exact inv_want (by rfl) (inv_move (.tmp 6) rfl (post_upN (F := Is (fun z_ => z_ = .slice (some ⟨gx, ox, none⟩) 7 xc)) hG (is_eq rfl)))
                  simp only [Act.put, List.setIfInBounds_toArray, List.set_cons_zero, List.set_cons_succ, List.nil_append, List.cons_append]
                  refine inv_cons 7 (by rfl) (fun wx n_ s_ hn hcl hsi hG hR hd => ?_) (fun v7 => ?_)
                  · have dg : (Is (fun z_ => z_ = .bool true)) v1 wx := dep_get hd 1 (by rfl)
                    obtain rfl := dg
                    exact inv_want (by rfl) (inv_move (.tmp 10) rfl (post_upN (F := Is (fun z_ => z_ = .int .i64 j)) hG (is_eq rfl)))
                  simp only [Act.put, List.setIfInBounds_toArray, List.set_cons_zero, List.set_cons_succ, List.nil_append, List.cons_append]
                  refine inv_cons 8 (by rfl) (fun wx n_ s_ hn hcl hsi hG hR hd => ?_) (fun v8 => ?_)
                  · have dg : (Is (fun z_ => z_ = .bool true)) v1 wx := dep_get hd 1 (by rfl)
                    obtain rfl := dg
                    have d6 : (Is (fun z_ => z_ = .slice (some ⟨gx, ox, none⟩) 7 xc)) v6 wx := dep_get hd 6 (by rfl)
                    obtain rfl := d6
                    have d7 : (Is (fun z_ => z_ = .int .i64 j)) v7 wx := dep_get hd 7 (by rfl)
                    obtain rfl := d7
                    refine inv_want (by rfl) ?_
                    have HG := Lib.hid hG
                    clear hG hR hcl hsi hn
                    unfold invAt invUpon; go_simp
                    exact post_upN (F := Is (fun z_ => z_ = .pointer (some ⟨gx, ox + j, none⟩))) HG.out (is_eq rfl)
                  simp only [Act.put, List.setIfInBounds_toArray, List.set_cons_zero, List.set_cons_succ, List.nil_append, List.cons_append]
                  refine inv_cons 9 (by rfl) (fun wx n_ s_ hn hcl hsi hG hR hd => ?_) (fun v9 => ?_)
                  · have dg : (Is (fun z_ => z_ = .bool true)) v1 wx := dep_get hd 1 (by rfl)
                    obtain rfl := dg
                    have d8 : (Is (fun z_ => z_ = .pointer (some ⟨gx, ox + j, none⟩))) v8 wx := dep_get hd 8 (by rfl)
                    obtain rfl := d8
                    have xb0 := cell_grow (x0) hG.grow (fun h => h)
                    refine inv_want (by rfl) ?_
                    have HG := Lib.hid hG
                    clear hG hR hcl hsi hn
                    unfold invAt invUpon; go_simp
                    exact post_upN (F := Is (fun z_ => z_ = .int .i64 x)) HG.out (is_eq rfl)
                  simp only [Act.put, List.setIfInBounds_toArray, List.set_cons_zero, List.set_cons_succ, List.nil_append, List.cons_append]
                  refine inv_cons 10 (by rfl) (fun wx n_ s_ hn hcl hsi hG hR hd => ?_) (fun v10 => ?_)
                  · have dg : (Is (fun z_ => z_ = .bool true)) v1 wx := dep_get hd 1 (by rfl)
                    obtain rfl := dg
                    have d5 : (Is (fun z_ => z_ = .int .i64 y)) v5 wx := dep_get hd 5 (by rfl)
                    obtain rfl := d5
                    have d9 : (Is (fun z_ => z_ = .int .i64 x)) v9 wx := dep_get hd 9 (by rfl)
                    obtain rfl := d9
                    refine inv_want (by rfl) ?_
                    have HG := Lib.hid hG
                    clear hG hR hcl hsi hn
                    unfold invAt invUpon; go_simp
                    exact post_upN (F := Is (fun z_ => z_ = .bool false)) HG.out (is_eq rfl)
                  simp only [Act.put, List.setIfInBounds_toArray, List.set_cons_zero, List.set_cons_succ, List.nil_append, List.cons_append]
                  refine inv_cons 11 (by rfl) (fun wx n_ s_ hn hcl hsi hG hR hd => ?_) (fun v11 => ?_)
                  · have d1 : (Is (fun z_ => z_ = .bool true)) v1 wx := dep_get hd 1 (by rfl)
                    obtain rfl := d1
                    have d10 : (Is (fun z_ => z_ = .bool false)) v10 wx := dep_get hd 10 (by rfl)
                    obtain rfl := d10
                    refine inv_want (by rfl) ?_
                    have HG := Lib.hid hG
                    clear hG hR hcl hsi hn
                    unfold invAt invUpon; go_simp
                    exact post_upN (F := Is (fun z_ => z_ = .bool false)) HG.out (is_eq rfl)
                  simp only [Act.put, List.setIfInBounds_toArray, List.set_cons_zero, List.set_cons_succ, List.nil_append, List.cons_append]
                  refine inv_cons 12 (by rfl) (fun wx n_ s_ hn hcl hsi hG hR hd => ?_) (fun v12 => ?_)
                  · have d11 : (Is (fun z_ => z_ = .bool false)) v11 wx := dep_get hd 11 (by rfl)
                    obtain rfl := d11
                    exact inv_want (by rfl) (inv_assign (.tmp 55) rfl (post_upN (F := Is (fun z_ => z_ = .bool false)) hG (is_eq rfl)))
                  simp only [Act.put, List.setIfInBounds_toArray, List.set_cons_zero, List.set_cons_succ, List.nil_append, List.cons_append]
                  refine inv_nil (fun wq nq sq hnq hGq hRq hall => ?_)
                  obtain ⟨f0, f1, f2, f3, f4, f5, f6, f7, f8, f9, f10, f11, f12, -⟩ := hall
                  obtain rfl : v12 = .bool false := f12
                  have bq := Grow.below0 hGq.grow
                  have hBq := Below.via bq hB
                  have hOq := Lib.hid (own_below hO.out bq)
                  have hYq := Lib.hid (SlI.below hY.out bq)
                  have hXq := Lib.hid (own_below hX.out bq)
                  go_wp2_with fail
                  go_roundw
                  case rel => first | exact ⟨j + 1, by omega, by go_num, by rw [hst.out], hOq, hYq, hXq, hBq⟩ | ((repeat apply Exists.intro); exact ⟨⟨j + 1, by omega, by go_num, by rw [hst.out], hOq, hYq, hXq, hBq⟩, rfl⟩)
                  case measure => simp [intOf]; omega
            · obtain rfl : j = 7 := by omega
              have hag := (agree_end Y X 7 HY7.out HL7.out).trans HIk.out.symm
              rw [hag]
              have hle := HLE.out k
              cases hb : idleB ns ds k
              · have hst := Lib.hid (idleTo_no ns ds k hb)
                clear hb hag
                go_wp2_with fail
                go_roundw
                case rel => first | exact ⟨k + 1, by omega, by go_num, by rw [hst.out]; exact hO, hvn, hX, hsp, hB⟩ | ((repeat apply Exists.intro); exact ⟨⟨k + 1, by omega, by go_num, by rw [hst.out]; exact hO, hvn, hX, hsp, hB⟩, rfl⟩)
                case measure => simp [intOf]; omega
              · have hst := Lib.hid (idleTo_yes ns ds k hb)
                have hz7 := hB.size
                clear hb hag
                go_wp2_with (at_builtin; refine Hid.out ?_); refine Lib.hid ?_
                refine wpList_appS (s := .tmp 57) (x := .tmp 59) rfl 35 3 (.int .i64 0) 1 8 rfl Try.underlying35 infoI rfl (by decide) (by decide) w.heap.size vo (idleTo ns ds k).length (cellsI (idleTo ns ds k)) (by rfl) (own_alloc hO.out _) (.slice (some ⟨wr.heap.size, 0, none⟩) 1 1) 1 [.int .i64 k] (by rfl) (slF_bk (k := 1) (n := 1) (cs := [.int .i64 k]) (bk_atb rfl) rfl (by omega)) (one_int _) (by omega) (by simp only [World.size_alloc]; omega) ?_
                intro v8 w8 o8 g8 l8 nn8
                have b8 : Below w.heap.size w w8 := Below.grown (Below.al hB _) g8 (by simp only [World.size_alloc]; omega) (own_gt hO.out)
                have O8 := Lib.hid (show w8.ownsRow w.heap.size 3 1 v8 (idleTo ns ds (k + 1)).length (cellsI (idleTo ns ds (k + 1))) by rw [hst.out, cellsI_app, List.length_append]; exact o8)
                have N8 := Lib.hid (nn8 hvn.out)
                have X8 := Lib.hid (own_gby2 (own_alloc hX.out _) g8 (fun j h1 h2 => hsp.out j h2 j h1 rfl))
                have hsp8 := Lib.hid (show ∀ j, Value.ownBlock v8 = some j → ∀ j', Value.ownBlock (.slice xa 7 xc) = some j' → j' ≠ j from fun j h1 j' h2 => by
                  rcases l8 with e | e
                  · exact hsp.out j (e ▸ h1) j' h2
                  · have q := (World.ownsRow.lt hX.out j' h2).2
                    rw [e] at h1
                    have q2 := Option.some.inj h1
                    simp only [World.size_alloc] at q2
                    omega)
                clear o8 g8 nn8 l8
                go_wp2_with fail
                go_roundw
                case rel => first | exact ⟨k + 1, by omega, by go_num, O8, N8, X8, hsp8, b8⟩ | ((repeat apply Exists.intro); exact ⟨⟨k + 1, by omega, by go_num, O8, N8, X8, hsp8, b8⟩, rfl⟩)
                case measure => simp [intOf]; omega
      · obtain rfl : k = ds.length := by omega
        have hlt2 : ¬ ((ds.length : Nat) : Int) < (ds.length : Int) := by omega
        go_wp2_with fail
        go_ret
        exact ⟨vo, rfl, hO.out, hB⟩
end Go.Proofs.Ytjmjpejkongipaa
