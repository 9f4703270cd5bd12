/-
  Roles: copied, compared, sized. Conditions: moderate sizes.
-/
import Derived.Test.YtlcjkehpdlgdoaaRl
import Derived.Test.YtlcjkehpdlgdoaaRg
set_option linter.unusedSimpArgs false
set_option linter.unusedVariables false
namespace Go.Proofs.Ytlcjkehpdlgdoaa
open Go.RowKit
def NewRl1 (d : Rl) (w : World) (e : Ending) (w' : World) : Prop := ∃ u, e = .returned (.agg #[.string d.nm, .int .i64 d.acts, u]) ∧ w'.ownsRow w.heap.size 3 1 u d.xs.length (cellsI d.xs) ∧ Below w.heap.size w w'
set_option maxHeartbeats 1600000 in
theorem toRl_any (d : Rl) (v : Value) (w : World) (h : SlI w v d.xs) (hlen : d.xs.length ≤ 4194304) : Calls Try.prog 61 #[.agg #[.string d.nm, .int .i64 d.acts, v]] w (NewRl1 d w) := by
  obtain ⟨a, cap, rfl, h1, h2⟩ := SlF.shape h
  unfold maxLen at h2
  have H := Lib.hid h
  clear h
  obtain ⟨k1, k2, k3⟩ := Bk.init3 (w := w) (vs := #[.string d.nm, .int .i64 d.acts, .slice a d.xs.length cap]) (t := 74) (us := #[.string ⟨#[]⟩, .int .i64 0, .slice none 0 0]) (s := 56) (rs := #[.string d.nm, .int .i64 d.acts, .slice none 0 0]) (r := 56); have x1 := k1.cell; have x2 := k2.cell; have x3 := k3.cell; have f3 := k3.free
  have hB0 : Below w.heap.size w (((w.alloc (.cells #[.string d.nm, .int .i64 d.acts, .slice a d.xs.length cap] 74)).alloc (.cells #[.string ⟨#[]⟩, .int .i64 0, .slice none 0 0] 56)).alloc (.cells #[.string d.nm, .int .i64 d.acts, .slice none 0 0] 56)) := Below.al (Below.al (Below.al (Below.refl _ _) _) _) _
  have HL := Lib.hid (SlI.below H.out hB0)
  go_enter Try.func61, Try.ntmps61
  go_wp2_with fail
  refine (toIntS_any d.xs _ _ HL.out hlen).mono ?_
  rintro e w1 ⟨u, rfl, o1, hb⟩
  obtain ⟨ua, uc, rfl, _, _⟩ := SlF.shape (own_sl o1)
  have O1 : Hid (w1.ownsRow (w.heap.size + 1 + 1 + 1) 3 1 (.slice ua d.xs.length uc) d.xs.length (cellsI d.xs)) := by simpa [Hid] using o1
  have hB1 : Below w.heap.size w w1 := Below.via hb hB0
  clear o1
  replace k1 := k1.below hb; replace k2 := k2.below hb; replace k3 := k3.below hb; clear x1 x2 x3 f3; have x1 := k1.cell; have x2 := k2.cell; have x3 := k3.cell; have f3 := k3.free
  have f2 := k2.free
  clear hb
  go_wp2_with fail
  (try simp only [Exit.inBlock, Exit.then]); refine bodyPost_ret (by simp [results, Try.results61, go_sem, x2]; try rfl) rfl ?_
  refine ⟨_, rfl, own_lo (lo := w.heap.size + 1 + 1 + 1) ?_ (by omega), ?_⟩
  · (repeat' first | (with_reducible exact O1.out) | (with_reducible refine own_setne ?_ ?_ _ _))
    all_goals (intro j hj; have := own_gt O1.out j hj; omega)
  · (repeat' first | (with_reducible exact Below.refl _ _) | (with_reducible refine Below.rd (by assumption) ?_ ?_) | (with_reducible refine Below.via (by assumption) ?_) | (with_reducible refine Below.al ?_ _) | (with_reducible refine Below.dn ?_ _) | (with_reducible refine Below.dr ?_) | (with_reducible refine Below.setCell ?_ ?_ _) | (dsimp only; omega) | (simp only [World.size_alloc, World.size_drew]; omega) | (simp; done) | omega)
set_option maxHeartbeats 1600000 in
theorem eqRl_same (d : Rl) (v v2 : Value) (w : World) (h : SlI w v d.xs) (h' : SlI w v2 d.xs) : Calls Try.prog 64 #[.agg #[.string d.nm, .int .i64 d.acts, v], .agg #[.string d.nm, .int .i64 d.acts, v2]] w fun e w' => e = .returned (.bool true) ∧ Below w.heap.size w w' := by
  obtain ⟨a, cap, rfl, h1, h2⟩ := SlF.shape h
  obtain ⟨a2, cap2, rfl, h3, h4⟩ := SlF.shape h'
  unfold maxLen at h2 h4
  have H := Lib.hid h
  have H' := Lib.hid h'
  clear h h'
  obtain ⟨k1, k2⟩ := Bk.init2 (w := w) (vs := #[.string d.nm, .int .i64 d.acts, .slice a d.xs.length cap]) (t := 56) (us := #[.string d.nm, .int .i64 d.acts, .slice a2 d.xs.length cap2]) (s := 56); have x1 := k1.cell; have x2 := k2.cell
  have hB0 : Below w.heap.size w ((w.alloc (.cells #[.string d.nm, .int .i64 d.acts, .slice a d.xs.length cap] 56)).alloc (.cells #[.string d.nm, .int .i64 d.acts, .slice a2 d.xs.length cap2] 56)) := Below.al (Below.al (Below.refl _ _) _) _
  have HL := Lib.hid (SlI.below H.out hB0)
  have HL' := Lib.hid (SlI.below H'.out hB0)
  have hne : ∀ z : Int, (z != z) = false := fun z => by simp
  have hnm : (d.nm.toList != d.nm.toList) = false := by simp
  go_enter Try.func64, Try.ntmps64
  go_wp2_with fail
  refine (eqIntS_any _ _ _ _ _ HL.out HL'.out).mono ?_
  rintro e w1 ⟨rfl, hb⟩
  rw [decide_eq_true rfl]
  replace k1 := k1.below hb; replace k2 := k2.below hb; clear x1 x2; have x1 := k1.cell; have x2 := k2.cell
  go_wp2_with fail
  go_ret
  exact ⟨rfl, Below.via hb hB0⟩
set_option maxHeartbeats 1600000 in
theorem eqRlS_same (ds : List Rl) (v u : Value) (w : World) (h : SlRl w v ds) (h' : SlRl w u ds) : Calls Try.prog 38 #[v, u] w fun e w' => e = .returned (.bool true) ∧ Below w.heap.size w w' := by
  obtain ⟨a, cap, rfl, h1, h2⟩ := SlRl.shape h
  obtain ⟨b, cap2, rfl, h3, h4⟩ := SlRl.shape h'
  unfold maxLen at h2 h4
  have H := Lib.hid h
  have H' := Lib.hid h'
  clear h h'
  have hn : ((ds.length : Int) != (ds.length : Int)) = false := by simp
  go_enter Try.func38, Try.ntmps38
  go_wp2_with fail
  go_loopw [5] (fun i wr => ∃ k : Nat, k ≤ ds.length ∧ i = .int .i64 k ∧ Below w.heap.size w wr) (fun i _ => ds.length - (intOf i).toNat)
  case atStart => exact ⟨0, Nat.zero_le _, rfl, Below.refl _ _⟩
  case round =>
    obtain ⟨k, hk, rfl, hB⟩ := hrel
    by_cases hlt : k < ds.length
    · obtain ⟨g, off, cap', xa, xc, hv, _, _, c0, c1, c2, hx, _, _, _⟩ := (H.out.below hB).cells k hlt
      simp only [Value.slice.injEq] at hv
      obtain ⟨rfl, -, rfl⟩ := hv
      obtain ⟨g2, off2, cap2', ya, yc, hv, _, _, b0, b1, b2, hy, _, _, _⟩ := (H'.out.below hB).cells k hlt
      simp only [Value.slice.injEq] at hv
      obtain ⟨rfl, -, rfl⟩ := hv
      have HX := Lib.hid hx
      have HY := Lib.hid hy
      clear hx hy
      have HXX := Lib.hid (fun (wx : World) (h : Below wr.heap.size wr wx) => SlI.below HX.out h)
      have HYY := Lib.hid (fun (wx : World) (h : Below wr.heap.size wr wx) => SlI.below HY.out h)
      clear HX HY
      generalize ds[k] = d at c0 c1 c2 b0 b1 b2 HXX HYY
      have he := fun wx h h' => eqRl_same d (.slice xa d.xs.length xc) (.slice ya d.xs.length yc) wx h h'
      have lc0 := fun (wx : World) (h : Below wr.heap.size wr wx) => (h.cell (World.block_lt_of_cell? wr _ c0)).trans c0
      have lb0 := fun (wx : World) (h : Below wr.heap.size wr wx) => (h.cell (World.block_lt_of_cell? wr _ b0)).trans b0
      have lc1 := fun (wx : World) (h : Below wr.heap.size wr wx) => (h.cell (World.block_lt_of_cell? wr _ c1)).trans c1
      have lb1 := fun (wx : World) (h : Below wr.heap.size wr wx) => (h.cell (World.block_lt_of_cell? wr _ b1)).trans b1
      have lc2 := fun (wx : World) (h : Below wr.heap.size wr wx) => (h.cell (World.block_lt_of_cell? wr _ c2)).trans c2
      have lb2 := fun (wx : World) (h : Below wr.heap.size wr wx) => (h.cell (World.block_lt_of_cell? wr _ b2)).trans b2
      clear c0 b0 c1 b1 c2 b2
      go_wp2_with fail
      refine wp_region_cls (C := Below wr.heap.size wr) (by kernel_rfl) (by kernel_rfl) (Below.refl _ _).drew ?_; (repeat ((first | (refine q_step ?_ (by rfl) (fun wx hx => ?_) ?_; rotate_left; (focus (go_simp; first | done | (with_reducible rfl) | first | (go_at_call 64; with_reducible refine (he _ (HXX.out _ hx) (HYY.out _ hx)).mono ?_; rintro e w' ⟨rfl, hb⟩; refine ⟨?_, Below.via hb hx⟩; with_reducible rfl)))) | (refine BigFrame.wpQuiet_skip (by rfl) ?_)); (try simp only [Act.put, List.setIfInBounds_toArray, List.set_cons_zero, List.set_cons_succ]))); refine wpQuiet_nil ?_; intro wq hq
      go_wp2_with fail
      go_roundw
      case rel => exact ⟨k + 1, by omega, by go_num, hB.trans (hq.mono hB.size)⟩
      case measure => simp [intOf]; omega
    · go_wp2_with fail
      go_ret
      exact ⟨rfl, hB⟩
theorem szIntSRl_any (ns : List Int) (left : Int) (v : Value) (w : World) (h : SlI w v ns) (h0 : 0 ≤ left) (h1 : left ≤ 1048576) : Calls Try.prog 71 #[v, .int .i64 left] w fun e w' => e = .returned (.int .i64 (if left < ns.length then -1 else left - ns.length)) ∧ w = w' := by
  obtain ⟨a, cap, rfl, h2, h3⟩ := SlF.shape h
  clear h
  unfold maxLen at h3
  by_cases hl : left < ns.length
  all_goals
    go_enter Try.func71, Try.ntmps71
    go_wp2_with fail
    go_ret
    exact ⟨by simp [hl]; try omega, rfl⟩
set_option maxHeartbeats 1600000 in
theorem szRl_any (d : Rl) (left : Int) (v : Value) (w : World) (h : SlI w v d.xs) (hn : d.nm.size ≤ maxLen) (h0 : 0 ≤ left) (h1 : left ≤ 1048576) : Calls Try.prog 58 #[.agg #[.string d.nm, .int .i64 d.acts, v], .int .i64 left] w fun e w' => e = .returned (.int .i64 (if left < (d.nm.size + d.xs.length : Nat) then -1 else left - (d.nm.size + d.xs.length : Nat))) ∧ Below w.heap.size w w' := by
  obtain ⟨a, cap, rfl, h2, h3⟩ := SlF.shape h
  unfold maxLen at h3 hn
  have HL := Lib.hid (SlI.below h (Below.al (Below.refl _ _) (.cells #[.string d.nm, .int .i64 d.acts, .slice a d.xs.length cap] 74)))
  clear h
  by_cases hs1 : left < d.nm.size
  · rw [if_pos (by omega)]
    have hn1 : decide (left - (d.nm.size : Int) < 0) = true := by simp; omega
    go_enter Try.func58, Try.ntmps58
    go_wp2_with fail
    go_ret
    exact ⟨rfl, by (repeat' first | (with_reducible exact Below.refl _ _) | (with_reducible refine Below.rd (by assumption) ?_ ?_) | (with_reducible refine Below.via (by assumption) ?_) | (with_reducible refine Below.al ?_ _) | (with_reducible refine Below.dn ?_ _) | (with_reducible refine Below.dr ?_) | (with_reducible refine Below.setCell ?_ ?_ _) | (dsimp only; omega) | (simp only [World.size_alloc, World.size_drew]; omega) | (simp; done) | omega)⟩
  · have hn1 : decide (left - (d.nm.size : Int) < 0) = false := by simp; omega
    have hs := fun wx h => szIntSRl_any d.xs (left - d.nm.size) (.slice a d.xs.length cap) wx h (by omega) (by omega)
    by_cases hl : left - (d.nm.size : Int) < d.xs.length
    · rw [if_pos hl] at hs
      rw [if_pos (by omega)]
      go_enter Try.func58, Try.ntmps58
      go_wp2_with fail
      refine (hs _ HL.out).mono ?_
      rintro e w1 ⟨rfl, rfl⟩
      go_wp2_with fail
      go_ret
      exact ⟨rfl, by (repeat' first | (with_reducible exact Below.refl _ _) | (with_reducible refine Below.rd (by assumption) ?_ ?_) | (with_reducible refine Below.via (by assumption) ?_) | (with_reducible refine Below.al ?_ _) | (with_reducible refine Below.dn ?_ _) | (with_reducible refine Below.dr ?_) | (with_reducible refine Below.setCell ?_ ?_ _) | (dsimp only; omega) | (simp only [World.size_alloc, World.size_drew]; omega) | (simp; done) | omega)⟩
    · rw [if_neg hl] at hs
      rw [if_neg (by omega)]
      have hn2 : decide (left - (d.nm.size : Int) - (d.xs.length : Int) < 0) = false := by simp; omega
      go_enter Try.func58, Try.ntmps58
      go_wp2_with fail
      refine (hs _ HL.out).mono ?_
      rintro e w1 ⟨rfl, rfl⟩
      go_wp2_with fail
      go_ret
      exact ⟨by show Ending.returned (.int .i64 (left - (d.nm.size : Int) - (d.xs.length : Int))) = _; rw [show left - (d.nm.size : Int) - (d.xs.length : Int) = left - ((d.nm.size + d.xs.length : Nat) : Int) by omega], by (repeat' first | (with_reducible exact Below.refl _ _) | (with_reducible refine Below.rd (by assumption) ?_ ?_) | (with_reducible refine Below.via (by assumption) ?_) | (with_reducible refine Below.al ?_ _) | (with_reducible refine Below.dn ?_ _) | (with_reducible refine Below.dr ?_) | (with_reducible refine Below.setCell ?_ ?_ _) | (dsimp only; omega) | (simp only [World.size_alloc, World.size_drew]; omega) | (simp; done) | omega)⟩
/-- What is left behind the sizes: less than nothing, or the rest. -/
def SzRl (ds : List Rl) (left : Int) (w : World) (e : Ending) (w' : World) : Prop := ∃ r : Int, e = .returned (.int .i64 r) ∧ ((r < 0 ∧ -1 ≤ r) ∨ (0 ≤ r ∧ r + ds.length + szRl ds ds.length = left)) ∧ Below w.heap.size w w'
set_option maxHeartbeats 1600000 in
theorem szRlS_any (ds : List Rl) (left : Int) (v : Value) (w : World) (h : SlRl w v ds) (h0 : 0 ≤ left) (h1 : left ≤ 1048576) : Calls Try.prog 34 #[v, .int .i64 left] w (SzRl ds left w) := by
  obtain ⟨a, cap, rfl, h2, h3⟩ := SlRl.shape h
  unfold maxLen at h3
  have H := Lib.hid h
  clear h
  by_cases hl : left < ds.length
  · have hn : decide (left - (ds.length : Int) < 0) = true := by simp; omega
    go_enter Try.func34, Try.ntmps34
    go_wp2_with fail
    go_ret
    exact ⟨-1, rfl, .inl ⟨by omega, by omega⟩, Below.refl _ _⟩
  · have hn : decide (left - (ds.length : Int) < 0) = false := by simp; omega
    go_enter Try.func34, Try.ntmps34
    go_wp2_with fail
    go_loopw [1, 5] (fun l i wr => ∃ (k : Nat) (r : Int), k ≤ ds.length ∧ i = .int .i64 k ∧ l = .int .i64 r ∧ 0 ≤ r ∧ r + ds.length + szRl ds k = left ∧ Below w.heap.size w wr) (fun _ i _ => ds.length - (intOf i).toNat)
    case atStart => exact ⟨0, left - ds.length, Nat.zero_le _, rfl, rfl, by omega, by simp [szRl] <;> omega, Below.refl _ _⟩
    case round =>
      obtain ⟨k, r, hk, rfl, rfl, hr0, hrs, hB⟩ := hrel
      by_cases hlt : k < ds.length
      · obtain ⟨g, off, cap', xa, xc, hv, _, _, c0, c1, c2, hx, _, _, hnm⟩ := (H.out.below hB).cells k hlt
        simp only [Value.slice.injEq] at hv
        obtain ⟨rfl, -, rfl⟩ := hv
        have hst := szRl_step ds k hlt
        generalize ds[k] = d at c0 c1 c2 hx hst hnm
        have hs := fun wx h => szRl_any d r (.slice xa d.xs.length xc) wx h hnm hr0 (by omega)
        have HX := Lib.hid hx
        have HRS := Lib.hid hrs
        clear hx hrs
        by_cases hlr : r < (d.nm.size + d.xs.length : Nat)
        · rw [if_pos hlr] at hs
          clear hst
          go_wp2_with fail
          refine (hs _ HX.out).mono ?_
          rintro e w2 ⟨rfl, hb⟩
          go_wp2_with fail
          go_ret
          exact ⟨-1, rfl, .inl ⟨by omega, by omega⟩, Below.via hb hB⟩
        · rw [if_neg hlr] at hs
          have hn1 : decide (r - ((d.nm.size + d.xs.length : Nat) : Int) < 0) = false := by simp; omega
          have HST := Lib.hid hst
          clear hst
          obtain ⟨r2, hr2⟩ : ∃ r2 : Int, r - ((d.nm.size + d.xs.length : Nat) : Int) = r2 := ⟨_, rfl⟩
          rw [hr2] at hs hn1
          have HR2 := Lib.hid hr2
          have hr20 : 0 ≤ r2 := by omega
          clear hr2
          go_wp2_with fail
          refine (hs _ HX.out).mono ?_
          rintro e w2 ⟨rfl, hb⟩
          go_wp2_with fail
          go_roundw
          case rel => exact ⟨k + 1, r2, by omega, by go_num, rfl, by omega, by have := HRS.out; have := HST.out; have := HR2.out; omega, Below.via hb hB⟩
          case measure => simp [intOf]; omega
      · have hke : k = ds.length := by omega
        have HRS := Lib.hid hrs
        clear hrs
        subst hke
        go_wp2_with fail
        go_ret
        exact ⟨r, rfl, .inr ⟨hr0, HRS.out⟩, hB⟩
end Go.Proofs.Ytlcjkehpdlgdoaa
