/-
  Moves: copied, compared, sized. Conditions: moderate sizes.
-/
import Derived.Test.YtfghgpdhcpcoiaaJ
set_option linter.unusedSimpArgs false
set_option linter.unusedVariables false
namespace Go.Proofs.Ytfghgpdhcpcoiaa
open Go.RowKit
def NewMo1 (d : Mv) (w : World) (e : Ending) (w' : World) : Prop := ∃ u, e = .returned (.agg #[u, .int .i64 d.n]) ∧ w'.ownsRow w.heap.size 3 1 u d.xs.length (cellsI d.xs) ∧ Below w.heap.size w w'
set_option maxHeartbeats 1600000 in
theorem toMo_any (d : Mv) (v : Value) (w : World) (h : SlI w v d.xs) (hlen : d.xs.length ≤ 4194304) : Calls Try.prog 40 #[.agg #[v, .int .i64 d.n]] w (NewMo1 d w) := by
  obtain ⟨a, cap, rfl, h1, h2⟩ := SlF.shape h
  unfold maxLen at h2
  have H := Lib.hid h
  clear h
  obtain ⟨k1, k2, k3⟩ := Bk.init3 (w := w) (vs := #[.slice a d.xs.length cap, .int .i64 d.n]) (t := 64) (us := #[.slice none 0 0, .int .i64 0]) (s := 34) (rs := #[.slice none 0 0, .int .i64 0]) (r := 34); have x1 := k1.cell; have x2 := k2.cell; have x3 := k3.cell; have f3 := k3.free
  have hB0 : Below w.heap.size w (((w.alloc (.cells #[.slice a d.xs.length cap, .int .i64 d.n] 64)).alloc (.cells #[.slice none 0 0, .int .i64 0] 34)).alloc (.cells #[.slice none 0 0, .int .i64 0] 34)) := Below.al (Below.al (Below.al (Below.refl _ _) _) _) _
  have HL := Lib.hid (SlI.below H.out hB0)
  go_enter Try.func40, Try.ntmps40
  go_wp2_with fail
  refine (toIntS_any d.xs _ _ HL.out hlen).mono ?_
  rintro e w1 ⟨u, rfl, o1, hb⟩
  obtain ⟨ua, uc, rfl, _, _⟩ := SlF.shape (own_sl o1)
  have O1 : Hid (w1.ownsRow (w.heap.size + 1 + 1 + 1) 3 1 (.slice ua d.xs.length uc) d.xs.length (cellsI d.xs)) := by simpa [Hid] using o1
  have hB1 : Below w.heap.size w w1 := Below.via hb hB0
  clear o1
  replace k1 := k1.below hb; replace k2 := k2.below hb; replace k3 := k3.below hb; clear x1 x2 x3 f3; have x1 := k1.cell; have x2 := k2.cell; have x3 := k3.cell; have f3 := k3.free
  have f2 := k2.free
  clear hb
  go_wp2_with fail
  (try simp only [Exit.inBlock, Exit.then]); refine bodyPost_ret (by simp [results, Try.results40, go_sem, x2]; try rfl) rfl ?_
  refine ⟨_, rfl, own_lo (lo := w.heap.size + 1 + 1 + 1) ?_ (by omega), ?_⟩
  · (repeat' first | (with_reducible exact O1.out) | (with_reducible refine own_setne ?_ ?_ _ _))
    all_goals (intro j hj; have := own_gt O1.out j hj; omega)
  · (repeat' first | (with_reducible exact Below.refl _ _) | (with_reducible refine Below.rd (by assumption) ?_ ?_) | (with_reducible refine Below.via (by assumption) ?_) | (with_reducible refine Below.al ?_ _) | (with_reducible refine Below.dn ?_ _) | (with_reducible refine Below.dr ?_) | (with_reducible refine Below.setCell ?_ ?_ _) | (dsimp only; omega) | (simp only [World.size_alloc, World.size_drew]; omega) | (simp; done) | omega)
theorem eqMo_same (d : Mv) (v v2 : Value) (w : World) (h : SlI w v d.xs) (h' : SlI w v2 d.xs) : Calls Try.prog 44 #[.agg #[v, .int .i64 d.n], .agg #[v2, .int .i64 d.n]] w fun e w' => e = .returned (.bool true) ∧ Below w.heap.size w w' := by
  obtain ⟨a, cap, rfl, h1, h2⟩ := SlF.shape h
  obtain ⟨a2, cap2, rfl, h3, h4⟩ := SlF.shape h'
  unfold maxLen at h2 h4
  have H := Lib.hid h
  have H' := Lib.hid h'
  clear h h'
  obtain ⟨k1, k2⟩ := Bk.init2 (w := w) (vs := #[.slice a d.xs.length cap, .int .i64 d.n]) (t := 34) (us := #[.slice a2 d.xs.length cap2, .int .i64 d.n]) (s := 34); have x1 := k1.cell; have x2 := k2.cell
  have hB0 : Below w.heap.size w ((w.alloc (.cells #[.slice a d.xs.length cap, .int .i64 d.n] 34)).alloc (.cells #[.slice a2 d.xs.length cap2, .int .i64 d.n] 34)) := Below.al (Below.al (Below.refl _ _) _) _
  have HL := Lib.hid (SlI.below H.out hB0)
  have HL' := Lib.hid (SlI.below H'.out hB0)
  have hne : ∀ z : Int, (z != z) = false := fun z => by simp
  go_enter Try.func44, Try.ntmps44
  go_wp2_with fail
  refine (eqIntS_any _ _ _ _ _ HL.out HL'.out).mono ?_
  rintro e w1 ⟨rfl, hb⟩
  rw [decide_eq_true rfl]
  replace k1 := k1.below hb; replace k2 := k2.below hb; clear x1 x2; have x1 := k1.cell; have x2 := k2.cell
  go_wp2_with fail
  go_ret
  exact ⟨rfl, Below.via hb hB0⟩
set_option maxHeartbeats 1600000 in
theorem eqMoS_same (ds : List Mv) (v u : Value) (w : World) (h : SlM w v ds) (h' : SlM w u ds) : Calls Try.prog 15 #[v, u] w fun e w' => e = .returned (.bool true) ∧ Below w.heap.size w w' := by
  obtain ⟨a, cap, rfl, h1, h2⟩ := SlM.shape h
  obtain ⟨b, cap2, rfl, h3, h4⟩ := SlM.shape h'
  unfold maxLen at h2 h4
  have H := Lib.hid h
  have H' := Lib.hid h'
  clear h h'
  have hn : ((ds.length : Int) != (ds.length : Int)) = false := by simp
  go_enter Try.func15, Try.ntmps15
  go_wp2_with fail
  go_loopw [5] (fun i wr => ∃ k : Nat, k ≤ ds.length ∧ i = .int .i64 k ∧ Below w.heap.size w wr) (fun i _ => ds.length - (intOf i).toNat)
  case atStart => exact ⟨0, Nat.zero_le _, rfl, Below.refl _ _⟩
  case round =>
    obtain ⟨k, hk, rfl, hB⟩ := hrel
    by_cases hlt : k < ds.length
    · obtain ⟨g, off, cap', xa, xc, hv, _, _, c0, c1, hx, _, _⟩ := (H.out.below hB).cells k hlt
      simp only [Value.slice.injEq] at hv
      obtain ⟨rfl, -, rfl⟩ := hv
      obtain ⟨g2, off2, cap2', ya, yc, hv, _, _, b0, b1, hy, _, _⟩ := (H'.out.below hB).cells k hlt
      simp only [Value.slice.injEq] at hv
      obtain ⟨rfl, -, rfl⟩ := hv
      have HX := Lib.hid hx
      have HY := Lib.hid hy
      clear hx hy
      have HXX := Lib.hid (fun (wx : World) (h : Below wr.heap.size wr wx) => SlI.below HX.out h)
      have HYY := Lib.hid (fun (wx : World) (h : Below wr.heap.size wr wx) => SlI.below HY.out h)
      clear HX HY
      generalize ds[k] = d at c0 c1 b0 b1 HXX HYY
      have he := fun wx h h' => eqMo_same d (.slice xa d.xs.length xc) (.slice ya d.xs.length yc) wx h h'
      have lc0 := fun (wx : World) (h : Below wr.heap.size wr wx) => (h.cell (World.block_lt_of_cell? wr _ c0)).trans c0
      have lb0 := fun (wx : World) (h : Below wr.heap.size wr wx) => (h.cell (World.block_lt_of_cell? wr _ b0)).trans b0
      have lc1 := fun (wx : World) (h : Below wr.heap.size wr wx) => (h.cell (World.block_lt_of_cell? wr _ c1)).trans c1
      have lb1 := fun (wx : World) (h : Below wr.heap.size wr wx) => (h.cell (World.block_lt_of_cell? wr _ b1)).trans b1
      clear c0 b0 c1 b1
      go_wp2_with fail
      refine wp_region_cls (C := Below wr.heap.size wr) (by kernel_rfl) (by kernel_rfl) (Below.refl _ _).drew ?_; (repeat ((first | (refine q_step ?_ (by rfl) (fun wx hx => ?_) ?_; rotate_left; (focus (go_simp; first | done | (with_reducible rfl) | first | (go_at_call 44; with_reducible refine (he _ (HXX.out _ hx) (HYY.out _ hx)).mono ?_; rintro e w' ⟨rfl, hb⟩; refine ⟨?_, Below.via hb hx⟩; with_reducible rfl)))) | (refine BigFrame.wpQuiet_skip (by rfl) ?_)); (try simp only [Act.put, List.setIfInBounds_toArray, List.set_cons_zero, List.set_cons_succ]))); refine wpQuiet_nil ?_; intro wq hq
      go_wp2_with fail
      go_roundw
      case rel => exact ⟨k + 1, by omega, by go_num, hB.trans (hq.mono hB.size)⟩
      case measure => simp [intOf]; omega
    · go_wp2_with fail
      go_ret
      exact ⟨rfl, hB⟩
theorem szIntSMo_any (ns : List Int) (left : Int) (v : Value) (w : World) (h : SlI w v ns) (h0 : 0 ≤ left) (h1 : left ≤ 1048576) : Calls Try.prog 66 #[v, .int .i64 left] w fun e w' => e = .returned (.int .i64 (if left < ns.length then -1 else left - ns.length)) ∧ w = w' := by
  obtain ⟨a, cap, rfl, h2, h3⟩ := SlF.shape h
  clear h
  unfold maxLen at h3
  by_cases hl : left < ns.length
  all_goals
    go_enter Try.func66, Try.ntmps66
    go_wp2_with fail
    go_ret
    exact ⟨by simp [hl]; try omega, rfl⟩
theorem szMo_any (d : Mv) (left : Int) (v : Value) (w : World) (h : SlI w v d.xs) (h0 : 0 ≤ left) (h1 : left ≤ 1048576) : Calls Try.prog 38 #[.agg #[v, .int .i64 d.n], .int .i64 left] w fun e w' => e = .returned (.int .i64 (if left < d.xs.length then -1 else left - d.xs.length)) ∧ Below w.heap.size w w' := by
  obtain ⟨a, cap, rfl, h2, h3⟩ := SlF.shape h
  unfold maxLen at h3
  have HL := Lib.hid (SlI.below h (Below.al (Below.refl _ _) (.cells #[.slice a d.xs.length cap, .int .i64 d.n] 64)))
  clear h
  by_cases hl : left < d.xs.length
  · have hs := fun wx h => szIntSMo_any d.xs left (.slice a d.xs.length cap) wx h h0 h1
    rw [if_pos hl] at hs ⊢
    go_enter Try.func38, Try.ntmps38
    go_wp2_with fail
    refine (hs _ HL.out).mono ?_
    rintro e w1 ⟨rfl, rfl⟩
    go_wp2_with fail
    go_ret
    exact ⟨rfl, by (repeat' first | (with_reducible exact Below.refl _ _) | (with_reducible refine Below.rd (by assumption) ?_ ?_) | (with_reducible refine Below.via (by assumption) ?_) | (with_reducible refine Below.al ?_ _) | (with_reducible refine Below.dn ?_ _) | (with_reducible refine Below.dr ?_) | (with_reducible refine Below.setCell ?_ ?_ _) | (dsimp only; omega) | (simp only [World.size_alloc, World.size_drew]; omega) | (simp; done) | omega)⟩
  · have hs := fun wx h => szIntSMo_any d.xs left (.slice a d.xs.length cap) wx h h0 h1
    rw [if_neg hl] at hs ⊢
    have hn : decide (left - (d.xs.length : Int) < 0) = false := by simp; omega
    go_enter Try.func38, Try.ntmps38
    go_wp2_with fail
    refine (hs _ HL.out).mono ?_
    rintro e w1 ⟨rfl, rfl⟩
    go_wp2_with fail
    go_ret
    exact ⟨rfl, by (repeat' first | (with_reducible exact Below.refl _ _) | (with_reducible refine Below.rd (by assumption) ?_ ?_) | (with_reducible refine Below.via (by assumption) ?_) | (with_reducible refine Below.al ?_ _) | (with_reducible refine Below.dn ?_ _) | (with_reducible refine Below.dr ?_) | (with_reducible refine Below.setCell ?_ ?_ _) | (dsimp only; omega) | (simp only [World.size_alloc, World.size_drew]; omega) | (simp; done) | omega)⟩
/-- What is left behind the sizes: less than nothing, or the rest. -/
def SzMo (ds : List Mv) (left : Int) (w : World) (e : Ending) (w' : World) : Prop := ∃ r : Int, e = .returned (.int .i64 r) ∧ ((r < 0 ∧ -1 ≤ r) ∨ (0 ≤ r ∧ r + ds.length + szM ds ds.length = left)) ∧ Below w.heap.size w w'
set_option maxHeartbeats 1600000 in
theorem szMoS_any (ds : List Mv) (left : Int) (v : Value) (w : World) (h : SlM w v ds) (h0 : 0 ≤ left) (h1 : left ≤ 1048576) : Calls Try.prog 11 #[v, .int .i64 left] w (SzMo ds left w) := by
  obtain ⟨a, cap, rfl, h2, h3⟩ := SlM.shape h
  unfold maxLen at h3
  have H := Lib.hid h
  clear h
  by_cases hl : left < ds.length
  · have hn : decide (left - (ds.length : Int) < 0) = true := by simp; omega
    go_enter Try.func11, Try.ntmps11
    go_wp2_with fail
    go_ret
    exact ⟨-1, rfl, .inl ⟨by omega, by omega⟩, Below.refl _ _⟩
  · have hn : decide (left - (ds.length : Int) < 0) = false := by simp; omega
    go_enter Try.func11, Try.ntmps11
    go_wp2_with fail
    go_loopw [1, 5] (fun l i wr => ∃ (k : Nat) (r : Int), k ≤ ds.length ∧ i = .int .i64 k ∧ l = .int .i64 r ∧ 0 ≤ r ∧ r + ds.length + szM ds k = left ∧ Below w.heap.size w wr) (fun _ i _ => ds.length - (intOf i).toNat)
    case atStart => exact ⟨0, left - ds.length, Nat.zero_le _, rfl, rfl, by omega, by simp [szM] <;> omega, Below.refl _ _⟩
    case round =>
      obtain ⟨k, r, hk, rfl, rfl, hr0, hrs, hB⟩ := hrel
      by_cases hlt : k < ds.length
      · obtain ⟨g, off, cap', xa, xc, hv, _, _, c0, c1, hx, _, _⟩ := (H.out.below hB).cells k hlt
        simp only [Value.slice.injEq] at hv
        obtain ⟨rfl, -, rfl⟩ := hv
        have hst := szM_step ds k hlt
        generalize ds[k] = d at c0 c1 hx hst
        have hs := fun wx h => szMo_any d r (.slice xa d.xs.length xc) wx h hr0 (by omega)
        have HX := Lib.hid hx
        have HRS := Lib.hid hrs
        clear hx hrs
        by_cases hlr : r < d.xs.length
        · rw [if_pos hlr] at hs
          clear hst
          go_wp2_with fail
          refine (hs _ HX.out).mono ?_
          rintro e w2 ⟨rfl, hb⟩
          go_wp2_with fail
          go_ret
          exact ⟨-1, rfl, .inl ⟨by omega, by omega⟩, Below.via hb hB⟩
        · rw [if_neg hlr] at hs
          have hn1 : decide (r - (d.xs.length : Int) < 0) = false := by simp; omega
          have HST := Lib.hid hst
          clear hst
          go_wp2_with fail
          refine (hs _ HX.out).mono ?_
          rintro e w2 ⟨rfl, hb⟩
          go_wp2_with fail
          go_roundw
          case rel => exact ⟨k + 1, r - d.xs.length, by omega, by go_num, rfl, by omega, by have := HRS.out; have := HST.out; omega, Below.via hb hB⟩
          case measure => simp [intOf]; omega
      · have hke : k = ds.length := by omega
        have HRS := Lib.hid hrs
        clear hrs
        subst hke
        go_wp2_with fail
        go_ret
        exact ⟨r, rfl, .inr ⟨hr0, HRS.out⟩, hB⟩
theorem infoMo : (Try.prog.info? 34).map (fun i => (i.zero, i.size, i.bytes)) = some (some (.agg #[.slice none 0 0, .int .i64 0]), 2, 32) := by kernel_rfl
def NewMos (ds : List Mv) (w : World) (e : Ending) (w' : World) : Prop := ∃ v, e = .returned v ∧ SlM w' v ds ∧ Below w.heap.size w w'
set_option maxHeartbeats 1600000 in
theorem toMoS_any (ds : List Mv) (v : Value) (w : World) (h : SlM w v ds) (hlen : ds.length ≤ 1048576) (hx : ∀ i (hi : i < ds.length), ds[i].xs.length ≤ 1048576) : Calls Try.prog 13 #[v] w (NewMos ds w) := by
  obtain ⟨a, cap, rfl, h1, h2⟩ := SlM.shape h
  unfold maxLen at h2
  have H := Lib.hid h
  have HX := Lib.hid hx
  clear h hx
  obtain ⟨i0, hi, hz0, hz1, hz2⟩ := info_parts infoMo
  have hmk : ∀ w : World, (Instr.makeSlice 25 (.int .i64 ds.length) (.int .i64 ds.length)).run Try.prog w = .ok (.slice (some ⟨w.heap.size, 0, none⟩) ds.length ds.length) (w.alloc (.cells (madeCells #[.slice none 0 0, .int .i64 0] (ds.length * 2)) 34)) := fun w => by
    have := run_make (P := Try.prog) w 25 34 i0 _ Try.underlying25 hi hz0 .i64 .i64 ds.length ds.length (by omega) (Int.le_refl _) (by rw [hz2]; omega) (by omega)
    rw [hz1] at this
    simpa [Value.cells] using this
  have hZs : (madeCells #[.slice none 0 0, .int .i64 0] (ds.length * 2)).size = ds.length * 2 := size_madeCells _ _
  generalize madeCells #[.slice none 0 0, .int .i64 0] (ds.length * 2) = Z at hmk hZs
  have HZ := Lib.hid hZs
  clear hZs hi hz0 hz1 hz2
  go_enter Try.func13, Try.ntmps13
  go_wp2_with fail
  clear hmk
  go_loopw [4] (fun i wr => ∃ (k : Nat) (A : Array Value), k ≤ ds.length ∧ i = .int .i64 k ∧ Hid (A.size = ds.length * 2) ∧ Hid (∀ i (hi : i < ds.length), i < k → ∃ u, A[i * 2]? = some u ∧ A[i * 2 + 1]? = some (.int .i64 ds[i].n) ∧ wr.ownsRow (w.heap.size + 1) 3 1 u ds[i].xs.length (cellsI ds[i].xs)) ∧ Bk wr w.heap.size A 34 ∧ Below w.heap.size w wr) (fun i _ => ds.length - (intOf i).toNat)
  case atStart => exact ⟨0, Z, Nat.zero_le _, rfl, HZ, by intro i hi hj; omega, Bk.new, (Below.refl _ _).alloc (Nat.le_refl _) _⟩
  case round =>
    obtain ⟨k, A, hk, rfl, hs, hc, kb, hB⟩ := hrel
    by_cases hlt : k < ds.length
    · obtain ⟨g, off, cap', xa, xc, hv, _, _, c0, c1, hx, _, _⟩ := (H.out.below hB).cells k hlt
      simp only [Value.slice.injEq] at hv
      obtain ⟨rfl, -, rfl⟩ := hv
      have hxl := HX.out k hlt
      have hd : ∃ d, ds[k] = d := ⟨_, rfl⟩
      obtain ⟨d, hd⟩ := hd
      rw [hd] at c0 c1 hx hxl
      have HD := Lib.hid hd
      have HXk := Lib.hid hx
      clear hd hx
      have hsz := hs.out
      have hzw := hB.size
      obtain ⟨z0, e0⟩ : ∃ z, A[k * 2]? = some z := ⟨_, Array.getElem?_eq_getElem (by omega)⟩
      obtain ⟨z1, e1⟩ : ∃ z, A[k * 2 + 1]? = some z := ⟨_, Array.getElem?_eq_getElem (by omega)⟩
      clear hsz
      have kbl := kb.lt
      go_wp2_with fail
      refine (toMo_any d _ wr HXk.out (by omega)).mono ?_
      rintro e w2 ⟨u, rfl, o2, hb⟩
      obtain ⟨ua, uc, rfl, _, _⟩ := SlF.shape (own_sl o2)
      have O2 := Lib.hid o2
      clear o2
      have kb' := kb.below hb
      have xb := kb'.cell
      have fb := kb'.free
      go_wp2_with fail
      go_roundw
      case rel =>
        refine ⟨k + 1, _, by omega, by go_num, ?_, ?_, ((kb'.same (k * 2) _).same (k * 2 + 1) _), ?_⟩
        · simp only [Hid, Array.size_setIfInBounds]; exact hs.out
        · intro i hi hik
          by_cases hie : i = k
          · subst hie
            have hsz := hs.out
            refine ⟨.slice ua d.xs.length uc, ?_, ?_, ?_⟩
            · rw [Array.getElem?_setIfInBounds, if_neg (by omega), Array.getElem?_setIfInBounds, if_pos rfl, if_pos (by omega)]
            · rw [Array.getElem?_setIfInBounds, if_pos rfl, if_pos (by simp; omega), HD.out]
            · rw [HD.out]
              refine own_setne (own_setne (own_lo O2.out (by omega)) ?_ _ _) ?_ _ _
              all_goals (intro j hj; have := own_gt O2.out j hj; omega)
          · obtain ⟨u, q1, q2, q3⟩ := hc.out i hi (by omega)
            refine ⟨u, ?_, ?_, ?_⟩
            · rw [Array.getElem?_setIfInBounds, if_neg (by omega), Array.getElem?_setIfInBounds, if_neg (by omega)]; exact q1
            · rw [Array.getElem?_setIfInBounds, if_neg (by omega), Array.getElem?_setIfInBounds, if_neg (by omega)]; exact q2
            · refine own_setne (own_setne (own_below q3 hb) ?_ _ _) ?_ _ _
              all_goals (intro j hj; have := own_gt q3 j hj; omega)
        · have hBB := hB.trans (hb.mono hB.size)
          exact (hBB.setCell (Nat.le_refl _) _).setCell (Nat.le_refl _) _
      case measure => simp [intOf]; omega
    · have hke : k = ds.length := by omega
      subst hke
      go_wp2_with fail
      go_ret
      refine ⟨_, rfl, slM_of kb rfl hs.out (by omega) (fun i hi => ?_), hB⟩
      obtain ⟨u, q1, q2, q3⟩ := hc.out i hi hi
      exact ⟨u, q1, q2, own_sl q3⟩
end Go.Proofs.Ytfghgpdhcpcoiaa
