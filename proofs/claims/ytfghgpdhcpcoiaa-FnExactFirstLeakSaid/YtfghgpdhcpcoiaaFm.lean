/-
  Rows of moves of the call's own, and marks on them. No condition.
-/
import Derived.Test.YtfghgpdhcpcoiaaJmo
import Derived.Test.YtfghgpdhcpcoiaaRg
import Derived.Test.YtfghgpdhcpcoiaaLbk
set_option linter.unusedSimpArgs false
set_option linter.unusedVariables false
namespace Go.Proofs.Ytfghgpdhcpcoiaa
open Go.RowKit
/-- A row of moves at block b; the inner rows lie in blocks behind b and below hi, no two in one. -/
def MvsAt (w : World) (b hi : Nat) (ds : List Mv) : Prop :=
  ∃ A : Array Value, Bk w b A 34 ∧ A.size = ds.length * 2 ∧ (∀ i (hi' : i < ds.length), ∃ u, A[i * 2]? = some u ∧ A[i * 2 + 1]? = some (.int .i64 ds[i].n) ∧ w.ownsRow (b + 1) 3 1 u ds[i].xs.length (cellsI ds[i].xs) ∧ ∀ j, u.ownBlock = some j → j < hi) ∧
    ∀ i i', i < i' → i' < ds.length → ∀ u u', A[i * 2]? = some u → A[i' * 2]? = some u' → ∀ j, u.ownBlock = some j → u'.ownBlock ≠ some j
theorem MvsAt.grow {w w' : World} {b hi : Nat} {ds : List Mv} {p : Nat → Prop} (h : MvsAt w b hi ds) (k : Grow p w w') (hp : ∀ i, p i → i < b ∨ hi ≤ i) (hbh : b < hi) : MvsAt w' b hi ds := by
  obtain ⟨A, h1, h2, h3, h4⟩ := h
  refine ⟨A, h1.grow k (fun q => by have := hp b q; omega), h2, fun i hi' => ?_, h4⟩
  obtain ⟨u, q1, q2, q3, q4⟩ := h3 i hi'
  exact ⟨u, q1, q2, own_grow q3 k (fun j hj q => by have := hp j q; have := q4 j hj; have := own_gt q3 j hj; omega), q4⟩
theorem MvsAt.below {w w' : World} {b hi : Nat} {ds : List Mv} (h : MvsAt w b hi ds) (k : Below w.heap.size w w') : MvsAt w' b hi ds := by
  obtain ⟨A, h1, h2, h3, h4⟩ := h
  refine ⟨A, h1.below k, h2, fun i hi' => ?_, h4⟩
  obtain ⟨u, q1, q2, q3, q4⟩ := h3 i hi'
  exact ⟨u, q1, q2, own_below q3 k, q4⟩
theorem MvsAt.sl {w : World} {b hi : Nat} {ds : List Mv} (h : MvsAt w b hi ds) (hl : ds.length ≤ 4194304) : SlM w (.slice (some ⟨b, 0, none⟩) ds.length ds.length) ds := by
  obtain ⟨A, h1, h2, h3, _⟩ := h
  refine slM_of h1 rfl h2 (by omega) (fun i hi => ?_)
  obtain ⟨u, q1, q2, q3, _⟩ := h3 i hi
  exact ⟨u, q1, q2, own_sl q3⟩
theorem toMoS_own (ds : List Mv) (v : Value) (w : World) (h : SlM w v ds) (hlen : ds.length ≤ 1048576) (hx : ∀ i (hi : i < ds.length), ds[i].xs.length ≤ 1048576) : Calls Try.prog 13 #[v] w (fun e w' => e = .returned (.slice (some ⟨w.heap.size, 0, none⟩) ds.length ds.length) ∧ MvsAt w' w.heap.size w'.heap.size ds ∧ Below w.heap.size w w') := by
  obtain ⟨a, cap, rfl, h1, h2⟩ := SlM.shape h
  unfold maxLen at h2
  have H := Lib.hid h
  have HX := Lib.hid hx
  clear h hx
  obtain ⟨i0, hi, hz0, hz1, hz2⟩ := info_parts infoMo
  have hmk : ∀ w : World, (Instr.makeSlice 25 (.int .i64 ds.length) (.int .i64 ds.length)).run Try.prog w = .ok (.slice (some ⟨w.heap.size, 0, none⟩) ds.length ds.length) (w.alloc (.cells (madeCells #[.slice none 0 0, .int .i64 0] (ds.length * 2)) 34)) := fun w => by
    have := run_make (P := Try.prog) w 25 34 i0 _ Try.underlying25 hi hz0 .i64 .i64 ds.length ds.length (by omega) (Int.le_refl _) (by rw [hz2]; omega) (by omega)
    rw [hz1] at this
    simpa [Value.cells] using this
  have hZs : (madeCells #[.slice none 0 0, .int .i64 0] (ds.length * 2)).size = ds.length * 2 := size_madeCells _ _
  generalize madeCells #[.slice none 0 0, .int .i64 0] (ds.length * 2) = Z at hmk hZs
  have HZ := Lib.hid hZs
  clear hZs hi hz0 hz1 hz2
  go_enter Try.func13, Try.ntmps13
  go_wp2_with fail
  clear hmk
  go_loopw [4] (fun i wr => ∃ (k : Nat) (A : Array Value), k ≤ ds.length ∧ i = .int .i64 k ∧ Hid (A.size = ds.length * 2) ∧ Hid (∀ i (hi : i < ds.length), i < k → ∃ u, A[i * 2]? = some u ∧ A[i * 2 + 1]? = some (.int .i64 ds[i].n) ∧ wr.ownsRow (w.heap.size + 1) 3 1 u ds[i].xs.length (cellsI ds[i].xs)) ∧ Hid (∀ i i', i < i' → i' < k → ∀ u u', A[i * 2]? = some u → A[i' * 2]? = some u' → ∀ j, u.ownBlock = some j → u'.ownBlock ≠ some j) ∧ Bk wr w.heap.size A 34 ∧ Below w.heap.size w wr) (fun i _ => ds.length - (intOf i).toNat)
  case atStart => exact ⟨0, Z, Nat.zero_le _, rfl, HZ, by intro i hi hj; omega, by intro i i' h1 h2; omega, Bk.new, (Below.refl _ _).alloc (Nat.le_refl _) _⟩
  case round =>
    obtain ⟨k, A, hk, rfl, hs, hc, hdis, kb, hB⟩ := hrel
    by_cases hlt : k < ds.length
    · obtain ⟨g, off, cap', xa, xc, hv, _, _, c0, c1, hx, _, _⟩ := (H.out.below hB).cells k hlt
      simp only [Value.slice.injEq] at hv
      obtain ⟨rfl, -, rfl⟩ := hv
      have hxl := HX.out k hlt
      have hd : ∃ d, ds[k] = d := ⟨_, rfl⟩
      obtain ⟨d, hd⟩ := hd
      rw [hd] at c0 c1 hx hxl
      have HD := Lib.hid hd
      have HXk := Lib.hid hx
      clear hd hx
      have hsz := hs.out
      have hzw := hB.size
      obtain ⟨z0, e0⟩ : ∃ z, A[k * 2]? = some z := ⟨_, Array.getElem?_eq_getElem (by omega)⟩
      obtain ⟨z1, e1⟩ : ∃ z, A[k * 2 + 1]? = some z := ⟨_, Array.getElem?_eq_getElem (by omega)⟩
      clear hsz
      have kbl := kb.lt
      go_wp2_with fail
      refine (toMo_any d _ wr HXk.out (by omega)).mono ?_
      rintro e w2 ⟨u, rfl, o2, hb⟩
      obtain ⟨ua, uc, rfl, _, _⟩ := SlF.shape (own_sl o2)
      have O2 := Lib.hid o2
      clear o2
      have kb' := kb.below hb
      have xb := kb'.cell
      have fb := kb'.free
      go_wp2_with fail
      go_roundw
      case rel =>
        refine ⟨k + 1, _, by omega, by go_num, ?_, ?_, ?_, ((kb'.same (k * 2) _).same (k * 2 + 1) _), ?_⟩
        · simp only [Hid, Array.size_setIfInBounds]; exact hs.out
        · intro i hi hik
          by_cases hie : i = k
          · subst hie
            have hsz := hs.out
            refine ⟨.slice ua d.xs.length uc, ?_, ?_, ?_⟩
            · rw [Array.getElem?_setIfInBounds, if_neg (by omega), Array.getElem?_setIfInBounds, if_pos rfl, if_pos (by omega)]
            · rw [Array.getElem?_setIfInBounds, if_pos rfl, if_pos (by simp; omega), HD.out]
            · rw [HD.out]
              refine own_setne (own_setne (own_lo O2.out (by omega)) ?_ _ _) ?_ _ _
              all_goals (intro j hj; have := own_gt O2.out j hj; omega)
          · obtain ⟨u, q1, q2, q3⟩ := hc.out i hi (by omega)
            refine ⟨u, ?_, ?_, ?_⟩
            · rw [Array.getElem?_setIfInBounds, if_neg (by omega), Array.getElem?_setIfInBounds, if_neg (by omega)]; exact q1
            · rw [Array.getElem?_setIfInBounds, if_neg (by omega), Array.getElem?_setIfInBounds, if_neg (by omega)]; exact q2
            · refine own_setne (own_setne (own_below q3 hb) ?_ _ _) ?_ _ _
              all_goals (intro j hj; have := own_gt q3 j hj; omega)
        · intro i i' h1 h2 u u' hu hu' j hj
          have hsz := hs.out
          simp only [Array.getElem?_setIfInBounds, Array.size_setIfInBounds] at hu hu'
          rw [if_neg (by omega), if_neg (by omega)] at hu
          rw [if_neg (by omega)] at hu'
          by_cases hie : i' = k
          · subst hie
            rw [if_pos rfl, if_pos (by omega)] at hu'
            simp only [Option.some.injEq] at hu'
            subst hu'
            obtain ⟨u2, q1, _, q3⟩ := hc.out i (by omega) h1
            rw [q1] at hu
            simp only [Option.some.injEq] at hu
            subst hu
            intro he
            have := (q3.lt j hj).2
            have := own_gt O2.out j he
            omega
          · rw [if_neg (by omega)] at hu'
            exact hdis.out i i' h1 (by omega) u u' hu hu' j hj
        · have hBB := hB.trans (hb.mono hB.size)
          exact (hBB.setCell (Nat.le_refl _) _).setCell (Nat.le_refl _) _
      case measure => simp [intOf]; omega
    · have hke : k = ds.length := by omega
      subst hke
      go_wp2_with fail
      go_ret
      refine ⟨rfl, ⟨A, kb, hs.out, fun i hi => ?_, hdis.out⟩, hB⟩
      obtain ⟨u, q1, q2, q3⟩ := hc.out i hi hi
      exact ⟨u, q1, q2, q3, fun j hj => (q3.lt j hj).2⟩

set_option maxHeartbeats 3200000 in
theorem markMoS_any (ds : List Mv) (b hi : Nat) (k0 : Int) (w : World) (h : MvsAt w b hi ds) (hb : b < hi) (hk0 : 1 ≤ k0) (hk1 : k0 ≤ 4194305) (hlen : ds.length + szM ds ds.length ≤ 1048576) :
    Calls Try.prog 24 #[.slice (some ⟨b, 0, none⟩) ds.length ds.length, .int .i64 k0] w fun e w' => e = .returned (.int .i64 (k0 + (szM ds ds.length : Nat) + (ds.length : Nat))) ∧ Grow (fun i => b ≤ i ∧ i < hi) w w' := by
  obtain ⟨A0, hA0, hs0, hc0, hd0⟩ := h
  have HK := Lib.hid hA0
  have HS := Lib.hid hs0
  have HC := Lib.hid hc0
  have HD := Lib.hid hd0
  clear hA0 hs0 hc0 hd0
  go_enter Try.func24, Try.ntmps24
  go_wp2_with fail
  go_loopw [1, 5] (fun q i wr => ∃ (k : Nat) (A : Array Value), k ≤ ds.length ∧ i = .int .i64 k ∧ q = .int .i64 (k0 + (szM ds k : Nat) + (k : Nat)) ∧ Hid (A.size = ds.length * 2) ∧ Hid (∀ i, i < ds.length → A[i * 2]? = A0[i * 2]?) ∧ Hid (Bk wr b A 34) ∧
    Hid (∀ i (hi' : i < ds.length), k ≤ i → ∀ u, A0[i * 2]? = some u → wr.ownsRow (b + 1) 3 1 u ds[i].xs.length (cellsI ds[i].xs)) ∧ Grow (fun i => b ≤ i ∧ i < hi) w wr) (fun _ i _ => ds.length - (intOf i).toNat)
  case atStart =>
    refine ⟨0, A0, Nat.zero_le _, rfl, by simp [szM], HS, fun _ _ => rfl, HK, fun i hi' _ u hu => ?_, Grow.refl _ _⟩
    obtain ⟨u2, q1, _, q3, _⟩ := HC.out i hi'
    rw [q1] at hu
    simp only [Option.some.injEq] at hu
    exact hu ▸ q3
  case round =>
    obtain ⟨k, A, hk, rfl, rfl, hs, hsame, hK, hown, hG⟩ := hrel
    by_cases hlt : k < ds.length
    · obtain ⟨u, q1, q2, q3, q4⟩ := HC.out k hlt
      have ho := hown.out k hlt (Nat.le_refl _) u q1
      have hxs := szM_step ds k hlt
      have hle := szM_le ds (k + 1) (by omega)
      obtain ⟨ua, uc, rfl, hu1, hu2⟩ := SlF.shape (own_sl ho)
      unfold maxLen at hu2
      have e0 := (hsame.out k hlt).trans q1
      have hsz := hs.out
      obtain ⟨z1, e1⟩ : ∃ z, A[k * 2 + 1]? = some z := ⟨_, Array.getElem?_eq_getElem (by omega)⟩
      have HO := Lib.hid ho
      have HQ4 := Lib.hid q4
      have HQ1 := Lib.hid q1
      have x0 := hK.out.cell
      have hstep := Lib.hid hxs
      have hbk := hK.out.lt
      clear ho q1 q2 q3 q4 hsz
      have hxl : ds[k].xs.length ≤ 1048576 := by omega
      have hsk : szM ds k ≤ 1048576 := by omega
      clear hxs
      go_wp2_with fail
      refine (markIntS_any ds[k].xs _ (b + 1) _ _ HO.out (by omega) (by omega) (by omega)).mono ?_
      rintro e w2 ⟨rfl, _, g2⟩
      have hne : ∀ j, Value.ownBlock (.slice ua ds[k].xs.length uc) = some j → b + 1 ≤ j := own_gt HO.out
      have K2 := hK.out.by g2 (fun e => by have := hne b e.symm; omega)
      have HOW2 := Lib.hid (show ∀ i (hi' : i < ds.length), k + 1 ≤ i → ∀ u, A0[i * 2]? = some u → w2.ownsRow (b + 1) 3 1 u ds[i].xs.length (cellsI ds[i].xs) from fun i hi' hki u hu => own_gby2 (hown.out i hi' (by omega) u hu) g2 (fun j hj hrj => HD.out k i (by omega) hi' _ u HQ1.out hu j hrj hj))
      have G2 := hG.trans (Grow.ofBy g2 (fun j hj => ⟨by have := hne j hj; omega, HQ4.out j hj⟩))
      have x2 := K2.cell
      have f2 := K2.free
      have K3 := Lib.hid (K2.same (k * 2 + 1) (.int .i64 (k0 + (szM ds k : Nat) + (k : Nat) + (ds[k].xs.length : Nat))))
      have HOW3 := Lib.hid (show ∀ i (hi' : i < ds.length), k + 1 ≤ i → ∀ u, A0[i * 2]? = some u → (w2.setCell ⟨b, k * 2 + 1, none⟩ (.int .i64 (k0 + (szM ds k : Nat) + (k : Nat) + (ds[k].xs.length : Nat)))).ownsRow (b + 1) 3 1 u ds[i].xs.length (cellsI ds[i].xs) from fun i hi' hki u hu => own_setne (HOW2.out i hi' hki u hu) (fun j hj => by have := own_gt (HOW2.out i hi' hki u hu) j hj; omega) _ _)
      have G3 := G2.trans (Grow.set (p := fun i => b ≤ i ∧ i < hi) w2 b (k * 2 + 1) (.int .i64 (k0 + (szM ds k : Nat) + (k : Nat) + (ds[k].xs.length : Nat))) ⟨Nat.le_refl _, hb⟩)
      have HS2 := Lib.hid (show (A.setIfInBounds (k * 2 + 1) (.int .i64 (k0 + (szM ds k : Nat) + (k : Nat) + (ds[k].xs.length : Nat)))).size = ds.length * 2 by rw [Array.size_setIfInBounds]; exact hs.out)
      have HSM2 := Lib.hid (show ∀ i, i < ds.length → (A.setIfInBounds (k * 2 + 1) (.int .i64 (k0 + (szM ds k : Nat) + (k : Nat) + (ds[k].xs.length : Nat))))[i * 2]? = A0[i * 2]? from fun i hi' => by rw [Array.getElem?_setIfInBounds, if_neg (by omega)]; exact hsame.out i hi')
      clear x0 K2 HOW2 HO g2 hG hown hne
      go_wp2_with fail
      go_roundw
      case rel => exact ⟨k + 1, _, by omega, by go_num, by rw [hstep.out]; go_num, HS2.out, HSM2.out, K3.out, HOW3.out, G3⟩
      case measure => simp [intOf]; omega
    · have hke : k = ds.length := by omega
      subst hke
      go_wp2_with fail
      go_ret
      exact ⟨rfl, hG⟩
end Go.Proofs.Ytfghgpdhcpcoiaa
