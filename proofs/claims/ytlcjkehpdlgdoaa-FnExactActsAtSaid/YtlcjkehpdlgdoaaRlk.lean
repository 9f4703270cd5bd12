/-
  Rows of roles of the call's own, and marks on them. No condition.
-/
import Derived.Test.YtlcjkehpdlgdoaaRlc
import Derived.Test.YtlcjkehpdlgdoaaRg
import Derived.Test.YtlcjkehpdlgdoaaMt
set_option linter.unusedSimpArgs false
set_option linter.unusedVariables false
namespace Go.Proofs.Ytlcjkehpdlgdoaa
open Go.RowKit
/-- A row of roles at block b; the inner rows lie in blocks behind b and below hi, no two in one. -/
def RlsAt (w : World) (b hi : Nat) (ds : List Rl) : Prop :=
  ∃ A : Array Value, Bk w b A 56 ∧ A.size = ds.length * 3 ∧ (∀ i (hi' : i < ds.length), ∃ u, A[i * 3]? = some (.string ds[i].nm) ∧ A[i * 3 + 1]? = some (.int .i64 ds[i].acts) ∧ A[i * 3 + 2]? = some u ∧ w.ownsRow (b + 1) 3 1 u ds[i].xs.length (cellsI ds[i].xs) ∧ ∀ j, u.ownBlock = some j → j < hi) ∧
    ∀ i i', i < i' → i' < ds.length → ∀ u u', A[i * 3 + 2]? = some u → A[i' * 3 + 2]? = some u' → ∀ j, u.ownBlock = some j → u'.ownBlock ≠ some j
theorem RlsAt.grow {w w' : World} {b hi : Nat} {ds : List Rl} {p : Nat → Prop} (h : RlsAt w b hi ds) (k : Grow p w w') (hp : ∀ i, p i → i < b ∨ hi ≤ i) (hbh : b < hi) : RlsAt w' b hi ds := by
  obtain ⟨A, h1, h2, h3, h4⟩ := h
  refine ⟨A, h1.grow k (fun q => by have := hp b q; omega), h2, fun i hi' => ?_, h4⟩
  obtain ⟨u, q0, q1, q2, q3, q4⟩ := h3 i hi'
  exact ⟨u, q0, q1, q2, own_grow q3 k (fun j hj q => by have := hp j q; have := q4 j hj; have := own_gt q3 j hj; omega), q4⟩
theorem RlsAt.below {w w' : World} {b hi : Nat} {ds : List Rl} (h : RlsAt w b hi ds) (k : Below w.heap.size w w') : RlsAt w' b hi ds := by
  obtain ⟨A, h1, h2, h3, h4⟩ := h
  refine ⟨A, h1.below k, h2, fun i hi' => ?_, h4⟩
  obtain ⟨u, q0, q1, q2, q3, q4⟩ := h3 i hi'
  exact ⟨u, q0, q1, q2, own_below q3 k, q4⟩
theorem RlsAt.sl {w : World} {b hi : Nat} {ds : List Rl} (h : RlsAt w b hi ds) (hl : ds.length ≤ 4194304) (hnm : ∀ d ∈ ds, d.nm.size ≤ maxLen) : SlRl w (.slice (some ⟨b, 0, none⟩) ds.length ds.length) ds := by
  obtain ⟨A, h1, h2, h3, _⟩ := h
  refine slRl_of h1 rfl h2 (by omega) hnm (fun i hi => ?_)
  obtain ⟨u, q0, q1, q2, q3, _⟩ := h3 i hi
  exact ⟨u, q0, q1, q2, own_sl q3⟩
theorem infoRl : (Try.prog.info? 56).map (fun i => (i.zero, i.size, i.bytes)) = some (some (.agg #[.string ByteArray.empty, .int .i64 0, .slice none 0 0]), 3, 48) := by kernel_rfl
set_option maxHeartbeats 3200000 in
theorem toRlS_own (ds : List Rl) (v : Value) (w : World) (h : SlRl w v ds) (hlen : ds.length ≤ 1048576) (hx : ∀ i (hi : i < ds.length), ds[i].xs.length ≤ 1048576) : Calls Try.prog 36 #[v] w (fun e w' => e = .returned (.slice (some ⟨w.heap.size, 0, none⟩) ds.length ds.length) ∧ RlsAt w' w.heap.size w'.heap.size ds ∧ Below w.heap.size w w') := by
  obtain ⟨a, cap, rfl, h1, h2⟩ := SlRl.shape h
  unfold maxLen at h2
  have H := Lib.hid h
  have HX := Lib.hid hx
  clear h hx
  obtain ⟨i0, hi, hz0, hz1, hz2⟩ := info_parts infoRl
  have hmk : ∀ w : World, (Instr.makeSlice 48 (.int .i64 ds.length) (.int .i64 ds.length)).run Try.prog w = .ok (.slice (some ⟨w.heap.size, 0, none⟩) ds.length ds.length) (w.alloc (.cells (madeCells #[.string ByteArray.empty, .int .i64 0, .slice none 0 0] (ds.length * 3)) 56)) := fun w => by
    have := run_make (P := Try.prog) w 48 56 i0 _ Try.underlying48 hi hz0 .i64 .i64 ds.length ds.length (by omega) (Int.le_refl _) (by rw [hz2]; omega) (by omega)
    rw [hz1] at this
    simpa [Value.cells] using this
  have hZs : (madeCells #[.string ByteArray.empty, .int .i64 0, .slice none 0 0] (ds.length * 3)).size = ds.length * 3 := size_madeCells _ _
  generalize madeCells #[.string ByteArray.empty, .int .i64 0, .slice none 0 0] (ds.length * 3) = Z at hmk hZs
  have HZ := Lib.hid hZs
  clear hZs hi hz0 hz1 hz2
  go_enter Try.func36, Try.ntmps36
  go_wp2_with fail
  clear hmk
  go_loopw [4] (fun i wr => ∃ (k : Nat) (A : Array Value), k ≤ ds.length ∧ i = .int .i64 k ∧ Hid (A.size = ds.length * 3) ∧ Hid (∀ i (hi : i < ds.length), i < k → ∃ u, A[i * 3]? = some (.string ds[i].nm) ∧ A[i * 3 + 1]? = some (.int .i64 ds[i].acts) ∧ A[i * 3 + 2]? = some u ∧ wr.ownsRow (w.heap.size + 1) 3 1 u ds[i].xs.length (cellsI ds[i].xs)) ∧ Hid (∀ i i', i < i' → i' < k → ∀ u u', A[i * 3 + 2]? = some u → A[i' * 3 + 2]? = some u' → ∀ j, u.ownBlock = some j → u'.ownBlock ≠ some j) ∧ Bk wr w.heap.size A 56 ∧ Below w.heap.size w wr) (fun i _ => ds.length - (intOf i).toNat)
  case atStart => exact ⟨0, Z, Nat.zero_le _, rfl, HZ, by intro i hi hj; omega, by intro i i' h1 h2; omega, Bk.new, (Below.refl _ _).alloc (Nat.le_refl _) _⟩
  case round =>
    obtain ⟨k, A, hk, rfl, hs, hc, hdis, kb, hB⟩ := hrel
    by_cases hlt : k < ds.length
    · obtain ⟨g, off, cap', xa, xc, hv, _, _, c0, c1, c2, hx, _, _, _⟩ := (H.out.below hB).cells k hlt
      simp only [Value.slice.injEq] at hv
      obtain ⟨rfl, -, rfl⟩ := hv
      have hxl := HX.out k hlt
      have hd : ∃ d, ds[k] = d := ⟨_, rfl⟩
      obtain ⟨d, hd⟩ := hd
      rw [hd] at c0 c1 c2 hx hxl
      have HD := Lib.hid hd
      have HXk := Lib.hid hx
      clear hd hx
      have hsz := hs.out
      have hzw := hB.size
      obtain ⟨z0, e0⟩ : ∃ z, A[k * 3]? = some z := ⟨_, Array.getElem?_eq_getElem (by omega)⟩
      obtain ⟨z1, e1⟩ : ∃ z, A[k * 3 + 1]? = some z := ⟨_, Array.getElem?_eq_getElem (by omega)⟩
      obtain ⟨z2, e2⟩ : ∃ z, A[k * 3 + 2]? = some z := ⟨_, Array.getElem?_eq_getElem (by omega)⟩
      clear hsz
      have kbl := kb.lt
      go_wp2_with fail
      refine (toRl_any d _ wr HXk.out (by omega)).mono ?_
      rintro e w2 ⟨u, rfl, o2, hb⟩
      obtain ⟨ua, uc, rfl, _, _⟩ := SlF.shape (own_sl o2)
      have O2 := Lib.hid o2
      clear o2
      have kb' := kb.below hb
      have xb := kb'.cell
      have fb := kb'.free
      go_wp2_with fail
      go_roundw
      case rel =>
        refine ⟨k + 1, _, by omega, by go_num, ?_, ?_, ?_, (((kb'.same (k * 3) _).same (k * 3 + 1) _).same (k * 3 + 2) _), ?_⟩
        · simp only [Hid, Array.size_setIfInBounds]; exact hs.out
        · intro i hi hik
          have hsz := hs.out
          by_cases hie : i = k
          · subst hie
            refine ⟨.slice ua d.xs.length uc, ?_, ?_, ?_, ?_⟩
            · rw [Array.getElem?_setIfInBounds, if_neg (by omega), Array.getElem?_setIfInBounds, if_neg (by omega), Array.getElem?_setIfInBounds, if_pos rfl, if_pos (by omega), HD.out]
            · rw [Array.getElem?_setIfInBounds, if_neg (by omega), Array.getElem?_setIfInBounds, if_pos rfl, if_pos (by simp; omega), HD.out]
            · rw [Array.getElem?_setIfInBounds, if_pos rfl, if_pos (by simp; omega)]
            · rw [HD.out]
              refine own_setne (own_setne (own_setne (own_lo O2.out (by omega)) ?_ _ _) ?_ _ _) ?_ _ _
              all_goals (intro j hj; have := own_gt O2.out j hj; omega)
          · obtain ⟨u, q0, q1, q2, q3⟩ := hc.out i hi (by omega)
            refine ⟨u, ?_, ?_, ?_, ?_⟩
            · rw [Array.getElem?_setIfInBounds, if_neg (by omega), Array.getElem?_setIfInBounds, if_neg (by omega), Array.getElem?_setIfInBounds, if_neg (by omega)]; exact q0
            · rw [Array.getElem?_setIfInBounds, if_neg (by omega), Array.getElem?_setIfInBounds, if_neg (by omega), Array.getElem?_setIfInBounds, if_neg (by omega)]; exact q1
            · rw [Array.getElem?_setIfInBounds, if_neg (by omega), Array.getElem?_setIfInBounds, if_neg (by omega), Array.getElem?_setIfInBounds, if_neg (by omega)]; exact q2
            · refine own_setne (own_setne (own_setne (own_below q3 hb) ?_ _ _) ?_ _ _) ?_ _ _
              all_goals (intro j hj; have := own_gt q3 j hj; omega)
        · intro i i' h1 h2 u u' hu hu' j hj
          have hsz := hs.out
          simp only [Array.getElem?_setIfInBounds, Array.size_setIfInBounds] at hu hu'
          rw [if_neg (by omega), if_neg (by omega), if_neg (by omega)] at hu
          by_cases hie : i' = k
          · subst hie
            rw [if_pos rfl, if_pos (by omega)] at hu'
            simp only [Option.some.injEq] at hu'
            subst hu'
            obtain ⟨u2, _, _, q1, q3⟩ := hc.out i (by omega) h1
            rw [q1] at hu
            simp only [Option.some.injEq] at hu
            subst hu
            intro he
            have := (q3.lt j hj).2
            have := own_gt O2.out j he
            omega
          · rw [if_neg (by omega), if_neg (by omega), if_neg (by omega)] at hu'
            exact hdis.out i i' h1 (by omega) u u' hu hu' j hj
        · have hBB := hB.trans (hb.mono hB.size)
          exact ((hBB.setCell (Nat.le_refl _) _).setCell (Nat.le_refl _) _).setCell (Nat.le_refl _) _
      case measure => simp [intOf]; omega
    · have hke : k = ds.length := by omega
      subst hke
      go_wp2_with fail
      go_ret
      refine ⟨rfl, ⟨A, kb, hs.out, fun i hi => ?_, hdis.out⟩, hB⟩
      obtain ⟨u, q0, q1, q2, q3⟩ := hc.out i hi hi
      exact ⟨u, q0, q1, q2, q3, fun j hj => (q3.lt j hj).2⟩
set_option maxHeartbeats 3200000 in
theorem markRlS_any (ds : List Rl) (b hi : Nat) (k0 : Int) (w : World) (h : RlsAt w b hi ds) (hb : b < hi) (hk0 : 1 ≤ k0) (hk1 : k0 ≤ 4194305) (hlen : ds.length + szRl ds ds.length ≤ 1048576) :
    Calls Try.prog 39 #[.slice (some ⟨b, 0, none⟩) ds.length ds.length, .int .i64 k0] w fun e w' => e = .returned (.int .i64 (k0 + (szX ds ds.length : Nat) + (ds.length : Nat) + (ds.length : Nat))) ∧ Grow (fun i => b ≤ i ∧ i < hi) w w' := by
  obtain ⟨A0, hA0, hs0, hc0, hd0⟩ := h
  have HK := Lib.hid hA0
  have HS := Lib.hid hs0
  have HC := Lib.hid hc0
  have HD := Lib.hid hd0
  clear hA0 hs0 hc0 hd0
  have hszx := szX_rl ds ds.length (Nat.le_refl _)
  go_enter Try.func39, Try.ntmps39
  go_wp2_with fail
  go_loopw [1, 5] (fun q i wr => ∃ (k : Nat) (A : Array Value), k ≤ ds.length ∧ i = .int .i64 k ∧ q = .int .i64 (k0 + (szX ds k : Nat) + (k : Nat) + (k : Nat)) ∧ Hid (A.size = ds.length * 3) ∧ Hid (∀ i, i < ds.length → A[i * 3 + 2]? = A0[i * 3 + 2]?) ∧ Hid (Bk wr b A 56) ∧
    Hid (∀ i (hi' : i < ds.length), k ≤ i → ∀ u, A0[i * 3 + 2]? = some u → wr.ownsRow (b + 1) 3 1 u ds[i].xs.length (cellsI ds[i].xs)) ∧ Grow (fun i => b ≤ i ∧ i < hi) w wr) (fun _ i _ => ds.length - (intOf i).toNat)
  case atStart =>
    refine ⟨0, A0, Nat.zero_le _, rfl, by simp [szX], HS, fun _ _ => rfl, HK, fun i hi' _ u hu => ?_, Grow.refl _ _⟩
    obtain ⟨u2, _, _, q1, q3, _⟩ := HC.out i hi'
    rw [q1] at hu
    simp only [Option.some.injEq] at hu
    exact hu ▸ q3
  case round =>
    obtain ⟨k, A, hk, rfl, rfl, hs, hsame, hK, hown, hG⟩ := hrel
    by_cases hlt : k < ds.length
    · obtain ⟨u, _, _, q1, q3, q4⟩ := HC.out k hlt
      have ho := hown.out k hlt (Nat.le_refl _) u q1
      have hxs := szX_step ds k hlt
      have hle2 := szX_rl ds (k + 1) (by omega)
      have hle := szRl_le ds (k + 1) (by omega)
      obtain ⟨ua, uc, rfl, hu1, hu2⟩ := SlF.shape (own_sl ho)
      unfold maxLen at hu2
      have e2 := (hsame.out k hlt).trans q1
      have hsz := hs.out
      obtain ⟨z0, e0⟩ : ∃ z, A[k * 3]? = some z := ⟨_, Array.getElem?_eq_getElem (by omega)⟩
      obtain ⟨z1, e1⟩ : ∃ z, A[k * 3 + 1]? = some z := ⟨_, Array.getElem?_eq_getElem (by omega)⟩
      have HO := Lib.hid ho
      have HQ4 := Lib.hid q4
      have HQ1 := Lib.hid q1
      have HSZ := Lib.hid hsz
      have hstep := Lib.hid hxs
      have hbk := hK.out.lt
      have hxl : ds[k].xs.length ≤ 1048576 := by omega
      have hsk : szX ds k ≤ 1048576 := by omega
      clear ho q1 q3 q4 hsz hxs hle hle2
      obtain ⟨m, hm⟩ : ∃ m : Int, k0 + (szX ds k : Nat) + (k : Nat) + (k : Nat) = m := ⟨_, rfl⟩
      have HM := Lib.hid hm
      have hm1 : 1 ≤ m := by omega
      have hm2 : m ≤ 6291457 + 1048576 := by omega
      rw [hm]
      clear hm
      go_wp2_with fail
      refine (markText_any m _ (by omega) (by omega)).mono ?_
      rintro e w1 ⟨s, rfl, b1⟩
      have K1 := hK.out.below b1
      have x1 := K1.cell
      have f1 := K1.free
      have HOW1 := Lib.hid (show ∀ i (hi' : i < ds.length), k ≤ i → ∀ u, A0[i * 3 + 2]? = some u → w1.ownsRow (b + 1) 3 1 u ds[i].xs.length (cellsI ds[i].xs) from fun i hi' hki u hu => own_below (hown.out i hi' hki u hu) b1)
      have G1 := hG.trans (Grow.ofBelow b1)
      have KM := (K1.same (k * 3) (.string s)).same (k * 3 + 1) (.int .i64 (m + 1))
      have HOWM := Lib.hid (show ∀ i (hi' : i < ds.length), k ≤ i → ∀ u, A0[i * 3 + 2]? = some u → ((w1.setCell ⟨b, k * 3, none⟩ (.string s)).setCell ⟨b, k * 3 + 1, none⟩ (.int .i64 (m + 1))).ownsRow (b + 1) 3 1 u ds[i].xs.length (cellsI ds[i].xs) from fun i hi' hki u hu => own_setne (own_setne (HOW1.out i hi' hki u hu) (fun j hj => by have := own_gt (HOW1.out i hi' hki u hu) j hj; omega) _ _) (fun j hj => by have := own_gt (HOW1.out i hi' hki u hu) j hj; omega) _ _)
      have GM := Lib.hid ((G1.trans (Grow.set (p := fun i => b ≤ i ∧ i < hi) w1 b (k * 3) (.string s) ⟨Nat.le_refl _, hb⟩)).trans (Grow.set (p := fun i => b ≤ i ∧ i < hi) (w1.setCell ⟨b, k * 3, none⟩ (.string s)) b (k * 3 + 1) (.int .i64 (m + 1)) ⟨Nat.le_refl _, hb⟩))
      have HKM := Lib.hid KM
      have hw2 : ∃ wm, wm = (w1.setCell ⟨b, k * 3, none⟩ (.string s)).setCell ⟨b, k * 3 + 1, none⟩ (.int .i64 (m + 1)) := ⟨_, rfl⟩
      clear KM G1 hG hown HOW1
      go_wp2_with fail
      refine (markIntS_any ds[k].xs _ (b + 1) _ _ (HOWM.out k hlt (Nat.le_refl _) _ HQ1.out) (by omega) (by omega) (by omega)).mono ?_
      rintro e w2 ⟨rfl, _, g2⟩
      have hne : ∀ j, Value.ownBlock (.slice ua ds[k].xs.length uc) = some j → b + 1 ≤ j := own_gt HO.out
      have K2 := HKM.out.by g2 (fun e => by have := hne b e.symm; omega)
      have HOW2 := Lib.hid (show ∀ i (hi' : i < ds.length), k + 1 ≤ i → ∀ u, A0[i * 3 + 2]? = some u → w2.ownsRow (b + 1) 3 1 u ds[i].xs.length (cellsI ds[i].xs) from fun i hi' hki u hu => own_gby2 (HOWM.out i hi' (by omega) u hu) g2 (fun j hj hrj => HD.out k i (by omega) hi' _ u HQ1.out hu j hrj hj))
      have G2 := GM.out.trans (Grow.ofBy g2 (fun j hj => ⟨by have := hne j hj; omega, HQ4.out j hj⟩))
      have K3 := Lib.hid K2
      have HS2 := Lib.hid (show ((A.setIfInBounds (k * 3) (.string s)).setIfInBounds (k * 3 + 1) (.int .i64 (m + 1))).size = ds.length * 3 by rw [Array.size_setIfInBounds, Array.size_setIfInBounds]; exact hs.out)
      have HSM2 := Lib.hid (show ∀ i, i < ds.length → ((A.setIfInBounds (k * 3) (.string s)).setIfInBounds (k * 3 + 1) (.int .i64 (m + 1)))[i * 3 + 2]? = A0[i * 3 + 2]? from fun i hi' => by rw [Array.getElem?_setIfInBounds, if_neg (by omega), Array.getElem?_setIfInBounds, if_neg (by omega)]; exact hsame.out i hi')
      clear x1 f1 K1 K2 HO g2 hne HOWM GM HKM hw2
      go_wp2_with fail
      go_roundw
      case rel => exact ⟨k + 1, _, by omega, by go_num, by have q := HM.out; have q2 := hstep.out; congr 1; omega, HS2.out, HSM2.out, K3.out, HOW2.out, G2⟩
      case measure => simp [intOf]; omega
    · have hke : k = ds.length := by omega
      subst hke
      go_wp2_with fail
      go_ret
      exact ⟨rfl, hG⟩
end Go.Proofs.Ytlcjkehpdlgdoaa
