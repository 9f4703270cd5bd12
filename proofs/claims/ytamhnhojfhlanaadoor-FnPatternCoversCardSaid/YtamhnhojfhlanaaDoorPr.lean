/-
  Paths at patterns: the reference's PathFits. No condition.
-/
import Derived.Test.YtamhnhojfhlanaaDoorPc
import Derived.Test.YtamhnhojfhlanaaDoorPk
import Derived.BigQuiet
set_option linter.unusedSimpArgs false
set_option linter.unusedVariables false
namespace Go.Proofs.YtamhnhojfhlanaaDoor
open Go.RowKit
theorem fitL_drop (ps bs : List ByteArray) (k : Nat) (h1 : k < ps.length) (h2 : k < bs.length) : fitL (ps.drop k) (bs.drop k) = if isS2 bs[k] then true else (isS bs[k] || decide (bs[k] = ps[k])) && fitL (ps.drop (k + 1)) (bs.drop (k + 1)) := by
  rw [List.drop_eq_getElem_cons h1, List.drop_eq_getElem_cons h2, fitL]
theorem fitL_past (ps bs : List ByteArray) (k : Nat) (h1 : ps.length ≤ k) (h2 : k < bs.length) : fitL (ps.drop k) (bs.drop k) = false := by
  rw [List.drop_of_length_le h1, List.drop_eq_getElem_cons h2, fitL]
theorem fitL_end (ps bs : List ByteArray) (k : Nat) (h1 : bs.length ≤ k) (h2 : k ≤ bs.length) (h3 : k ≤ ps.length) : fitL (ps.drop k) (bs.drop k) = decide (ps.length = bs.length) := by
  rw [List.drop_of_length_le h1, fitL, Bool.eq_iff_iff, List.isEmpty_iff, List.drop_eq_nil_iff, decide_eq_true_eq]
  omega
set_option maxRecDepth 100000 in
set_option maxHeartbeats 3200000 in
theorem specPathFits_any (s t : ByteArray) (w : World) (hs : s.size ≤ 2097152) (ht : t.size ≤ 2097152) (ps bs : List ByteArray) (hx : Words s.data.toList ps) (hy : Words t.data.toList bs) :
    Calls Tryd.prog 18 #[.string s, .string t] w fun e w' => e = .returned (.bool (fits ps bs)) ∧ Below w.heap.size w w' := by
  have CP := Lib.hid (fun wx => specPathValid_any s wx hs ps hx)
  have CB := Lib.hid (fun wx => specPatternValid_any t wx ht bs hy)
  have HX := Lib.hid hx
  have HY := Lib.hid hy
  clear hx hy
  cases hp : pathOk ps
  · rw [hp] at CP
    have HF := Lib.hid (show fits ps bs = false by unfold fits; rw [hp]; rfl)
    clear hp
    go_enter Tryd.func18, Tryd.ntmps18
    go_wp2_with fail
    refine (CP.out _).mono ?_
    rintro e w1 ⟨rfl, b1⟩
    go_wp2_with fail
    go_ret
    exact ⟨by rw [HF.out]; rfl, b1⟩
  · rw [hp] at CP
    cases hb : patOk bs
    · rw [hb] at CB
      have HF := Lib.hid (show fits ps bs = false by unfold fits; rw [hb, Bool.and_false]; rfl)
      clear hp hb
      go_enter Tryd.func18, Tryd.ntmps18
      go_wp2_with fail
      refine (CP.out _).mono ?_
      rintro e w1 ⟨rfl, b1⟩
      go_wp2_with fail
      refine (CB.out _).mono ?_
      rintro e w2 ⟨rfl, b2⟩
      have hB2 := Below.via b2 b1
      go_wp2_with fail
      go_ret
      exact ⟨by rw [HF.out]; rfl, hB2⟩
    · rw [hb] at CB
      have HF := Lib.hid (fits_L hp hb)
      have hl1 : ps.length ≤ 5 := by
        unfold pathOk at hp
        simp at hp
        exact hp.2
      have hl2 := patOk_len hb
      clear hp hb
      go_enter Tryd.func18, Tryd.ntmps18
      go_wp2_with fail
      refine (CP.out _).mono ?_
      rintro e w1 ⟨rfl, b1⟩
      go_wp2_with fail
      refine (CB.out _).mono ?_
      rintro e w2 ⟨rfl, b2⟩
      have hB2 := Below.via b2 b1
      go_wp2_with fail
      refine (l30Words_any s _ hs).mono ?_
      rintro e w3 ⟨v, xs, rfl, hw, hv, ho, b3⟩
      have hB3 := Below.via b3 hB2
      obtain rfl := words_one hw HX.out
      obtain ⟨g, hg, hR⟩ := own_rowB ho hv
      obtain ⟨c1, rfl, r1, r2, r3, -⟩ := id hR
      have HR3 := Lib.hid hR
      clear ho hv hw hR
      go_wp2_with fail
      refine (l30Words_any t _ ht).mono ?_
      rintro e w4 ⟨v, ys, rfl, hw, hv, ho, b4⟩
      have hB4 := Lib.hid (Below.via b4 hB3)
      obtain rfl := words_one hw HY.out
      obtain ⟨h, hh, hR⟩ := own_rowB ho hv
      obtain ⟨c2, rfl, t1, t2, t3, t4⟩ := hR
      obtain ⟨_, _, _, _, _, r4⟩ := HR3.out.below b4
      have A4 := Lib.hid r4
      have B4 := Lib.hid t4
      clear ho hv hw r4 t4 HR3
      unfold maxLen at r2 t2
      go_wp2_with fail
      go_loopw [7] (fun i wr => ∃ k : Nat, k ≤ xs.length ∧ k ≤ ys.length ∧ i = .int .i64 k ∧ Hid (fitL xs ys = fitL (xs.drop k) (ys.drop k)) ∧ Hid (Below w4.heap.size w4 wr)) (fun i _ => ys.length - (intOf i).toNat)
      case atStart => exact ⟨0, Nat.zero_le _, Nat.zero_le _, rfl, rfl, Below.refl _ _⟩
      case round =>
        obtain ⟨k, hk1, hk2, rfl, hW, hB⟩ := hrel
        clear b1 b2 b3 b4 hB2 hB3
        by_cases hlt : k < ys.length
        · have hlt2 : (k : Int) < (ys.length : Int) := by omega
          by_cases hlx : k < xs.length
          · have hlx2 : (k : Int) < (xs.length : Int) := by omega
            have hlx3 : ¬ (xs.length : Int) ≤ (k : Int) := by omega
            have c0 := (hB.out.cell (World.block_lt_of_cell? _ _ (A4.out k hlx))).trans (A4.out k hlx)
            have d0 := (hB.out.cell (World.block_lt_of_cell? _ _ (B4.out k hlt))).trans (B4.out k hlt)
            have HD := Lib.hid (fitL_drop xs ys k hlx hlt)
            generalize xs[k] = x at c0 HD
            generalize ys[k] = y at d0 HD
            have s1 := star_eq y
            have s2 := star2_eq y
            cases e2 : isS2 y
            · rw [e2] at s2
              have s2p : ¬ y.toList = [42, 42] := fun h => by rw [h] at s2; simp at s2
              cases e1 : isS y
              · rw [e1] at s1
                have s1n : (!(y.toList == [42])) = true := by rw [s1]; rfl
                have s1p : ¬ y.toList = [42] := fun h => by rw [h] at s1; simp at s1
                by_cases hxy : y = x
                · subst hxy
                  have hss : (y.toList == y.toList) = true := by simp
                  have HG := Lib.hid (show fitL xs ys = fitL (xs.drop (k + 1)) (ys.drop (k + 1)) by rw [hW.out, HD.out, e2]; simp)
                  clear e1 e2 HD hW
                  go_wp2_with fail
                  go_quiet (fail)
                  have HB := Lib.hid (Below.dn hB.out nq)
                  go_wp2_with fail
                  go_roundw
                  case rel => exact ⟨k + 1, by omega, by omega, by go_num, HG, HB⟩
                  case measure => simp [intOf]; omega
                · obtain ⟨hne, hnp⟩ := ba_ne hxy
                  have hnn : (!(y.toList == x.toList)) = true := by rw [hne]; rfl
                  have HG := Lib.hid (show fitL xs ys = false by rw [hW.out, HD.out, e2, e1]; simp [hxy])
                  clear e1 e2 HD hW hxy
                  go_wp2_with fail
                  go_quiet (fail)
                  have HB := Lib.hid (Below.dn hB.out nq)
                  go_wp2_with fail
                  go_ret
                  exact ⟨by rw [HF.out, HG.out]; rfl, Below.via HB.out hB4.out⟩
              · rw [e1] at s1
                have s1n : (!(y.toList == [42])) = false := by rw [s1]; rfl
                have s1p : y.toList = [42] := eq_of_beq s1
                have HG := Lib.hid (show fitL xs ys = fitL (xs.drop (k + 1)) (ys.drop (k + 1)) by rw [hW.out, HD.out, e2, e1]; simp)
                clear e1 e2 HD hW s2 s2p
                have s2 : (y.toList == [42, 42]) = false := by rw [s1p]; rfl
                go_wp2_with fail
                go_quiet (fail)
                have HB := Lib.hid (Below.dn hB.out nq)
                go_wp2_with fail
                go_roundw
                case rel => exact ⟨k + 1, by omega, by omega, by go_num, HG, HB⟩
                case measure => simp [intOf]; omega
            · rw [e2] at s2
              have s2p : y.toList = [42, 42] := eq_of_beq s2
              have HG := Lib.hid (show fitL xs ys = true by rw [hW.out, HD.out, e2]; simp)
              clear e2 HD hW s1
              go_wp2_with fail
              go_ret
              exact ⟨by rw [HF.out, HG.out]; rfl, Below.via hB.out hB4.out⟩
          · have hlx2 : ¬ (k : Int) < (xs.length : Int) := by omega
            have hlx3 : (xs.length : Int) ≤ (k : Int) := by omega
            have HG := Lib.hid (show fitL xs ys = false by rw [hW.out]; exact fitL_past xs ys k (by omega) hlt)
            clear hW
            go_wp2_with fail
            go_ret
            exact ⟨by rw [HF.out, HG.out]; rfl, Below.via hB.out hB4.out⟩
        · have hlt2 : ¬ (k : Int) < (ys.length : Int) := by omega
          have HG := Lib.hid (show fitL xs ys = decide (xs.length = ys.length) by rw [hW.out]; exact fitL_end xs ys k (by omega) hk2 hk1)
          clear hW
          by_cases he : xs.length = ys.length
          · have he2 : ((xs.length : Int) == (ys.length : Int)) = true := by rw [beq_iff_eq]; omega
            have he3 : (xs.length : Int) = (ys.length : Int) := by omega
            have HH := Lib.hid (decide_eq_true he)
            clear he he3
            go_wp2_with fail
            go_ret
            exact ⟨by rw [HF.out, HG.out, HH.out]; first | rfl | simp, Below.via hB.out hB4.out⟩
          · have he2 : ((xs.length : Int) == (ys.length : Int)) = false := by rw [beq_eq_false_iff_ne]; omega
            have HH := Lib.hid (decide_eq_false he)
            clear he
            go_wp2_with fail
            go_ret
            exact ⟨by rw [HF.out, HG.out, HH.out]; first | rfl | simp, Below.via hB.out hB4.out⟩
end Go.Proofs.YtamhnhojfhlanaaDoor
