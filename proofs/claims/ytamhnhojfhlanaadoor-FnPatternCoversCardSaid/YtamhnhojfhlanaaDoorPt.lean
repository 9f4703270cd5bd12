/-
  Patterns that cover others: the reference's PatternCovers. No condition.
-/
import Derived.Test.YtamhnhojfhlanaaDoorPr
set_option linter.unusedSimpArgs false
set_option linter.unusedVariables false
namespace Go.Proofs.YtamhnhojfhlanaaDoor
open Go.RowKit
theorem covL_drop (n k : Nat) (xs ys : List ByteArray) (h1 : k < xs.length) (h2 : k < ys.length) : covL n k (xs.drop k) (ys.drop k) = if isS2 xs[k] then true else if isS2 ys[k] then decide (k + 1 = 5) && decide (n = 5) && isS xs[k] else (isS xs[k] || decide (xs[k] = ys[k])) && covL n (k + 1) (xs.drop (k + 1)) (ys.drop (k + 1)) := by
  rw [List.drop_eq_getElem_cons h1, List.drop_eq_getElem_cons h2, covL]
theorem covL_past (n k : Nat) (xs ys : List ByteArray) (h1 : k < xs.length) (h2 : ys.length ≤ k) : covL n k (xs.drop k) (ys.drop k) = false := by
  rw [List.drop_of_length_le h2, List.drop_eq_getElem_cons h1, covL]
theorem covL_end (n k : Nat) (xs ys : List ByteArray) (h1 : xs.length ≤ k) (h2 : k ≤ ys.length) (h3 : k ≤ xs.length) : covL n k (xs.drop k) (ys.drop k) = decide (xs.length = ys.length) := by
  rw [List.drop_of_length_le h1, covL, Bool.eq_iff_iff, List.isEmpty_iff, List.drop_eq_nil_iff, decide_eq_true_eq]
  omega
set_option maxRecDepth 100000 in
set_option maxHeartbeats 3200000 in
theorem specPatternCovers_any (s t : ByteArray) (w : World) (hs : s.size ≤ 2097152) (ht : t.size ≤ 2097152) (qs bs : List ByteArray) (hx : Words s.data.toList qs) (hy : Words t.data.toList bs) :
    Calls Tryd.prog 22 #[.string s, .string t] w fun e w' => e = .returned (.bool (patCov qs bs)) ∧ Below w.heap.size w w' := by
  have CP := Lib.hid (fun wx => specPatternValid_any s wx hs qs hx)
  have CB := Lib.hid (fun wx => specPatternValid_any t wx ht bs hy)
  have HX := Lib.hid hx
  have HY := Lib.hid hy
  clear hx hy
  cases hp : patOk qs
  · rw [hp] at CP
    have HF := Lib.hid (show patCov qs bs = false by unfold patCov; rw [hp]; rfl)
    clear hp
    go_enter Tryd.func22, Tryd.ntmps22
    go_wp2_with fail
    refine (CP.out _).mono ?_
    rintro e w1 ⟨rfl, b1⟩
    go_wp2_with fail
    go_ret
    exact ⟨by rw [HF.out]; rfl, b1⟩
  · rw [hp] at CP
    cases hb : patOk bs
    · rw [hb] at CB
      have HF := Lib.hid (show patCov qs bs = false by unfold patCov; rw [hb, Bool.and_false]; rfl)
      clear hp hb
      go_enter Tryd.func22, Tryd.ntmps22
      go_wp2_with fail
      refine (CP.out _).mono ?_
      rintro e w1 ⟨rfl, b1⟩
      go_wp2_with fail
      refine (CB.out _).mono ?_
      rintro e w2 ⟨rfl, b2⟩
      have hB2 := Below.via b2 b1
      go_wp2_with fail
      go_ret
      exact ⟨by rw [HF.out]; rfl, hB2⟩
    · rw [hb] at CB
      have HF := Lib.hid (patCov_L hp hb)
      have hl1 := patOk_len hp
      have hl2 := patOk_len hb
      clear hp hb
      go_enter Tryd.func22, Tryd.ntmps22
      go_wp2_with fail
      refine (CP.out _).mono ?_
      rintro e w1 ⟨rfl, b1⟩
      go_wp2_with fail
      refine (CB.out _).mono ?_
      rintro e w2 ⟨rfl, b2⟩
      have hB2 := Below.via b2 b1
      go_wp2_with fail
      refine (l30Words_any s _ hs).mono ?_
      rintro e w3 ⟨v, xs, rfl, hw, hv, ho, b3⟩
      have hB3 := Below.via b3 hB2
      obtain rfl := words_one hw HX.out
      obtain ⟨g, hg, hR⟩ := own_rowB ho hv
      obtain ⟨c1, rfl, r1, r2, r3, -⟩ := id hR
      have HR3 := Lib.hid hR
      clear ho hv hw hR
      go_wp2_with fail
      refine (l30Words_any t _ ht).mono ?_
      rintro e w4 ⟨v, ys, rfl, hw, hv, ho, b4⟩
      have hB4 := Lib.hid (Below.via b4 hB3)
      obtain rfl := words_one hw HY.out
      obtain ⟨h, hh, hR⟩ := own_rowB ho hv
      obtain ⟨c2, rfl, t1, t2, t3, t4⟩ := hR
      obtain ⟨_, _, _, _, _, r4⟩ := HR3.out.below b4
      have A4 := Lib.hid r4
      have B4 := Lib.hid t4
      clear ho hv hw r4 t4 HR3
      unfold maxLen at r2 t2
      go_wp2_with fail
      go_loopw [7] (fun i wr => ∃ k : Nat, k ≤ xs.length ∧ k ≤ ys.length ∧ i = .int .i64 k ∧ Hid (covL xs.length 0 xs ys = covL xs.length k (xs.drop k) (ys.drop k)) ∧ Hid (Below w4.heap.size w4 wr)) (fun i _ => xs.length - (intOf i).toNat)
      case atStart => exact ⟨0, Nat.zero_le _, Nat.zero_le _, rfl, rfl, Below.refl _ _⟩
      case round =>
        obtain ⟨k, hk1, hk2, rfl, hW, hB⟩ := hrel
        clear b1 b2 b3 b4 hB2 hB3
        by_cases hlx : k < xs.length
        · have hlx2 : (k : Int) < (xs.length : Int) := by omega
          by_cases hlt : k < ys.length
          · have hlt2 : (k : Int) < (ys.length : Int) := by omega
            have hlt3 : ¬ (ys.length : Int) ≤ (k : Int) := by omega
            have c0 := (hB.out.cell (World.block_lt_of_cell? _ _ (A4.out k hlx))).trans (A4.out k hlx)
            have d0 := (hB.out.cell (World.block_lt_of_cell? _ _ (B4.out k hlt))).trans (B4.out k hlt)
            have HD := Lib.hid (covL_drop xs.length k xs ys hlx hlt)
            generalize xs[k] = x at c0 HD
            generalize ys[k] = y at d0 HD
            have s1 := star_eq x
            have s2 := star2_eq x
            have t2 := star2_eq y
            cases e2 : isS2 x
            · rw [e2] at s2
              have s2p : ¬ x.toList = [42, 42] := fun h => by rw [h] at s2; simp at s2
              cases f2 : isS2 y
              · rw [f2] at t2
                have t2p : ¬ y.toList = [42, 42] := fun h => by rw [h] at t2; simp at t2
                cases e1 : isS x
                · rw [e1] at s1
                  have s1n : (!(x.toList == [42])) = true := by rw [s1]; rfl
                  have s1p : ¬ x.toList = [42] := fun h => by rw [h] at s1; simp at s1
                  by_cases hxy : x = y
                  · subst hxy
                    have hss : (x.toList == x.toList) = true := by simp
                    have HG := Lib.hid (show covL xs.length 0 xs ys = covL xs.length (k + 1) (xs.drop (k + 1)) (ys.drop (k + 1)) by rw [hW.out, HD.out, e2]; simp)
                    clear e1 e2 f2 HD hW
                    go_wp2_with fail
                    go_quiet (fail)
                    have HB := Lib.hid (Below.dn hB.out nq)
                    go_wp2_with fail
                    go_roundw
                    case rel => exact ⟨k + 1, by omega, by omega, by go_num, HG, HB⟩
                    case measure => simp [intOf]; omega
                  · obtain ⟨hne, hnp⟩ := ba_ne hxy
                    have hnn : (!(x.toList == y.toList)) = true := by rw [hne]; rfl
                    have HG := Lib.hid (show covL xs.length 0 xs ys = false by rw [hW.out, HD.out, e2, f2, e1]; simp [hxy])
                    clear e1 e2 f2 HD hW hxy
                    go_wp2_with fail
                    go_quiet (fail)
                    have HB := Lib.hid (Below.dn hB.out nq)
                    go_wp2_with fail
                    go_ret
                    exact ⟨by rw [HF.out, HG.out]; rfl, Below.via HB.out hB4.out⟩
                · rw [e1] at s1
                  have s1n : (!(x.toList == [42])) = false := by rw [s1]; rfl
                  have s1p : x.toList = [42] := eq_of_beq s1
                  have HG := Lib.hid (show covL xs.length 0 xs ys = covL xs.length (k + 1) (xs.drop (k + 1)) (ys.drop (k + 1)) by rw [hW.out, HD.out, e2, f2, e1]; simp)
                  clear e1 e2 f2 HD hW s2 s2p
                  have s2 : (x.toList == [42, 42]) = false := by rw [s1p]; rfl
                  go_wp2_with fail
                  go_quiet (fail)
                  have HB := Lib.hid (Below.dn hB.out nq)
                  go_wp2_with fail
                  go_roundw
                  case rel => exact ⟨k + 1, by omega, by omega, by go_num, HG, HB⟩
                  case measure => simp [intOf]; omega
              · rw [f2] at t2
                have t2p : y.toList = [42, 42] := eq_of_beq t2
                have HG := Lib.hid (show covL xs.length 0 xs ys = (decide (k + 1 = 5) && decide (xs.length = 5) && isS x) by rw [hW.out, HD.out, e2, f2]; simp)
                by_cases h5 : k + 1 = 5
                · obtain rfl : k = 4 := by omega
                  by_cases hn5 : xs.length = 5
                  · cases e1 : isS x
                    · rw [e1] at s1
                      have s1p : ¬ x.toList = [42] := fun h => by rw [h] at s1; simp at s1
                      have HH := Lib.hid (show covL xs.length 0 xs ys = false by rw [HG.out, e1]; simp)
                      have hn6 : ((xs.length : Int) == 5) = true := by rw [beq_iff_eq]; omega
                      have hn7 : (xs.length : Int) = 5 := by omega
                      clear e1 e2 f2 HD hW hn5 h5 HG
                      go_wp2_with fail
                      go_ret
                      exact ⟨by rw [HF.out, HH.out]; first | rfl | simp, Below.via hB.out hB4.out⟩
                    · rw [e1] at s1
                      have s1p : x.toList = [42] := eq_of_beq s1
                      have HH := Lib.hid (show covL xs.length 0 xs ys = true by rw [HG.out, e1]; simp [hn5])
                      have hn6 : ((xs.length : Int) == 5) = true := by rw [beq_iff_eq]; omega
                      have hn7 : (xs.length : Int) = 5 := by omega
                      clear e1 e2 f2 HD hW hn5 h5 HG s2 s2p
                      have s2 : (x.toList == [42, 42]) = false := by rw [s1p]; rfl
                      go_wp2_with fail
                      go_ret
                      exact ⟨by rw [HF.out, HH.out]; first | rfl | simp, Below.via hB.out hB4.out⟩
                  · exact absurd (by omega) hn5
                · have HH := Lib.hid (show covL xs.length 0 xs ys = false by rw [HG.out, decide_eq_false h5]; rfl)
                  have hn6 : ((k : Int) + 1 == 5) = false := by rw [beq_eq_false_iff_ne]; omega
                  have hn7 : ¬ (k : Int) + 1 = 5 := by omega
                  clear e2 f2 HD hW h5 HG
                  go_wp2_with fail
                  go_ret
                  exact ⟨by rw [HF.out, HH.out]; first | rfl | simp, Below.via hB.out hB4.out⟩
            · rw [e2] at s2
              have s2p : x.toList = [42, 42] := eq_of_beq s2
              have HG := Lib.hid (show covL xs.length 0 xs ys = true by rw [hW.out, HD.out, e2]; simp)
              clear e2 HD hW s1 t2
              go_wp2_with fail
              go_ret
              exact ⟨by rw [HF.out, HG.out]; rfl, Below.via hB.out hB4.out⟩
          · have hlt2 : ¬ (k : Int) < (ys.length : Int) := by omega
            have hlt3 : (ys.length : Int) ≤ (k : Int) := by omega
            have HG := Lib.hid (show covL xs.length 0 xs ys = false by rw [hW.out]; exact covL_past _ k xs ys hlx (by omega))
            clear hW
            go_wp2_with fail
            go_ret
            exact ⟨by rw [HF.out, HG.out]; rfl, Below.via hB.out hB4.out⟩
        · have hlx2 : ¬ (k : Int) < (xs.length : Int) := by omega
          have HG := Lib.hid (show covL xs.length 0 xs ys = decide (xs.length = ys.length) by rw [hW.out]; exact covL_end _ k xs ys (by omega) hk2 hk1)
          clear hW
          by_cases he : xs.length = ys.length
          · have he2 : ((xs.length : Int) == (ys.length : Int)) = true := by rw [beq_iff_eq]; omega
            have HH := Lib.hid (decide_eq_true he)
            clear he
            go_wp2_with fail
            go_ret
            exact ⟨by rw [HF.out, HG.out, HH.out]; first | rfl | simp, Below.via hB.out hB4.out⟩
          · have he2 : ((xs.length : Int) == (ys.length : Int)) = false := by rw [beq_eq_false_iff_ne]; omega
            have HH := Lib.hid (decide_eq_false he)
            clear he
            go_wp2_with fail
            go_ret
            exact ⟨by rw [HF.out, HG.out, HH.out]; first | rfl | simp, Below.via hB.out hB4.out⟩
end Go.Proofs.YtamhnhojfhlanaaDoor
