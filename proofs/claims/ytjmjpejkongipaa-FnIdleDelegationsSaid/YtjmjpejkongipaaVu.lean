/-
  Delegated acts: the reference's way. No condition.
-/
import Derived.Test.YtjmjpejkongipaaVt
set_option linter.unusedSimpArgs false
set_option linter.unusedVariables false
namespace Go.Proofs.Ytjmjpejkongipaa
open Go.RowKit
theorem delR_len (ns : List Int) (ds : List Deleg) : (delR ns ds).length ≤ 16 := by
  cases h : ownsOk ns && dValid ds
  · simp [delR, h]
  · have h2 : ownsOk ns = true := by rw [Bool.and_eq_true] at h; exact h.1
    rw [delR, if_pos h, toI_len, itN_len, (nats_ok ns h2).2.1]
    omega
theorem mod_step (x j : Nat) : x % 2 ^ (j + 1) = x % 2 ^ j + (if x.testBit j then 1 <<< j else 0) := by
  have h1 : x % 2 ^ (j + 1) = 2 ^ j * (x / 2 ^ j % 2) + x % 2 ^ j := by
    rw [Nat.pow_succ, Nat.mod_mul, Nat.add_comm]
  have h2 : x.testBit j = (x / 2 ^ j % 2 == 1) := by
    rw [Nat.testBit_eq_decide_div_mod_eq, Bool.eq_iff_iff]
    simp
  rw [h1, h2, Nat.one_shiftLeft]
  rcases Nat.mod_two_eq_zero_or_one (x / 2 ^ j) with h | h
  · rw [h]; simp
  · rw [h]; simp [Nat.add_comm]
theorem toI_take (R : List Nat) (k : Nat) (h : k < R.length) : toI (R.take (k + 1)) = toI (R.take k) ++ [((R.getD k 0 : Nat) : Int)] := by
  rw [List.take_succ_eq_append_getElem h, List.getD_eq_getElem?_getD, List.getElem?_eq_getElem h]
  unfold toI
  rw [List.map_append]
  rfl
set_option maxRecDepth 100000 in
set_option maxHeartbeats 6400000 in
theorem specDA_any (ns : List Int) (ds : List Deleg) (v u : Value) (w : World) (h : SlI w v ns) (hd : SlD w u ds) : Calls Try.prog 16 #[v, u] w (NewN (delR ns ds) w) := by
  obtain ⟨a, cap, rfl, h1, h2⟩ := SlF.shape h
  obtain ⟨a2, cap2, rfl, h3, h4⟩ := SlD.shape hd
  have hA0 := Below.al (Below.refl w.heap.size w) (.cells #[] 3)
  have H := Lib.hid (SlI.below h hA0)
  have HD := Lib.hid (SlD.below hd hA0)
  have H0 := Lib.hid h
  have HD0 := Lib.hid hd
  have O0 := Lib.hid (own_made w w.heap.size 3 1 (Nat.le_refl _))
  clear h hd
  have hmk0 : ∀ w : World, (Instr.buildSlice 35 0 #[]).run Try.prog w = .ok (.slice (some ⟨w.heap.size, 0, none⟩) 0 0) (w.alloc (.cells #[] 3)) := fun w => by kernel_rfl
  have CO := fun wx h => l28Valid_any ns (.slice a ns.length cap) wx h
  have CD := fun wx h => specDValid_any ds (.slice a2 ds.length cap2) wx h
  cases ho : ownsOk ns
  · have e : delR ns ds = [] := by simp [delR, ho]
    rw [e]
    rw [ho] at CO
    clear e ho
    go_enter Try.func16, Try.ntmps16
    go_wp2_with fail
    refine (CO _ H.out).mono ?_
    rintro e w1 ⟨rfl, b1⟩
    have hB1 := Below.via b1 hA0
    go_wp2_with fail
    go_ret
    exact ⟨_, rfl, own_below O0.out b1, hB1⟩
  · rw [ho] at CO
    cases hv : dValid ds
    · have e : delR ns ds = [] := by simp [delR, hv]
      rw [e]
      rw [hv] at CD
      clear e ho hv
      go_enter Try.func16, Try.ntmps16
      go_wp2_with fail
      refine (CO _ H.out).mono ?_
      rintro e w1 ⟨rfl, b1⟩
      go_wp2_with fail
      refine (CD _ (SlD.below HD.out b1)).mono ?_
      rintro e w2 ⟨rfl, b2⟩
      have hB2 := Below.via b2 (Below.via b1 hA0)
      go_wp2_with fail
      go_ret
      exact ⟨_, rfl, own_below (own_below O0.out b1) b2, hB2⟩
    · have e : delR ns ds = toI (itN ds 7 (natsOf ns)) := by simp [delR, ho, hv]
      rw [e]
      obtain ⟨n1, n2, n3⟩ := nats_ok ns ho
      have CR := Lib.hid (fun j (hj : j ≤ 3) wx h hd => reach_any (natsOf ns) ds j (.slice a ns.length cap) (.slice a2 ds.length cap2) wx (n1.symm ▸ h) hd n2 n3 hv hj)
      have HBI := Lib.hid (fun j => bits_it j ds (natsOf ns) 7)
      have HR7 := Lib.hid ((itN_len ds (natsOf ns) 7).trans n2)
      have HR16 := Lib.hid (get16 _ (bound_it ds (natsOf ns) n3 7))
      have HBL := Lib.hid (fun j => (itB_len j ds (bitsN j (natsOf ns)) 7).trans (show (bitsN j (natsOf ns)).length = 7 by simp [bitsN, n2]))
      generalize itN ds 7 (natsOf ns) = R at HBI HR7 HR16
      rw [hv] at CD
      clear e ho hv n1 n2 n3
      go_enter Try.func16, Try.ntmps16
      go_wp2_with fail
      refine (CO _ H.out).mono ?_
      rintro e w1 ⟨rfl, b1⟩
      go_wp2_with fail
      refine (CD _ (SlD.below HD.out b1)).mono ?_
      rintro e w2 ⟨rfl, b2⟩
      have hB2 := Below.via b2 (Below.via b1 hA0)
      have O2 := Lib.hid (own_below (own_below O0.out b1) b2)
      have H2 := Lib.hid (SlI.below (SlI.below H.out b1) b2)
      have HD2 := Lib.hid (SlD.below (SlD.below HD.out b1) b2)
      have hz2 := hB2.size
      clear CO CD H HD O0 b1 b2 hA0
      go_wp2_with fail
      go_loopw [5, 6] (fun v i wr => ∃ k : Nat, k ≤ 7 ∧ i = .int .i64 k ∧ Hid (wr.ownsRow w.heap.size 3 1 v k (cellsI (toI (R.take k)))) ∧ Hid (SlI wr (.slice a ns.length cap) ns) ∧ Hid (SlD wr (.slice a2 ds.length cap2) ds) ∧ Hid (v ≠ .slice none 0 0) ∧ Below w.heap.size w wr) (fun _ i _ => 7 - (intOf i).toNat)
      case atStart => exact ⟨0, by omega, rfl, O2.out, H2.out, HD2.out, by simp [Hid], hB2⟩
      case round =>
        clear O2 H2 HD2 hB2 hz2
        obtain ⟨k, hk, rfl, hO, hI, hD, hvn, hB⟩ := hrel
        obtain ⟨vo, rfl⟩ : ∃ vo : Value, vo = u5 := ⟨_, rfl⟩
        by_cases hlt : k < 7
        · have hlt2 : (k : Int) < 7 := by omega
          have hst := Lib.hid (toI_take R k (by rw [HR7.out]; exact hlt))
          have hx16 := HR16.out k
          have hbit := Lib.hid (fun j => (bitsN_getD j R k))
          go_wp2_with fail
          go_loopw [7, 8] (fun s i wx => ∃ j : Nat, j ≤ 4 ∧ i = .int .i64 j ∧ s = .int .i64 ((R.getD k 0 % 2 ^ j : Nat) : Int) ∧ Hid (wx.ownsRow w.heap.size 3 1 vo k (cellsI (toI (R.take k)))) ∧ Hid (SlI wx (.slice a ns.length cap) ns) ∧ Hid (SlD wx (.slice a2 ds.length cap2) ds) ∧ Below w.heap.size w wx) (fun _ i _ => 4 - (intOf i).toNat)
          case atStart => exact ⟨0, by omega, rfl, by simp [Nat.mod_one], hO.out, hI.out, hD.out, hB⟩
          case round =>
            clear hO hI hD hB
            obtain ⟨j, hj, rfl, rfl, hO, hI, hD, hB⟩ := hrel
            by_cases hjl : j < 4
            · have hjl2 : (j : Int) ≤ 3 := by omega
              have hms := Lib.hid (mod_step (R.getD k 0) j)
              have CRj := Lib.hid (CR.out j (by omega) _ hI.out hD.out)
              have hb2 := Lib.hid ((HBI.out j).symm ▸ hbit.out j)
              have hbl := Lib.hid (HBL.out j)
              have hmb : R.getD k 0 % 2 ^ j ≤ R.getD k 0 := Nat.mod_le _ _
              generalize itB j ds 7 (bitsN j (natsOf ns)) = B at CRj hb2 hbl
              generalize R.getD k 0 % 2 ^ j = s at hms hmb
              go_wp2_with fail
              refine CRj.out.mono ?_
              rintro e w5 ⟨g3, rfl, hg3, K3, b5⟩
              have hO5 := Lib.hid (own_below hO.out b5)
              have hI5 := Lib.hid (SlI.below hI.out b5)
              have hD5 := Lib.hid (SlD.below hD.out b5)
              have hB5 := Below.via b5 hB
              have c3 := (K3.cell k).trans (bl_get B k (by rw [hbl.out]; exact hlt))
              rw [hb2.out] at c3
              clear hO hI hD hB K3 CRj b5
              cases hy : (R.getD k 0).testBit j
              · have hf := Lib.hid (hms.out.trans (by rw [hy]; rfl) : R.getD k 0 % 2 ^ (j + 1) = s + 0)
                rw [hy] at c3
                clear hms hy
                go_wp2_with fail
                go_roundw
                case rel => first | exact ⟨j + 1, by omega, by go_num, by rw [hf.out]; rfl, hO5, hI5, hD5, hB5⟩ | ((repeat apply Exists.intro); exact ⟨⟨j + 1, by omega, by go_num, by rw [hf.out]; rfl, hO5, hI5, hD5, hB5⟩, rfl⟩)
                case measure => simp [intOf]; omega
              · have hf := Lib.hid (hms.out.trans (by rw [hy]; rfl) : R.getD k 0 % 2 ^ (j + 1) = s + 1 <<< j)
                rw [hy] at c3
                have hw := wrap64_pow j (by omega)
                have hp : 1 <<< j ≤ 8 := by
                  rcases (show j = 0 ∨ j = 1 ∨ j = 2 ∨ j = 3 by omega) with rfl | rfl | rfl | rfl <;> decide
                generalize 1 <<< j = p at hf hw hp
                clear hms hy
                go_wp2_with fail
                go_roundw
                case rel => first | exact ⟨j + 1, by omega, by go_num, by rw [hf.out]; go_num, hO5, hI5, hD5, hB5⟩ | ((repeat apply Exists.intro); exact ⟨⟨j + 1, by omega, by go_num, by rw [hf.out]; go_num, hO5, hI5, hD5, hB5⟩, rfl⟩)
                case measure => simp [intOf]; omega
            · obtain rfl : j = 4 := by omega
              have hx : R.getD k 0 % 2 ^ 4 = R.getD k 0 := Nat.mod_eq_of_lt hx16
              rw [hx]
              clear hx hbit
              generalize R.getD k 0 = x at hst hx16
              have hzz := hB.size
              go_wp2_with (at_builtin; refine Hid.out ?_); refine Lib.hid ?_
              refine wpList_appS (s := .tmp 38) (x := .tmp 40) rfl 35 3 (.int .i64 0) 1 8 rfl Try.underlying35 infoI rfl (by decide) (by decide) w.heap.size vo k (cellsI (toI (R.take k))) (by rfl) (own_alloc hO.out _) (.slice (some ⟨wr.heap.size, 0, none⟩) 1 1) 1 [.int .i64 x] (by rfl) (slF_bk (k := 1) (n := 1) (cs := [.int .i64 x]) (bk_atb rfl) rfl (by omega)) (one_int _) (by omega) (by simp only [World.size_alloc]; omega) ?_
              intro v5 w5 o5 g5 _ nn5
              have b5 : Below w.heap.size w w5 := Below.grown (Below.al hB _) g5 (by simp only [World.size_alloc]; omega) (own_gt hO.out)
              have N5 := Lib.hid (nn5 hvn.out)
              have O5 := Lib.hid (show w5.ownsRow w.heap.size 3 1 v5 (k + 1) (cellsI (toI (R.take (k + 1)))) by rw [hst.out, cellsI_app]; exact o5)
              have hI5 := Lib.hid (SlI.below H0.out b5)
              have hD5 := Lib.hid (SlD.below HD0.out b5)
              clear o5 g5 nn5 hO hI hD hB
              go_wp2_with fail
              go_roundw
              case rel => first | exact ⟨k + 1, by omega, by go_num, O5, hI5, hD5, N5, b5⟩ | ((repeat apply Exists.intro); exact ⟨⟨k + 1, by omega, by go_num, O5, hI5, hD5, N5, b5⟩, rfl⟩)
              case measure => simp [intOf]; omega
        · obtain rfl : k = 7 := by omega
          have hRt : R.take 7 = R := List.take_of_length_le (by have := HR7.out; omega)
          rw [hRt] at hO
          have HLE := Lib.hid (show (toI R).length = 7 by rw [toI_len, HR7.out])
          clear hRt
          go_wp2_with fail
          go_ret
          exact ⟨vo, rfl, by rw [HLE.out]; exact hO.out, hB⟩
end Go.Proofs.Ytjmjpejkongipaa
