/-
  Roles that a role has: the program's way. No condition.
-/
import Derived.Test.YtlcjkehpdlgdoaaRlp
import Derived.Test.YtlcjkehpdlgdoaaBi
import Derived.Deep.LoopGhost
set_option linter.unusedSimpArgs false
set_option linter.unusedVariables false
namespace Go.Proofs.Ytlcjkehpdlgdoaa
open Go.RowKit
theorem bits_zero (s k : Nat) (hs : s < 4611686018427387904) : (bits BinOp.and IntKind.i64 ((s : Int) / 2 ^ k) 1 == 0) = !s.testBit k := by
  have h1 : ((s : Int) / 2 ^ k) = ((s / 2 ^ k : Nat) : Int) := by simp
  have h2 : s / 2 ^ k < 4611686018427387904 := Nat.lt_of_le_of_lt (Nat.div_le_self _ _) hs
  rw [h1, show (1 : Int) = ((1 : Nat) : Int) from rfl, bits_and_nat _ _ (by omega) (by omega), Nat.and_one_is_mod, Nat.testBit_eq_decide_div_mod_eq]
  rw [Bool.eq_iff_iff]
  simp
  omega
theorem pow_lt8 (N : Nat) (h : N ≤ 8) : 2 ^ N ≤ 256 := Nat.pow_le_pow_right (n := 2) (by omega) h
set_option maxRecDepth 100000 in
set_option maxHeartbeats 12800000 in
theorem rolesWith_any (ds : List Rl) (n : Nat) (v : Value) (w : World) (h : SlRl w v ds) (hin : RlIn ds) (h8 : ds.length ≤ 8) (hn : n < ds.length) : Calls Try.prog 63 #[v, .int .i64 n] w fun e w' => e = .returned (.int .i64 (setR ds n : Nat)) ∧ Below w.heap.size w w' := by
  obtain ⟨a, cap, rfl, h1, h2⟩ := SlRl.shape h
  unfold maxLen at h2
  have H := Lib.hid h
  clear h
  have hN := pow_lt8 ds.length h8
  have hpw := wrap64_pow n (by omega)
  have hS0 := one_lt n ds.length hn
  have HLT := Lib.hid (fun p => itR_lt ds hin (1 <<< n) hS0 p)
  have HPT := Lib.hid (fun S (hS : S < 2 ^ ds.length) k => passTo_lt ds hin S hS k)
  have HDN := Lib.hid (fun p (hp : p ≤ ds.length) => itR_done ds (1 <<< n) p hp)
  have HMO := Lib.hid (fun p (hp : p ≤ ds.length) => itR_more ds hin (1 <<< n) hS0 p hp)
  have HIN := Lib.hid hin
  have hs0 : 1 <<< n < 256 := by omega
  clear hin hS0
  obtain ⟨S0, hS0⟩ : ∃ S0, S0 = 1 <<< n := ⟨_, rfl⟩
  have HR : Hid (setR ds n = itR ds S0 ds.length) := Lib.hid (by unfold setR; rw [hS0])
  rw [← hS0] at hpw HLT HDN HMO hs0
  clear hS0
  go_enter Try.func63, Try.ntmps63
  go_wp2_with fail
  have HPW := Lib.hid hpw
  clear hpw
  go_loopg [5] 9 (fun gk s wr => ∃ p : Nat, p ≤ ds.length ∧ s = .int .i64 (itR ds S0 p : Nat) ∧ gk = 9 - p ∧ Hid (Below w.heap.size w wr))
  case atStart => exact ⟨0, Nat.zero_le _, by rw [HPW.out]; rfl, rfl, Below.refl _ _⟩
  case round =>
    obtain ⟨p, hp, rfl, rfl, hBp⟩ := hrel
    have hOl := HLT.out p
    have hdn := Lib.hid (HDN.out p hp)
    have hmo := Lib.hid (HMO.out p hp)
    have hnx : Hid (itR ds S0 (p + 1) = passTo ds (itR ds S0 p) ds.length) := Lib.hid rfl
    generalize itR ds S0 p = O at hOl hdn hmo hnx
    have hPL := Lib.hid (HPT.out O hOl)
    have hOl2 : O < 256 := by omega
    clear HPT HLT HDN HMO hOl
    go_wp2_with fail
    go_loopw [6, 16] (fun nx i wx => ∃ k : Nat, k ≤ ds.length ∧ i = .int .i64 k ∧ nx = .int .i64 (passTo ds O k : Nat) ∧ Hid (Below w.heap.size w wx)) (fun _ i _ => ds.length - (intOf i).toNat)
    case atStart => exact ⟨0, Nat.zero_le _, rfl, rfl, hBp.out⟩
    case round =>
      clear hBp
      obtain ⟨k, hk, rfl, rfl, hB⟩ := hrel
      by_cases hlt : k < ds.length
      · have hlt2 : (k : Int) < (ds.length : Int) := by omega
        obtain ⟨g, off, cap', xa, xc, hv, _, _, c0, c1, c2, hx, hx1, hx2, hnm⟩ := (H.out.below hB.out).cells k hlt
        simp only [Value.slice.injEq] at hv
        obtain ⟨rfl, -, rfl⟩ := hv
        unfold maxLen at hx2
        have hro := rowOf_eq ds k hlt
        have hst : Hid (passTo ds O (k + 1) = if O.testBit k then addRow (rowOf ds k) (passTo ds O k) else passTo ds O k) := Lib.hid rfl
        have hii := HIN.out k
        rw [hro] at hst hii
        have HII := Lib.hid hii
        have HX := Lib.hid (SlI.below hx (Below.al (Below.refl wr.heap.size wr) (.cells #[.string ds[k].nm, .int .i64 ds[k].acts, .slice xa ds[k].xs.length xc] 56)))
        clear hx hro hii
        generalize ds[k] = d at c0 c1 c2 HX HII hst hx1 hnm
        have hbz := bits_zero O k (by omega)
        have hPl := hPL.out k
        have hBA := Lib.hid (Below.al hB.out (.cells #[.string d.nm, .int .i64 d.acts, .slice xa d.xs.length xc] 56))
        have KB := Bk.new (w := wr) (vs := #[.string d.nm, .int .i64 d.acts, .slice xa d.xs.length xc]) (t := 56)
        cases hb : O.testBit k
        · rw [hb] at hbz hst
          rw [if_neg (by simp)] at hst
          clear hb
          go_wp2_with fail
          go_roundw
          case rel => exact ⟨k + 1, by omega, by go_num, by rw [hst.out], hBA⟩
          case measure => simp [intOf]; omega
        · rw [hb] at hbz hst
          rw [if_pos rfl] at hst
          clear hb
          have hpl := hPL.out (k + 1)
          rw [hst.out] at hpl
          have HAL := Lib.hid (show ∀ j, addRow (d.xs.take j) (passTo ds O k) < 256 from fun j => by
            have := addRow_lt ds.length (d.xs.take j) (passTo ds O k) (fun x hx => HII.out x (List.mem_of_mem_take hx)) hPl
            omega)
          generalize passTo ds O k = P at hst HAL
          have mb := KB.cell
          clear hpl hPl
          go_wp2_with fail

          go_loop [6, 29] (fun nx i => ∃ j : Nat, j ≤ d.xs.length ∧ i = .int .i64 j ∧ nx = .int .i64 (addRow (d.xs.take j) P : Nat)) (fun _ i => d.xs.length - (intOf i).toNat)
          case atStart => exact ⟨0, Nat.zero_le _, rfl, rfl⟩
          case round =>
            obtain ⟨j, hj, rfl, rfl⟩ := hrel
            have hal := HAL.out j
            by_cases hjl : j < d.xs.length
            · have hjl2 : (j : Int) < (d.xs.length : Int) := by omega
              obtain ⟨gx, ox, cx, hvx, _, _, x0⟩ := SlI.cell HX.out j hjl
              simp only [Value.slice.injEq] at hvx
              obtain ⟨rfl, -, rfl⟩ := hvx
              have has := Lib.hid (addRow_step d.xs P j hjl)
              have hxi := HII.out (d.xs[j]'hjl) (List.getElem_mem hjl)
              generalize d.xs[j]'hjl = x at x0 has hxi
              obtain ⟨r, rfl⟩ : ∃ r : Nat, x = (r : Int) := ⟨x.toNat, by omega⟩
              rw [Int.toNat_natCast] at has
              have hr7 : r ≤ 7 := by omega
              have hw := wrap64_pow r (by omega)
              generalize addRow (d.xs.take j) P = T at has hal
              have hbor := bits_or_nat T (1 <<< r) (by omega) (by rcases (show r = 0 ∨ r = 1 ∨ r = 2 ∨ r = 3 ∨ r = 4 ∨ r = 5 ∨ r = 6 ∨ r = 7 by omega) with rfl | rfl | rfl | rfl | rfl | rfl | rfl | rfl <;> decide)
              rw [← hw] at hbor
              clear hw hxi
              go_wp2_with fail
              go_round
              case rel => exact ⟨j + 1, by omega, by go_num, by rw [has.out]⟩
              case measure => simp [intOf]; omega
            · obtain rfl : j = d.xs.length := by omega
              have hfull := Lib.hid (show addRow (d.xs.take d.xs.length) P = passTo ds O (k + 1) by rw [List.take_of_length_le (Nat.le_refl _)]; exact hst.out.symm)
              clear mb
              go_wp2_with fail
              go_roundw
              case rel => exact ⟨k + 1, by omega, by go_num, by rw [hfull.out], hBA⟩
              case measure => simp [intOf]; omega
      · obtain rfl : k = ds.length := by omega
        have hlt2 : ¬ ((ds.length : Nat) : Int) < (ds.length : Int) := by omega
        by_cases he : passTo ds O ds.length = O
        · have hfx := Lib.hid (HR.out.trans (hdn.out (hnx.out.trans he)).symm)
          rw [he]
          clear hdn hmo hnx he hPL
          go_wp2_with fail
          go_ret
          exact ⟨by rw [hfx.out]; rfl, hB.out⟩
        · have hm := hmo.out (fun q => he (hnx.out.symm.trans q))
          have hnx2 := Lib.hid hnx.out.symm
          have hne : (((passTo ds O ds.length : Nat) : Int) == (O : Int)) = false := by simp; omega
          clear hdn hmo hnx he hPL
          go_wp2_with fail
          go_roundg (8 - p)
          case measure => omega
          case rel => exact ⟨p + 1, by omega, by rw [hnx2.out], by omega, hB⟩
theorem isRole_any (ds : List Rl) (n : Int) (v : Value) (w : World) (h : SlRl w v ds) (hlen : ds.length ≤ 1048576) : Calls Try.prog 62 #[v, .int .i64 n] w fun e w' => e = .returned (.bool (rValid ds && inR n 0 (ds.length - 1))) ∧ Below w.heap.size w w' := by
  obtain ⟨a, cap, rfl, h1, h2⟩ := SlRl.shape h
  unfold maxLen at h2
  have H := Lib.hid h
  clear h
  have CV := fun wx h => implRValid_any ds (.slice a ds.length cap) wx h hlen
  cases hv : rValid ds
  · rw [hv] at CV
    clear hv
    go_enter Try.func62, Try.ntmps62
    go_wp2_with fail
    refine (CV _ H.out).mono ?_
    rintro e w1 ⟨rfl, b1⟩
    go_wp2_with fail
    go_ret
    exact ⟨rfl, b1⟩
  · rw [hv] at CV
    clear hv
    go_enter Try.func62, Try.ntmps62
    go_wp2_with fail
    refine (CV _ H.out).mono ?_
    rintro e w1 ⟨rfl, b1⟩
    go_wp2_with ((go_at_call 49; refine (in_any _ _ _ _).mono ?_; rintro e w' ⟨rfl, rfl⟩))
    go_ret
    exact ⟨by rw [Bool.true_and]; rfl, b1⟩
theorem implRolesWith_any (ds : List Rl) (n : Int) (v : Value) (w : World) (h : SlRl w v ds) (hlen : ds.length ≤ 1048576) : Calls Try.prog 37 #[v, .int .i64 n] w (NewI (withR ds n) w) := by
  obtain ⟨a, cap, rfl, h1, h2⟩ := SlRl.shape h
  unfold maxLen at h2
  have H := Lib.hid h
  clear h
  have CR := fun wx h => isRole_any ds n (.slice a ds.length cap) wx h hlen
  cases hv : rValid ds && inR n 0 (ds.length - 1)
  · have e : withR ds n = [] := by simp [withR, hv]
    rw [e]
    rw [hv] at CR
    clear e hv
    go_enter Try.func37, Try.ntmps37
    go_wp2_with fail
    refine (CR _ H.out).mono ?_
    rintro e w1 ⟨rfl, b1⟩
    go_wp2_with fail
    go_ret
    exact ⟨_, rfl, World.ownsRow_nil _ _ _ _, b1⟩
  · have e : withR ds n = bitsTo (setR ds n.toNat) ds.length := by simp [withR, hv]
    rw [hv] at CR
    rw [Bool.and_eq_true, inR_iff] at hv
    obtain ⟨hv, hn0, hn1⟩ := hv
    obtain ⟨h8, hin, _⟩ := rValid_in hv
    obtain ⟨m, rfl⟩ : ∃ m : Nat, n = (m : Int) := ⟨n.toNat, by omega⟩
    rw [Int.toNat_natCast] at e
    have hm : m < ds.length := by omega
    have hsl := setR_lt ds hin m hm
    have h256 := pow_lt8 ds.length h8
    have HE := Lib.hid (show bitsTo (setR ds m) 63 = withR ds m by rw [e, bits63 _ _ hsl h8])
    have CW := Lib.hid (fun wx h => rolesWith_any ds m (.slice a ds.length cap) wx h hin h8 hm)
    have hs2 : setR ds m < 256 := by omega
    clear e hin hv hsl
    generalize setR ds m = S at HE CW hs2
    go_enter Try.func37, Try.ntmps37
    go_wp2_with fail
    refine (CR _ H.out).mono ?_
    rintro e w1 ⟨rfl, b1⟩
    go_wp2_with fail
    refine (CW.out _ (SlRl.below H.out b1)).mono ?_
    rintro e w2 ⟨rfl, b2⟩
    have hB2 := Below.via b2 b1
    go_wp2_with fail
    refine (members_any S _ (by omega)).mono ?_
    rintro e w3 ⟨vx, rfl, ox, b3⟩
    have hB3 := Below.via b3 hB2
    have OX := Lib.hid (own_lo ox hB2.size)
    clear ox
    go_wp2_with fail
    go_ret
    exact ⟨vx, rfl, by rw [← HE.out]; exact OX.out, hB3⟩
end Go.Proofs.Ytlcjkehpdlgdoaa
