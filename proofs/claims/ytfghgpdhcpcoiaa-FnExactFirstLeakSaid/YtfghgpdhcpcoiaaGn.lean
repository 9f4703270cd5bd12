/-
  The exact law on first leaks, walked: true for every input. No condition.
-/
import Derived.Test.YtfghgpdhcpcoiaaGm
import Derived.Test.YtfghgpdhcpcoiaaFm
set_option linter.unusedSimpArgs false
set_option linter.unusedVariables false
namespace Go.Proofs.Ytfghgpdhcpcoiaa
open Go.RowKit
set_option maxRecDepth 100000 in
set_option maxHeartbeats 12800000 in
theorem exactFirstLeak_walk (ls : List Lab) (v0 : Value) (ms : List Mv) (v1 : Value) (w : World) (h : SlB w v0 ls) (hm : SlM w v1 ms) : Calls Try.prog 7 #[v0, v1] w fun e w' => e = .returned (.bool true) ∧ Below w.heap.size w w' := by
  have H := Lib.hid h
  have HM := Lib.hid hm
  clear h hm
  have heq := eqBs_refl ls
  by_cases hl0 : (1048576 : Int) < ls.length
  · go_enter Try.func7, Try.ntmps7
    go_wp2_with fail
    refine (szBS_any ls _ v0 _ H.out (by omega) (by omega)).mono ?_
    rintro e w' ⟨rfl, rfl⟩
    rw [if_pos (by omega)]
    go_wp2_with fail
    go_ret
    exact ⟨rfl, Below.refl _ _⟩
  have hlen0 : ls.length ≤ 1048576 := by omega
  have hle0 : (0 : Int) ≤ 1048576 - ls.length := by omega
  go_enter Try.func7, Try.ntmps7
  go_wp2_with fail
  refine (szBS_any ls _ v0 _ H.out (by omega) (by omega)).mono ?_
  rintro e w' ⟨rfl, rfl⟩
  rw [if_neg (by omega)]
  go_wp2_with fail
  refine (szMoS_any ms _ v1 _ HM.out (by omega) (by omega)).mono ?_
  rintro e w0 ⟨r, rfl, hr, b0⟩
  by_cases hneg : r < 0
  · go_wp2_with fail
    go_ret
    exact ⟨rfl, b0⟩
  have hsz : ms.length + szM ms ms.length ≤ 1048576 := by omega
  have HX := Lib.hid (fun i (hi : i < ms.length) => Nat.le_trans (szM_el ms i hi) (show szM ms ms.length ≤ 1048576 by omega))
  have zb0 := b0.size
  clear hr
  go_wp2_with fail
  refine (toBS_any ls v0 _ (SlF.below H.out b0) (by omega)).mono ?_
  rintro e w1 ⟨u1, rfl, o1, b1⟩
  have B1 : Below w.heap.size w w1 := Below.via b1 b0
  have z1 := b1.size
  try simp only [World.size_alloc] at z1
  have pa := Lib.hid (show ∀ j, Value.ownBlock u1 = some j → w0.heap.size ≤ j ∧ j < w1.heap.size from fun j hj => o1.lt j hj)
  have Oa2 := Lib.hid o1
  clear o1
  go_wp2_with fail
  refine (toMoS_any ms v1 _ (SlM.below HM.out B1) (by omega) HX.out).mono ?_
  rintro e w2 ⟨u2, rfl, o2, b2⟩
  have B3 : Below w.heap.size w w2 := Below.via b2 B1
  have z3 := b2.size
  try simp only [World.size_alloc] at z3
  have Oa4 := Lib.hid (own_below Oa2.out b2)
  clear Oa2
  have SM2 := Lib.hid o2
  clear o2
  go_wp2_with fail
  refine (specLeak_any ls ms _ _ _ (own_sl Oa4.out) SM2.out).mono ?_
  rintro e w3 ⟨rfl, b3⟩
  have B5 : Below w.heap.size w w3 := Below.via b3 B3
  have z5 := b3.size
  try simp only [World.size_alloc] at z5
  have Oa6 := Lib.hid (own_below Oa4.out b3)
  clear Oa4
  go_wp2_with fail
  refine (toBS_any ls v0 _ (SlF.below H.out B5) (by omega)).mono ?_
  rintro e w4 ⟨u4, rfl, o4, b4⟩
  have B7 : Below w.heap.size w w4 := Below.via b4 B5
  have z7 := b4.size
  try simp only [World.size_alloc] at z7
  have Oa8 := Lib.hid (own_below Oa6.out b4)
  clear Oa6
  have px := Lib.hid (show ∀ j, Value.ownBlock u4 = some j → w3.heap.size ≤ j ∧ j < w4.heap.size from fun j hj => o4.lt j hj)
  have Ox9 := Lib.hid o4
  clear o4
  go_wp2_with fail
  refine (toMoS_own ms v1 _ (SlM.below HM.out B7) (by omega) HX.out).mono ?_
  rintro e w5 ⟨rfl, o5, b5⟩
  have B10 : Below w.heap.size w w5 := Below.via b5 B7
  have z10 := b5.size
  try simp only [World.size_alloc] at z10
  have Oa11 := Lib.hid (own_below Oa8.out b5)
  clear Oa8
  have Ox12 := Lib.hid (own_below Ox9.out b5)
  clear Ox9
  have MV5 := Lib.hid o5
  clear o5
  go_wp2_with fail
  refine (implLeak_any ls ms _ _ _ (own_sl Ox12.out) (MvsAt.sl MV5.out (by omega))).mono ?_
  rintro e w6 ⟨rfl, b6⟩
  have B13 : Below w.heap.size w w6 := Below.via b6 B10
  have z13 := b6.size
  try simp only [World.size_alloc] at z13
  have Oa14 := Lib.hid (own_below Oa11.out b6)
  clear Oa11
  have Ox15 := Lib.hid (own_below Ox12.out b6)
  clear Ox12
  have MV6 := Lib.hid (MvsAt.below MV5.out b6)
  clear MV5
  go_wp2_with fail
  refine (toBS_any ls v0 _ (SlF.below H.out B13) (by omega)).mono ?_
  rintro e w7 ⟨u7, rfl, o7, b7⟩
  have B16 : Below w.heap.size w w7 := Below.via b7 B13
  have z16 := b7.size
  try simp only [World.size_alloc] at z16
  have Oa17 := Lib.hid (own_below Oa14.out b7)
  clear Oa14
  have Ox18 := Lib.hid (own_below Ox15.out b7)
  clear Ox15
  have MV7 := Lib.hid (MvsAt.below MV6.out b7)
  clear MV6
  have py := Lib.hid (show ∀ j, Value.ownBlock u7 = some j → w6.heap.size ≤ j ∧ j < w7.heap.size from fun j hj => o7.lt j hj)
  have Oy19 := Lib.hid o7
  clear o7
  go_wp2_with fail
  refine (eqBS_any ls ls _ _ _ (own_sl Ox18.out) (own_sl Oy19.out)).mono ?_
  rintro e w8 ⟨rfl, b8⟩
  rw [heq]
  have B20 : Below w.heap.size w w8 := Below.via b8 B16
  have z20 := b8.size
  try simp only [World.size_alloc] at z20
  have Oa21 := Lib.hid (own_below Oa17.out b8)
  clear Oa17
  have Ox22 := Lib.hid (own_below Ox18.out b8)
  clear Ox18
  have Oy23 := Lib.hid (own_below Oy19.out b8)
  clear Oy19
  have MV8 := Lib.hid (MvsAt.below MV7.out b8)
  clear MV7
  go_wp2_with fail
  refine (toMoS_any ms v1 _ (SlM.below HM.out B20) (by omega) HX.out).mono ?_
  rintro e w9 ⟨u9, rfl, o9, b9⟩
  have B24 : Below w.heap.size w w9 := Below.via b9 B20
  have z24 := b9.size
  try simp only [World.size_alloc] at z24
  have Oa25 := Lib.hid (own_below Oa21.out b9)
  clear Oa21
  have Ox26 := Lib.hid (own_below Ox22.out b9)
  clear Ox22
  have Oy27 := Lib.hid (own_below Oy23.out b9)
  clear Oy23
  have MV9 := Lib.hid (MvsAt.below MV8.out b9)
  clear MV8
  have SM9 := Lib.hid o9
  clear o9
  go_wp2_with fail
  refine (eqMoS_same ms _ _ _ (MvsAt.sl MV9.out (by omega)) SM9.out).mono ?_
  rintro e w10 ⟨rfl, b10⟩
  have B28 : Below w.heap.size w w10 := Below.via b10 B24
  have z28 := b10.size
  try simp only [World.size_alloc] at z28
  have Oa29 := Lib.hid (own_below Oa25.out b10)
  clear Oa25
  have Ox30 := Lib.hid (own_below Ox26.out b10)
  clear Ox26
  have Oy31 := Lib.hid (own_below Oy27.out b10)
  clear Oy27
  have MV10 := Lib.hid (MvsAt.below MV9.out b10)
  clear MV9
  go_wp2_with fail
  go_ret
  exact ⟨rfl, B28⟩
end Go.Proofs.Ytfghgpdhcpcoiaa
