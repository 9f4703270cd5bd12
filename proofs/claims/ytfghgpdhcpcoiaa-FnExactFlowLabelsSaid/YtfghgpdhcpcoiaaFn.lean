/-
  The exact law on flows of labels, walked: true for every input. No condition.
-/
import Derived.Test.YtfghgpdhcpcoiaaFz
import Derived.Test.YtfghgpdhcpcoiaaFm
set_option linter.unusedSimpArgs false
set_option linter.unusedVariables false
namespace Go.Proofs.Ytfghgpdhcpcoiaa
open Go.RowKit
theorem flowR_len (ls : List Lab) (ms : List Mv) : (flowR ls ms).length ≤ 6 := by
  unfold flowR
  cases h : flowOk ls ms
  · simp
  · have := (flowOk_of h).hi
    simp only [if_true]
    unfold flow
    have := flow_len ms ls
    unfold flow at this
    omega
set_option maxRecDepth 100000 in
set_option maxHeartbeats 12800000 in
theorem exactFlowLabels_walk (ls : List Lab) (v0 : Value) (ms : List Mv) (v1 : Value) (w : World) (h : SlB w v0 ls) (hm : SlM w v1 ms) : Calls Try.prog 5 #[v0, v1] w fun e w' => e = .returned (.bool true) ∧ Below w.heap.size w w' := by
  have H := Lib.hid h
  have HM := Lib.hid hm
  clear h hm
  have heq := eqBs_refl ls
  by_cases hl0 : (1048576 : Int) < ls.length
  · go_enter Try.func5, Try.ntmps5
    go_wp2_with fail
    refine (szBS_any ls _ v0 _ H.out (by omega) (by omega)).mono ?_
    rintro e w' ⟨rfl, rfl⟩
    rw [if_pos (by omega)]
    go_wp2_with fail
    go_ret
    exact ⟨rfl, Below.refl _ _⟩
  have hlen0 : ls.length ≤ 1048576 := by omega
  have hle0 : (0 : Int) ≤ 1048576 - ls.length := by omega
  go_enter Try.func5, Try.ntmps5
  go_wp2_with fail
  refine (szBS_any ls _ v0 _ H.out (by omega) (by omega)).mono ?_
  rintro e w' ⟨rfl, rfl⟩
  rw [if_neg (by omega)]
  go_wp2_with fail
  refine (szMoS_any ms _ v1 _ HM.out (by omega) (by omega)).mono ?_
  rintro e w0 ⟨r, rfl, hr, b0⟩
  by_cases hneg : r < 0
  · go_wp2_with fail
    go_ret
    exact ⟨rfl, b0⟩
  have hsz : ms.length + szM ms ms.length ≤ 1048576 := by omega
  have HX := Lib.hid (fun i (hi : i < ms.length) => Nat.le_trans (szM_el ms i hi) (show szM ms ms.length ≤ 1048576 by omega))
  have zb0 := b0.size
  clear hr
  obtain ⟨R, hR⟩ : ∃ R, R = flowR ls ms := ⟨_, rfl⟩
  have hRl : R.length ≤ 6 := by rw [hR]; exact flowR_len ls ms
  have heqR := eqBs_refl R
  have HR := Lib.hid hR
  clear hR
  have hk0 : decide ((1 : Int) + ((ls.length * 2 : Nat) : Int) + ((szM ms ms.length : Nat) : Int) + ((ms.length : Nat) : Int) < 0) = false := by simp; omega
  go_wp2_with fail
  refine (toBS_any ls v0 _ (SlF.below H.out b0) (by omega)).mono ?_
  rintro e w1 ⟨u1, rfl, o1, b1⟩
  have B1 : Below w.heap.size w w1 := Below.via b1 b0
  have z1 := b1.size
  try simp only [World.size_alloc] at z1
  have pa := Lib.hid (show ∀ j, Value.ownBlock u1 = some j → w0.heap.size ≤ j ∧ j < w1.heap.size from fun j hj => o1.lt j hj)
  have Oa2 := Lib.hid o1
  clear o1
  go_wp2_with fail
  refine (toMoS_any ms v1 _ (SlM.below HM.out B1) (by omega) HX.out).mono ?_
  rintro e w2 ⟨u2, rfl, o2, b2⟩
  have B3 : Below w.heap.size w w2 := Below.via b2 B1
  have z3 := b2.size
  try simp only [World.size_alloc] at z3
  have Oa4 := Lib.hid (own_below Oa2.out b2)
  clear Oa2
  have SM2 := Lib.hid o2
  clear o2
  go_wp2_with fail
  refine (specFlow_any ls ms _ _ _ (own_sl Oa4.out) SM2.out).mono ?_
  rintro e w3 ⟨u3, rfl, o3, b3⟩
  rw [← HR.out] at o3
  have B5 : Below w.heap.size w w3 := Below.via b3 B3
  have z5 := b3.size
  try simp only [World.size_alloc] at z5
  have Oa6 := Lib.hid (own_below Oa4.out b3)
  clear Oa4
  have pW := Lib.hid (show ∀ j, Value.ownBlock u3 = some j → w2.heap.size ≤ j ∧ j < w3.heap.size from fun j hj => o3.lt j hj)
  have OW7 := Lib.hid o3
  clear o3
  go_wp2_with fail
  refine (toBS_any ls v0 _ (SlF.below H.out B5) (by omega)).mono ?_
  rintro e w4 ⟨u4, rfl, o4, b4⟩
  have B8 : Below w.heap.size w w4 := Below.via b4 B5
  have z8 := b4.size
  try simp only [World.size_alloc] at z8
  have Oa9 := Lib.hid (own_below Oa6.out b4)
  clear Oa6
  have OW10 := Lib.hid (own_below OW7.out b4)
  clear OW7
  have px := Lib.hid (show ∀ j, Value.ownBlock u4 = some j → w3.heap.size ≤ j ∧ j < w4.heap.size from fun j hj => o4.lt j hj)
  have Ox11 := Lib.hid o4
  clear o4
  go_wp2_with fail
  refine (toMoS_own ms v1 _ (SlM.below HM.out B8) (by omega) HX.out).mono ?_
  rintro e w5 ⟨rfl, o5, b5⟩
  have B12 : Below w.heap.size w w5 := Below.via b5 B8
  have z12 := b5.size
  try simp only [World.size_alloc] at z12
  have Oa13 := Lib.hid (own_below Oa9.out b5)
  clear Oa9
  have OW14 := Lib.hid (own_below OW10.out b5)
  clear OW10
  have Ox15 := Lib.hid (own_below Ox11.out b5)
  clear Ox11
  have MV5 := Lib.hid o5
  clear o5
  have hbh : w4.heap.size < w5.heap.size := by obtain ⟨A_, k_, _⟩ := MV5.out; exact k_.lt
  go_wp2_with fail
  refine (implFlow_any ls ms _ _ _ (own_sl Ox15.out) (MvsAt.sl MV5.out (by omega))).mono ?_
  rintro e w6 ⟨u6, rfl, o6, b6⟩
  rw [← HR.out] at o6
  have B16 : Below w.heap.size w w6 := Below.via b6 B12
  have z16 := b6.size
  try simp only [World.size_alloc] at z16
  have Oa17 := Lib.hid (own_below Oa13.out b6)
  clear Oa13
  have OW18 := Lib.hid (own_below OW14.out b6)
  clear OW14
  have Ox19 := Lib.hid (own_below Ox15.out b6)
  clear Ox15
  have MV6 := Lib.hid (MvsAt.below MV5.out b6)
  clear MV5
  have pG := Lib.hid (show ∀ j, Value.ownBlock u6 = some j → w5.heap.size ≤ j ∧ j < w6.heap.size from fun j hj => o6.lt j hj)
  have OG20 := Lib.hid o6
  clear o6
  go_wp2_with fail
  refine (eqBS_any R R _ _ _ (own_sl OG20.out) (own_sl OW18.out)).mono ?_
  rintro e w7 ⟨rfl, b7⟩
  rw [heqR]
  have B21 : Below w.heap.size w w7 := Below.via b7 B16
  have z21 := b7.size
  try simp only [World.size_alloc] at z21
  have Oa22 := Lib.hid (own_below Oa17.out b7)
  clear Oa17
  have OW23 := Lib.hid (own_below OW18.out b7)
  clear OW18
  have Ox24 := Lib.hid (own_below Ox19.out b7)
  clear Ox19
  have OG25 := Lib.hid (own_below OG20.out b7)
  clear OG20
  have MV7 := Lib.hid (MvsAt.below MV6.out b7)
  clear MV6
  go_wp2_with fail
  refine (toBS_any ls v0 _ (SlF.below H.out B21) (by omega)).mono ?_
  rintro e w8 ⟨u8, rfl, o8, b8⟩
  have B26 : Below w.heap.size w w8 := Below.via b8 B21
  have z26 := b8.size
  try simp only [World.size_alloc] at z26
  have Oa27 := Lib.hid (own_below Oa22.out b8)
  clear Oa22
  have OW28 := Lib.hid (own_below OW23.out b8)
  clear OW23
  have Ox29 := Lib.hid (own_below Ox24.out b8)
  clear Ox24
  have OG30 := Lib.hid (own_below OG25.out b8)
  clear OG25
  have MV8 := Lib.hid (MvsAt.below MV7.out b8)
  clear MV7
  have py := Lib.hid (show ∀ j, Value.ownBlock u8 = some j → w7.heap.size ≤ j ∧ j < w8.heap.size from fun j hj => o8.lt j hj)
  have Oy31 := Lib.hid o8
  clear o8
  go_wp2_with fail
  refine (eqBS_any ls ls _ _ _ (own_sl Ox29.out) (own_sl Oy31.out)).mono ?_
  rintro e w9 ⟨rfl, b9⟩
  rw [heq]
  have B32 : Below w.heap.size w w9 := Below.via b9 B26
  have z32 := b9.size
  try simp only [World.size_alloc] at z32
  have Oa33 := Lib.hid (own_below Oa27.out b9)
  clear Oa27
  have OW34 := Lib.hid (own_below OW28.out b9)
  clear OW28
  have Ox35 := Lib.hid (own_below Ox29.out b9)
  clear Ox29
  have OG36 := Lib.hid (own_below OG30.out b9)
  clear OG30
  have Oy37 := Lib.hid (own_below Oy31.out b9)
  clear Oy31
  have MV9 := Lib.hid (MvsAt.below MV8.out b9)
  clear MV8
  go_wp2_with fail
  refine (toMoS_any ms v1 _ (SlM.below HM.out B32) (by omega) HX.out).mono ?_
  rintro e w10 ⟨u10, rfl, o10, b10⟩
  have B38 : Below w.heap.size w w10 := Below.via b10 B32
  have z38 := b10.size
  try simp only [World.size_alloc] at z38
  have Oa39 := Lib.hid (own_below Oa33.out b10)
  clear Oa33
  have OW40 := Lib.hid (own_below OW34.out b10)
  clear OW34
  have Ox41 := Lib.hid (own_below Ox35.out b10)
  clear Ox35
  have OG42 := Lib.hid (own_below OG36.out b10)
  clear OG36
  have Oy43 := Lib.hid (own_below Oy37.out b10)
  clear Oy37
  have MV10 := Lib.hid (MvsAt.below MV9.out b10)
  clear MV9
  have SM10 := Lib.hid o10
  clear o10
  go_wp2_with fail
  refine (eqMoS_same ms _ _ _ (MvsAt.sl MV10.out (by omega)) SM10.out).mono ?_
  rintro e w11 ⟨rfl, b11⟩
  have B44 : Below w.heap.size w w11 := Below.via b11 B38
  have z44 := b11.size
  try simp only [World.size_alloc] at z44
  have Oa45 := Lib.hid (own_below Oa39.out b11)
  clear Oa39
  have OW46 := Lib.hid (own_below OW40.out b11)
  clear OW40
  have Ox47 := Lib.hid (own_below Ox41.out b11)
  clear Ox41
  have OG48 := Lib.hid (own_below OG42.out b11)
  clear OG42
  have Oy49 := Lib.hid (own_below Oy43.out b11)
  clear Oy43
  have MV11 := Lib.hid (MvsAt.below MV10.out b11)
  clear MV10
  go_wp2_with fail
  refine (markBS_any ls _ _ 1 _ Ox47.out (by omega) (by omega) (by omega)).mono ?_
  rintro e w12 ⟨rfl, o12, g12⟩
  have B50 : Below w.heap.size w w12 := Below.grown B44 g12 (by have hz := B44.size; (try simp only [World.size_alloc] at hz ⊢); omega) (fun j hj => by have q := px.out j hj; (try simp only [World.size_alloc] at q); omega)
  have z50 := g12.size
  try simp only [World.size_alloc] at z50
  have Oa51 := Lib.hid (own_gby Oa45.out g12 (fun j h1 h2 => by have q1 := pa.out j h1; have q2 := px.out j h2; (try simp only [World.size_alloc] at q1 q2); omega))
  clear Oa45
  have OW52 := Lib.hid (own_gby OW46.out g12 (fun j h1 h2 => by have q1 := pW.out j h1; have q2 := px.out j h2; (try simp only [World.size_alloc] at q1 q2); omega))
  clear OW46
  have OG53 := Lib.hid (own_gby OG48.out g12 (fun j h1 h2 => by have q1 := pG.out j h1; have q2 := px.out j h2; (try simp only [World.size_alloc] at q1 q2); omega))
  clear OG48
  have Oy54 := Lib.hid (own_gby Oy49.out g12 (fun j h1 h2 => by have q1 := py.out j h1; have q2 := px.out j h2; (try simp only [World.size_alloc] at q1 q2); omega))
  clear Oy49
  have Ox55 := Lib.hid o12
  clear o12 Ox47
  have MV12 := Lib.hid (MvsAt.grow MV11.out (Grow.ofBy (p := fun i => i < w4.heap.size) g12 (fun j hj => by have q := px.out j hj; omega)) (fun i hi => .inl hi) hbh)
  clear MV11
  go_wp2_with fail
  refine (markMoS_any ms _ w5.heap.size _ _ MV12.out hbh (by omega) (by omega) (by omega)).mono ?_
  rintro e w13 ⟨rfl, g13⟩
  have zb56 : w.heap.size ≤ w4.heap.size := by omega
  have B56 : Below w.heap.size w w13 := Grow.below g13 B50 (fun j hj => by (try dsimp only at hj); omega)
  have z56 := g13.size
  have Oa57 := Lib.hid (own_grow Oa51.out g13 (fun j h1 h2 => by have q1 := pa.out j h1; (try dsimp only at h2); omega))
  clear Oa51
  have OW58 := Lib.hid (own_grow OW52.out g13 (fun j h1 h2 => by have q1 := pW.out j h1; (try dsimp only at h2); omega))
  clear OW52
  have Ox59 := Lib.hid (own_grow Ox55.out g13 (fun j h1 h2 => by have q1 := px.out j h1; (try dsimp only at h2); omega))
  clear Ox55
  have OG60 := Lib.hid (own_grow OG53.out g13 (fun j h1 h2 => by have q1 := pG.out j h1; (try dsimp only at h2); omega))
  clear OG53
  have Oy61 := Lib.hid (own_grow Oy54.out g13 (fun j h1 h2 => by have q1 := py.out j h1; (try dsimp only at h2); omega))
  clear Oy54
  go_wp2_with fail
  refine (eqBS_any R R _ _ _ (own_sl OG60.out) (own_sl OW58.out)).mono ?_
  rintro e w14 ⟨rfl, b14⟩
  rw [heqR]
  have B62 : Below w.heap.size w w14 := Below.via b14 B56
  have z62 := b14.size
  try simp only [World.size_alloc] at z62
  have Oa63 := Lib.hid (own_below Oa57.out b14)
  clear Oa57
  have OW64 := Lib.hid (own_below OW58.out b14)
  clear OW58
  have Ox65 := Lib.hid (own_below Ox59.out b14)
  clear Ox59
  have OG66 := Lib.hid (own_below OG60.out b14)
  clear OG60
  have Oy67 := Lib.hid (own_below Oy61.out b14)
  clear Oy61
  go_wp2_with fail
  refine (markBS_any R _ _ 1 _ OG66.out (by omega) (by omega) (by omega)).mono ?_
  rintro e w15 ⟨rfl, o15, g15⟩
  have B68 : Below w.heap.size w w15 := Below.grown B62 g15 (by have hz := B62.size; (try simp only [World.size_alloc] at hz ⊢); omega) (fun j hj => by have q := pG.out j hj; (try simp only [World.size_alloc] at q); omega)
  have z68 := g15.size
  try simp only [World.size_alloc] at z68
  have Oa69 := Lib.hid (own_gby Oa63.out g15 (fun j h1 h2 => by have q1 := pa.out j h1; have q2 := pG.out j h2; (try simp only [World.size_alloc] at q1 q2); omega))
  clear Oa63
  have OW70 := Lib.hid (own_gby OW64.out g15 (fun j h1 h2 => by have q1 := pW.out j h1; have q2 := pG.out j h2; (try simp only [World.size_alloc] at q1 q2); omega))
  clear OW64
  have Ox71 := Lib.hid (own_gby Ox65.out g15 (fun j h1 h2 => by have q1 := px.out j h1; have q2 := pG.out j h2; (try simp only [World.size_alloc] at q1 q2); omega))
  clear Ox65
  have Oy72 := Lib.hid (own_gby Oy67.out g15 (fun j h1 h2 => by have q1 := py.out j h1; have q2 := pG.out j h2; (try simp only [World.size_alloc] at q1 q2); omega))
  clear Oy67
  have OG73 := Lib.hid o15
  clear o15 OG66
  go_wp2_with fail
  refine (heldBS_any R.length _ 1 _ (slB_up (own_sl OG73.out)) (by omega) (by omega) (by omega)).mono ?_
  rintro e w' ⟨rfl, rfl⟩
  go_wp2_with fail
  refine (toBS_any ls v0 _ (SlF.below H.out B68) (by omega)).mono ?_
  rintro e w16 ⟨u16, rfl, o16, b16⟩
  have B74 : Below w.heap.size w w16 := Below.via b16 B68
  have z74 := b16.size
  try simp only [World.size_alloc] at z74
  have Oa75 := Lib.hid (own_below Oa69.out b16)
  clear Oa69
  have OW76 := Lib.hid (own_below OW70.out b16)
  clear OW70
  have Ox77 := Lib.hid (own_below Ox71.out b16)
  clear Ox71
  have OG78 := Lib.hid (own_below OG73.out b16)
  clear OG73
  have Oy79 := Lib.hid (own_below Oy72.out b16)
  clear Oy72
  have pz := Lib.hid (show ∀ j, Value.ownBlock u16 = some j → w15.heap.size ≤ j ∧ j < w16.heap.size from fun j hj => o16.lt j hj)
  have Oz80 := Lib.hid o16
  clear o16
  go_wp2_with fail
  refine (toMoS_any ms v1 _ (SlM.below HM.out B74) (by omega) HX.out).mono ?_
  rintro e w17 ⟨u17, rfl, o17, b17⟩
  have B81 : Below w.heap.size w w17 := Below.via b17 B74
  have z81 := b17.size
  try simp only [World.size_alloc] at z81
  have Oa82 := Lib.hid (own_below Oa75.out b17)
  clear Oa75
  have OW83 := Lib.hid (own_below OW76.out b17)
  clear OW76
  have Ox84 := Lib.hid (own_below Ox77.out b17)
  clear Ox77
  have OG85 := Lib.hid (own_below OG78.out b17)
  clear OG78
  have Oy86 := Lib.hid (own_below Oy79.out b17)
  clear Oy79
  have Oz87 := Lib.hid (own_below Oz80.out b17)
  clear Oz80
  have SM17 := Lib.hid o17
  clear o17
  go_wp2_with fail
  refine (implFlow_any ls ms _ _ _ (own_sl Oz87.out) SM17.out).mono ?_
  rintro e w18 ⟨u18, rfl, o18, b18⟩
  rw [← HR.out] at o18
  have B88 : Below w.heap.size w w18 := Below.via b18 B81
  have z88 := b18.size
  try simp only [World.size_alloc] at z88
  have Oa89 := Lib.hid (own_below Oa82.out b18)
  clear Oa82
  have OW90 := Lib.hid (own_below OW83.out b18)
  clear OW83
  have Ox91 := Lib.hid (own_below Ox84.out b18)
  clear Ox84
  have OG92 := Lib.hid (own_below OG85.out b18)
  clear OG85
  have Oy93 := Lib.hid (own_below Oy86.out b18)
  clear Oy86
  have Oz94 := Lib.hid (own_below Oz87.out b18)
  clear Oz87
  have pJ := Lib.hid (show ∀ j, Value.ownBlock u18 = some j → w17.heap.size ≤ j ∧ j < w18.heap.size from fun j hj => o18.lt j hj)
  have OJ95 := Lib.hid o18
  clear o18
  go_wp2_with fail
  refine (eqBS_any R R _ _ _ (own_sl OJ95.out) (own_sl OW90.out)).mono ?_
  rintro e w19 ⟨rfl, b19⟩
  rw [heqR]
  have B96 : Below w.heap.size w w19 := Below.via b19 B88
  have z96 := b19.size
  try simp only [World.size_alloc] at z96
  have Oa97 := Lib.hid (own_below Oa89.out b19)
  clear Oa89
  have OW98 := Lib.hid (own_below OW90.out b19)
  clear OW90
  have Ox99 := Lib.hid (own_below Ox91.out b19)
  clear Ox91
  have OG100 := Lib.hid (own_below OG92.out b19)
  clear OG92
  have Oy101 := Lib.hid (own_below Oy93.out b19)
  clear Oy93
  have Oz102 := Lib.hid (own_below Oz94.out b19)
  clear Oz94
  have OJ103 := Lib.hid (own_below OJ95.out b19)
  clear OJ95
  go_wp2_with fail
  refine (heldBS_any R.length _ 1 _ (slB_up (own_sl OG100.out)) (by omega) (by omega) (by omega)).mono ?_
  rintro e w' ⟨rfl, rfl⟩
  go_wp2_with fail
  go_ret
  exact ⟨rfl, B96⟩
end Go.Proofs.Ytfghgpdhcpcoiaa
