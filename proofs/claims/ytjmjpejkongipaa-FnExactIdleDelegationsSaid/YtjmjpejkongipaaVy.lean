/-
  The exact law on idle delegations, walked: true for every input. No condition.
-/
import Derived.Test.YtjmjpejkongipaaVi
import Derived.Test.YtjmjpejkongipaaVh
import Derived.Test.YtjmjpejkongipaaVk
import Derived.Test.YtjmjpejkongipaaI
set_option linter.unusedSimpArgs false
set_option linter.unusedVariables false
namespace Go.Proofs.Ytjmjpejkongipaa
open Go.RowKit
set_option maxRecDepth 100000 in
set_option maxHeartbeats 12800000 in
theorem exactIdleDelegations_walk (ls : List Int) (v0 : Value) (ms : List Deleg) (v1 : Value) (w : World) (h : SlI w v0 ls) (hm : SlD w v1 ms) : Calls Try.prog 7 #[v0, v1] w fun e w' => e = .returned (.bool true) ∧ Below w.heap.size w w' := by
  obtain ⟨a0, cap0, rfl, hc1, hc2⟩ := SlF.shape h
  have H := Lib.hid h
  have HM := Lib.hid hm
  clear h hm
  have heq := eqDs_refl ms
  by_cases hl0 : (1048576 : Int) < ls.length
  · go_enter Try.func7, Try.ntmps7
    go_wp2_with fail
    go_ret
    exact ⟨rfl, Below.refl _ _⟩
  have hlen0 : ls.length ≤ 1048576 := by omega
  by_cases hl1 : (1048576 : Int) < ms.length
  · go_enter Try.func7, Try.ntmps7
    go_wp2_with fail
    refine (szDS_any ms _ v1 _ HM.out (by omega) (by omega)).mono ?_
    rintro e w' ⟨rfl, rfl⟩
    rw [if_pos (by omega)]
    go_wp2_with fail
    go_ret
    exact ⟨rfl, Below.refl _ _⟩
  have hlen1 : ms.length ≤ 1048576 := by omega
  have hle0 : (0 : Int) ≤ 1048576 - ms.length := by omega
  go_enter Try.func7, Try.ntmps7
  go_wp2_with fail
  refine (szDS_any ms _ v1 _ HM.out (by omega) (by omega)).mono ?_
  rintro e w' ⟨rfl, rfl⟩
  rw [if_neg (by omega)]
  obtain ⟨R, hR⟩ : ∃ R, R = idleR ls ms := ⟨_, rfl⟩
  have hRl : R.length ≤ 16 := by rw [hR]; exact idleR_len ls ms
  have HR := Lib.hid hR
  clear hR
  have hk0 : decide ((1 : Int) + (ls.length : Int) + ((ms.length * 3 : Nat) : Int) < 0) = false := by simp; omega
  go_wp2_with fail
  refine (toIntS_any ls _ _ (SlF.below H.out (Below.refl _ _)) (by omega)).mono ?_
  rintro e w1 ⟨u1, rfl, o1, b1⟩
  have B1 : Below w.heap.size w w1 := Below.via b1 (Below.refl _ _)
  have z1 := b1.size
  try simp only [World.size_alloc] at z1
  have pa := Lib.hid (show ∀ j, Value.ownBlock u1 = some j → w.heap.size ≤ j ∧ j < w1.heap.size from fun j hj => o1.lt j hj)
  have Oa2 := Lib.hid o1
  clear o1
  go_wp2_with fail
  refine (toDS_any ms v1 _ (SlF.below HM.out B1) (by omega)).mono ?_
  rintro e w2 ⟨u2, rfl, o2, b2⟩
  have B3 : Below w.heap.size w w2 := Below.via b2 B1
  have z3 := b2.size
  try simp only [World.size_alloc] at z3
  have Oa4 := Lib.hid (own_below Oa2.out b2)
  clear Oa2
  have pb := Lib.hid (show ∀ j, Value.ownBlock u2 = some j → w1.heap.size ≤ j ∧ j < w2.heap.size from fun j hj => o2.lt j hj)
  have Ob5 := Lib.hid o2
  clear o2
  go_wp2_with fail
  refine (specIdle_any ls ms _ _ _ (own_sl Oa4.out) (own_sl Ob5.out)).mono ?_
  rintro e w3 ⟨u3, rfl, o3, b3⟩
  rw [← HR.out] at o3
  have B6 : Below w.heap.size w w3 := Below.via b3 B3
  have z6 := b3.size
  try simp only [World.size_alloc] at z6
  have Oa7 := Lib.hid (own_below Oa4.out b3)
  clear Oa4
  have Ob8 := Lib.hid (own_below Ob5.out b3)
  clear Ob5
  have pW := Lib.hid (show ∀ j, Value.ownBlock u3 = some j → w2.heap.size ≤ j ∧ j < w3.heap.size from fun j hj => o3.lt j hj)
  have OW9 := Lib.hid o3
  clear o3
  go_wp2_with fail
  refine (toIntS_any ls _ _ (SlF.below H.out B6) (by omega)).mono ?_
  rintro e w4 ⟨u4, rfl, o4, b4⟩
  have B10 : Below w.heap.size w w4 := Below.via b4 B6
  have z10 := b4.size
  try simp only [World.size_alloc] at z10
  have Oa11 := Lib.hid (own_below Oa7.out b4)
  clear Oa7
  have Ob12 := Lib.hid (own_below Ob8.out b4)
  clear Ob8
  have OW13 := Lib.hid (own_below OW9.out b4)
  clear OW9
  have px := Lib.hid (show ∀ j, Value.ownBlock u4 = some j → w3.heap.size ≤ j ∧ j < w4.heap.size from fun j hj => o4.lt j hj)
  have Ox14 := Lib.hid o4
  clear o4
  go_wp2_with fail
  refine (toDS_any ms v1 _ (SlF.below HM.out B10) (by omega)).mono ?_
  rintro e w5 ⟨u5, rfl, o5, b5⟩
  have B15 : Below w.heap.size w w5 := Below.via b5 B10
  have z15 := b5.size
  try simp only [World.size_alloc] at z15
  have Oa16 := Lib.hid (own_below Oa11.out b5)
  clear Oa11
  have Ob17 := Lib.hid (own_below Ob12.out b5)
  clear Ob12
  have OW18 := Lib.hid (own_below OW13.out b5)
  clear OW13
  have Ox19 := Lib.hid (own_below Ox14.out b5)
  clear Ox14
  have py := Lib.hid (show ∀ j, Value.ownBlock u5 = some j → w4.heap.size ≤ j ∧ j < w5.heap.size from fun j hj => o5.lt j hj)
  have Oy20 := Lib.hid o5
  clear o5
  go_wp2_with fail
  refine (implIdle_any ls ms _ _ _ (own_sl Ox19.out) (own_sl Oy20.out)).mono ?_
  rintro e w6 ⟨u6, rfl, o6, b6⟩
  rw [← HR.out] at o6
  have B21 : Below w.heap.size w w6 := Below.via b6 B15
  have z21 := b6.size
  try simp only [World.size_alloc] at z21
  have Oa22 := Lib.hid (own_below Oa16.out b6)
  clear Oa16
  have Ob23 := Lib.hid (own_below Ob17.out b6)
  clear Ob17
  have OW24 := Lib.hid (own_below OW18.out b6)
  clear OW18
  have Ox25 := Lib.hid (own_below Ox19.out b6)
  clear Ox19
  have Oy26 := Lib.hid (own_below Oy20.out b6)
  clear Oy20
  have pG := Lib.hid (show ∀ j, Value.ownBlock u6 = some j → w5.heap.size ≤ j ∧ j < w6.heap.size from fun j hj => o6.lt j hj)
  have OG27 := Lib.hid o6
  clear o6
  go_wp2_with fail
  refine (eqIntS_any R R _ _ _ (own_sl OG27.out) (own_sl OW24.out)).mono ?_
  rintro e w7 ⟨rfl, b7⟩
  have B28 : Below w.heap.size w w7 := Below.via b7 B21
  have z28 := b7.size
  try simp only [World.size_alloc] at z28
  have Oa29 := Lib.hid (own_below Oa22.out b7)
  clear Oa22
  have Ob30 := Lib.hid (own_below Ob23.out b7)
  clear Ob23
  have OW31 := Lib.hid (own_below OW24.out b7)
  clear OW24
  have Ox32 := Lib.hid (own_below Ox25.out b7)
  clear Ox25
  have Oy33 := Lib.hid (own_below Oy26.out b7)
  clear Oy26
  have OG34 := Lib.hid (own_below OG27.out b7)
  clear OG27
  go_wp2_with fail
  refine (toIntS_any ls _ _ (SlF.below H.out B28) (by omega)).mono ?_
  rintro e w8 ⟨u8, rfl, o8, b8⟩
  have B35 : Below w.heap.size w w8 := Below.via b8 B28
  have z35 := b8.size
  try simp only [World.size_alloc] at z35
  have Oa36 := Lib.hid (own_below Oa29.out b8)
  clear Oa29
  have Ob37 := Lib.hid (own_below Ob30.out b8)
  clear Ob30
  have OW38 := Lib.hid (own_below OW31.out b8)
  clear OW31
  have Ox39 := Lib.hid (own_below Ox32.out b8)
  clear Ox32
  have Oy40 := Lib.hid (own_below Oy33.out b8)
  clear Oy33
  have OG41 := Lib.hid (own_below OG34.out b8)
  clear OG34
  have pc := Lib.hid (show ∀ j, Value.ownBlock u8 = some j → w7.heap.size ≤ j ∧ j < w8.heap.size from fun j hj => o8.lt j hj)
  have Oc42 := Lib.hid o8
  clear o8
  go_wp2_with fail
  refine (eqIntS_any ls ls _ _ _ (own_sl Ox39.out) (own_sl Oc42.out)).mono ?_
  rintro e w9 ⟨rfl, b9⟩
  have B43 : Below w.heap.size w w9 := Below.via b9 B35
  have z43 := b9.size
  try simp only [World.size_alloc] at z43
  have Oa44 := Lib.hid (own_below Oa36.out b9)
  clear Oa36
  have Ob45 := Lib.hid (own_below Ob37.out b9)
  clear Ob37
  have OW46 := Lib.hid (own_below OW38.out b9)
  clear OW38
  have Ox47 := Lib.hid (own_below Ox39.out b9)
  clear Ox39
  have Oy48 := Lib.hid (own_below Oy40.out b9)
  clear Oy40
  have OG49 := Lib.hid (own_below OG41.out b9)
  clear OG41
  have Oc50 := Lib.hid (own_below Oc42.out b9)
  clear Oc42
  go_wp2_with fail
  refine (toDS_any ms v1 _ (SlF.below HM.out B43) (by omega)).mono ?_
  rintro e w10 ⟨u10, rfl, o10, b10⟩
  have B51 : Below w.heap.size w w10 := Below.via b10 B43
  have z51 := b10.size
  try simp only [World.size_alloc] at z51
  have Oa52 := Lib.hid (own_below Oa44.out b10)
  clear Oa44
  have Ob53 := Lib.hid (own_below Ob45.out b10)
  clear Ob45
  have OW54 := Lib.hid (own_below OW46.out b10)
  clear OW46
  have Ox55 := Lib.hid (own_below Ox47.out b10)
  clear Ox47
  have Oy56 := Lib.hid (own_below Oy48.out b10)
  clear Oy48
  have OG57 := Lib.hid (own_below OG49.out b10)
  clear OG49
  have Oc58 := Lib.hid (own_below Oc50.out b10)
  clear Oc50
  have pd := Lib.hid (show ∀ j, Value.ownBlock u10 = some j → w9.heap.size ≤ j ∧ j < w10.heap.size from fun j hj => o10.lt j hj)
  have Od59 := Lib.hid o10
  clear o10
  go_wp2_with fail
  refine (eqDS_any ms ms _ _ _ (own_sl Oy56.out) (own_sl Od59.out)).mono ?_
  rintro e w11 ⟨rfl, b11⟩
  rw [heq]
  have B60 : Below w.heap.size w w11 := Below.via b11 B51
  have z60 := b11.size
  try simp only [World.size_alloc] at z60
  have Oa61 := Lib.hid (own_below Oa52.out b11)
  clear Oa52
  have Ob62 := Lib.hid (own_below Ob53.out b11)
  clear Ob53
  have OW63 := Lib.hid (own_below OW54.out b11)
  clear OW54
  have Ox64 := Lib.hid (own_below Ox55.out b11)
  clear Ox55
  have Oy65 := Lib.hid (own_below Oy56.out b11)
  clear Oy56
  have OG66 := Lib.hid (own_below OG57.out b11)
  clear OG57
  have Oc67 := Lib.hid (own_below Oc58.out b11)
  clear Oc58
  have Od68 := Lib.hid (own_below Od59.out b11)
  clear Od59
  go_wp2_with fail
  refine (markIntS_any ls _ _ 1 _ Ox64.out (by omega) (by omega) (by omega)).mono ?_
  rintro e w12 ⟨rfl, o12, g12⟩
  have B69 : Below w.heap.size w w12 := Below.grown B60 g12 (by have hz := B60.size; (try simp only [World.size_alloc] at hz ⊢); omega) (fun j hj => by have q := px.out j hj; (try simp only [World.size_alloc] at q); omega)
  have z69 := g12.size
  try simp only [World.size_alloc] at z69
  have Oa70 := Lib.hid (own_gby Oa61.out g12 (fun j h1 h2 => by have q1 := pa.out j h1; have q2 := px.out j h2; (try simp only [World.size_alloc] at q1 q2); omega))
  clear Oa61
  have Ob71 := Lib.hid (own_gby Ob62.out g12 (fun j h1 h2 => by have q1 := pb.out j h1; have q2 := px.out j h2; (try simp only [World.size_alloc] at q1 q2); omega))
  clear Ob62
  have OW72 := Lib.hid (own_gby OW63.out g12 (fun j h1 h2 => by have q1 := pW.out j h1; have q2 := px.out j h2; (try simp only [World.size_alloc] at q1 q2); omega))
  clear OW63
  have Oy73 := Lib.hid (own_gby Oy65.out g12 (fun j h1 h2 => by have q1 := py.out j h1; have q2 := px.out j h2; (try simp only [World.size_alloc] at q1 q2); omega))
  clear Oy65
  have OG74 := Lib.hid (own_gby OG66.out g12 (fun j h1 h2 => by have q1 := pG.out j h1; have q2 := px.out j h2; (try simp only [World.size_alloc] at q1 q2); omega))
  clear OG66
  have Oc75 := Lib.hid (own_gby Oc67.out g12 (fun j h1 h2 => by have q1 := pc.out j h1; have q2 := px.out j h2; (try simp only [World.size_alloc] at q1 q2); omega))
  clear Oc67
  have Od76 := Lib.hid (own_gby Od68.out g12 (fun j h1 h2 => by have q1 := pd.out j h1; have q2 := px.out j h2; (try simp only [World.size_alloc] at q1 q2); omega))
  clear Od68
  have Ox77 := Lib.hid o12
  clear o12 Ox64
  go_wp2_with fail
  refine (markDS_any ms _ _ _ _ Oy73.out (by omega) (by omega) (by omega)).mono ?_
  rintro e w13 ⟨rfl, o13, g13⟩
  have B78 : Below w.heap.size w w13 := Below.grown B69 g13 (by have hz := B69.size; (try simp only [World.size_alloc] at hz ⊢); omega) (fun j hj => by have q := py.out j hj; (try simp only [World.size_alloc] at q); omega)
  have z78 := g13.size
  try simp only [World.size_alloc] at z78
  have Oa79 := Lib.hid (own_gby Oa70.out g13 (fun j h1 h2 => by have q1 := pa.out j h1; have q2 := py.out j h2; (try simp only [World.size_alloc] at q1 q2); omega))
  clear Oa70
  have Ob80 := Lib.hid (own_gby Ob71.out g13 (fun j h1 h2 => by have q1 := pb.out j h1; have q2 := py.out j h2; (try simp only [World.size_alloc] at q1 q2); omega))
  clear Ob71
  have OW81 := Lib.hid (own_gby OW72.out g13 (fun j h1 h2 => by have q1 := pW.out j h1; have q2 := py.out j h2; (try simp only [World.size_alloc] at q1 q2); omega))
  clear OW72
  have Ox82 := Lib.hid (own_gby Ox77.out g13 (fun j h1 h2 => by have q1 := px.out j h1; have q2 := py.out j h2; (try simp only [World.size_alloc] at q1 q2); omega))
  clear Ox77
  have OG83 := Lib.hid (own_gby OG74.out g13 (fun j h1 h2 => by have q1 := pG.out j h1; have q2 := py.out j h2; (try simp only [World.size_alloc] at q1 q2); omega))
  clear OG74
  have Oc84 := Lib.hid (own_gby Oc75.out g13 (fun j h1 h2 => by have q1 := pc.out j h1; have q2 := py.out j h2; (try simp only [World.size_alloc] at q1 q2); omega))
  clear Oc75
  have Od85 := Lib.hid (own_gby Od76.out g13 (fun j h1 h2 => by have q1 := pd.out j h1; have q2 := py.out j h2; (try simp only [World.size_alloc] at q1 q2); omega))
  clear Od76
  have Oy86 := Lib.hid o13
  clear o13 Oy73
  go_wp2_with fail
  refine (eqIntS_any R R _ _ _ (own_sl OG83.out) (own_sl OW81.out)).mono ?_
  rintro e w14 ⟨rfl, b14⟩
  have B87 : Below w.heap.size w w14 := Below.via b14 B78
  have z87 := b14.size
  try simp only [World.size_alloc] at z87
  have Oa88 := Lib.hid (own_below Oa79.out b14)
  clear Oa79
  have Ob89 := Lib.hid (own_below Ob80.out b14)
  clear Ob80
  have OW90 := Lib.hid (own_below OW81.out b14)
  clear OW81
  have Ox91 := Lib.hid (own_below Ox82.out b14)
  clear Ox82
  have Oy92 := Lib.hid (own_below Oy86.out b14)
  clear Oy86
  have OG93 := Lib.hid (own_below OG83.out b14)
  clear OG83
  have Oc94 := Lib.hid (own_below Oc84.out b14)
  clear Oc84
  have Od95 := Lib.hid (own_below Od85.out b14)
  clear Od85
  go_wp2_with fail
  refine (markIntS_any R _ _ 1 _ OG93.out (by omega) (by omega) (by omega)).mono ?_
  rintro e w15 ⟨rfl, o15, g15⟩
  have B96 : Below w.heap.size w w15 := Below.grown B87 g15 (by have hz := B87.size; (try simp only [World.size_alloc] at hz ⊢); omega) (fun j hj => by have q := pG.out j hj; (try simp only [World.size_alloc] at q); omega)
  have z96 := g15.size
  try simp only [World.size_alloc] at z96
  have Oa97 := Lib.hid (own_gby Oa88.out g15 (fun j h1 h2 => by have q1 := pa.out j h1; have q2 := pG.out j h2; (try simp only [World.size_alloc] at q1 q2); omega))
  clear Oa88
  have Ob98 := Lib.hid (own_gby Ob89.out g15 (fun j h1 h2 => by have q1 := pb.out j h1; have q2 := pG.out j h2; (try simp only [World.size_alloc] at q1 q2); omega))
  clear Ob89
  have OW99 := Lib.hid (own_gby OW90.out g15 (fun j h1 h2 => by have q1 := pW.out j h1; have q2 := pG.out j h2; (try simp only [World.size_alloc] at q1 q2); omega))
  clear OW90
  have Ox100 := Lib.hid (own_gby Ox91.out g15 (fun j h1 h2 => by have q1 := px.out j h1; have q2 := pG.out j h2; (try simp only [World.size_alloc] at q1 q2); omega))
  clear Ox91
  have Oy101 := Lib.hid (own_gby Oy92.out g15 (fun j h1 h2 => by have q1 := py.out j h1; have q2 := pG.out j h2; (try simp only [World.size_alloc] at q1 q2); omega))
  clear Oy92
  have Oc102 := Lib.hid (own_gby Oc94.out g15 (fun j h1 h2 => by have q1 := pc.out j h1; have q2 := pG.out j h2; (try simp only [World.size_alloc] at q1 q2); omega))
  clear Oc94
  have Od103 := Lib.hid (own_gby Od95.out g15 (fun j h1 h2 => by have q1 := pd.out j h1; have q2 := pG.out j h2; (try simp only [World.size_alloc] at q1 q2); omega))
  clear Od95
  have OG104 := Lib.hid o15
  clear o15 OG93
  go_wp2_with fail
  refine (heldIntS_any R.length _ 1 _ (slI_up (own_sl OG104.out)) (by omega) (by omega) (by omega)).mono ?_
  rintro e w' ⟨rfl, rfl⟩
  go_wp2_with fail
  refine (toIntS_any ls _ _ (SlF.below H.out B96) (by omega)).mono ?_
  rintro e w16 ⟨u16, rfl, o16, b16⟩
  have B105 : Below w.heap.size w w16 := Below.via b16 B96
  have z105 := b16.size
  try simp only [World.size_alloc] at z105
  have Oa106 := Lib.hid (own_below Oa97.out b16)
  clear Oa97
  have Ob107 := Lib.hid (own_below Ob98.out b16)
  clear Ob98
  have OW108 := Lib.hid (own_below OW99.out b16)
  clear OW99
  have Ox109 := Lib.hid (own_below Ox100.out b16)
  clear Ox100
  have Oy110 := Lib.hid (own_below Oy101.out b16)
  clear Oy101
  have OG111 := Lib.hid (own_below OG104.out b16)
  clear OG104
  have Oc112 := Lib.hid (own_below Oc102.out b16)
  clear Oc102
  have Od113 := Lib.hid (own_below Od103.out b16)
  clear Od103
  have pz := Lib.hid (show ∀ j, Value.ownBlock u16 = some j → w15.heap.size ≤ j ∧ j < w16.heap.size from fun j hj => o16.lt j hj)
  have Oz114 := Lib.hid o16
  clear o16
  go_wp2_with fail
  refine (toDS_any ms v1 _ (SlF.below HM.out B105) (by omega)).mono ?_
  rintro e w17 ⟨u17, rfl, o17, b17⟩
  have B115 : Below w.heap.size w w17 := Below.via b17 B105
  have z115 := b17.size
  try simp only [World.size_alloc] at z115
  have Oa116 := Lib.hid (own_below Oa106.out b17)
  clear Oa106
  have Ob117 := Lib.hid (own_below Ob107.out b17)
  clear Ob107
  have OW118 := Lib.hid (own_below OW108.out b17)
  clear OW108
  have Ox119 := Lib.hid (own_below Ox109.out b17)
  clear Ox109
  have Oy120 := Lib.hid (own_below Oy110.out b17)
  clear Oy110
  have OG121 := Lib.hid (own_below OG111.out b17)
  clear OG111
  have Oc122 := Lib.hid (own_below Oc112.out b17)
  clear Oc112
  have Od123 := Lib.hid (own_below Od113.out b17)
  clear Od113
  have Oz124 := Lib.hid (own_below Oz114.out b17)
  clear Oz114
  have pq := Lib.hid (show ∀ j, Value.ownBlock u17 = some j → w16.heap.size ≤ j ∧ j < w17.heap.size from fun j hj => o17.lt j hj)
  have Oq125 := Lib.hid o17
  clear o17
  go_wp2_with fail
  refine (implIdle_any ls ms _ _ _ (own_sl Oz124.out) (own_sl Oq125.out)).mono ?_
  rintro e w18 ⟨u18, rfl, o18, b18⟩
  rw [← HR.out] at o18
  have B126 : Below w.heap.size w w18 := Below.via b18 B115
  have z126 := b18.size
  try simp only [World.size_alloc] at z126
  have Oa127 := Lib.hid (own_below Oa116.out b18)
  clear Oa116
  have Ob128 := Lib.hid (own_below Ob117.out b18)
  clear Ob117
  have OW129 := Lib.hid (own_below OW118.out b18)
  clear OW118
  have Ox130 := Lib.hid (own_below Ox119.out b18)
  clear Ox119
  have Oy131 := Lib.hid (own_below Oy120.out b18)
  clear Oy120
  have OG132 := Lib.hid (own_below OG121.out b18)
  clear OG121
  have Oc133 := Lib.hid (own_below Oc122.out b18)
  clear Oc122
  have Od134 := Lib.hid (own_below Od123.out b18)
  clear Od123
  have Oz135 := Lib.hid (own_below Oz124.out b18)
  clear Oz124
  have Oq136 := Lib.hid (own_below Oq125.out b18)
  clear Oq125
  have pJ := Lib.hid (show ∀ j, Value.ownBlock u18 = some j → w17.heap.size ≤ j ∧ j < w18.heap.size from fun j hj => o18.lt j hj)
  have OJ137 := Lib.hid o18
  clear o18
  go_wp2_with fail
  refine (eqIntS_any R R _ _ _ (own_sl OJ137.out) (own_sl OW129.out)).mono ?_
  rintro e w19 ⟨rfl, b19⟩
  have B138 : Below w.heap.size w w19 := Below.via b19 B126
  have z138 := b19.size
  try simp only [World.size_alloc] at z138
  have Oa139 := Lib.hid (own_below Oa127.out b19)
  clear Oa127
  have Ob140 := Lib.hid (own_below Ob128.out b19)
  clear Ob128
  have OW141 := Lib.hid (own_below OW129.out b19)
  clear OW129
  have Ox142 := Lib.hid (own_below Ox130.out b19)
  clear Ox130
  have Oy143 := Lib.hid (own_below Oy131.out b19)
  clear Oy131
  have OG144 := Lib.hid (own_below OG132.out b19)
  clear OG132
  have Oc145 := Lib.hid (own_below Oc133.out b19)
  clear Oc133
  have Od146 := Lib.hid (own_below Od134.out b19)
  clear Od134
  have Oz147 := Lib.hid (own_below Oz135.out b19)
  clear Oz135
  have Oq148 := Lib.hid (own_below Oq136.out b19)
  clear Oq136
  have OJ149 := Lib.hid (own_below OJ137.out b19)
  clear OJ137
  go_wp2_with fail
  refine (heldIntS_any R.length _ 1 _ (slI_up (own_sl OG144.out)) (by omega) (by omega) (by omega)).mono ?_
  rintro e w' ⟨rfl, rfl⟩
  go_wp2_with fail
  go_ret
  exact ⟨rfl, B138⟩
end Go.Proofs.Ytjmjpejkongipaa
