/-
  The exact law on acts at a time, walked: true for every input. No condition.
-/
import Derived.Test.YtlcjkehpdlgdoaaRlm
import Derived.Test.YtlcjkehpdlgdoaaRlk
import Derived.Test.YtlcjkehpdlgdoaaI
set_option linter.unusedSimpArgs false
set_option linter.unusedVariables false
namespace Go.Proofs.Ytlcjkehpdlgdoaa
open Go.RowKit
set_option maxRecDepth 100000 in
set_option maxHeartbeats 12800000 in
theorem exactActsAt_walk (ds : List Rl) (v0 : Value) (gs : List Gra) (v1 : Value) (who now : Int) (w : World) (h : SlRl w v0 ds) (hg : SlG w v1 gs) : Calls Try.prog 12 #[v0, v1, .int .i64 who, .int .i64 now] w fun e w' => e = .returned (.bool true) ∧ Below w.heap.size w w' := by
  have HM := Lib.hid h
  have HG := Lib.hid hg
  have HNM := Lib.hid (SlRl.nm h)
  have heq := eqGs_refl gs
  clear h hg
  go_enter Try.func12, Try.ntmps12
  go_wp2_with fail
  refine (szRlS_any ds _ v0 _ HM.out (by omega) (by omega)).mono ?_
  rintro e w0 ⟨r, rfl, hr, b0⟩
  by_cases hneg : r < 0
  · go_wp2_with fail
    go_ret
    exact ⟨rfl, b0⟩
  have hsz : ds.length + szRl ds ds.length ≤ 1048576 := by omega
  have hr0 : 0 ≤ r := by omega
  have hr1 : r ≤ 1048576 := by omega
  have HX := Lib.hid (fun i (hi : i < ds.length) => Nat.le_trans (Nat.le_trans (Nat.le_add_left _ _) (szRl_el ds i hi)) (show szRl ds ds.length ≤ 1048576 by omega))
  have zb0 := b0.size
  clear hr
  by_cases hg2 : r < gs.length
  · go_wp2_with fail
    refine (szGS_any gs r v1 _ (SlF.below HG.out b0) hr0 hr1).mono ?_
    rintro e w' ⟨rfl, rfl⟩
    rw [if_pos (by omega)]
    go_wp2_with fail
    go_ret
    exact ⟨rfl, b0⟩
  have hleG : (0 : Int) ≤ r - gs.length := by omega
  have hlenG : gs.length ≤ 1048576 := by omega
  have hn0 : decide (r - (gs.length : Int) < 0) = false := by simp; omega
  go_wp2_with fail
  refine (szGS_any gs r v1 _ (SlF.below HG.out b0) hr0 hr1).mono ?_
  rintro e w' ⟨rfl, rfl⟩
  rw [if_neg (by omega)]
  go_wp2_with fail
  refine (toRlS_own ds v0 _ (SlRl.below HM.out b0) (by omega) HX.out).mono ?_
  rintro e w1 ⟨rfl, o1, b1⟩
  have B1 : Below w.heap.size w w1 := Below.via b1 b0
  have z1 := b1.size
  try simp only [World.size_alloc] at z1
  have MVa1 := Lib.hid o1
  clear o1
  go_wp2_with fail
  refine (toGS_any gs v1 _ (SlF.below HG.out B1) (by omega)).mono ?_
  rintro e w2 ⟨u2, rfl, o2, b2⟩
  have B2 : Below w.heap.size w w2 := Below.via b2 B1
  have z2 := b2.size
  try simp only [World.size_alloc] at z2
  have MVa2 := Lib.hid (RlsAt.below MVa1.out b2)
  clear MVa1
  have pp := Lib.hid (show ∀ j, Value.ownBlock u2 = some j → w1.heap.size ≤ j ∧ j < w2.heap.size from fun j hj => o2.lt j hj)
  have Op3 := Lib.hid o2
  clear o2
  go_wp2_with fail
  refine (specActsAt_any ds gs who now _ _ _ (RlsAt.sl MVa2.out (by omega) HNM.out) (own_sl Op3.out) (by omega)).mono ?_
  rintro e w3 ⟨rfl, b3⟩
  have B4 : Below w.heap.size w w3 := Below.via b3 B2
  have z4 := b3.size
  try simp only [World.size_alloc] at z4
  have Op5 := Lib.hid (own_below Op3.out b3)
  clear Op3
  have MVa3 := Lib.hid (RlsAt.below MVa2.out b3)
  clear MVa2
  clear MVa3
  go_wp2_with fail
  refine (toRlS_own ds v0 _ (SlRl.below HM.out B4) (by omega) HX.out).mono ?_
  rintro e w4 ⟨rfl, o4, b4⟩
  have B6 : Below w.heap.size w w4 := Below.via b4 B4
  have z6 := b4.size
  try simp only [World.size_alloc] at z6
  have Op7 := Lib.hid (own_below Op5.out b4)
  clear Op5
  have MVx4 := Lib.hid o4
  clear o4
  go_wp2_with fail
  refine (toGS_any gs v1 _ (SlF.below HG.out B6) (by omega)).mono ?_
  rintro e w5 ⟨u5, rfl, o5, b5⟩
  have B8 : Below w.heap.size w w5 := Below.via b5 B6
  have z8 := b5.size
  try simp only [World.size_alloc] at z8
  have Op9 := Lib.hid (own_below Op7.out b5)
  clear Op7
  have MVx5 := Lib.hid (RlsAt.below MVx4.out b5)
  clear MVx4
  have py := Lib.hid (show ∀ j, Value.ownBlock u5 = some j → w4.heap.size ≤ j ∧ j < w5.heap.size from fun j hj => o5.lt j hj)
  have Oy10 := Lib.hid o5
  clear o5
  go_wp2_with fail
  refine (implActsAt_any ds gs who now _ _ _ (RlsAt.sl MVx5.out (by omega) HNM.out) (own_sl Oy10.out) (by omega)).mono ?_
  rintro e w6 ⟨rfl, b6⟩
  have B11 : Below w.heap.size w w6 := Below.via b6 B8
  have z11 := b6.size
  try simp only [World.size_alloc] at z11
  have Op12 := Lib.hid (own_below Op9.out b6)
  clear Op9
  have Oy13 := Lib.hid (own_below Oy10.out b6)
  clear Oy10
  have MVx6 := Lib.hid (RlsAt.below MVx5.out b6)
  clear MVx5
  generalize actsAt ds gs who now = R
  have hRR : (R != R) = false := by simp
  go_wp2_with fail
  refine (toRlS_own ds v0 _ (SlRl.below HM.out B11) (by omega) HX.out).mono ?_
  rintro e w7 ⟨rfl, o7, b7⟩
  have B14 : Below w.heap.size w w7 := Below.via b7 B11
  have z14 := b7.size
  try simp only [World.size_alloc] at z14
  have Op15 := Lib.hid (own_below Op12.out b7)
  clear Op12
  have Oy16 := Lib.hid (own_below Oy13.out b7)
  clear Oy13
  have MVx7 := Lib.hid (RlsAt.below MVx6.out b7)
  clear MVx6
  have MVc7 := Lib.hid o7
  clear o7
  go_wp2_with fail
  refine (eqRlS_same ds _ _ _ (RlsAt.sl MVx7.out (by omega) HNM.out) (RlsAt.sl MVc7.out (by omega) HNM.out)).mono ?_
  rintro e w8 ⟨rfl, b8⟩
  have B17 : Below w.heap.size w w8 := Below.via b8 B14
  have z17 := b8.size
  try simp only [World.size_alloc] at z17
  have Op18 := Lib.hid (own_below Op15.out b8)
  clear Op15
  have Oy19 := Lib.hid (own_below Oy16.out b8)
  clear Oy16
  have MVx8 := Lib.hid (RlsAt.below MVx7.out b8)
  clear MVx7
  have MVc8 := Lib.hid (RlsAt.below MVc7.out b8)
  clear MVc7
  go_wp2_with fail
  refine (toGS_any gs v1 _ (SlF.below HG.out B17) (by omega)).mono ?_
  rintro e w9 ⟨u9, rfl, o9, b9⟩
  have B20 : Below w.heap.size w w9 := Below.via b9 B17
  have z20 := b9.size
  try simp only [World.size_alloc] at z20
  have Op21 := Lib.hid (own_below Op18.out b9)
  clear Op18
  have Oy22 := Lib.hid (own_below Oy19.out b9)
  clear Oy19
  have MVx9 := Lib.hid (RlsAt.below MVx8.out b9)
  clear MVx8
  have MVc9 := Lib.hid (RlsAt.below MVc8.out b9)
  clear MVc8
  have pq := Lib.hid (show ∀ j, Value.ownBlock u9 = some j → w8.heap.size ≤ j ∧ j < w9.heap.size from fun j hj => o9.lt j hj)
  have Oq23 := Lib.hid o9
  clear o9
  go_wp2_with fail
  refine (eqGS_any gs gs _ _ _ (own_sl Oy22.out) (own_sl Oq23.out)).mono ?_
  rintro e w10 ⟨rfl, b10⟩
  rw [heq]
  have B24 : Below w.heap.size w w10 := Below.via b10 B20
  have z24 := b10.size
  try simp only [World.size_alloc] at z24
  have Op25 := Lib.hid (own_below Op21.out b10)
  clear Op21
  have Oy26 := Lib.hid (own_below Oy22.out b10)
  clear Oy22
  have Oq27 := Lib.hid (own_below Oq23.out b10)
  clear Oq23
  have MVx10 := Lib.hid (RlsAt.below MVx9.out b10)
  clear MVx9
  have MVc10 := Lib.hid (RlsAt.below MVc9.out b10)
  clear MVc9
  go_wp2_with fail
  go_ret
  exact ⟨rfl, B24⟩
end Go.Proofs.Ytlcjkehpdlgdoaa
