/-
  The exact law on acts of roles, walked: true for every input. No condition.
-/
import Derived.Test.YtlcjkehpdlgdoaaRla
import Derived.Test.YtlcjkehpdlgdoaaRlk
import Derived.Test.YtlcjkehpdlgdoaaI
set_option linter.unusedSimpArgs false
set_option linter.unusedVariables false
namespace Go.Proofs.Ytlcjkehpdlgdoaa
open Go.RowKit
set_option maxRecDepth 100000 in
set_option maxHeartbeats 12800000 in
theorem exactRoleActs_walk (ds : List Rl) (v0 : Value) (n : Int) (w : World) (h : SlRl w v0 ds) : Calls Try.prog 10 #[v0, .int .i64 n] w fun e w' => e = .returned (.bool true) ∧ Below w.heap.size w w' := by
  have HM := Lib.hid h
  have HNM := Lib.hid (SlRl.nm h)
  clear h
  go_enter Try.func10, Try.ntmps10
  go_wp2_with fail
  refine (szRlS_any ds _ v0 _ HM.out (by omega) (by omega)).mono ?_
  rintro e w0 ⟨r, rfl, hr, b0⟩
  by_cases hneg : r < 0
  · go_wp2_with fail
    go_ret
    exact ⟨rfl, b0⟩
  have hsz : ds.length + szRl ds ds.length ≤ 1048576 := by omega
  have hszx := szX_rl ds ds.length (Nat.le_refl _)
  have HX := Lib.hid (fun i (hi : i < ds.length) => Nat.le_trans (Nat.le_trans (Nat.le_add_left _ _) (szRl_el ds i hi)) (show szRl ds ds.length ≤ 1048576 by omega))
  have zb0 := b0.size
  clear hr
  go_wp2_with fail
  refine (toRlS_own ds v0 _ (SlRl.below HM.out b0) (by omega) HX.out).mono ?_
  rintro e w1 ⟨rfl, o1, b1⟩
  have B1 : Below w.heap.size w w1 := Below.via b1 b0
  have z1 := b1.size
  try simp only [World.size_alloc] at z1
  have MVa1 := Lib.hid o1
  clear o1
  go_wp2_with fail
  refine (specRoleActs_any ds n _ _ (RlsAt.sl MVa1.out (by omega) HNM.out) (by omega)).mono ?_
  rintro e w2 ⟨rfl, b2⟩
  have B2 : Below w.heap.size w w2 := Below.via b2 B1
  have z2 := b2.size
  try simp only [World.size_alloc] at z2
  have MVa2 := Lib.hid (RlsAt.below MVa1.out b2)
  clear MVa1
  clear MVa2
  go_wp2_with fail
  refine (toRlS_own ds v0 _ (SlRl.below HM.out B2) (by omega) HX.out).mono ?_
  rintro e w3 ⟨rfl, o3, b3⟩
  have B3 : Below w.heap.size w w3 := Below.via b3 B2
  have z3 := b3.size
  try simp only [World.size_alloc] at z3
  have MVx3 := Lib.hid o3
  clear o3
  go_wp2_with fail
  refine (implRoleActs_any ds n _ _ (RlsAt.sl MVx3.out (by omega) HNM.out) (by omega)).mono ?_
  rintro e w4 ⟨rfl, b4⟩
  have B4 : Below w.heap.size w w4 := Below.via b4 B3
  have z4 := b4.size
  try simp only [World.size_alloc] at z4
  have MVx4 := Lib.hid (RlsAt.below MVx3.out b4)
  clear MVx3
  generalize actsR ds n = R
  have hRR : (R != R) = false := by simp
  go_wp2_with fail
  refine (toRlS_own ds v0 _ (SlRl.below HM.out B4) (by omega) HX.out).mono ?_
  rintro e w5 ⟨rfl, o5, b5⟩
  have B5 : Below w.heap.size w w5 := Below.via b5 B4
  have z5 := b5.size
  try simp only [World.size_alloc] at z5
  have MVx5 := Lib.hid (RlsAt.below MVx4.out b5)
  clear MVx4
  have MVc5 := Lib.hid o5
  clear o5
  go_wp2_with fail
  refine (eqRlS_same ds _ _ _ (RlsAt.sl MVx5.out (by omega) HNM.out) (RlsAt.sl MVc5.out (by omega) HNM.out)).mono ?_
  rintro e w6 ⟨rfl, b6⟩
  have B6 : Below w.heap.size w w6 := Below.via b6 B5
  have z6 := b6.size
  try simp only [World.size_alloc] at z6
  have MVx6 := Lib.hid (RlsAt.below MVx5.out b6)
  clear MVx5
  have MVc6 := Lib.hid (RlsAt.below MVc5.out b6)
  clear MVc5
  go_wp2_with fail
  go_ret
  exact ⟨rfl, B6⟩
end Go.Proofs.Ytlcjkehpdlgdoaa
