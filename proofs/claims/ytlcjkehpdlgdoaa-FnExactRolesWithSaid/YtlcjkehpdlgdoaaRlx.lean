/-
  The exact law on roles that a role has, walked: true for every input. No condition.
-/
import Derived.Test.YtlcjkehpdlgdoaaRlt
import Derived.Test.YtlcjkehpdlgdoaaRlk
import Derived.Test.YtlcjkehpdlgdoaaI
set_option linter.unusedSimpArgs false
set_option linter.unusedVariables false
namespace Go.Proofs.Ytlcjkehpdlgdoaa
open Go.RowKit
set_option maxRecDepth 100000 in
set_option maxHeartbeats 12800000 in
theorem exactRolesWith_walk (ds : List Rl) (v0 : Value) (n : Int) (w : World) (h : SlRl w v0 ds) : Calls Try.prog 9 #[v0, .int .i64 n] w fun e w' => e = .returned (.bool true) ∧ Below w.heap.size w w' := by
  have HM := Lib.hid h
  have HNM := Lib.hid (SlRl.nm h)
  clear h
  go_enter Try.func9, Try.ntmps9
  go_wp2_with fail
  refine (szRlS_any ds _ v0 _ HM.out (by omega) (by omega)).mono ?_
  rintro e w0 ⟨r, rfl, hr, b0⟩
  by_cases hneg : r < 0
  · go_wp2_with fail
    go_ret
    exact ⟨rfl, b0⟩
  have hsz : ds.length + szRl ds ds.length ≤ 1048576 := by omega
  have hszx := szX_rl ds ds.length (Nat.le_refl _)
  have HX := Lib.hid (fun i (hi : i < ds.length) => Nat.le_trans (Nat.le_trans (Nat.le_add_left _ _) (szRl_el ds i hi)) (show szRl ds ds.length ≤ 1048576 by omega))
  have zb0 := b0.size
  clear hr
  obtain ⟨R, hR⟩ : ∃ R, R = withR ds n := ⟨_, rfl⟩
  have hRl : R.length ≤ 8 := by rw [hR]; exact withR_len ds n
  have HR := Lib.hid hR
  clear hR
  have hk0 : decide ((1 : Int) + ((szX ds ds.length : Nat) : Int) + ((ds.length : Nat) : Int) + ((ds.length : Nat) : Int) < 0) = false := by simp; omega
  go_wp2_with fail
  refine (toRlS_own ds v0 _ (SlRl.below HM.out b0) (by omega) HX.out).mono ?_
  rintro e w1 ⟨rfl, o1, b1⟩
  have B1 : Below w.heap.size w w1 := Below.via b1 b0
  have z1 := b1.size
  try simp only [World.size_alloc] at z1
  have MVa1 := Lib.hid o1
  clear o1
  go_wp2_with fail
  refine (specRolesWith_any ds n _ _ (RlsAt.sl MVa1.out (by omega) HNM.out) (by omega)).mono ?_
  rintro e w2 ⟨u2, rfl, o2, b2⟩
  rw [← HR.out] at o2
  have B2 : Below w.heap.size w w2 := Below.via b2 B1
  have z2 := b2.size
  try simp only [World.size_alloc] at z2
  have MVa2 := Lib.hid (RlsAt.below MVa1.out b2)
  clear MVa1
  have pW := Lib.hid (show ∀ j, Value.ownBlock u2 = some j → w1.heap.size ≤ j ∧ j < w2.heap.size from fun j hj => o2.lt j hj)
  have OW3 := Lib.hid o2
  clear o2
  clear MVa2
  go_wp2_with fail
  refine (toRlS_own ds v0 _ (SlRl.below HM.out B2) (by omega) HX.out).mono ?_
  rintro e w3 ⟨rfl, o3, b3⟩
  have B4 : Below w.heap.size w w3 := Below.via b3 B2
  have z4 := b3.size
  try simp only [World.size_alloc] at z4
  have OW5 := Lib.hid (own_below OW3.out b3)
  clear OW3
  have MVx3 := Lib.hid o3
  clear o3
  have hbh : w2.heap.size < w3.heap.size := by obtain ⟨A_, k_, _⟩ := MVx3.out; exact k_.lt
  go_wp2_with fail
  refine (implRolesWith_any ds n _ _ (RlsAt.sl MVx3.out (by omega) HNM.out) (by omega)).mono ?_
  rintro e w4 ⟨u4, rfl, o4, b4⟩
  rw [← HR.out] at o4
  have B6 : Below w.heap.size w w4 := Below.via b4 B4
  have z6 := b4.size
  try simp only [World.size_alloc] at z6
  have OW7 := Lib.hid (own_below OW5.out b4)
  clear OW5
  have MVx4 := Lib.hid (RlsAt.below MVx3.out b4)
  clear MVx3
  have pG := Lib.hid (show ∀ j, Value.ownBlock u4 = some j → w3.heap.size ≤ j ∧ j < w4.heap.size from fun j hj => o4.lt j hj)
  have OG8 := Lib.hid o4
  clear o4
  go_wp2_with fail
  refine (eqIntS_any R R _ _ _ (own_sl OG8.out) (own_sl OW7.out)).mono ?_
  rintro e w5 ⟨rfl, b5⟩
  have B9 : Below w.heap.size w w5 := Below.via b5 B6
  have z9 := b5.size
  try simp only [World.size_alloc] at z9
  have OW10 := Lib.hid (own_below OW7.out b5)
  clear OW7
  have OG11 := Lib.hid (own_below OG8.out b5)
  clear OG8
  have MVx5 := Lib.hid (RlsAt.below MVx4.out b5)
  clear MVx4
  go_wp2_with fail
  refine (toRlS_own ds v0 _ (SlRl.below HM.out B9) (by omega) HX.out).mono ?_
  rintro e w6 ⟨rfl, o6, b6⟩
  have B12 : Below w.heap.size w w6 := Below.via b6 B9
  have z12 := b6.size
  try simp only [World.size_alloc] at z12
  have OW13 := Lib.hid (own_below OW10.out b6)
  clear OW10
  have OG14 := Lib.hid (own_below OG11.out b6)
  clear OG11
  have MVx6 := Lib.hid (RlsAt.below MVx5.out b6)
  clear MVx5
  have MVc6 := Lib.hid o6
  clear o6
  go_wp2_with fail
  refine (eqRlS_same ds _ _ _ (RlsAt.sl MVx6.out (by omega) HNM.out) (RlsAt.sl MVc6.out (by omega) HNM.out)).mono ?_
  rintro e w7 ⟨rfl, b7⟩
  have B15 : Below w.heap.size w w7 := Below.via b7 B12
  have z15 := b7.size
  try simp only [World.size_alloc] at z15
  have OW16 := Lib.hid (own_below OW13.out b7)
  clear OW13
  have OG17 := Lib.hid (own_below OG14.out b7)
  clear OG14
  have MVx7 := Lib.hid (RlsAt.below MVx6.out b7)
  clear MVx6
  have MVc7 := Lib.hid (RlsAt.below MVc6.out b7)
  clear MVc6
  clear MVc7
  go_wp2_with fail
  refine (markRlS_any ds _ w3.heap.size _ _ MVx7.out hbh (by omega) (by omega) (by omega)).mono ?_
  rintro e w8 ⟨rfl, g8⟩
  have zb18 : w.heap.size ≤ w2.heap.size := by omega
  have B18 : Below w.heap.size w w8 := Grow.below g8 B15 (fun j hj => by (try dsimp only at hj); omega)
  have z18 := g8.size
  have OW19 := Lib.hid (own_grow OW16.out g8 (fun j h1 h2 => by have q1 := pW.out j h1; (try dsimp only at h2); omega))
  clear OW16
  have OG20 := Lib.hid (own_grow OG17.out g8 (fun j h1 h2 => by have q1 := pG.out j h1; (try dsimp only at h2); omega))
  clear OG17
  go_wp2_with fail
  refine (eqIntS_any R R _ _ _ (own_sl OG20.out) (own_sl OW19.out)).mono ?_
  rintro e w9 ⟨rfl, b9⟩
  have B21 : Below w.heap.size w w9 := Below.via b9 B18
  have z21 := b9.size
  try simp only [World.size_alloc] at z21
  have OW22 := Lib.hid (own_below OW19.out b9)
  clear OW19
  have OG23 := Lib.hid (own_below OG20.out b9)
  clear OG20
  go_wp2_with fail
  refine (markIntS_any R _ _ 1 _ OG23.out (by omega) (by omega) (by omega)).mono ?_
  rintro e w10 ⟨rfl, o10, g10⟩
  have B24 : Below w.heap.size w w10 := Below.grown B21 g10 (by have hz := B21.size; (try simp only [World.size_alloc] at hz ⊢); omega) (fun j hj => by have q := pG.out j hj; (try simp only [World.size_alloc] at q); omega)
  have z24 := g10.size
  try simp only [World.size_alloc] at z24
  have OW25 := Lib.hid (own_gby OW22.out g10 (fun j h1 h2 => by have q1 := pW.out j h1; have q2 := pG.out j h2; (try simp only [World.size_alloc] at q1 q2); omega))
  clear OW22
  have OG26 := Lib.hid o10
  clear o10 OG23
  go_wp2_with fail
  refine (heldIntS_any R.length _ 1 _ (slI_up (own_sl OG26.out)) (by omega) (by omega) (by omega)).mono ?_
  rintro e w' ⟨rfl, rfl⟩
  go_wp2_with fail
  refine (toRlS_own ds v0 _ (SlRl.below HM.out B24) (by omega) HX.out).mono ?_
  rintro e w11 ⟨rfl, o11, b11⟩
  have B27 : Below w.heap.size w w11 := Below.via b11 B24
  have z27 := b11.size
  try simp only [World.size_alloc] at z27
  have OW28 := Lib.hid (own_below OW25.out b11)
  clear OW25
  have OG29 := Lib.hid (own_below OG26.out b11)
  clear OG26
  have MVz11 := Lib.hid o11
  clear o11
  go_wp2_with fail
  refine (implRolesWith_any ds n _ _ (RlsAt.sl MVz11.out (by omega) HNM.out) (by omega)).mono ?_
  rintro e w12 ⟨u12, rfl, o12, b12⟩
  rw [← HR.out] at o12
  have B30 : Below w.heap.size w w12 := Below.via b12 B27
  have z30 := b12.size
  try simp only [World.size_alloc] at z30
  have OW31 := Lib.hid (own_below OW28.out b12)
  clear OW28
  have OG32 := Lib.hid (own_below OG29.out b12)
  clear OG29
  have MVz12 := Lib.hid (RlsAt.below MVz11.out b12)
  clear MVz11
  have pJ := Lib.hid (show ∀ j, Value.ownBlock u12 = some j → w11.heap.size ≤ j ∧ j < w12.heap.size from fun j hj => o12.lt j hj)
  have OJ33 := Lib.hid o12
  clear o12
  clear MVz12
  go_wp2_with fail
  refine (eqIntS_any R R _ _ _ (own_sl OJ33.out) (own_sl OW31.out)).mono ?_
  rintro e w13 ⟨rfl, b13⟩
  have B34 : Below w.heap.size w w13 := Below.via b13 B30
  have z34 := b13.size
  try simp only [World.size_alloc] at z34
  have OW35 := Lib.hid (own_below OW31.out b13)
  clear OW31
  have OG36 := Lib.hid (own_below OG32.out b13)
  clear OG32
  have OJ37 := Lib.hid (own_below OJ33.out b13)
  clear OJ33
  go_wp2_with fail
  refine (heldIntS_any R.length _ 1 _ (slI_up (own_sl OG36.out)) (by omega) (by omega) (by omega)).mono ?_
  rintro e w' ⟨rfl, rfl⟩
  go_wp2_with fail
  go_ret
  exact ⟨rfl, B34⟩
end Go.Proofs.Ytlcjkehpdlgdoaa
