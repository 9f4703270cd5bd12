/-
  The exact law on valid moves, walked: true for every input. Condition: the moves can be read.
-/
import Derived.Test.YtfghgpdhcpcoiaaJm
set_option linter.unusedSimpArgs false
set_option linter.unusedVariables false
namespace Go.Proofs.Ytfghgpdhcpcoiaa
open Go.RowKit
set_option maxRecDepth 100000 in
set_option maxHeartbeats 6400000 in
theorem exactMovesValid_walk (many : Int) (ds : List Mv) (v : Value) (w : World) (h : SlM w v ds) : Calls Try.prog 3 #[.int .i64 many, v] w fun e w' => e = .returned (.bool true) ∧ Below w.heap.size w w' := by
  obtain ⟨a, cap, rfl, h1, h2⟩ := SlM.shape h
  unfold maxLen at h2
  have H := Lib.hid h
  clear h
  have HI := fun v wx h => implMvValid_any many ds v wx h
  simp only [mvValid_eq] at HI
  have HS := fun v wx h => specMvValid_any many ds v wx h
  generalize mvValidS many ds = R at HI HS
  have hnb : (R != R) = false := by simp
  go_enter Try.func3, Try.ntmps3
  go_wp2_with fail
  refine (szMoS_any ds 1048576 _ _ H.out (by omega) (by omega)).mono ?_
  rintro e w1 ⟨r, rfl, hr, b1⟩
  rcases hr with ⟨hr0, hr1⟩ | ⟨hr0, hr1⟩
  · have hn : decide (r < 0) = true := by simpa using hr0
    go_wp2_with fail
    go_ret
    exact ⟨rfl, b1⟩
  · have hn : decide (r < 0) = false := by simpa using hr0
    have hlen : ds.length ≤ 1048576 := by omega
    have HX := Lib.hid (show ∀ i (hi : i < ds.length), ds[i].xs.length ≤ 1048576 from fun i hi => by have := szM_el ds i hi; omega)
    clear hr1
    go_wp2_with fail
    refine (toMoS_any ds _ _ (SlM.below H.out b1) hlen HX.out).mono ?_
    rintro e w2 ⟨u2, rfl, o2, b2⟩
    obtain ⟨a2, c2, rfl, _, hc2⟩ := SlM.shape o2
    unfold maxLen at hc2
    have B1 : Below w.heap.size w w2 := Below.via b2 b1
    have z1 := b2.size
    try simp only [World.size_alloc] at z1
    have Rx2 := Lib.hid o2
    clear o2
    go_wp2_with fail
    refine (HS _ _ Rx2.out).mono ?_
    rintro e w3 ⟨rfl, b3⟩
    have Rx4 := Lib.hid (SlM.below Rx2.out b3)
    clear Rx2
    have B3 : Below w.heap.size w w3 := Below.via b3 B1
    have z3 := b3.size
    try simp only [World.size_alloc] at z3
    go_wp2_with fail
    refine (toMoS_any ds _ _ (SlM.below H.out B3) hlen HX.out).mono ?_
    rintro e w4 ⟨u4, rfl, o4, b4⟩
    obtain ⟨a4, c4, rfl, _, hc4⟩ := SlM.shape o4
    unfold maxLen at hc4
    have Rx6 := Lib.hid (SlM.below Rx4.out b4)
    clear Rx4
    have B5 : Below w.heap.size w w4 := Below.via b4 B3
    have z5 := b4.size
    try simp only [World.size_alloc] at z5
    have Ry7 := Lib.hid o4
    clear o4
    go_wp2_with fail
    refine (HI _ _ Ry7.out).mono ?_
    rintro e w5 ⟨rfl, b5⟩
    have Rx9 := Lib.hid (SlM.below Rx6.out b5)
    clear Rx6
    have Ry10 := Lib.hid (SlM.below Ry7.out b5)
    clear Ry7
    have B8 : Below w.heap.size w w5 := Below.via b5 B5
    have z8 := b5.size
    try simp only [World.size_alloc] at z8
    go_wp2_with fail
    refine (toMoS_any ds _ _ (SlM.below H.out B8) hlen HX.out).mono ?_
    rintro e w6 ⟨u6, rfl, o6, b6⟩
    obtain ⟨a6, c6, rfl, _, hc6⟩ := SlM.shape o6
    unfold maxLen at hc6
    have Rx12 := Lib.hid (SlM.below Rx9.out b6)
    clear Rx9
    have Ry13 := Lib.hid (SlM.below Ry10.out b6)
    clear Ry10
    have B11 : Below w.heap.size w w6 := Below.via b6 B8
    have z11 := b6.size
    try simp only [World.size_alloc] at z11
    have Rz14 := Lib.hid o6
    clear o6
    go_wp2_with fail
    refine (eqMoS_same ds _ _ _ Ry13.out Rz14.out).mono ?_
    rintro e w7 ⟨rfl, b7⟩
    have Rx16 := Lib.hid (SlM.below Rx12.out b7)
    clear Rx12
    have Ry17 := Lib.hid (SlM.below Ry13.out b7)
    clear Ry13
    have Rz18 := Lib.hid (SlM.below Rz14.out b7)
    clear Rz14
    have B15 : Below w.heap.size w w7 := Below.via b7 B11
    have z15 := b7.size
    try simp only [World.size_alloc] at z15
    go_wp2_with fail
    go_ret
    exact ⟨rfl, B15⟩
end Go.Proofs.Ytfghgpdhcpcoiaa
