/-
  FnExactEndGrants, walked: true for every input. No condition.
-/
import Derived.Test.YtlcjkehpdlgdoaaGe
set_option linter.unusedSimpArgs false
set_option linter.unusedVariables false
namespace Go.Proofs.Ytlcjkehpdlgdoaa
open Go.RowKit
set_option maxRecDepth 100000 in
set_option maxHeartbeats 6400000 in
theorem exactEndGrants_walk (many : Int) (ds : List Gra) (v1 : Value) (who : Int) (now : Int) (w : World) (h1 : SlG w v1 ds) : Calls Try.prog 7 #[.int .i64 many, v1, .int .i64 who, .int .i64 now] w fun e w' => e = .returned (.bool true) ∧ Below w.heap.size w w' := by
  have H1 := Lib.hid h1
  clear h1
  by_cases hl1 : (1048576 : Int) < ds.length
  · go_enter Try.func7, Try.ntmps7
    go_wp2_with fail
    refine (szGS_any ds _ v1 _ H1.out (by omega) (by omega)).mono ?_
    rintro e w' ⟨rfl, rfl⟩
    rw [if_pos (by omega)]
    go_wp2_with fail
    go_ret
    exact ⟨rfl, Below.refl _ _⟩
  · have hlen1 : ds.length ≤ 1048576 := by omega
    have hle1 : (0 : Int) ≤ 1048576 - ds.length := by omega
    have heq1 := eqGs_refl ds
    obtain ⟨R, hR⟩ : ∃ R, R = endGrants many ds who now := ⟨_, rfl⟩
    have hRl : R.length ≤ 12 := by rw [hR]; exact endGrants_len many ds who now
    have HR := Lib.hid hR
    clear hR
    have heqr := eqGs_refl R
    go_enter Try.func7, Try.ntmps7
    go_wp2_with fail
    refine (szGS_any ds _ v1 _ H1.out (by omega) (by omega)).mono ?_
    rintro e w' ⟨rfl, rfl⟩
    rw [if_neg (by omega)]
    go_wp2_with fail
    refine (toGS_any ds v1 _ H1.out (by omega)).mono ?_
    rintro e w1 ⟨ua1, rfl, o1, b1⟩
    have bb1 : Below w.heap.size w w1 := Below.via b1 (Below.refl _ _)
    have z1 := b1.size
    have Oa1 := Lib.hid o1
    have pa1 := Lib.hid (show ∀ j, Value.ownBlock ua1 = some j → w.heap.size ≤ j ∧ j < w1.heap.size from fun j hj => o1.lt j hj)
    clear o1
    go_wp2_with fail
    refine (specEndGrants_any many ds who now ua1 _ (own_sl Oa1.out)).mono ?_
    rintro e w2 ⟨uW, rfl, o2, b2⟩
    rw [← HR.out] at o2
    have bb2 : Below w.heap.size w w2 := Below.via b2 bb1
    have z2 := b2.size
    have OW := Lib.hid o2
    have pW := Lib.hid (show ∀ j, Value.ownBlock uW = some j → w1.heap.size ≤ j ∧ j < w2.heap.size from fun j hj => o2.lt j hj)
    clear o2
    go_wp2_with fail
    refine (toGS_any ds v1 _ (SlF.below H1.out bb2) (by omega)).mono ?_
    rintro e w3 ⟨ux1, rfl, o3, b3⟩
    have bb3 : Below w.heap.size w w3 := Below.via b3 bb2
    have z3 := b3.size
    have Ox1 := Lib.hid o3
    have px1 := Lib.hid (show ∀ j, Value.ownBlock ux1 = some j → w2.heap.size ≤ j ∧ j < w3.heap.size from fun j hj => o3.lt j hj)
    clear o3
    go_wp2_with fail
    refine (implEndGrants_any many ds who now ux1 _ (own_sl Ox1.out)).mono ?_
    rintro e w4 ⟨uG, rfl, o4, b4⟩
    rw [← HR.out] at o4
    have bb4 : Below w.heap.size w w4 := Below.via b4 bb3
    have z4 := b4.size
    have OG := Lib.hid o4
    have pG := Lib.hid (show ∀ j, Value.ownBlock uG = some j → w3.heap.size ≤ j ∧ j < w4.heap.size from fun j hj => o4.lt j hj)
    clear o4
    go_wp2_with fail
    refine (eqGS_any R R uG uW _ (own_sl OG.out) (own_sl (own_below (own_below OW.out b3) b4))).mono ?_
    rintro e w5 ⟨rfl, b5⟩
    have bb5 : Below w.heap.size w w5 := Below.via b5 bb4
    have z5 := b5.size
    go_wp2_with fail
    refine (toGS_any ds v1 _ (SlF.below H1.out bb5) (by omega)).mono ?_
    rintro e w6 ⟨uy1, rfl, o6, b6⟩
    have bb6 : Below w.heap.size w w6 := Below.via b6 bb5
    have z6 := b6.size
    have Oy1 := Lib.hid o6
    have py1 := Lib.hid (show ∀ j, Value.ownBlock uy1 = some j → w5.heap.size ≤ j ∧ j < w6.heap.size from fun j hj => o6.lt j hj)
    clear o6
    go_wp2_with fail
    refine (eqGS_any ds ds ux1 uy1 _ (own_sl (own_below (own_below (own_below Ox1.out b4) b5) b6)) (own_sl Oy1.out)).mono ?_
    rintro e w7 ⟨rfl, b7⟩
    have bb7 : Below w.heap.size w w7 := Below.via b7 bb6
    have z7 := b7.size
    go_wp2_with fail
    refine (markGS_any ds ux1 w2.heap.size 1 _ (own_below (own_below (own_below (own_below Ox1.out b4) b5) b6) b7) (by omega) (by omega) (by omega)).mono ?_
    rintro e w8 ⟨rfl, o8, g8⟩
    have bb8 : Below w.heap.size w w8 := Below.grown bb7 g8 (by omega) (fun j hj => by have q := px1.out j hj; omega)
    have z8 := g8.size
    have Ox1_8 := Lib.hid o8
    clear o8
    go_wp2_with fail
    refine (eqGS_any R R uG uW _ (own_sl (own_gby (own_below (own_below (own_below OG.out b5) b6) b7) g8 (fun j h1 h2 => by have q1 := pG.out j h1; have q2 := px1.out j h2; omega))) (own_sl (own_gby (own_below (own_below (own_below (own_below (own_below OW.out b3) b4) b5) b6) b7) g8 (fun j h1 h2 => by have q1 := pW.out j h1; have q2 := px1.out j h2; omega)))).mono ?_
    rintro e w9 ⟨rfl, b9⟩
    have bb9 : Below w.heap.size w w9 := Below.via b9 bb8
    have z9 := b9.size
    go_wp2_with fail
    refine (markGS_any R uG w3.heap.size 1 _ (own_below (own_gby (own_below (own_below (own_below OG.out b5) b6) b7) g8 (fun j h1 h2 => by have q1 := pG.out j h1; have q2 := px1.out j h2; omega)) b9) (by omega) (by omega) (by omega)).mono ?_
    rintro e w10 ⟨rfl, o10, g10⟩
    have bb10 : Below w.heap.size w w10 := Below.grown bb9 g10 (by omega) (fun j hj => by have q := pG.out j hj; omega)
    have z10 := g10.size
    have OG_10 := Lib.hid o10
    clear o10
    go_wp2_with fail
    refine (heldGS_any R.length uG 1 _ (slG_up (own_sl OG_10.out)) (by omega) (by omega) (by omega)).mono ?_
    rintro e w' ⟨rfl, rfl⟩
    go_wp2_with fail
    refine (toGS_any ds v1 _ (SlF.below H1.out bb10) (by omega)).mono ?_
    rintro e w11 ⟨uz1, rfl, o11, b11⟩
    have bb11 : Below w.heap.size w w11 := Below.via b11 bb10
    have z11 := b11.size
    have Oz1 := Lib.hid o11
    have pz1 := Lib.hid (show ∀ j, Value.ownBlock uz1 = some j → w10.heap.size ≤ j ∧ j < w11.heap.size from fun j hj => o11.lt j hj)
    clear o11
    go_wp2_with fail
    refine (implEndGrants_any many ds who now uz1 _ (own_sl Oz1.out)).mono ?_
    rintro e w12 ⟨uJ, rfl, o12, b12⟩
    rw [← HR.out] at o12
    have bb12 : Below w.heap.size w w12 := Below.via b12 bb11
    have z12 := b12.size
    have OJ := Lib.hid o12
    have pJ := Lib.hid (show ∀ j, Value.ownBlock uJ = some j → w11.heap.size ≤ j ∧ j < w12.heap.size from fun j hj => o12.lt j hj)
    clear o12
    go_wp2_with fail
    refine (eqGS_any R R uJ uW _ (own_sl OJ.out) (own_sl (own_below (own_below (own_gby (own_below (own_gby (own_below (own_below (own_below (own_below (own_below OW.out b3) b4) b5) b6) b7) g8 (fun j h1 h2 => by have q1 := pW.out j h1; have q2 := px1.out j h2; omega)) b9) g10 (fun j h1 h2 => by have q1 := pW.out j h1; have q2 := pG.out j h2; omega)) b11) b12))).mono ?_
    rintro e w13 ⟨rfl, b13⟩
    have bb13 : Below w.heap.size w w13 := Below.via b13 bb12
    have z13 := b13.size
    go_wp2_with fail
    refine (heldGS_any R.length uG 1 _ (slG_up (own_sl (own_below (own_below (own_below OG_10.out b11) b12) b13))) (by omega) (by omega) (by omega)).mono ?_
    rintro e w' ⟨rfl, rfl⟩
    go_wp2_with fail
    go_ret
    exact ⟨rfl, bb13⟩
end Go.Proofs.Ytlcjkehpdlgdoaa
