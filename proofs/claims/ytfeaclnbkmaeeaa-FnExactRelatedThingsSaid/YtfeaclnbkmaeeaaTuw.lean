/-
  The exact laws on related things, walked: true for every input. No condition.
-/
import Derived.Test.YtfeaclnbkmaeeaaTuk
set_option linter.unusedSimpArgs false
set_option linter.unusedVariables false
namespace Go.Proofs.Ytfeaclnbkmaeeaa
open Go.RowKit
set_option maxRecDepth 100000 in
set_option maxHeartbeats 6400000 in
theorem exactRelatedThings_walk (ds : List Tup) (v1 : Value) (about : Int) (nm : ByteArray) (w : World) (h : SlT w v1 ds) (hstr : ∀ d ∈ ds, Str d) (hnm : nm.size ≤ maxLen) : Calls Try.prog 7 #[v1, .int .i64 about, .string nm] w fun e w' => e = .returned (.bool true) ∧ Below w.heap.size w w' := by
  have H := Lib.hid h
  have HSt := Lib.hid hstr
  unfold maxLen at hnm
  clear h hstr
  have heq := eqTs_refl ds
  by_cases hn : 1048576 < nm.size
  · go_enter Try.func7, Try.ntmps7
    go_wp2_with fail
    go_ret
    exact ⟨rfl, Below.refl _ _⟩
  go_enter Try.func7, Try.ntmps7
  go_wp2_with fail
  refine (szTS_any ds 1048576 v1 w H.out HSt.out (by omega) (by omega)).mono ?_
  rintro e w0 ⟨r, rfl, q0, q1, b0⟩
  by_cases hneg : r < 0
  · go_wp2_with fail
    go_ret
    exact ⟨rfl, b0⟩
  · have hlen1 : ds.length ≤ 1048576 := by omega
    have H0 := Lib.hid (H.out.below b0)
    obtain ⟨R, hR⟩ : ∃ R, R = relT ds about nm := ⟨_, rfl⟩
    have hRl : R.length ≤ 8 := by rw [hR]; have := relT_len ds about nm; omega
    have HR := Lib.hid hR
    clear hR
    go_wp2_with fail
    refine (toTS_any ds v1 _ H0.out (by omega)).mono ?_
    rintro e w1 ⟨ua1, rfl, o1, b1⟩
    have bb1 : Below w0.heap.size w0 w1 := Below.via b1 (Below.refl _ _)
    have z1 := b1.size
    have Oa1 := Lib.hid o1
    have pa1 := Lib.hid (show ∀ j, Value.ownBlock ua1 = some j → w0.heap.size ≤ j ∧ j < w1.heap.size from fun j hj => o1.lt j hj)
    clear o1
    go_wp2_with fail
    refine (specRel_any ds about nm ua1 _ (own_sl Oa1.out) HSt.out).mono ?_
    rintro e w2 ⟨uW, rfl, o2, b2⟩
    rw [← HR.out] at o2
    have bb2 : Below w0.heap.size w0 w2 := Below.via b2 bb1
    have z2 := b2.size
    have OW := Lib.hid o2
    have pW := Lib.hid (show ∀ j, Value.ownBlock uW = some j → w1.heap.size ≤ j ∧ j < w2.heap.size from fun j hj => o2.lt j hj)
    clear o2
    go_wp2_with fail
    refine (toTS_any ds v1 _ (SlF.below H0.out bb2) (by omega)).mono ?_
    rintro e w3 ⟨ux1, rfl, o3, b3⟩
    have bb3 : Below w0.heap.size w0 w3 := Below.via b3 bb2
    have z3 := b3.size
    have Ox1 := Lib.hid o3
    have px1 := Lib.hid (show ∀ j, Value.ownBlock ux1 = some j → w2.heap.size ≤ j ∧ j < w3.heap.size from fun j hj => o3.lt j hj)
    clear o3
    go_wp2_with fail
    refine (implRel_any ds about nm ux1 _ (own_sl Ox1.out) HSt.out).mono ?_
    rintro e w4 ⟨uG, rfl, o4, b4⟩
    rw [← HR.out] at o4
    have bb4 : Below w0.heap.size w0 w4 := Below.via b4 bb3
    have z4 := b4.size
    have OG := Lib.hid o4
    have pG := Lib.hid (show ∀ j, Value.ownBlock uG = some j → w3.heap.size ≤ j ∧ j < w4.heap.size from fun j hj => o4.lt j hj)
    clear o4
    go_wp2_with fail
    refine (eqIntS_any R R uG uW _ (own_sl OG.out) (own_sl (own_below (own_below OW.out b3) b4))).mono ?_
    rintro e w5 ⟨rfl, b5⟩
    have bb5 : Below w0.heap.size w0 w5 := Below.via b5 bb4
    have z5 := b5.size
    go_wp2_with fail
    refine (toTS_any ds v1 _ (SlF.below H0.out bb5) (by omega)).mono ?_
    rintro e w6 ⟨uy1, rfl, o6, b6⟩
    have bb6 : Below w0.heap.size w0 w6 := Below.via b6 bb5
    have z6 := b6.size
    have Oy1 := Lib.hid o6
    have py1 := Lib.hid (show ∀ j, Value.ownBlock uy1 = some j → w5.heap.size ≤ j ∧ j < w6.heap.size from fun j hj => o6.lt j hj)
    clear o6
    go_wp2_with fail
    refine (eqTS_any ds ds ux1 uy1 _ (own_sl (own_below (own_below (own_below Ox1.out b4) b5) b6)) (own_sl Oy1.out)).mono ?_
    rintro e w7 ⟨rfl, b7⟩
    have bb7 : Below w0.heap.size w0 w7 := Below.via b7 bb6
    have z7 := b7.size
    go_wp2_with fail
    refine (markTS_any ds.length ux1 w2.heap.size _ 1 _ (own_below (own_below (own_below (own_below Ox1.out b4) b5) b6) b7) (by omega) (by omega) (by omega)).mono ?_
    rintro e w8 ⟨rfl, g8⟩
    have bb8 : Below w0.heap.size w0 w8 := Below.grown bb7 g8 (by omega) (fun j hj => by have q := px1.out j hj; omega)
    have z8 := g8.size
    go_wp2_with fail
    refine (eqIntS_any R R uG uW _ (own_sl (own_gby (own_below (own_below (own_below OG.out b5) b6) b7) g8 (fun j h1 h2 => by have q1 := pG.out j h1; have q2 := px1.out j h2; omega))) (own_sl (own_gby (own_below (own_below (own_below (own_below (own_below OW.out b3) b4) b5) b6) b7) g8 (fun j h1 h2 => by have q1 := pW.out j h1; have q2 := px1.out j h2; omega)))).mono ?_
    rintro e w9 ⟨rfl, b9⟩
    have bb9 : Below w0.heap.size w0 w9 := Below.via b9 bb8
    have z9 := b9.size
    go_wp2_with fail
    refine (markIntS_any R uG w3.heap.size 1 _ (own_below (own_gby (own_below (own_below (own_below OG.out b5) b6) b7) g8 (fun j h1 h2 => by have q1 := pG.out j h1; have q2 := px1.out j h2; omega)) b9) (by omega) (by omega) (by omega)).mono ?_
    rintro e w10 ⟨rfl, o10, g10⟩
    have bb10 : Below w0.heap.size w0 w10 := Below.grown bb9 g10 (by omega) (fun j hj => by have q := pG.out j hj; omega)
    have z10 := g10.size
    have OG_10 := Lib.hid o10
    clear o10
    go_wp2_with fail
    refine (heldIntS_any R.length uG 1 _ (slI_up (own_sl OG_10.out)) (by omega) (by omega) (by omega)).mono ?_
    rintro e w' ⟨rfl, rfl⟩
    go_wp2_with fail
    refine (toTS_any ds v1 _ (SlF.below H0.out bb10) (by omega)).mono ?_
    rintro e w11 ⟨uz1, rfl, o11, b11⟩
    have bb11 : Below w0.heap.size w0 w11 := Below.via b11 bb10
    have z11 := b11.size
    have Oz1 := Lib.hid o11
    have pz1 := Lib.hid (show ∀ j, Value.ownBlock uz1 = some j → w10.heap.size ≤ j ∧ j < w11.heap.size from fun j hj => o11.lt j hj)
    clear o11
    go_wp2_with fail
    refine (implRel_any ds about nm uz1 _ (own_sl Oz1.out) HSt.out).mono ?_
    rintro e w12 ⟨uJ, rfl, o12, b12⟩
    rw [← HR.out] at o12
    have bb12 : Below w0.heap.size w0 w12 := Below.via b12 bb11
    have z12 := b12.size
    have OJ := Lib.hid o12
    have pJ := Lib.hid (show ∀ j, Value.ownBlock uJ = some j → w11.heap.size ≤ j ∧ j < w12.heap.size from fun j hj => o12.lt j hj)
    clear o12
    go_wp2_with fail
    refine (eqIntS_any R R uJ uW _ (own_sl OJ.out) (own_sl (own_below (own_below (own_gby (own_below (own_gby (own_below (own_below (own_below (own_below (own_below OW.out b3) b4) b5) b6) b7) g8 (fun j h1 h2 => by have q1 := pW.out j h1; have q2 := px1.out j h2; omega)) b9) g10 (fun j h1 h2 => by have q1 := pW.out j h1; have q2 := pG.out j h2; omega)) b11) b12))).mono ?_
    rintro e w13 ⟨rfl, b13⟩
    have bb13 : Below w0.heap.size w0 w13 := Below.via b13 bb12
    have z13 := b13.size
    go_wp2_with fail
    refine (heldIntS_any R.length uG 1 _ (slI_up (own_sl (own_below (own_below (own_below OG_10.out b11) b12) b13))) (by omega) (by omega) (by omega)).mono ?_
    rintro e w' ⟨rfl, rfl⟩
    go_wp2_with fail
    go_ret
    exact ⟨rfl, Below.via bb13 b0⟩
set_option maxRecDepth 100000 in
set_option maxHeartbeats 6400000 in
theorem exactIsRelated_walk (ds : List Tup) (v1 : Value) (about : Int) (nm : ByteArray) (other : Int) (w : World) (h : SlT w v1 ds) (hstr : ∀ d ∈ ds, Str d) (hnm : nm.size ≤ maxLen) : Calls Try.prog 5 #[v1, .int .i64 about, .string nm, .int .i64 other] w fun e w' => e = .returned (.bool true) ∧ Below w.heap.size w w' := by
  have H := Lib.hid h
  have HSt := Lib.hid hstr
  unfold maxLen at hnm
  clear h hstr
  have heq := eqTs_refl ds
  by_cases hn : 1048576 < nm.size
  · go_enter Try.func5, Try.ntmps5
    go_wp2_with fail
    go_ret
    exact ⟨rfl, Below.refl _ _⟩
  go_enter Try.func5, Try.ntmps5
  go_wp2_with fail
  refine (szTS_any ds 1048576 v1 w H.out HSt.out (by omega) (by omega)).mono ?_
  rintro e w0 ⟨r, rfl, q0, q1, b0⟩
  by_cases hneg : r < 0
  · go_wp2_with fail
    go_ret
    exact ⟨rfl, b0⟩
  · have hlen1 : ds.length ≤ 1048576 := by omega
    have H0 := Lib.hid (H.out.below b0)
    obtain ⟨R, hR⟩ : ∃ R, isRel ds about nm other = R := ⟨_, rfl⟩
    have hne : (R != R) = false := by simp
    have CS := fun vx wx h => specIs_any ds about nm other vx wx h HSt.out
    have CI := fun vx wx h => implIs_any ds about nm other vx wx h HSt.out
    rw [hR] at CS CI
    clear hR
    go_wp2_with fail
    refine (toTS_any ds v1 _ H0.out (by omega)).mono ?_
    rintro e w1 ⟨u1, rfl, o1, b1⟩
    have O1 := Lib.hid o1
    clear o1
    go_wp2_with fail
    refine (CS _ _ (own_sl O1.out)).mono ?_
    rintro e w2 ⟨rfl, b2⟩
    go_wp2_with fail
    refine (toTS_any ds v1 _ ((H0.out.below b1).below b2) hlen1).mono ?_
    rintro e w3 ⟨v3, rfl, o3, b3⟩
    have O3 := Lib.hid o3
    clear o3
    go_wp2_with fail
    refine (CI _ _ (own_sl O3.out)).mono ?_
    rintro e w4 ⟨rfl, b4⟩
    go_wp2_with fail
    refine (toTS_any ds v1 _ ((((H0.out.below b1).below b2).below b3).below b4) hlen1).mono ?_
    rintro e w5 ⟨v5, rfl, o5, b5⟩
    have O5 := Lib.hid o5
    clear o5
    go_wp2_with fail
    refine (eqTS_any ds ds v3 v5 _ (SlF.below (SlF.below (own_sl O3.out) b4) b5) (own_sl O5.out)).mono ?_
    rintro e w6 ⟨rfl, b6⟩
    go_wp2_with fail
    go_ret
    refine ⟨rfl, ?_⟩
    (repeat' first | (with_reducible exact Below.refl _ _) | (with_reducible refine Below.rd (by assumption) ?_ ?_) | (with_reducible refine Below.via (by assumption) ?_) | (with_reducible refine Below.al ?_ _) | (with_reducible refine Below.dn ?_ _) | (with_reducible refine Below.dr ?_) | (with_reducible refine Below.setCell ?_ ?_ _) | (dsimp only; omega) | (simp only [World.size_alloc, World.size_drew]; omega) | (simp; done) | omega)
end Go.Proofs.Ytfeaclnbkmaeeaa
