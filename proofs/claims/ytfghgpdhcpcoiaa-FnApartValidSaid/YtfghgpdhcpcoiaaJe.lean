/-
  The exact law on valid rules, walked: true for every input. Condition: the rules can be read.
-/
import Derived.Test.YtfghgpdhcpcoiaaJq
set_option linter.unusedSimpArgs false
set_option linter.unusedVariables false
namespace Go.Proofs.Ytfghgpdhcpcoiaa
open Go.RowKit
theorem asc_iff (xs : List Int) (lo hi : Int) (h0 : 0 ≤ lo) (h7 : hi ≤ 7) : asc xs lo hi = true ↔ ∀ j, j < xs.length → inR (xs.getD j 0) (if j = 0 then lo else xs.getD (j - 1) 0 + 1) hi = true := by
  induction xs generalizing lo with
  | nil => simp [asc]
  | cons n ns ih =>
    rw [asc, Bool.and_eq_true]
    constructor
    · rintro ⟨h1, h2⟩ j hj
      have hb := (inR_iff _ _ _).mp h1
      rw [show wrap64 (n + 1) = n + 1 from by unfold wrap64; omega, ih (n + 1) (by omega)] at h2
      cases j with
      | zero => simpa using h1
      | succ j =>
        have := h2 j (by simpa using hj)
        rw [if_neg (by omega)]
        simp only [List.getD_cons_succ, Nat.add_sub_cancel]
        cases j with
        | zero => simpa using this
        | succ j => rw [if_neg (by omega)] at this; simpa using this
    · intro h
      have h1 := h 0 (by simp)
      simp only [List.getD_cons_zero, if_true] at h1
      have hb := (inR_iff _ _ _).mp h1
      refine ⟨h1, ?_⟩
      rw [show wrap64 (n + 1) = n + 1 from by unfold wrap64; omega, ih (n + 1) (by omega)]
      intro j hj
      have := h (j + 1) (by simpa using hj)
      rw [if_neg (by omega)] at this
      simp only [List.getD_cons_succ, Nat.add_sub_cancel] at this
      cases j with
      | zero => simpa using this
      | succ j => rw [if_neg (by omega)]; simpa using this
theorem ok_iff (xs : List Int) (hi : Int) : (List.range xs.length).all (okAt xs hi) = true ↔ ∀ j, j < xs.length → inR (xs.getD j 0) (if j = 0 then 0 else xs.getD (j - 1) 0 + 1) hi = true := by
  rw [List.all_eq_true]
  constructor
  · intro h j hj
    have := h j (by simpa using hj)
    simp only [okAt, Bool.and_eq_true, Bool.or_eq_true, decide_eq_true_eq, inR_iff] at this
    rw [inR_iff]
    by_cases hz : j = 0
    · rw [if_pos hz]; omega
    · rw [if_neg hz]; omega
  · intro h j hj
    have hj2 : j < xs.length := by simpa using hj
    have hpos : ∀ i, i < xs.length → 0 ≤ xs.getD i 0 := by
      intro i
      induction i with
      | zero => intro hi2; have := (inR_iff _ _ _).mp (h 0 hi2); simpa using this.1
      | succ i ih =>
        intro hi2
        have h1 := ih (by omega)
        have h2 := (inR_iff _ _ _).mp (h (i + 1) hi2)
        rw [if_neg (by omega)] at h2
        simp only [Nat.add_sub_cancel] at h2
        omega
    have h1 := (inR_iff _ _ _).mp (h j hj2)
    have h2 := hpos j hj2
    simp only [okAt, Bool.and_eq_true, Bool.or_eq_true, decide_eq_true_eq, inR_iff]
    by_cases hz : j = 0
    · rw [if_pos hz] at h1
      exact ⟨⟨h2, h1.2⟩, .inl hz⟩
    · rw [if_neg hz] at h1
      exact ⟨⟨h2, h1.2⟩, .inr (by omega)⟩
theorem apValid_eq (many : Int) (ds : List Mv) : apValidI many ds = apValidS many ds := by
  unfold apValidI apValidS
  cases hm : inR many 1 8
  · simp
  · have hb := (inR_iff _ _ _).mp hm
    have hw : wrap64 (many - 1) = many - 1 := by unfold wrap64; omega
    rw [hw]
    have : apOkI (many - 1) = apOkS (many - 1) := by
      funext d
      have : asc d.xs 0 (many - 1) = (List.range d.xs.length).all (okAt d.xs (many - 1)) := by
        rw [Bool.eq_iff_iff, asc_iff _ _ _ (Int.le_refl _) (by omega), ok_iff]
      unfold apOkI apOkS
      rw [this]
    rw [this]
set_option maxRecDepth 100000 in
set_option maxHeartbeats 6400000 in
theorem exactApartValid_walk (many : Int) (ds : List Mv) (v : Value) (w : World) (h : SlM w v ds) : Calls Try.prog 9 #[.int .i64 many, v] w fun e w' => e = .returned (.bool true) ∧ Below w.heap.size w w' := by
  obtain ⟨a, cap, rfl, h1, h2⟩ := SlM.shape h
  unfold maxLen at h2
  have H := Lib.hid h
  clear h
  have HI := fun v wx h => implApValid_any many ds v wx h
  simp only [apValid_eq] at HI
  have HS := fun v wx h => specApValid_any many ds v wx h
  generalize apValidS many ds = R at HI HS
  have hnb : (R != R) = false := by simp
  go_enter Try.func9, Try.ntmps9
  go_wp2_with fail
  refine (szApS_any ds 1048576 _ _ H.out (by omega) (by omega)).mono ?_
  rintro e w1 ⟨r, rfl, hr, b1⟩
  rcases hr with ⟨hr0, hr1⟩ | ⟨hr0, hr1⟩
  · have hn : decide (r < 0) = true := by simpa using hr0
    go_wp2_with fail
    go_ret
    exact ⟨rfl, b1⟩
  · have hn : decide (r < 0) = false := by simpa using hr0
    have hlen : ds.length ≤ 1048576 := by omega
    have HX := Lib.hid (show ∀ i (hi : i < ds.length), ds[i].xs.length ≤ 1048576 from fun i hi => by have := szM_el ds i hi; omega)
    clear hr1
    go_wp2_with fail
    refine (toApS_any ds _ _ (SlM.below H.out b1) hlen HX.out).mono ?_
    rintro e w2 ⟨u2, rfl, o2, b2⟩
    obtain ⟨a2, c2, rfl, _, hc2⟩ := SlM.shape o2
    unfold maxLen at hc2
    have B1 : Below w.heap.size w w2 := Below.via b2 b1
    have z1 := b2.size
    try simp only [World.size_alloc] at z1
    have Rx2 := Lib.hid o2
    clear o2
    go_wp2_with fail
    refine (HS _ _ Rx2.out).mono ?_
    rintro e w3 ⟨rfl, b3⟩
    have Rx4 := Lib.hid (SlM.below Rx2.out b3)
    clear Rx2
    have B3 : Below w.heap.size w w3 := Below.via b3 B1
    have z3 := b3.size
    try simp only [World.size_alloc] at z3
    go_wp2_with fail
    refine (toApS_any ds _ _ (SlM.below H.out B3) hlen HX.out).mono ?_
    rintro e w4 ⟨u4, rfl, o4, b4⟩
    obtain ⟨a4, c4, rfl, _, hc4⟩ := SlM.shape o4
    unfold maxLen at hc4
    have Rx6 := Lib.hid (SlM.below Rx4.out b4)
    clear Rx4
    have B5 : Below w.heap.size w w4 := Below.via b4 B3
    have z5 := b4.size
    try simp only [World.size_alloc] at z5
    have Ry7 := Lib.hid o4
    clear o4
    go_wp2_with fail
    refine (HI _ _ Ry7.out).mono ?_
    rintro e w5 ⟨rfl, b5⟩
    have Rx9 := Lib.hid (SlM.below Rx6.out b5)
    clear Rx6
    have Ry10 := Lib.hid (SlM.below Ry7.out b5)
    clear Ry7
    have B8 : Below w.heap.size w w5 := Below.via b5 B5
    have z8 := b5.size
    try simp only [World.size_alloc] at z8
    go_wp2_with fail
    refine (toApS_any ds _ _ (SlM.below H.out B8) hlen HX.out).mono ?_
    rintro e w6 ⟨u6, rfl, o6, b6⟩
    obtain ⟨a6, c6, rfl, _, hc6⟩ := SlM.shape o6
    unfold maxLen at hc6
    have Rx12 := Lib.hid (SlM.below Rx9.out b6)
    clear Rx9
    have Ry13 := Lib.hid (SlM.below Ry10.out b6)
    clear Ry10
    have B11 : Below w.heap.size w w6 := Below.via b6 B8
    have z11 := b6.size
    try simp only [World.size_alloc] at z11
    have Rz14 := Lib.hid o6
    clear o6
    go_wp2_with fail
    refine (eqApS_same ds _ _ _ Ry13.out Rz14.out).mono ?_
    rintro e w7 ⟨rfl, b7⟩
    have Rx16 := Lib.hid (SlM.below Rx12.out b7)
    clear Rx12
    have Ry17 := Lib.hid (SlM.below Ry13.out b7)
    clear Ry13
    have Rz18 := Lib.hid (SlM.below Rz14.out b7)
    clear Rz14
    have B15 : Below w.heap.size w w7 := Below.via b7 B11
    have z15 := b7.size
    try simp only [World.size_alloc] at z15
    go_wp2_with fail
    go_ret
    exact ⟨rfl, B15⟩
end Go.Proofs.Ytfghgpdhcpcoiaa
