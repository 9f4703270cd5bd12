/-
  The acts that a ticket allows: the program's way and the reference's. No condition.
-/
import Derived.Test.YtnkfhfhioknjeaaKn
import Derived.Test.YtnkfhfhioknjeaaBi
set_option linter.unusedSimpArgs false
set_option linter.unusedVariables false
namespace Go.Proofs.Ytnkfhfhioknjeaa
open Go.RowKit
def actFold (ns : List Int) : Nat := ns.foldl (fun s n => s &&& n.toNat) 15
theorem actFold_step (ns : List Int) (k : Nat) (h : k < ns.length) : actFold (ns.take (k + 1)) = actFold (ns.take k) &&& ns[k].toNat := by
  unfold actFold
  rw [List.take_succ_eq_append_getElem h, List.foldl_append]
  rfl
theorem fold_and (ns : List Int) (s : Nat) (a : Nat) : (ns.foldl (fun s n => s &&& n.toNat) s).testBit a = (s.testBit a && ns.all (fun n => n.toNat.testBit a)) := by
  induction ns generalizing s with
  | nil => simp
  | cons n ns ih => rw [List.foldl_cons, ih, Nat.testBit_and, List.all_cons, Bool.and_assoc]
theorem fold_le (ns : List Int) (s : Nat) : ns.foldl (fun s n => s &&& n.toNat) s ≤ s := by
  induction ns generalizing s with
  | nil => exact Nat.le_refl _
  | cons n ns ih => exact Nat.le_trans (ih _) Nat.and_le_left
theorem actFold_le (ns : List Int) : actFold ns ≤ 15 := fold_le ns 15
def hasAll (ns : List Int) (a : Nat) : Bool := ns.all (fun n => n.toNat.testBit a)
theorem hasAll_step (ns : List Int) (a k : Nat) (h : k < ns.length) : hasAll (ns.take (k + 1)) a = (hasAll (ns.take k) a && ns[k].toNat.testBit a) := by
  unfold hasAll
  rw [List.take_succ_eq_append_getElem h, List.all_append]
  simp
theorem acts_sum (ns : List Int) : sumBits (hasAll ns) 4 = actFold ns := by
  refine sumBits_eq _ _ (by have := actFold_le ns; omega) (fun a ha => ?_)
  unfold actFold
  rw [fold_and]
  have : (15 : Nat).testBit a = true := by
    rcases (show a = 0 ∨ a = 1 ∨ a = 2 ∨ a = 3 by omega) with rfl | rfl | rfl | rfl <;> rfl
  rw [this, Bool.true_and]
  rfl
def tActs (key : Int) (t : Tk) (who now : Int) : Int := if ((decide (sealOf key t.who t.til t.acts < 0) || sealOf key t.who t.til t.acts != t.sl) || t.who != who) || decide (t.til ≤ now) then (0 : Int) else ((actFold t.acts : Nat) : Int)
theorem sealOf_act {key who til : Int} {acts : List Int} (h : decide (sealOf key who til acts < 0) = false) : acts.all actOk = true ∧ acts.length ≤ 5 := by
  cases hk : tkOk key who til acts
  · rw [sealOf_bad _ _ _ _ hk] at h
    simp at h
  · simp only [tkOk, Bool.and_eq_true, inR_iff] at hk
    exact ⟨hk.2, by omega⟩
set_option maxHeartbeats 1600000 in
theorem implTActs_any (key : Int) (t : Tk) (who now : Int) (v : Value) (w : World) (h : SlI w v t.acts) : Calls Try.prog 25 #[.int .i64 key, .agg #[.int .i64 t.who, v, .int .i64 t.til, .int .i64 t.sl], .int .i64 who, .int .i64 now] w fun e w' => e = .returned (.int .i64 (tActs key t who now)) ∧ Below w.heap.size w w' := by
  obtain ⟨a, cap, rfl, h1, h2⟩ := SlF.shape h
  unfold maxLen at h2
  have H := Lib.hid h
  clear h
  have k0 := Bk.new (w := w) (vs := #[.int .i64 t.who, .slice a t.acts.length cap, .int .i64 t.til, .int .i64 t.sl]) (t := 27)
  have HA := Lib.hid (show SlI (w.alloc (.cells #[.int .i64 t.who, .slice a t.acts.length cap, .int .i64 t.til, .int .i64 t.sl] 27)) (.slice a t.acts.length cap) t.acts from H.out.below (Below.al (Below.refl _ _) _))
  have x0 := k0.cell
  have hT := Lib.hid (show tActs key t who now = if ((decide (sealOf key t.who t.til t.acts < 0) || sealOf key t.who t.til t.acts != t.sl) || t.who != who) || decide (t.til ≤ now) then (0 : Int) else ((actFold t.acts : Nat) : Int) from rfl)
  have hV := Lib.hid (fun h => sealOf_act (key := key) (who := t.who) (til := t.til) (acts := t.acts) h)
  have HC := fun w1 => implSeal_any key t.who t.til t.sl t.acts (.slice a t.acts.length cap) w1
  generalize sealOf key t.who t.til t.acts = S at hT hV HC
  generalize tActs key t who now = R at hT
  cases p1 : decide (S < 0)
  · cases p2 : (S != t.sl)
    · cases p3 : (t.who != who)
      · cases p4 : decide (t.til ≤ now)
        · have hf := Lib.hid (hT.out.trans (by simp [p1, p2, p3, p4]) : R = ((actFold t.acts : Nat) : Int))
          obtain ⟨hva, hvl⟩ := hV.out p1
          have HV := Lib.hid hva
          clear hva
          go_enter Try.func25, Try.ntmps25
          go_wp2_with fail
          refine (HC _ HA.out).mono ?_
          rintro e w1 ⟨rfl, hb⟩
          replace k0 := k0.below hb
          clear x0
          have x0 := k0.cell
          have HB := Lib.hid (SlI.below HA.out hb)
          have hB : Below w.heap.size w w1 := Below.via hb (Below.al (Below.refl _ _) _)
          clear HC
          go_wp2_with fail
          go_loop [10, 39] (fun s i => ∃ k : Nat, k ≤ t.acts.length ∧ i = .int .i64 k ∧ s = .int .i64 (actFold (t.acts.take k) : Nat)) (fun _ i => t.acts.length - (intOf i).toNat)
          case atStart => exact ⟨0, Nat.zero_le _, rfl, rfl⟩
          case round =>
            obtain ⟨k, hk, rfl, rfl⟩ := hrel
            by_cases hlt : k < t.acts.length
            · obtain ⟨g, off, cap', hv, _, _, c0⟩ := HB.out.cell k hlt
              simp only [Value.slice.injEq] at hv
              obtain ⟨rfl, -, rfl⟩ := hv
              have hst := Lib.hid (actFold_step t.acts k hlt)
              have hle := actFold_le (t.acts.take k)
              have hn := List.all_eq_true.mp HV.out t.acts[k] (List.getElem_mem hlt)
              simp only [actOk, inR_iff] at hn
              generalize t.acts[k] = n at c0 hst hn
              generalize actFold (t.acts.take k) = s at hst hle
              obtain ⟨m, rfl⟩ : ∃ m : Nat, n = (m : Int) := ⟨n.toNat, by omega⟩
              have hbb := bits_and_nat s m (by omega) (by omega)
              go_wp2_with fail
              go_round
              case rel => exact ⟨k + 1, by omega, by go_num, by rw [hst.out]; rfl⟩
              case measure => simp [intOf]; omega
            · have hf2 := Lib.hid (show actFold (t.acts.take k) = actFold t.acts by rw [List.take_of_length_le (by omega)])
              go_wp2_with fail
              go_ret
              exact ⟨by rw [hf.out, ← hf2.out]; rfl, hB⟩
        · have hf := Lib.hid (hT.out.trans (by simp [p1, p2, p3, p4]) : R = 0)
          go_enter Try.func25, Try.ntmps25
          go_wp2_with fail
          refine (HC _ HA.out).mono ?_
          rintro e w1 ⟨rfl, hb⟩
          replace k0 := k0.below hb
          clear x0
          have x0 := k0.cell
          go_wp2_with fail
          go_ret
          exact ⟨by rw [hf.out]; rfl, Below.via hb (Below.al (Below.refl _ _) _)⟩
      · have hf := Lib.hid (hT.out.trans (by simp [p1, p2, p3]) : R = 0)
        go_enter Try.func25, Try.ntmps25
        go_wp2_with fail
        refine (HC _ HA.out).mono ?_
        rintro e w1 ⟨rfl, hb⟩
        replace k0 := k0.below hb
        clear x0
        have x0 := k0.cell
        go_wp2_with fail
        go_ret
        exact ⟨by rw [hf.out]; rfl, Below.via hb (Below.al (Below.refl _ _) _)⟩
    · have hf := Lib.hid (hT.out.trans (by simp [p1, p2]) : R = 0)
      go_enter Try.func25, Try.ntmps25
      go_wp2_with fail
      refine (HC _ HA.out).mono ?_
      rintro e w1 ⟨rfl, hb⟩
      replace k0 := k0.below hb
      clear x0
      have x0 := k0.cell
      go_wp2_with fail
      go_ret
      exact ⟨by rw [hf.out]; rfl, Below.via hb (Below.al (Below.refl _ _) _)⟩
  · have hf := Lib.hid (hT.out.trans (by simp [p1]) : R = 0)
    go_enter Try.func25, Try.ntmps25
    go_wp2_with fail
    refine (HC _ HA.out).mono ?_
    rintro e w1 ⟨rfl, hb⟩
    replace k0 := k0.below hb
    clear x0
    have x0 := k0.cell
    go_wp2_with fail
    go_ret
    exact ⟨by rw [hf.out]; rfl, Below.via hb (Below.al (Below.refl _ _) _)⟩
set_option maxHeartbeats 1600000 in
theorem specTActs_any (key : Int) (t : Tk) (who now : Int) (v : Value) (w : World) (h : SlI w v t.acts) : Calls Try.prog 28 #[.int .i64 key, .agg #[.int .i64 t.who, v, .int .i64 t.til, .int .i64 t.sl], .int .i64 who, .int .i64 now] w fun e w' => e = .returned (.int .i64 (tActs key t who now)) ∧ Below w.heap.size w w' := by
  obtain ⟨a, cap, rfl, h1, h2⟩ := SlF.shape h
  unfold maxLen at h2
  have H := Lib.hid h
  clear h
  have k0 := Bk.new (w := w) (vs := #[.int .i64 t.who, .slice a t.acts.length cap, .int .i64 t.til, .int .i64 t.sl]) (t := 27)
  have HA := Lib.hid (show SlI (w.alloc (.cells #[.int .i64 t.who, .slice a t.acts.length cap, .int .i64 t.til, .int .i64 t.sl] 27)) (.slice a t.acts.length cap) t.acts from H.out.below (Below.al (Below.refl _ _) _))
  have x0 := k0.cell
  have hT := Lib.hid (show tActs key t who now = if ((decide (sealOf key t.who t.til t.acts < 0) || sealOf key t.who t.til t.acts != t.sl) || t.who != who) || decide (t.til ≤ now) then (0 : Int) else ((actFold t.acts : Nat) : Int) from rfl)
  have hV := Lib.hid (fun h => sealOf_act (key := key) (who := t.who) (til := t.til) (acts := t.acts) h)
  have HC := fun w1 => specSeal_any key t.who t.til t.sl t.acts (.slice a t.acts.length cap) w1
  generalize sealOf key t.who t.til t.acts = S at hT hV HC
  generalize tActs key t who now = R at hT
  cases p1 : decide (S < 0)
  · cases p2 : (S != t.sl)
    · cases p3 : (t.who != who)
      · cases p4 : decide (t.til ≤ now)
        · have hf := Lib.hid (hT.out.trans (by simp [p1, p2, p3, p4]) : R = ((actFold t.acts : Nat) : Int))
          obtain ⟨hva, hvl⟩ := hV.out p1
          have HV := Lib.hid hva
          clear hva
          go_enter Try.func28, Try.ntmps28
          go_wp2_with fail
          refine (HC _ HA.out).mono ?_
          rintro e w1 ⟨rfl, hb⟩
          replace k0 := k0.below hb
          clear x0
          have x0 := k0.cell
          have HB := Lib.hid (SlI.below HA.out hb)
          have hB : Below w.heap.size w w1 := Below.via hb (Below.al (Below.refl _ _) _)
          clear HC
          go_wp2_with fail
          go_loop [10, 11] (fun s i => ∃ b : Nat, b ≤ 4 ∧ i = .int .i64 b ∧ s = .int .i64 (sumBits (hasAll t.acts) b : Nat)) (fun _ i => 4 - (intOf i).toNat)
          case atStart => exact ⟨0, Nat.zero_le _, rfl, rfl⟩
          case round =>
            obtain ⟨b, hb4, rfl, rfl⟩ := hrel
            by_cases hlb : b < 4
            · have hsum := sumBits_le (hasAll t.acts) b (by omega)
              have hss := Lib.hid (show sumBits (hasAll t.acts) (b + 1) = sumBits (hasAll t.acts) b + if hasAll t.acts b then 1 <<< b else 0 from rfl)
              generalize sumBits (hasAll t.acts) b = s at hsum hss
              go_wp2_with fail
              go_loop [12, 13] (fun f i => ∃ j : Nat, j ≤ t.acts.length ∧ i = .int .i64 j ∧ f = .bool (hasAll (t.acts.take j) b)) (fun _ i => t.acts.length - (intOf i).toNat)
              case atStart => exact ⟨0, Nat.zero_le _, rfl, rfl⟩
              case round =>
                obtain ⟨j, hj, rfl, rfl⟩ := hrel
                by_cases hlj : j < t.acts.length
                · obtain ⟨g, off, cap', hv, _, _, c0⟩ := HB.out.cell j hlj
                  simp only [Value.slice.injEq] at hv
                  obtain ⟨rfl, -, rfl⟩ := hv
                  have hst := Lib.hid (hasAll_step t.acts b j hlj)
                  have hn := List.all_eq_true.mp HV.out t.acts[j] (List.getElem_mem hlj)
                  simp only [actOk, inR_iff] at hn
                  generalize t.acts[j] = n at c0 hst hn
                  obtain ⟨m, rfl⟩ : ∃ m : Nat, n = (m : Int) := ⟨n.toNat, by omega⟩
                  have hm : m ≤ 15 := by omega
                  cases hq : hasAll (t.acts.take j) b
                  · have hf2 := Lib.hid (hst.out.trans (by rw [hq]; rfl) : hasAll (t.acts.take (j + 1)) b = false)
                    go_wp2_with fail
                    go_round
                    case rel => exact ⟨j + 1, by omega, by go_num, by rw [hf2.out]⟩
                    case measure => simp [intOf]; omega
                  · have hf2 := Lib.hid (hst.out.trans (by rw [hq]; rfl) : hasAll (t.acts.take (j + 1)) b = m.testBit b)
                    go_wp2_with ((go_at_call 48; refine (l12Act_any m b _ (by omega) (by omega)).mono ?_; rintro e w' ⟨rfl, rfl⟩))
                    go_round
                    case rel => exact ⟨j + 1, by omega, by go_num, by rw [hf2.out]⟩
                    case measure => simp [intOf]; omega
                · have ht : t.acts.take j = t.acts := List.take_of_length_le (by omega)
                  rw [ht]
                  clear ht
                  cases hq : hasAll t.acts b
                  · have hf2 := Lib.hid (hss.out.trans (by rw [hq]; rfl) : sumBits (hasAll t.acts) (b + 1) = s + 0)
                    go_wp2_with fail
                    go_round
                    case rel => exact ⟨b + 1, by omega, by go_num, by rw [hf2.out]; rfl⟩
                    case measure => simp [intOf]; omega
                  · have hf2 := Lib.hid (hss.out.trans (by rw [hq]; rfl) : sumBits (hasAll t.acts) (b + 1) = s + 1 <<< b)
                    have hw := wrap64_pow b (by omega)
                    have hp : 1 <<< b ≤ 8 := by
                      rcases (show b = 0 ∨ b = 1 ∨ b = 2 ∨ b = 3 by omega) with rfl | rfl | rfl | rfl <;> decide
                    generalize 1 <<< b = p at hf2 hw hp
                    go_wp2_with fail
                    go_round
                    case rel => exact ⟨b + 1, by omega, by go_num, by rw [hf2.out]; go_num⟩
                    case measure => simp [intOf]; omega
            · have hbe : b = 4 := by omega
              subst hbe
              have hf2 := Lib.hid (acts_sum t.acts)
              go_wp2_with fail
              go_ret
              exact ⟨by rw [hf.out, ← hf2.out]; rfl, hB⟩
        · have hf := Lib.hid (hT.out.trans (by simp [p1, p2, p3, p4]) : R = 0)
          go_enter Try.func28, Try.ntmps28
          go_wp2_with fail
          refine (HC _ HA.out).mono ?_
          rintro e w1 ⟨rfl, hb⟩
          replace k0 := k0.below hb
          clear x0
          have x0 := k0.cell
          go_wp2_with fail
          go_ret
          exact ⟨by rw [hf.out]; rfl, Below.via hb (Below.al (Below.refl _ _) _)⟩
      · have hf := Lib.hid (hT.out.trans (by simp [p1, p2, p3]) : R = 0)
        go_enter Try.func28, Try.ntmps28
        go_wp2_with fail
        refine (HC _ HA.out).mono ?_
        rintro e w1 ⟨rfl, hb⟩
        replace k0 := k0.below hb
        clear x0
        have x0 := k0.cell
        go_wp2_with fail
        go_ret
        exact ⟨by rw [hf.out]; rfl, Below.via hb (Below.al (Below.refl _ _) _)⟩
    · have hf := Lib.hid (hT.out.trans (by simp [p1, p2]) : R = 0)
      go_enter Try.func28, Try.ntmps28
      go_wp2_with fail
      refine (HC _ HA.out).mono ?_
      rintro e w1 ⟨rfl, hb⟩
      replace k0 := k0.below hb
      clear x0
      have x0 := k0.cell
      go_wp2_with fail
      go_ret
      exact ⟨by rw [hf.out]; rfl, Below.via hb (Below.al (Below.refl _ _) _)⟩
  · have hf := Lib.hid (hT.out.trans (by simp [p1]) : R = 0)
    go_enter Try.func28, Try.ntmps28
    go_wp2_with fail
    refine (HC _ HA.out).mono ?_
    rintro e w1 ⟨rfl, hb⟩
    replace k0 := k0.below hb
    clear x0
    have x0 := k0.cell
    go_wp2_with fail
    go_ret
    exact ⟨by rw [hf.out]; rfl, Below.via hb (Below.al (Below.refl _ _) _)⟩
end Go.Proofs.Ytnkfhfhioknjeaa
