/-
  Tickets: plain laws. No program in sight.
-/
import Derived.Test.YtnkfhfhioknjeaaKa
set_option linter.unusedSimpArgs false
set_option linter.unusedVariables false
namespace Go.Proofs.Ytnkfhfhioknjeaa
open Go.RowKit
theorem tkOk_of {key who til : Int} {acts : List Int} (h : 0 ≤ sealOf key who til acts) : tkOk key who til acts = true := by
  cases hk : tkOk key who til acts
  · rw [sealOf_bad _ _ _ _ hk] at h
    omega
  · rfl
theorem seal_snoc (key who til : Int) (acts : List Int) (act : Int) (h : 0 ≤ sealOf key who til acts) (hl : acts.length ≤ 4) (ha : inR act 0 15 = true) : sealOf key who til (acts ++ [act]) = mixN (sealOf key who til acts) act := by
  have hk := tkOk_of h
  have hk2 : tkOk key who til (acts ++ [act]) = true := by
    simp only [tkOk, Bool.and_eq_true, inR_iff, List.all_append, List.length_append, List.length_cons, List.length_nil] at hk ⊢
    refine ⟨⟨hk.1.1, by omega⟩, hk.2, ?_⟩
    simp [actOk, ha]
  rw [sealOf_ok _ _ _ _ hk, sealOf_ok _ _ _ _ hk2]
  simp [sealFold]
theorem narrow_true {t n : Tk} {act : Int} (h : narrowT t act = (n, true)) : n = ⟨t.who, t.acts ++ [act], t.til, mixN t.sl act⟩ ∧ 1 ≤ t.acts.length ∧ t.acts.length ≤ 4 ∧ 0 ≤ t.sl ∧ t.sl ≤ 1000002 ∧ inR act 0 15 = true := by
  cases hc : (inR (t.acts.length : Int) 1 4 && inR t.sl 0 1000002 && inR act 0 15)
  · rw [narrow_bad t act hc] at h
    simp at h
  · rw [narrow_ok t act hc] at h
    simp only [Prod.mk.injEq, and_true] at h
    simp only [Bool.and_eq_true, inR_iff] at hc
    refine ⟨h.symm, by omega, by omega, by omega, by omega, ?_⟩
    rw [inR_iff]
    exact hc.2
theorem seal_more (key : Int) (t n : Tk) (act : Int) (S : Int) (hS : sealOf key t.who t.til t.acts = S) (h0 : 0 ≤ S) (hn : narrowT ⟨t.who, t.acts, t.til, S⟩ act = (n, true)) : sealOf key n.who n.til n.acts = n.sl := by
  obtain ⟨rfl, h1, h4, _, _, ha⟩ := narrow_true hn
  subst hS
  exact seal_snoc key t.who t.til t.acts act h0 h4 ha
theorem make_true {key who act til : Int} {t : Tk} (h : makeT key who act til = (t, true)) : t = ⟨who, [act], til, sealOf key who til [act]⟩ ∧ 0 ≤ sealOf key who til [act] := by
  cases hc : decide (sealOf key who til [act] < 0)
  · rw [makeT_ok _ _ _ _ hc] at h
    simp only [Prod.mk.injEq, and_true] at h
    exact ⟨h.symm, by simpa using hc⟩
  · rw [makeT_bad _ _ _ _ hc] at h
    simp at h
theorem make_false {key who act til : Int} {t : Tk} (h : makeT key who act til = (t, false)) : t = tk0 := by
  cases hc : decide (sealOf key who til [act] < 0)
  · rw [makeT_ok _ _ _ _ hc] at h
    simp at h
  · rw [makeT_bad _ _ _ _ hc] at h
    simp only [Prod.mk.injEq, and_true] at h
    exact h.symm
theorem narrow_false {t n : Tk} {act : Int} (h : narrowT t act = (n, false)) : n = tk0 := by
  cases hc : (inR (t.acts.length : Int) 1 4 && inR t.sl 0 1000002 && inR act 0 15)
  · rw [narrow_bad t act hc] at h
    simp only [Prod.mk.injEq, and_true] at h
    exact h.symm
  · rw [narrow_ok t act hc] at h
    simp at h
theorem seal_act {key who til a : Int} (h : 0 ≤ sealOf key who til [a]) : 0 ≤ a ∧ a ≤ 15 := by
  have hk := tkOk_of h
  simp only [tkOk, Bool.and_eq_true, List.all_cons, List.all_nil, actOk, inR_iff] at hk
  omega
theorem and15 (n : Nat) (h : n ≤ 15) : 15 &&& n = n := by
  have : ∀ n : Nat, n ≤ 15 → 15 &&& n = n := by decide
  exact this n h
theorem tActs_eq (key : Int) (t : Tk) (who now S : Int) (h : sealOf key t.who t.til t.acts = S) : tActs key t who now = if ((decide (S < 0) || S != t.sl) || t.who != who) || decide (t.til ≤ now) then (0 : Int) else ((actFold t.acts : Nat) : Int) := by
  subst h
  rfl
/-- A ticket that is made and narrowed allows what is in both. -/
theorem narrow_law (a0 act : Int) (m l : Tk) (well : Bool) (hm : makeT 77 2 a0 50 = (m, true)) (ha : inR act 0 15 = true) (hl : narrowT m act = (l, well)) : well = true ∧ tActs 77 l 2 5 = bits .and .i64 a0 act := by
  obtain ⟨rfl, h0⟩ := make_true hm
  have hb : -1 ≤ sealOf 77 2 50 [a0] ∧ sealOf 77 2 50 [a0] ≤ 1000002 := by
    have hk := tkOk_of h0
    have h1 := mixN_bd (mixN 77 2) 50
    rw [sealOf_ok _ _ _ _ hk]
    have := sealFold_bd (mixN (mixN 77 2) 50) [a0] (by omega) (by omega)
    omega
  have hc : (inR (([a0] : List Int).length : Int) 1 4 && inR (sealOf 77 2 50 [a0]) 0 1000002 && inR act 0 15) = true := by
    have h2 : inR (sealOf 77 2 50 [a0]) 0 1000002 = true := (inR_iff _ _ _).mpr ⟨h0, hb.2⟩
    rw [h2, ha]
    rfl
  have hw := narrow_ok ⟨2, [a0], 50, sealOf 77 2 50 [a0]⟩ act hc
  rw [hw] at hl
  simp only [Prod.mk.injEq] at hl
  obtain ⟨rfl, rfl⟩ := hl
  refine ⟨rfl, ?_⟩
  have hs := seal_snoc 77 2 50 [a0] act h0 (by simp) ha
  have hmx := mixN_bd (sealOf 77 2 50 [a0]) act
  obtain ⟨p0, p9⟩ := seal_act h0
  obtain ⟨q0, q9⟩ := (inR_iff _ _ _).mp ha
  obtain ⟨x, rfl⟩ : ∃ x : Nat, a0 = x := ⟨a0.toNat, by omega⟩
  obtain ⟨y, rfl⟩ : ∃ y : Nat, act = y := ⟨act.toNat, by omega⟩
  rw [bits_and_nat x y (by omega) (by omega)]
  rw [tActs_eq 77 ⟨2, [(x : Int)] ++ [(y : Int)], 50, mixN (sealOf 77 2 50 [(x : Int)]) y⟩ 2 5 _ hs, if_neg]
  · simp only [List.cons_append, List.nil_append, actFold, List.foldl_cons, List.foldl_nil, Int.toNat_natCast]
    rw [and15 x (by omega)]
  · simp
    omega
theorem make_law (key who act til : Int) (t : Tk) (h : makeT key who act til = (t, true)) : tActs key t who (til - 1) = act ∧ tActs key t who til = 0 ∧ (∀ z, z ≠ who → tActs key t z (til - 1) = 0) := by
  obtain ⟨rfl, h0⟩ := make_true h
  obtain ⟨p0, p9⟩ := seal_act h0
  obtain ⟨x, rfl⟩ : ∃ x : Nat, act = x := ⟨act.toNat, by omega⟩
  refine ⟨?_, ?_, fun z hz => ?_⟩
  · unfold tActs
    rw [if_neg]
    · simp only [actFold, List.foldl_cons, List.foldl_nil, Int.toNat_natCast]
      rw [and15 x (by omega)]
    · simp
      omega
  · unfold tActs
    rw [if_pos]
    simp
  · unfold tActs
    rw [if_pos]
    have : (who != z) = true := by simp; omega
    simp [this]
theorem tActs_cases (key : Int) (t : Tk) (who now : Int) : tActs key t who now = 0 ∨ (tActs key t who now = (actFold t.acts : Nat) ∧ t.acts.all actOk = true ∧ t.who = who) := by
  unfold tActs
  cases hc : ((decide (sealOf key t.who t.til t.acts < 0) || sealOf key t.who t.til t.acts != t.sl) || t.who != who) || decide (t.til ≤ now)
  · right
    simp only [Bool.or_eq_false_iff] at hc
    have hv := (sealOf_act hc.1.1.1).1
    exact ⟨by simp, hv, by simpa using hc.1.2⟩
  · left
    simp
theorem tActs_later (key : Int) (t : Tk) (who now : Int) : tActs key t who (now + 1) = tActs key t who now ∨ tActs key t who (now + 1) = 0 := by
  unfold tActs
  cases h1 : (decide (sealOf key t.who t.til t.acts < 0) || sealOf key t.who t.til t.acts != t.sl) || t.who != who
  · by_cases h2 : t.til ≤ now + 1
    · right
      simp [h2]
    · left
      have : ¬ t.til ≤ now := by omega
      simp [h2, this]
  · right
    simp
theorem act_sub (ns : List Int) (k : Nat) (h : k < ns.length) (hv : ns.all actOk = true) : bits .and .i64 ns[k] (actFold ns : Nat) = (actFold ns : Nat) := by
  have hn := List.all_eq_true.mp hv ns[k] (List.getElem_mem h)
  simp only [actOk, inR_iff] at hn
  have hf := actFold_le ns
  obtain ⟨m, hm⟩ : ∃ m : Nat, ns[k] = m := ⟨ns[k].toNat, by omega⟩
  rw [hm, bits_and_nat m _ (by omega) (by omega)]
  congr 1
  refine Nat.eq_of_testBit_eq fun a => ?_
  rw [Nat.testBit_and]
  cases hb : (actFold ns).testBit a
  · simp
  · unfold actFold at hb
    rw [fold_and, Bool.and_eq_true, List.all_eq_true] at hb
    have := hb.2 ns[k] (List.getElem_mem h)
    rw [hm] at this
    simp at this
    simp [this]
end Go.Proofs.Ytnkfhfhioknjeaa
