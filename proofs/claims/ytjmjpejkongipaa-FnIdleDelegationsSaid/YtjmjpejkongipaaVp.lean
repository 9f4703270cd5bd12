/-
  Delegations in the end: plain. No condition.
-/
import Derived.Test.YtjmjpejkongipaaV
set_option linter.unusedSimpArgs false
set_option linter.unusedVariables false
namespace Go.Proofs.Ytjmjpejkongipaa
open Go.RowKit
/-- A delegation is done once. -/
def dstN (os : List Nat) (d : Deleg) : List Nat := os.set d.f1.toNat (os.getD d.f1.toNat 0 ||| (os.getD d.f0.toNat 0 &&& d.f2.toNat))
def passN (ds : List Deleg) (os : List Nat) : List Nat := ds.foldl dstN os
def itN (ds : List Deleg) : Nat → List Nat → List Nat
  | 0, os => os
  | n + 1, os => passN ds (itN ds n os)
def dstB (a : Nat) (B : List Bool) (d : Deleg) : List Bool := if B.getD d.f0.toNat false && d.f2.toNat.testBit a then B.set d.f1.toNat true else B
def passB (a : Nat) (ds : List Deleg) (B : List Bool) : List Bool := ds.foldl (dstB a) B
def itB (a : Nat) (ds : List Deleg) : Nat → List Bool → List Bool
  | 0, B => B
  | n + 1, B => passB a ds (itB a ds n B)
def bitsN (a : Nat) (os : List Nat) : List Bool := os.map (·.testBit a)
theorem bitsN_getD (a : Nat) (os : List Nat) (i : Nat) : (bitsN a os).getD i false = (os.getD i 0).testBit a := by
  unfold bitsN
  rw [List.getD_eq_getElem?_getD, List.getD_eq_getElem?_getD, List.getElem?_map]
  cases os[i]? <;> simp
theorem set_same (B : List Bool) (i : Nat) : B.set i (B.getD i false) = B := by
  refine List.ext_getElem? fun j => ?_
  rw [List.getElem?_set]
  by_cases h : i = j
  · subst h
    rw [if_pos rfl]
    by_cases hi : i < B.length
    · rw [if_pos hi, List.getD_eq_getElem?_getD, List.getElem?_eq_getElem hi]; rfl
    · rw [if_neg hi, List.getElem?_eq_none (by omega)]
  · rw [if_neg h]
theorem bits_dst (a : Nat) (os : List Nat) (d : Deleg) : bitsN a (dstN os d) = dstB a (bitsN a os) d := by
  unfold dstN dstB
  rw [bitsN_getD]
  have e : bitsN a (os.set d.f1.toNat (os.getD d.f1.toNat 0 ||| (os.getD d.f0.toNat 0 &&& d.f2.toNat))) = (bitsN a os).set d.f1.toNat ((os.getD d.f1.toNat 0).testBit a || ((os.getD d.f0.toNat 0).testBit a && d.f2.toNat.testBit a)) := by
    unfold bitsN
    rw [List.map_set, Nat.testBit_or, Nat.testBit_and]
  rw [e]
  cases h : (os.getD d.f0.toNat 0).testBit a && d.f2.toNat.testBit a
  · rw [Bool.or_false, ← bitsN_getD, set_same]
    simp
  · rw [Bool.or_true]
    simp
theorem bits_pass (a : Nat) : ∀ (ds : List Deleg) (os : List Nat), bitsN a (passN ds os) = passB a ds (bitsN a os)
  | [], os => rfl
  | d :: ds, os => by
    show bitsN a (passN ds (dstN os d)) = passB a ds (dstB a (bitsN a os) d)
    rw [bits_pass a ds, bits_dst]
theorem bits_it (a : Nat) (ds : List Deleg) (os : List Nat) : ∀ n, bitsN a (itN ds n os) = itB a ds n (bitsN a os)
  | 0 => rfl
  | n + 1 => by
    show bitsN a (passN ds (itN ds n os)) = passB a ds (itB a ds n (bitsN a os))
    rw [bits_pass, bits_it a ds os n]
theorem count_set (B : List Bool) : ∀ t, t < B.length → B.getD t false = false → (B.set t true).count true = B.count true + 1 := by
  induction B with
  | nil => intro t h; simp at h
  | cons b B ih =>
    intro t h hb
    cases t with
    | zero =>
      simp at hb
      subst hb
      simp
    | succ t =>
      have := ih t (by simpa using h) (by simpa using hb)
      rw [List.set_cons_succ, List.count_cons, List.count_cons, this]
      omega
theorem dstB_len (a : Nat) (B : List Bool) (d : Deleg) : (dstB a B d).length = B.length := by
  unfold dstB; split <;> simp
theorem dstB_grow (a : Nat) (B : List Bool) (d : Deleg) : B.count true ≤ (dstB a B d).count true ∧ ((dstB a B d).count true = B.count true → dstB a B d = B) := by
  unfold dstB
  split
  · by_cases ht : d.f1.toNat < B.length
    · cases hb : B.getD d.f1.toNat false
      · have := count_set B d.f1.toNat ht hb
        exact ⟨by omega, fun h => by omega⟩
      · have e := set_same B d.f1.toNat
        rw [hb] at e
        rw [e]
        exact ⟨Nat.le_refl _, fun _ => rfl⟩
    · rw [List.set_eq_of_length_le (by omega)]
      exact ⟨Nat.le_refl _, fun _ => rfl⟩
  · exact ⟨Nat.le_refl _, fun _ => rfl⟩
theorem passB_grow (a : Nat) : ∀ (ds : List Deleg) (B : List Bool), (passB a ds B).length = B.length ∧ B.count true ≤ (passB a ds B).count true ∧ ((passB a ds B).count true = B.count true → passB a ds B = B)
  | [], B => ⟨rfl, Nat.le_refl _, fun _ => rfl⟩
  | d :: ds, B => by
    have h1 := dstB_len a B d
    obtain ⟨h2, h3⟩ := dstB_grow a B d
    obtain ⟨k1, k2, k3⟩ := passB_grow a ds (dstB a B d)
    show (passB a ds (dstB a B d)).length = _ ∧ _ ≤ (passB a ds (dstB a B d)).count true ∧ ((passB a ds (dstB a B d)).count true = _ → passB a ds (dstB a B d) = B)
    refine ⟨k1.trans h1, Nat.le_trans h2 k2, fun h => ?_⟩
    have q := h3 (by omega)
    rw [k3 (by omega), q]
theorem itB_len (a : Nat) (ds : List Deleg) (B : List Bool) : ∀ n, (itB a ds n B).length = B.length
  | 0 => rfl
  | n + 1 => ((passB_grow a ds _).1).trans (itB_len a ds B n)
theorem itB_grow (a : Nat) (ds : List Deleg) (B : List Bool) : ∀ n, itB a ds (n + 1) B = itB a ds n B ∨ n + 1 ≤ (itB a ds (n + 1) B).count true
  | 0 => by
    obtain ⟨_, k2, k3⟩ := passB_grow a ds B
    by_cases h : (passB a ds B).count true = B.count true
    · exact .inl (k3 h)
    · right
      show 0 + 1 ≤ (passB a ds B).count true
      omega
  | n + 1 => by
    obtain ⟨_, k2, k3⟩ := passB_grow a ds (itB a ds (n + 1) B)
    by_cases h : (passB a ds (itB a ds (n + 1) B)).count true = (itB a ds (n + 1) B).count true
    · exact .inl (k3 h)
    · rcases itB_grow a ds B n with h1 | h1
      · left
        show passB a ds (itB a ds (n + 1) B) = passB a ds (itB a ds n B)
        rw [h1]
      · right
        show n + 1 + 1 ≤ (passB a ds (itB a ds (n + 1) B)).count true
        omega
theorem itB_fix (a : Nat) (ds : List Deleg) (B : List Bool) (h : B.length = 7) : itB a ds 8 B = itB a ds 7 B := by
  rcases itB_grow a ds B 7 with h1 | h1
  · exact h1
  · change 8 ≤ (itB a ds 8 B).count true at h1
    have := List.count_le_length (a := true) (l := itB a ds 8 B)
    rw [itB_len a ds B 8] at this
    omega
theorem dstN_len (os : List Nat) (d : Deleg) : (dstN os d).length = os.length := by simp [dstN]
theorem passN_len : ∀ (ds : List Deleg) (os : List Nat), (passN ds os).length = os.length
  | [], os => rfl
  | d :: ds, os => (passN_len ds (dstN os d)).trans (dstN_len os d)
theorem itN_len (ds : List Deleg) (os : List Nat) : ∀ n, (itN ds n os).length = os.length
  | 0 => rfl
  | n + 1 => (passN_len ds _).trans (itN_len ds os n)
theorem eq_of_bits {xs ys : List Nat} (hl : xs.length = ys.length) (h : ∀ a, bitsN a xs = bitsN a ys) : xs = ys := by
  refine List.ext_getElem hl fun i h1 h2 => Nat.eq_of_testBit_eq fun a => ?_
  have e := congrArg (fun l : List Bool => l[i]?) (h a)
  simp only [bitsN, List.getElem?_map, List.getElem?_eq_getElem h1, List.getElem?_eq_getElem h2, Option.map_some, Option.some.injEq] at e
  exact e
/-- Seven passes are enough. -/
theorem itN_fix (ds : List Deleg) (os : List Nat) (h : os.length = 7) : itN ds 8 os = itN ds 7 os := by
  refine eq_of_bits (by rw [itN_len, itN_len]) fun a => ?_
  rw [bits_it, bits_it]
  exact itB_fix a ds _ (by simp [bitsN, h])
theorem itN_stay (ds : List Deleg) (os : List Nat) (n : Nat) (h : itN ds (n + 1) os = itN ds n os) : ∀ m, itN ds (n + m) os = itN ds n os
  | 0 => rfl
  | m + 1 => by
    show passN ds (itN ds (n + m) os) = _
    rw [itN_stay ds os n h m]
    exact h
/-- When a pass has turned nothing all is done. -/
theorem itN_done (ds : List Deleg) (os : List Nat) (n : Nat) (hn : n ≤ 7) (h : itN ds (n + 1) os = itN ds n os) : itN ds n os = itN ds 7 os := by
  have := itN_stay ds os n h (7 - n)
  rw [show n + (7 - n) = 7 by omega] at this
  exact this.symm
theorem itN_more (ds : List Deleg) (os : List Nat) (hl : os.length = 7) (n : Nat) (hn : n ≤ 7) (h : itN ds (n + 1) os ≠ itN ds n os) : n + 1 ≤ 7 := by
  rcases Nat.lt_or_ge n 7 with h1 | h1
  · exact h1
  · obtain rfl : n = 7 := by omega
    exact absurd (itN_fix ds os hl) h
theorem passN_step (ds : List Deleg) (os : List Nat) (k : Nat) (h : k < ds.length) : passN (ds.take (k + 1)) os = dstN (passN (ds.take k) os) ds[k] := by
  unfold passN
  rw [List.take_succ_eq_append_getElem h, List.foldl_append]
  rfl
theorem passN_end (ds : List Deleg) (os : List Nat) (k : Nat) (h : ¬ k < ds.length) : passN (ds.take k) os = passN ds os := by
  rw [List.take_of_length_le (by omega)]
theorem bound_dst (os : List Nat) (h : ∀ x ∈ os, x < 16) (d : Deleg) : ∀ x ∈ dstN os d, x < 16 := by
  intro x hx
  have g : ∀ i, os.getD i 0 < 16 := fun i => by
    rw [List.getD_eq_getElem?_getD]
    cases e : os[i]? with
    | none => simp
    | some y => exact h y (List.mem_of_getElem? e)
  rcases List.mem_or_eq_of_mem_set hx with h1 | h1
  · exact h x h1
  · rw [h1]
    have e1 : os.getD d.f0.toNat 0 &&& d.f2.toNat ≤ os.getD d.f0.toNat 0 := Nat.and_le_left
    exact Nat.or_lt_two_pow (n := 4) (g _) (Nat.lt_of_le_of_lt e1 (g _))
theorem bound_pass : ∀ (ds : List Deleg) (os : List Nat), (∀ x ∈ os, x < 16) → ∀ x ∈ passN ds os, x < 16
  | [], os, h => h
  | d :: ds, os, h => bound_pass ds (dstN os d) (bound_dst os h d)
theorem bound_it (ds : List Deleg) (os : List Nat) (h : ∀ x ∈ os, x < 16) : ∀ n, ∀ x ∈ itN ds n os, x < 16
  | 0 => h
  | n + 1 => bound_pass ds _ (bound_it ds os h n)
/-- Acts are the sum of their bits. -/
theorem bits_sum : ∀ x : Nat, x < 16 → (if x.testBit 0 then 1 else 0) + (if x.testBit 1 then 2 else 0) + (if x.testBit 2 then 4 else 0) + (if x.testBit 3 then 8 else 0) = x := by decide
end Go.Proofs.Ytjmjpejkongipaa
