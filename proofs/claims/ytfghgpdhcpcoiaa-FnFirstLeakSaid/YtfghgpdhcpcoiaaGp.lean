/-
  First leaks: plain laws. No condition.
-/
import Derived.Test.YtfghgpdhcpcoiaaGm
set_option linter.unusedSimpArgs false
set_option linter.unusedVariables false
namespace Go.Proofs.Ytfghgpdhcpcoiaa
open Go.RowKit
theorem leakK_cases (ls : List Lab) : ∀ (ms : List Mv) (D : List Lab) (k : Int), leakK ls ms D k = -1 ∨ ∃ j : Nat, j < ms.length ∧ leakK ls ms D k = k + j ∧ leakK ls (ms.take j) D k = -1 ∧ leakK ls (ms.take (j + 1)) D k = k + j
  | [], D, k => .inl rfl
  | d :: ms, D, k => by
    cases h : lkB ls D d
    · refine .inr ⟨0, by simp, ?_, rfl, ?_⟩
      · rw [leakK, if_neg (by rw [h]; simp)]; simp
      · rw [List.take_succ_cons, leakK, if_neg (by rw [h]; simp)]; simp
    · rcases leakK_cases ls ms (stF D d) (k + 1) with h1 | ⟨j, hj, h1, h2, h3⟩
      · left
        rw [leakK, if_pos h, h1]
      · refine .inr ⟨j + 1, by simp; omega, ?_, ?_, ?_⟩
        · rw [leakK, if_pos h, h1]; push_cast; omega
        · rw [List.take_succ_cons, leakK, if_pos h, h2]
        · rw [List.take_succ_cons, leakK, if_pos h, h3]; push_cast; omega
def Und (ls D : List Lab) : Prop := ∀ i, i < ls.length → belB (D.getD i lab0).f0 (D.getD i lab0).f1 (ls.getD i lab0).f0 (ls.getD i lab0).f1 = true
theorem und_self (ls : List Lab) (h : ls.all labOk = true) : Und ls ls := fun i _ => by
  have q := getD_ok ls h i
  generalize ls.getD i lab0 = d at q
  rw [labOk_iff] at q
  obtain ⟨x, hx⟩ : ∃ x : Nat, d.f1 = x := ⟨d.f1.toNat, by omega⟩
  unfold belB
  rw [hx, bits_andNot_nat x x (by omega) (by omega)]
  simp
theorem und_flow (ls : List Lab) : ∀ (ms : List Mv) (D : List Lab) (k : Int), 0 ≤ k → leakK ls ms D k = -1 → Und ls D → Und ls (flow D ms)
  | [], D, k, _, _, hu => hu
  | d :: ms, D, k, hk, hl, hu => by
    cases h : lkB ls D d
    · rw [leakK, if_neg (by rw [h]; simp)] at hl
      omega
    · rw [leakK, if_pos h] at hl
      refine und_flow ls ms (stF D d) (k + 1) (by omega) hl fun i hi => ?_
      unfold stF
      by_cases e : d.n.toNat = i ∧ i < D.length
      · obtain ⟨e1, e2⟩ := e
        have q : (D.set d.n.toNat (wrL D d.xs)).getD i lab0 = wrL D d.xs := by
          rw [e1, List.getD_eq_getElem?_getD, List.getElem?_set_self e2]; rfl
        rw [q]
        unfold lkB at h
        rw [e1] at h
        exact h
      · have q : (D.set d.n.toNat (wrL D d.xs)).getD i lab0 = D.getD i lab0 := by
          rw [List.getD_eq_getElem?_getD, List.getD_eq_getElem?_getD, List.getElem?_set]
          by_cases e1 : d.n.toNat = i
          · have : ¬ i < D.length := fun e2 => e ⟨e1, e2⟩
            rw [if_pos e1, e1, if_neg this, List.getElem?_eq_none (by omega)]
          · rw [if_neg e1]
        rw [q]
        exact hu i hi
theorem leak_cases (ls : List Lab) (ms : List Mv) : leakI ls ms = -2 ∨ (leakI ls ms = -1 ∧ flowR ls ms = flow ls ms ∧ ∀ i (h : i < ls.length) (h2 : i < (flow ls ms).length), iBel (flow ls ms)[i].f0 (flow ls ms)[i].f1 ls[i].f0 ls[i].f1 = true) ∨
    ∃ j : Nat, j < ms.length ∧ leakI ls ms = j ∧ leakI ls (ms.take j) = -1 ∧ leakI ls (ms.take (j + 1)) = j := by
  cases hok : flowOk ls ms
  · left; simp [leakI, hok]
  · right
    have hk : ∀ j, flowOk ls (ms.take j) = true := fun j => by
      simp only [flowOk, Bool.and_eq_true] at hok ⊢
      exact ⟨hok.1, mvValid_take _ _ _ hok.2⟩
    rcases leakK_cases ls ms ls 0 with h | ⟨j, hj, h1, h2, h3⟩
    · left
      refine ⟨by simp [leakI, hok, h], by simp [flowR, hok], fun i hi hi2 => ?_⟩
      have F := flowOk_of hok
      have hu := und_flow ls ms ls 0 (by omega) h (und_self ls F.labs) i hi
      have q1 := List.all_eq_true.1 (flow_ok ms ls F.labs) (flow ls ms)[i] (List.getElem_mem hi2)
      have q2 := List.all_eq_true.1 F.labs ls[i] (List.getElem_mem hi)
      rw [List.getD_eq_getElem?_getD, List.getElem?_eq_getElem hi2, List.getD_eq_getElem?_getD, List.getElem?_eq_getElem hi] at hu
      unfold labOk at q1 q2
      simp only [iBel, q1, q2, Bool.and_self, Bool.true_and]
      exact hu
    · right
      refine ⟨j, hj, ?_, ?_, ?_⟩
      · simp [leakI, hok, h1]
      · simp [leakI, hk, h2]
      · simp [leakI, hk, h3]
end Go.Proofs.Ytfghgpdhcpcoiaa
