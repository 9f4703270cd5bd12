/-
  Joined and met labels: the plain facts, and the two laws walked. Condition: the bytes can be read.
-/
import Derived.Test.YtmjjeiadoajkmaaP
set_option linter.unusedSimpArgs false
set_option linter.unusedVariables false
namespace Go.Proofs.Ytmjjeiadoajkmaa
open Go.RowKit

theorem labValid_iff (l a : Int) : labValid l a = true ↔ 0 ≤ l ∧ l ≤ 3 ∧ ∃ x : Nat, a = x ∧ x < 32 := by
  simp only [labValid, inR, Bool.and_eq_true, decide_eq_true_eq]
  constructor
  · rintro ⟨⟨h1, h2⟩, h3, h4⟩
    exact ⟨h1, h2, a.toNat, by omega, by omega⟩
  · rintro ⟨h1, h2, x, rfl, hx⟩
    exact ⟨⟨h1, h2⟩, by omega, by omega⟩
theorem sBel_nat (l m : Int) (x y : Nat) (hl : 0 ≤ l) (hl3 : l ≤ 3) (hm : 0 ≤ m) (hm3 : m ≤ 3) (hx : x < 32) (hy : y < 32) : sBel l x m y = (decide (l ≤ m) && (x &&& y == x)) := by
  have h1 : labValid l x = true := (labValid_iff _ _).2 ⟨hl, hl3, x, rfl, hx⟩
  have h2 : labValid m y = true := (labValid_iff _ _).2 ⟨hm, hm3, y, rfl, hy⟩
  unfold sBel
  rw [h1, h2, bits_and_nat x y (by omega) (by omega)]
  have e2 : (((x &&& y : Nat) : Int) == (x : Int)) = (x &&& y == x) := by rw [Bool.eq_iff_iff]; simp; omega
  rw [e2]
  simp
theorem join_nat (l m : Int) (x y : Nat) (hl : 0 ≤ l) (hl3 : l ≤ 3) (hm : 0 ≤ m) (hm3 : m ≤ 3) (hx : x < 32) (hy : y < 32) : join1 l x m y = maxI l m ∧ join2 l x m y = ((x ||| y : Nat) : Int) := by
  have h1 : labValid l x = true := (labValid_iff _ _).2 ⟨hl, hl3, x, rfl, hx⟩
  have h2 : labValid m y = true := (labValid_iff _ _).2 ⟨hm, hm3, y, rfl, hy⟩
  simp [join1, join2, h1, h2, bits_or_nat x y (by omega) (by omega)]
theorem meet_nat (l m : Int) (x y : Nat) (hl : 0 ≤ l) (hl3 : l ≤ 3) (hm : 0 ≤ m) (hm3 : m ≤ 3) (hx : x < 32) (hy : y < 32) : meet1 l x m y = minI l m ∧ meet2 l x m y = ((x &&& y : Nat) : Int) := by
  have h1 : labValid l x = true := (labValid_iff _ _).2 ⟨hl, hl3, x, rfl, hx⟩
  have h2 : labValid m y = true := (labValid_iff _ _).2 ⟨hm, hm3, y, rfl, hy⟩
  simp [meet1, meet2, h1, h2, bits_and_nat x y (by omega) (by omega)]
theorem join_sym (l x m y : Int) : join1 m y l x = join1 l x m y ∧ join2 m y l x = join2 l x m y := by
  cases h1 : labValid l x
  · simp [join1, join2, h1]
  cases h2 : labValid m y
  · simp [join1, join2, h2]
  obtain ⟨a1, a2, x, rfl, a3⟩ := (labValid_iff _ _).1 h1
  obtain ⟨b1, b2, y, rfl, b3⟩ := (labValid_iff _ _).1 h2
  rw [(join_nat l m x y a1 a2 b1 b2 a3 b3).1, (join_nat l m x y a1 a2 b1 b2 a3 b3).2, (join_nat m l y x b1 b2 a1 a2 b3 a3).1, (join_nat m l y x b1 b2 a1 a2 b3 a3).2, Nat.or_comm]
  refine ⟨?_, rfl⟩
  unfold maxI
  split <;> split <;> omega
theorem meet_sym (l x m y : Int) : meet1 m y l x = meet1 l x m y ∧ meet2 m y l x = meet2 l x m y := by
  cases h1 : labValid l x
  · simp [meet1, meet2, h1]
  cases h2 : labValid m y
  · simp [meet1, meet2, h2]
  obtain ⟨a1, a2, x, rfl, a3⟩ := (labValid_iff _ _).1 h1
  obtain ⟨b1, b2, y, rfl, b3⟩ := (labValid_iff _ _).1 h2
  rw [(meet_nat l m x y a1 a2 b1 b2 a3 b3).1, (meet_nat l m x y a1 a2 b1 b2 a3 b3).2, (meet_nat m l y x b1 b2 a1 a2 b3 a3).1, (meet_nat m l y x b1 b2 a1 a2 b3 a3).2, Nat.and_comm]
  refine ⟨?_, rfl⟩
  unfold minI
  split <;> split <;> omega
theorem join_off (l x m y : Int) (h : (labValid l x && labValid m y) = false) : join1 l x m y = 0 ∧ join2 l x m y = 0 := by
  simp [join1, join2, h]
theorem meet_off (l x m y : Int) (h : (labValid l x && labValid m y) = false) : meet1 l x m y = 0 ∧ meet2 l x m y = 0 := by
  simp [meet1, meet2, h]
/-- The joined label is above both, and below every label that both are below. -/
theorem join_above (l x m y : Int) (h1 : labValid l x = true) (h2 : labValid m y = true) :
    sBel l x (join1 l x m y) (join2 l x m y) = true ∧ sBel m y (join1 l x m y) (join2 l x m y) = true ∧ ∀ p q, sBel l x p q = true → sBel m y p q = true → sBel (join1 l x m y) (join2 l x m y) p q = true := by
  obtain ⟨a1, a2, x, rfl, a3⟩ := (labValid_iff _ _).1 h1
  obtain ⟨b1, b2, y, rfl, b3⟩ := (labValid_iff _ _).1 h2
  rw [(join_nat l m x y a1 a2 b1 b2 a3 b3).1, (join_nat l m x y a1 a2 b1 b2 a3 b3).2]
  have hm : 0 ≤ maxI l m ∧ maxI l m ≤ 3 ∧ l ≤ maxI l m ∧ m ≤ maxI l m ∧ (maxI l m = l ∨ maxI l m = m) := by unfold maxI; split <;> omega
  have ho : x ||| y < 32 := Nat.or_lt_two_pow (n := 5) a3 b3
  refine ⟨?_, ?_, fun p q hp hq => ?_⟩
  · rw [sBel_nat _ _ _ _ a1 a2 hm.1 hm.2.1 a3 ho]
    simp only [Bool.and_eq_true, decide_eq_true_eq, beq_iff_eq]
    exact ⟨hm.2.2.1, Nat.eq_of_testBit_eq fun i => by simp only [Nat.testBit_and, Nat.testBit_or]; cases x.testBit i <;> cases y.testBit i <;> rfl⟩
  · rw [sBel_nat _ _ _ _ b1 b2 hm.1 hm.2.1 b3 ho]
    simp only [Bool.and_eq_true, decide_eq_true_eq, beq_iff_eq]
    exact ⟨hm.2.2.2.1, Nat.eq_of_testBit_eq fun i => by simp only [Nat.testBit_and, Nat.testBit_or]; cases x.testBit i <;> cases y.testBit i <;> rfl⟩
  · have hv : labValid p q = true := by
      unfold sBel at hp
      simp only [Bool.and_eq_true] at hp
      exact hp.1.1.2
    obtain ⟨c1, c2, q, rfl, c3⟩ := (labValid_iff _ _).1 hv
    rw [sBel_nat _ _ _ _ a1 a2 c1 c2 a3 c3] at hp
    rw [sBel_nat _ _ _ _ b1 b2 c1 c2 b3 c3] at hq
    rw [sBel_nat _ _ _ _ hm.1 hm.2.1 c1 c2 ho c3]
    simp only [Bool.and_eq_true, decide_eq_true_eq, beq_iff_eq] at hp hq ⊢
    refine ⟨by omega, ?_⟩
    rw [Nat.and_or_distrib_right, hp.2, hq.2]
/-- The met label is below both, above every label that is below both; joined with the first it is the first. -/
theorem meet_below (l x m y : Int) (h1 : labValid l x = true) (h2 : labValid m y = true) :
    sBel (meet1 l x m y) (meet2 l x m y) l x = true ∧ sBel (meet1 l x m y) (meet2 l x m y) m y = true ∧
    (∀ p q, sBel p q l x = true → sBel p q m y = true → sBel p q (meet1 l x m y) (meet2 l x m y) = true) ∧
    join1 (meet1 l x m y) (meet2 l x m y) l x = l ∧ join2 (meet1 l x m y) (meet2 l x m y) l x = x := by
  obtain ⟨a1, a2, x, rfl, a3⟩ := (labValid_iff _ _).1 h1
  obtain ⟨b1, b2, y, rfl, b3⟩ := (labValid_iff _ _).1 h2
  rw [(meet_nat l m x y a1 a2 b1 b2 a3 b3).1, (meet_nat l m x y a1 a2 b1 b2 a3 b3).2]
  have hm : 0 ≤ minI l m ∧ minI l m ≤ 3 ∧ minI l m ≤ l ∧ minI l m ≤ m ∧ (minI l m = l ∨ minI l m = m) := by unfold minI; split <;> omega
  have ho : x &&& y < 32 := Nat.lt_of_le_of_lt Nat.and_le_left a3
  refine ⟨?_, ?_, fun p q hp hq => ?_, ?_⟩
  · rw [sBel_nat _ _ _ _ hm.1 hm.2.1 a1 a2 ho a3]
    simp only [Bool.and_eq_true, decide_eq_true_eq, beq_iff_eq]
    exact ⟨hm.2.2.1, Nat.eq_of_testBit_eq fun i => by simp only [Nat.testBit_and]; cases x.testBit i <;> cases y.testBit i <;> rfl⟩
  · rw [sBel_nat _ _ _ _ hm.1 hm.2.1 b1 b2 ho b3]
    simp only [Bool.and_eq_true, decide_eq_true_eq, beq_iff_eq]
    exact ⟨hm.2.2.2.1, Nat.eq_of_testBit_eq fun i => by simp only [Nat.testBit_and]; cases x.testBit i <;> cases y.testBit i <;> rfl⟩
  · have hv : labValid p q = true := by
      unfold sBel at hp
      simp only [Bool.and_eq_true] at hp
      exact hp.1.1.1
    obtain ⟨c1, c2, q, rfl, c3⟩ := (labValid_iff _ _).1 hv
    rw [sBel_nat _ _ _ _ c1 c2 a1 a2 c3 a3] at hp
    rw [sBel_nat _ _ _ _ c1 c2 b1 b2 c3 b3] at hq
    rw [sBel_nat _ _ _ _ c1 c2 hm.1 hm.2.1 c3 ho]
    simp only [Bool.and_eq_true, decide_eq_true_eq, beq_iff_eq] at hp hq ⊢
    refine ⟨by omega, ?_⟩
    rw [← Nat.and_assoc, hp.2, hq.2]
  · rw [(join_nat _ _ _ _ hm.1 hm.2.1 a1 a2 ho a3).1, (join_nat _ _ _ _ hm.1 hm.2.1 a1 a2 ho a3).2]
    refine ⟨by unfold maxI; split <;> omega, ?_⟩
    congr 1
    exact Nat.eq_of_testBit_eq fun i => by simp only [Nat.testBit_and, Nat.testBit_or]; cases x.testBit i <;> cases y.testBit i <;> rfl
end Go.Proofs.Ytmjjeiadoajkmaa
