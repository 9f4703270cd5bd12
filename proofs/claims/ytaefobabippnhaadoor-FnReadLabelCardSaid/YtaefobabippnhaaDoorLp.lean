/-
  Texts of labels: plain. No program in sight.
-/
import Derived.Test.YtaefobabippnhaaDoorA
set_option linter.unusedSimpArgs false
set_option linter.unusedVariables false
namespace Go.Proofs.YtaefobabippnhaaDoor
def lvName : Nat → List UInt8
  | 0 => [111, 112, 101, 110]
  | 1 => [105, 110, 110, 101, 114]
  | 2 => [115, 101, 99, 114, 101, 116]
  | _ => [116, 111, 112]
/-- The areas below k, each with a plus ahead of it. -/
def arTo (a : Nat) : Nat → List UInt8
  | 0 => []
  | k + 1 => arTo a k ++ if a.testBit k then [43, UInt8.ofNat (97 + k)] else []
def labT (l a : Nat) : List UInt8 := lvName l ++ arTo a 5
/-- A label that is valid. -/
def labIn (l a : Int) : Bool := inR l 0 3 && inR a 0 31
def labTx (l a : Int) : List UInt8 := if labIn l a then labT l.toNat a.toNat else []
def labS (l a : Int) : ByteArray := ⟨(labTx l a).toArray⟩
/-- The bit that a place of a text stands for. -/
def bitAt (s : List UInt8) (i : Nat) : Nat := match s[i]? with | some c => if 97 ≤ c.toNat ∧ c.toNat ≤ 101 then 1 <<< (c.toNat - 97) else 0 | none => 0
def arF (s : List UInt8) (n : Nat) : Nat → Nat
  | 0 => 0
  | j + 1 => arF s n j ||| bitAt s (n + 1 + 2 * j)
theorem arF_stay (s : List UInt8) (n j : Nat) (h : s.length ≤ n + 1 + 2 * j) : ∀ m, arF s n (j + m) = arF s n j
  | 0 => rfl
  | m + 1 => by
    show arF s n (j + m) ||| bitAt s (n + 1 + 2 * (j + m)) = _
    rw [arF_stay s n j h m]
    unfold bitAt
    rw [List.getElem?_eq_none (by omega), Nat.or_zero]
/-- The areas that a text tells behind a name of n letters. -/
def arE (s : List UInt8) (n : Nat) : Nat := arF s n s.length
theorem arF_end (s : List UInt8) (n j : Nat) (h : s.length ≤ n + 1 + 2 * j) (hj : j ≤ s.length) : arF s n j = arE s n := by
  unfold arE
  have := arF_stay s n j h (s.length - j)
  rwa [show j + (s.length - j) = s.length by omega, eq_comm] at this
theorem bitAt_lt (s : List UInt8) (i : Nat) : bitAt s i < 32 := by
  unfold bitAt
  split
  · split
    · rename_i c _ h
      rcases (show c.toNat - 97 = 0 ∨ c.toNat - 97 = 1 ∨ c.toNat - 97 = 2 ∨ c.toNat - 97 = 3 ∨ c.toNat - 97 = 4 by omega) with e | e | e | e | e <;> rw [e] <;> decide
    · decide
  · decide
theorem arF_lt (s : List UInt8) (n : Nat) : ∀ j, arF s n j < 32
  | 0 => by show (0 : Nat) < 32; decide
  | j + 1 => Nat.or_lt_two_pow (n := 5) (arF_lt s n j) (bitAt_lt s _)
theorem all_labs : (List.range 4).all (fun l => (List.range 32).all fun a => decide (arE (labT l a) (lvName l).length = a) && (decide ((labT l a).getLast? ≠ some 32) && decide ((labT l a).length ≤ 16))) = true := by decide +kernel
theorem all_levels : (List.range 4).all (fun l => (List.range 32).all fun a => (List.range 4).all fun l' => decide (l = l') || decide ((labT l a).head? ≠ (lvName l').head?)) = true := by decide +kernel
theorem lab_ar (l a : Nat) (hl : l < 4) (ha : a < 32) : arE (labT l a) (lvName l).length = a ∧ (labT l a).getLast? ≠ some 32 ∧ (labT l a).length ≤ 16 := by
  have h := all_labs
  rw [List.all_eq_true] at h
  have h1 := h l (by simpa using hl)
  rw [List.all_eq_true] at h1
  have h2 := h1 a (by simpa using ha)
  simp only [Bool.and_eq_true, decide_eq_true_eq] at h2
  exact h2
theorem lab_inj (l a l' a' : Nat) (hl : l < 4) (ha : a < 32) (hl' : l' < 4) (ha' : a' < 32) (h : labT l a = labT l' a') : l = l' ∧ a = a' := by
  have e : l = l' := by
    have q := all_levels
    rw [List.all_eq_true] at q
    have q1 := q l (by simpa using hl)
    rw [List.all_eq_true] at q1
    have q2 := q1 a (by simpa using ha)
    rw [List.all_eq_true] at q2
    have q3 := q2 l' (by simpa using hl')
    rw [Bool.or_eq_true, decide_eq_true_eq, decide_eq_true_eq] at q3
    rcases q3 with e | e
    · exact e
    · refine absurd ?_ e
      rw [h]
      unfold labT
      rcases (show l' = 0 ∨ l' = 1 ∨ l' = 2 ∨ l' = 3 by omega) with rfl | rfl | rfl | rfl <;> rfl
  subst e
  have h1 := (lab_ar l a hl ha).1
  have h2 := (lab_ar l a' hl ha').1
  rw [h] at h1
  exact ⟨rfl, h1.symm.trans h2⟩
theorem labTx_eq (l a : Nat) (hl : l < 4) (ha : a < 32) : labTx (l : Int) (a : Int) = labT l a := by
  unfold labTx labIn
  rw [if_pos (by rw [Bool.and_eq_true, inR_iff, inR_iff]; omega)]
  rfl
theorem labTx_len (l a : Int) : (labTx l a).length ≤ 16 := by
  unfold labTx
  split
  · rename_i h
    simp only [labIn, Bool.and_eq_true, inR_iff] at h
    exact (lab_ar _ _ (by omega) (by omega)).2.2
  · exact Nat.zero_le _
theorem labS_toList (l a : Int) : (labS l a).data.toList = labTx l a := by simp [labS]
theorem labS_size (l a : Int) : (labS l a).size ≤ 16 := by
  have := labTx_len l a
  show (labTx l a).toArray.size ≤ 16
  simpa using this
theorem name_len (l : Nat) : (lvName l).length ≤ 6 := by
  unfold lvName
  split <;> decide
/-- A text that is a label's. -/
def IsLab (s : List UInt8) (l a : Nat) : Prop := l < 4 ∧ a < 32 ∧ labT l a = s
def NoLab (s : List UInt8) : Prop := ∀ l a, ¬ IsLab s l a
theorem isLab_one {s : List UInt8} {l a l' a' : Nat} (h : IsLab s l a) (h' : IsLab s l' a') : l = l' ∧ a = a' :=
  lab_inj l a l' a' h.1 h.2.1 h'.1 h'.2.1 (h.2.2.trans h'.2.2.symm)
/-- What the reference tries at a level is the label's areas. -/
theorem isLab_areas {s : List UInt8} {l a : Nat} (h : IsLab s l a) : arE s (lvName l).length = a := by
  rw [← h.2.2]
  exact (lab_ar l a h.1 h.2.1).1
theorem noLab_space {s : List UInt8} (l a : Nat) : ¬ IsLab (s ++ [32]) l a := fun h => by
  have := (lab_ar l a h.1 h.2.1).2.1
  rw [h.2.2] at this
  simp at this
end Go.Proofs.YtaefobabippnhaaDoor
