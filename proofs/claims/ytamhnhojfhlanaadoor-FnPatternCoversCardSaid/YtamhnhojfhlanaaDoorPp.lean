/-
  Words of a path: plain. No program in sight.
-/
import Derived.Test.YtamhnhojfhlanaaDoorA
import Derived.Lib.Split
import Derived.Lib.SplitLaws
import Derived.Lib.IndexLaws
import Derived.Lib.IndexBytes
set_option linter.unusedSimpArgs false
set_option linter.unusedVariables false
namespace Go.Proofs.YtamhnhojfhlanaaDoor
/-- A text's words, cut at the slashes. -/
def wordsL : List UInt8 → List (List UInt8)
  | [] => [[]]
  | c :: r => if c = 47 then [] :: wordsL r else match wordsL r with | [] => [[c]] | x :: xs => (c :: x) :: xs
theorem wordsL_ne : ∀ l, wordsL l ≠ []
  | [] => by simp [wordsL]
  | c :: r => by
    unfold wordsL
    split
    · simp
    · split <;> simp
theorem wordsL_cut (a b : List UInt8) (h : ∀ x ∈ a, x ≠ 47) : wordsL (a ++ 47 :: b) = a :: wordsL b := by
  induction a with
  | nil => simp [wordsL]
  | cons x a ih =>
    have hx : x ≠ 47 := h x (by simp)
    have := ih (fun y hy => h y (by simp [hy]))
    rw [List.cons_append, wordsL, if_neg hx, this]
theorem wordsL_one (a : List UInt8) (h : ∀ x ∈ a, x ≠ 47) : wordsL a = [a] := by
  induction a with
  | nil => rfl
  | cons x a ih =>
    have hx : x ≠ 47 := h x (by simp)
    rw [wordsL, if_neg hx, ih (fun y hy => h y (by simp [hy]))]
theorem wordsL_slash (l : List UInt8) : wordsL (l ++ [47]) = wordsL l ++ [[]] := by
  induction l with
  | nil => rfl
  | cons x l ih =>
    rw [List.cons_append, wordsL, wordsL, ih]
    split
    · rfl
    · have := wordsL_ne l
      cases h : wordsL l with
      | nil => exact absurd h this
      | cons y ys => rfl
theorem wordsL_letter (l : List UInt8) (c : UInt8) (hc : c ≠ 47) : ∃ ws w, wordsL l = ws ++ [w] ∧ wordsL (l ++ [c]) = ws ++ [w ++ [c]] := by
  induction l with
  | nil => exact ⟨[], [], rfl, by simp [wordsL, hc]⟩
  | cons x l ih =>
    obtain ⟨ws, w, h1, h2⟩ := ih
    rw [List.cons_append, wordsL, wordsL, h1, h2]
    split
    · exact ⟨[] :: ws, w, rfl, rfl⟩
    · cases ws with
      | nil => exact ⟨[], x :: w, rfl, rfl⟩
      | cons y ys => exact ⟨(x :: y) :: ys, w, rfl, rfl⟩
theorem wordsL_len : ∀ l, (wordsL l).length ≤ l.length + 1
  | [] => by simp [wordsL]
  | c :: r => by
    have := wordsL_len r
    unfold wordsL
    split
    · simp only [List.length_cons]
      omega
    · split
      · simp
      · rename_i h
        rw [h] at this
        simp only [List.length_cons] at this ⊢
        omega
theorem splitK_words : ∀ (n : Nat) (l : List UInt8), l.length ≤ n → Lib.splitK [47] 0 (Lib.count l [47]) l = wordsL l
  | n, l, hn => by
    by_cases hm : Lib.index l [47] = -1
    · rw [Lib.count_miss hm]
      have hno : ∀ x ∈ l, x ≠ (47 : UInt8) := by
        intro x hx e
        subst e
        obtain ⟨k, hk⟩ := List.getElem?_of_mem hx
        rw [Lib.index_one] at hm
        exact Lib.indexByte_none hm k hk
      rw [wordsL_one l hno]
      rfl
    · have hge := Lib.index_ge l [47]
      obtain ⟨i, hi⟩ : ∃ i : Nat, Lib.index l [47] = i := ⟨(Lib.index l [47]).toNat, by omega⟩
      have hi2 := hi
      rw [Lib.index_one] at hi2
      obtain ⟨h1, h2⟩ := Lib.indexByte_some hi2
      have hlen : i < l.length := (List.getElem?_eq_some_iff.1 h1).1
      have e : l = l.take i ++ 47 :: l.drop (i + 1) := by
        have : l.drop i = 47 :: l.drop (i + 1) := by
          rw [List.drop_eq_getElem_cons hlen]
          congr 1
          have := (List.getElem?_eq_some_iff.1 h1).2
          exact this
        rw [← this, List.take_append_drop]
      have hno : ∀ x ∈ l.take i, x ≠ (47 : UInt8) := by
        intro x hx e
        subst e
        obtain ⟨k, hk⟩ := List.getElem?_of_mem hx
        have hki : k < i := by
          have := (List.getElem?_eq_some_iff.1 hk).1
          simp at this
          omega
        rw [List.getElem?_take_of_lt hki] at hk
        exact h2 k hki hk
      rw [Lib.count_hit (by simp) hi, Nat.add_comm 1 (Lib.count _ _)]
      show (if Lib.index l [47] == -1 then [l] else l.take ((Lib.index l [47]).toNat + 0) :: Lib.splitK [47] 0 (Lib.count (l.drop (i + 1)) [47]) (l.drop ((Lib.index l [47]).toNat + 1))) = _
      rw [if_neg (by rw [hi]; intro h; have := beq_iff_eq.1 h; omega), hi, Int.toNat_natCast, Nat.add_zero, splitK_words (n - 1) (l.drop (i + 1)) (by rw [List.length_drop]; omega)]
      conv => rhs; rw [e]
      rw [wordsL_cut _ _ hno]
termination_by n l => l.length
decreasing_by simp only [List.length_drop]; omega
end Go.Proofs.YtamhnhojfhlanaaDoor
