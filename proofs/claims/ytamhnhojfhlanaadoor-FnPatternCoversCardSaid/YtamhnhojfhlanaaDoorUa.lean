/-
  Parts of slices: plain facts on memory. No condition.
-/
import Derived.Test.YtamhnhojfhlanaaDoorU
set_option linter.unusedSimpArgs false
set_option linter.unusedVariables false
namespace Go.Proofs.YtamhnhojfhlanaaDoor
open Go.RowKit

/-- The rest of a slice from an element on. -/
theorem SlF.drop {w : World} {a : Option Addr} {k n cap : Nat} {cs : List Value} (h : SlF w (.slice a n cap) k n cs) (l : Nat) (hl : l ≤ n) : SlF w (sliced a l n cap k) k (n - l) (cs.drop (l * k)) := by
  obtain ⟨h1, a', cap', h2, h3, h4, h5⟩ := h
  cases h2
  refine ⟨by rw [List.length_drop, h1, Nat.sub_mul], _, cap - l, rfl, by omega, by omega, ?_⟩
  by_cases hz : n - l = 0
  · exact .inl hz
  · rcases h5 with h5 | ⟨g, off, rfl, hc⟩
    · omega
    · rw [if_neg (by omega)]
      refine .inr ⟨g, off + l * k, ?_, fun j hj => ?_⟩
      · rw [Option.map_some, addr_add]
      · rw [Nat.add_assoc, hc (l * k + j) (by rw [Nat.sub_mul] at hj; omega), List.getElem?_drop]
/-- The first elements of a slice. -/
theorem SlF.take {w : World} {a : Option Addr} {k n cap : Nat} {cs : List Value} (h : SlF w (.slice a n cap) k n cs) (m : Nat) (hm : m ≤ n) : SlF w (sliced a 0 m cap k) k m (cs.take (m * k)) := by
  obtain ⟨h1, a', cap', h2, h3, h4, h5⟩ := h
  cases h2
  have hmk : m * k ≤ n * k := Nat.mul_le_mul_right _ hm
  refine ⟨by rw [List.length_take, h1]; omega, _, cap - 0, rfl, by omega, by omega, ?_⟩
  by_cases hz : m = 0
  · exact .inl hz
  · rcases h5 with h5 | ⟨g, off, rfl, hc⟩
    · omega
    · rw [if_neg (by omega)]
      refine .inr ⟨g, off, ?_, fun j hj => ?_⟩
      · rw [Option.map_some, addr_add]; simp
      · rw [hc j (by omega), List.getElem?_take, if_pos hj]
/-- Where an owned slice that is not nil lies. -/
theorem own_ad {w : World} {lo e k : Nat} {v : Value} {n : Nat} {cs : List Value} (h : w.ownsRow lo e k v n cs) (hv : v ≠ .slice none 0 0) : ∃ g cap, v = .slice (some ⟨g, 0, none⟩) n cap ∧ lo ≤ g ∧ n ≤ cap ∧ cap ≤ maxLen ∧ ∀ j u, cs[j]? = some u → w.cell? ((⟨g, 0, none⟩ : Addr).add j) = some u := by
  have hs := own_sl h
  obtain ⟨h1, h2⟩ := h
  rcases h2 with ⟨rfl, rfl⟩ | ⟨g, cap, cur, rfl, hg, hh, hn, hc, hs', ht⟩
  · exact absurd rfl hv
  · refine ⟨g, cap, rfl, hg, hn, hc, fun j u hu => ?_⟩
    rw [addr_add]
    obtain ⟨_, a, c, e1, _, _, h5⟩ := hs
    cases e1
    have hj : j < cs.length := by
      rcases Nat.lt_or_ge j cs.length with q | q
      · exact q
      · rw [List.getElem?_eq_none q] at hu; cases hu
    rcases h5 with h5 | ⟨g', off, ha, hc'⟩
    · subst h5; rw [h1] at hj; simp at hj
    · cases ha
      rw [hc' j (by omega)]; exact hu
theorem drop_flat {α : Type} (enc : α → List Value) (k : Nat) (hk : ∀ x, (enc x).length = k) (xs : List α) (l : Nat) : (xs.flatMap enc).drop (l * k) = (xs.drop l).flatMap enc := by
  induction l generalizing xs with
  | zero => simp
  | succ l ih =>
    cases xs with
    | nil => simp
    | cons x xs =>
      rw [List.flatMap_cons, List.drop_succ_cons, ← ih xs, List.drop_append, List.drop_eq_nil_of_le (by rw [hk, Nat.add_mul]; omega), hk, List.nil_append, Nat.add_mul, Nat.one_mul, Nat.add_sub_cancel]
theorem take_flat {α : Type} (enc : α → List Value) (k : Nat) (hk : ∀ x, (enc x).length = k) (xs : List α) (l : Nat) : (xs.flatMap enc).take (l * k) = (xs.take l).flatMap enc := by
  induction l generalizing xs with
  | zero => simp
  | succ l ih =>
    cases xs with
    | nil => simp
    | cons x xs =>
      rw [List.flatMap_cons, List.take_succ_cons, List.flatMap_cons, ← ih xs, List.take_append, List.take_of_length_le (by rw [hk, Nat.add_mul]; omega), hk, Nat.add_mul, Nat.one_mul, Nat.add_sub_cancel]
end Go.Proofs.YtamhnhojfhlanaaDoor
