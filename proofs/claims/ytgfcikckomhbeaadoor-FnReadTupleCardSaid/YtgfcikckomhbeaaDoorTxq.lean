/-
  Texts of tuples: what the reference reads. No program in sight.
-/
import Derived.Test.YtgfcikckomhbeaaDoorTxp
set_option linter.unusedSimpArgs false
set_option linter.unusedVariables false
namespace Go.Proofs.YtgfcikckomhbeaaDoor
theorem first_at (a b : List UInt8) (c : UInt8) (h : ∀ x ∈ a, x ≠ c) (k : Nat) (hno : ∀ j, j < k → (a ++ c :: b)[j]? ≠ some c) (hat : k = (a ++ c :: b).length ∨ (a ++ c :: b)[k]? = some c) : k = a.length := by
  rcases Nat.lt_trichotomy k a.length with hk | hk | hk
  · rcases hat with e | e
    · simp at e
      omega
    · rw [List.getElem?_append_left hk] at e
      exact absurd rfl (h c (List.mem_of_getElem? e))
  · exact hk
  · exact absurd (by simp) (hno a.length hk)
theorem get_list (s : ByteArray) (i : Nat) (h : i < s.size) : s.data.toList[i]? = some (s[i]'h) := by
  rw [List.getElem?_eq_getElem (by rw [Array.length_toList]; exact h)]
  simp [ByteArray.getElem_eq_getElem_data]
theorem extract_list (s : ByteArray) (a b : Nat) : (s.extract a b).data.toList = (s.data.toList.drop a).take (b - a) := by
  simp [ByteArray.data_extract, List.extract_eq_take_drop]
def headT (u : Tup) : List UInt8 := 35 :: (dgt u.f0 ++ 58 :: u.f1.data.toList)
theorem tupT_head (u : Tup) : tupT u = headT u ++ 64 :: (35 :: (dgt u.f2 ++ viaT u.f3)) := by simp [tupT, headT]
theorem headT_len (u : Tup) : (headT u).length = 3 + u.f1.size := by
  have e : u.f1.data.toList.length = u.f1.size := Array.length_toList
  simp [headT, dgt]
  omega
theorem headT_no {u : Tup} (h : tOk u = true) : ∀ x ∈ headT u, x ≠ 64 := by
  obtain ⟨h0, h2, h1, h3⟩ := tOk_parts h
  obtain ⟨a0, b0, c0, d0⟩ := dgt_atoi h0
  have l1 := name_low h1 64 (by decide)
  intro x hx
  simp only [headT, List.mem_cons, List.mem_append] at hx
  rcases hx with rfl | hx | rfl | hx
  · decide
  · exact d0 x hx
  · decide
  · exact l1 x hx
theorem dgt_nat {n : Int} (h : 0 ≤ n ∧ n ≤ 6) {c : UInt8} (hc : UInt8.ofNat (48 + n.toNat) = c) : (c.toNat : Int) - 48 = n := by
  obtain ⟨m, rfl⟩ := Int.eq_ofNat_of_zero_le h.1
  have := (dgt_seven m (by omega)).2.2.2.2
  subst hc
  show ((UInt8.ofNat (48 + m)).toNat : Int) - 48 = m
  rw [this]
  omega
/-- Where the reference finds a text's sign, and what it reads there. -/
theorem spec_tup {s : ByteArray} {u : Tup} (h : IsTup s.data.toList u) (k : Nat) (hno : ∀ j, j < k → s.data.toList[j]? ≠ some 64) (hat : k = s.size ∨ s.data.toList[k]? = some 64) :
    4 ≤ k ∧ ∃ (h1 : 1 < s.size) (h2 : k + 2 < s.size), ((s[1]'h1).toNat : Int) - 48 = u.f0 ∧ s.extract 3 k = u.f1 ∧ ((s[k + 2]'h2).toNat : Int) - 48 = u.f2 ∧ (if k + 4 < s.size then s.extract (k + 4) s.size else ⟨#[]⟩) = u.f3 := by
  obtain ⟨hok, e⟩ := h
  obtain ⟨h0, h2, h1, h3⟩ := tOk_parts hok
  have hl1 := headT_len u
  have hsz : s.data.toList.length = s.size := Array.length_toList
  have hf1 : u.f1.data.toList.length = u.f1.size := Array.length_toList
  have hf3 : u.f3.data.toList.length = u.f3.size := Array.length_toList
  have hn1 := name_len h1
  rw [tupT_head] at e
  have hk : k = (headT u).length := first_at _ _ _ (headT_no hok) k (by rw [e]; exact hno) (by rw [e, hsz]; exact hat)
  have hlen : s.size = (headT u).length + 3 + (viaT u.f3).length := by
    rw [← hsz, ← e]
    simp [dgt]
    omega
  have hs1 : 1 < s.size := by omega
  have hs2 : k + 2 < s.size := by omega
  refine ⟨by omega, hs1, hs2, ?_, ?_, ?_, ?_⟩
  · refine dgt_nat h0 ?_
    have := get_list s 1 hs1
    rw [← e] at this
    simpa [headT, dgt] using this
  · apply bytes_ext
    rw [extract_list, ← e, hk]
    have : (headT u ++ 64 :: 35 :: (dgt u.f2 ++ viaT u.f3)).drop 3 = u.f1.data.toList ++ 64 :: 35 :: (dgt u.f2 ++ viaT u.f3) := by simp [headT, dgt]
    rw [this, hl1, show 3 + u.f1.size - 3 = u.f1.data.toList.length by omega, List.take_left]
  · refine dgt_nat h2 ?_
    have := get_list s (k + 2) hs2
    rw [← e, List.getElem?_append_right (by omega), show k + 2 - (headT u).length = 2 by omega] at this
    simpa [dgt] using this
  · unfold viaT at hlen e
    split at hlen
    · rename_i he
      rw [if_neg (by simp at hlen; omega)]
      exact bytes_ext ((isEmpty_iff _).1 he).symm
    · rename_i he
      have hne : u.f3.data.toList ≠ [] := fun hh => he ((isEmpty_iff _).2 hh)
      have hp := List.length_pos_iff.2 hne
      rw [if_neg he] at e
      simp only [List.length_cons] at hlen
      rw [if_pos (by omega)]
      apply bytes_ext
      rw [extract_list, ← e, hk]
      have : (headT u ++ 64 :: 35 :: (dgt u.f2 ++ 58 :: u.f3.data.toList)).drop ((headT u).length + 4) = u.f3.data.toList := by
        rw [List.drop_append]
        simp [dgt]
      rw [this, List.take_of_length_le (by omega)]
end Go.Proofs.YtgfcikckomhbeaaDoor
