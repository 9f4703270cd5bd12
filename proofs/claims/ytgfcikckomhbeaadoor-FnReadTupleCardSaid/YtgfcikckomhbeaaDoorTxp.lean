/-
  Texts of tuples: plain. No program in sight.
-/
import Derived.Test.YtgfcikckomhbeaaDoorTuv
import Derived.Lib.AtoiAll
import Derived.Lib.IndexMore
import Derived.Lib.IndexBytes
import Derived.Lib.ItoaNum
import Derived.Lib.Strings
set_option linter.unusedSimpArgs false
set_option linter.unusedVariables false
namespace Go.Proofs.YtgfcikckomhbeaaDoor
theorem indexByte_at (a b : List UInt8) (c : UInt8) (h : ∀ x ∈ a, x ≠ c) : Lib.indexByte (a ++ c :: b) c = a.length := by
  induction a with
  | nil => simp [Lib.indexByte]
  | cons x a ih =>
    have hx : (x == c) = false := by simpa using h x (by simp)
    have := ih (fun y hy => h y (by simp [hy]))
    have hn : (((a.length : Nat) : Int) == -1) = false := by rw [beq_eq_false_iff_ne]; omega
    simp only [List.cons_append, Lib.indexByte, hx, this, hn]
    simp
theorem indexByte_no (a : List UInt8) (c : UInt8) (h : ∀ x ∈ a, x ≠ c) : Lib.indexByte a c = -1 := by
  induction a with
  | nil => rfl
  | cons x a ih =>
    have hx : (x == c) = false := by simpa using h x (by simp)
    have := ih (fun y hy => h y (by simp [hy]))
    simp [Lib.indexByte, hx, this]
theorem cut_at (a b : List UInt8) (c : UInt8) (h : ∀ x ∈ a, x ≠ c) : Lib.cut (a ++ c :: b) [c] = (a, b, true) := by
  unfold Lib.cut
  rw [Lib.index_one, indexByte_at a b c h, if_pos (by omega)]
  simp
theorem cut_no (a : List UInt8) (c : UInt8) (h : ∀ x ∈ a, x ≠ c) : Lib.cut a [c] = (a, [], false) := by
  unfold Lib.cut
  rw [Lib.index_one, indexByte_no a c h, if_neg (by omega)]
theorem cut_len (s p : List UInt8) : (Lib.cut s p).1.length ≤ s.length ∧ (Lib.cut s p).2.1.length ≤ s.length := by
  unfold Lib.cut
  split
  · simp
    omega
  · simp
theorem trim_len (s p : List UInt8) : (Lib.trimPrefix s p).length ≤ s.length := by
  unfold Lib.trimPrefix
  split <;> simp
/-- One digit. -/
def dgt (n : Int) : List UInt8 := [UInt8.ofNat (48 + n.toNat)]
def viaT (v : ByteArray) : List UInt8 := if v.toList.isEmpty then [] else 58 :: v.data.toList
def tupT (t : Tup) : List UInt8 := 35 :: (dgt t.f0 ++ 58 :: (t.f1.data.toList ++ 64 :: 35 :: (dgt t.f2 ++ viaT t.f3)))
def tupTx (t : Tup) : List UInt8 := if tOk t then tupT t else []
def tupS (t : Tup) : ByteArray := ⟨(tupTx t).toArray⟩
/-- A text that is a tuple's. -/
def IsTup (s : List UInt8) (t : Tup) : Prop := tOk t = true ∧ tupT t = s
def NoTup (s : List UInt8) : Prop := ∀ t, ¬ IsTup s t
theorem tOk_parts {t : Tup} (h : tOk t = true) : (0 ≤ t.f0 ∧ t.f0 ≤ 6) ∧ (0 ≤ t.f2 ∧ t.f2 ≤ 6) ∧ nameOk t.f1.data.toList = true ∧ viaOk t.f3 = true := by
  simp only [tOk, Bool.and_eq_true, inR_iff] at h
  exact ⟨h.1.1.1, h.1.1.2, h.1.2, h.2⟩
theorem isEmpty_iff (v : ByteArray) : v.toList.isEmpty = true ↔ v.data.toList = [] := by
  rw [ByteArray.toList_eq, List.isEmpty_iff]
theorem name_low {l : List UInt8} (h : nameOk l = true) (c : UInt8) (hc : isLow c = false) : ∀ x ∈ l, x ≠ c := by
  intro x hx e
  subst e
  simp only [nameOk, Bool.and_eq_true, List.all_eq_true] at h
  rw [h.1 x hx] at hc
  exact absurd hc (by decide)
theorem name_len {l : List UInt8} (h : nameOk l = true) : 1 ≤ l.length ∧ l.length ≤ 8 := by
  simp only [nameOk, Bool.and_eq_true, decide_eq_true_eq] at h
  exact h.2
theorem dgt_seven : ∀ n : Nat, n < 7 → (Lib.atoiAll [UInt8.ofNat (48 + n)] = .ok (n : Int)) ∧ Lib.trimPrefix (35 :: [UInt8.ofNat (48 + n)]) [35] = [UInt8.ofNat (48 + n)] ∧ UInt8.ofNat (48 + n) ≠ 58 ∧ UInt8.ofNat (48 + n) ≠ 64 ∧ (UInt8.ofNat (48 + n)).toNat = 48 + n := by
  intro n hn
  rcases (show n = 0 ∨ n = 1 ∨ n = 2 ∨ n = 3 ∨ n = 4 ∨ n = 5 ∨ n = 6 by omega) with rfl | rfl | rfl | rfl | rfl | rfl | rfl <;> refine ⟨by rfl, by rfl, by decide, by decide, by decide⟩
theorem dgt_atoi {n : Int} (h : 0 ≤ n ∧ n ≤ 6) : Lib.atoiAll (dgt n) = .ok n ∧ Lib.trimPrefix (35 :: dgt n) [35] = dgt n ∧ (∀ x ∈ dgt n, x ≠ 58) ∧ (∀ x ∈ dgt n, x ≠ 64) := by
  obtain ⟨m, rfl⟩ := Int.eq_ofNat_of_zero_le h.1
  obtain ⟨a, b, c, d, _⟩ := dgt_seven m (by omega)
  refine ⟨a, b, ?_, ?_⟩
  · intro x hx
    simp only [dgt, List.mem_singleton] at hx
    rw [hx]
    exact c
  · intro x hx
    simp only [dgt, List.mem_singleton] at hx
    rw [hx]
    exact d
theorem dig_small (n : Nat) (h : n < 10) : Lib.decDigits n = dgt n := by
  unfold Lib.decDigits
  rw [dif_pos h]
  rfl
/-- What the program reads of a text that is a tuple's. -/
theorem cut_tup {s : List UInt8} {t : Tup} (h : IsTup s t) :
    (Lib.cut (Lib.cut s [64]).1 [58]).2.1 = t.f1.data.toList ∧ (Lib.cut (Lib.cut s [64]).2.1 [58]).2.1 = t.f3.data.toList ∧
    Lib.atoiAll (Lib.trimPrefix (Lib.cut (Lib.cut s [64]).1 [58]).1 [35]) = .ok t.f0 ∧ Lib.atoiAll (Lib.trimPrefix (Lib.cut (Lib.cut s [64]).2.1 [58]).1 [35]) = .ok t.f2 := by
  obtain ⟨hok, rfl⟩ := h
  obtain ⟨h0, h2, h1, h3⟩ := tOk_parts hok
  obtain ⟨a0, b0, c0, d0⟩ := dgt_atoi h0
  obtain ⟨a2, b2, c2, d2⟩ := dgt_atoi h2
  have l1 := name_low h1 64 (by decide)
  have e1 : Lib.cut (tupT t) [64] = (35 :: (dgt t.f0 ++ 58 :: t.f1.data.toList), 35 :: (dgt t.f2 ++ viaT t.f3), true) := by
    have := cut_at (35 :: (dgt t.f0 ++ 58 :: t.f1.data.toList)) (35 :: (dgt t.f2 ++ viaT t.f3)) 64 (by
      intro x hx
      simp only [List.mem_cons, List.mem_append] at hx
      rcases hx with rfl | hx | rfl | hx
      · decide
      · exact d0 x hx
      · decide
      · exact l1 x hx)
    rw [← this]
    simp [tupT]
  have e2 : Lib.cut (35 :: (dgt t.f0 ++ 58 :: t.f1.data.toList)) [58] = (35 :: dgt t.f0, t.f1.data.toList, true) :=
    cut_at (35 :: dgt t.f0) t.f1.data.toList 58 (by
      intro x hx
      rcases List.mem_cons.1 hx with rfl | hx
      · decide
      · exact c0 x hx)
  have e3 : (Lib.cut (35 :: (dgt t.f2 ++ viaT t.f3)) [58]).1 = 35 :: dgt t.f2 ∧ (Lib.cut (35 :: (dgt t.f2 ++ viaT t.f3)) [58]).2.1 = t.f3.data.toList := by
    have hn : ∀ x ∈ 35 :: dgt t.f2, x ≠ (58 : UInt8) := by
      intro x hx
      rcases List.mem_cons.1 hx with rfl | hx
      · decide
      · exact c2 x hx
    unfold viaT
    split
    · rename_i he
      rw [List.append_nil, cut_no _ _ hn]
      exact ⟨rfl, ((isEmpty_iff _).1 he).symm⟩
    · have := cut_at (35 :: dgt t.f2) t.f3.data.toList 58 hn
      rw [List.cons_append] at this
      rw [this]
      exact ⟨rfl, rfl⟩
  rw [e1]
  simp only
  rw [e2, e3.1, e3.2]
  simp only
  rw [b0, b2]
  exact ⟨trivial, trivial, a0, a2⟩
theorem bytes_ext {a b : ByteArray} (h : a.data.toList = b.data.toList) : a = b := ByteArray.ext (Array.toList_inj.1 h)
theorem isTup_one {s : List UInt8} {t u : Tup} (h : IsTup s t) (k : IsTup s u) : t = u := by
  obtain ⟨a1, a3, a0, a2⟩ := cut_tup h
  obtain ⟨b1, b3, b0, b2⟩ := cut_tup k
  obtain ⟨t0, t1, t2, t3⟩ := t
  obtain ⟨u0, u1, u2, u3⟩ := u
  have e1 : t1 = u1 := bytes_ext (a1.symm.trans b1)
  have e3 : t3 = u3 := bytes_ext (a3.symm.trans b3)
  have e0 : t0 = u0 := by
    have := a0.symm.trans b0
    injection this
  have e2 : t2 = u2 := by
    have := a2.symm.trans b2
    injection this
  subst e0 e1 e2 e3
  rfl
theorem tupT_ne (t : Tup) : tupT t ≠ [] := by simp [tupT]
theorem tupS_list (t : Tup) : (tupS t).data.toList = tupTx t := by simp [tupS]
theorem tupS_eq {s : ByteArray} (hs : s.data.toList ≠ []) (t : Tup) : tupS t = s ↔ IsTup s.data.toList t := by
  constructor
  · rintro rfl
    rw [tupS_list] at hs ⊢
    unfold tupTx at hs ⊢
    cases h : tOk t
    · rw [h] at hs
      simp at hs
    · exact ⟨h, by simp⟩
  · rintro ⟨h1, h2⟩
    apply bytes_ext
    rw [tupS_list, tupTx, if_pos h1, h2]
theorem tupS_isTup {t : Tup} (h : tOk t = true) : IsTup (tupS t).data.toList t := by
  rw [tupS_list, tupTx, if_pos h]
  exact ⟨h, rfl⟩
theorem tupS_bad {t : Tup} (h : tOk t = false) : tupS t = ⟨#[]⟩ := by
  apply bytes_ext
  rw [tupS_list, tupTx, h]
  rfl
/-- A tuple's text doesn't end in a blank. -/
theorem noTup_space {s : List UInt8} {t : Tup} (h : IsTup (s ++ [32]) t) : False := by
  obtain ⟨hok, e⟩ := h
  obtain ⟨h0, h2, h1, h3⟩ := tOk_parts hok
  have hl : (tupT t).getLast? = some 32 := by rw [e]; simp
  unfold tupT viaT at hl
  split at hl
  · obtain ⟨m, hm⟩ := Int.eq_ofNat_of_zero_le h2.1
    rw [hm] at hl h2
    simp only [dgt] at hl
    simp [List.getLast?_cons] at hl
    rcases (show m = 0 ∨ m = 1 ∨ m = 2 ∨ m = 3 ∨ m = 4 ∨ m = 5 ∨ m = 6 by omega) with rfl | rfl | rfl | rfl | rfl | rfl | rfl <;> exact absurd hl (by decide)
  · rename_i he
    have hv : nameOk t.f3.data.toList = true := by
      unfold viaOk at h3
      simpa [he] using h3
    have hne : t.f3.data.toList ≠ [] := fun hh => by
      have := name_len hv
      rw [hh] at this
      simp at this
    obtain ⟨x, l, hx⟩ := List.exists_cons_of_ne_nil hne
    have hm : (32 : UInt8) ∈ t.f3.data.toList := by
      have : (35 :: (dgt t.f0 ++ 58 :: (t.f1.data.toList ++ 64 :: 35 :: (dgt t.f2 ++ [58])))) ++ t.f3.data.toList = 35 :: (dgt t.f0 ++ 58 :: (t.f1.data.toList ++ 64 :: 35 :: (dgt t.f2 ++ 58 :: t.f3.data.toList))) := by simp
      rw [← this, List.getLast?_append] at hl
      rw [List.getLast?_eq_some_getLast hne] at hl
      simp only [Option.some_or, Option.some.injEq] at hl
      rw [← hl]
      exact List.getLast_mem hne
    exact name_low hv 32 (by decide) 32 hm rfl
end Go.Proofs.YtgfcikckomhbeaaDoor
