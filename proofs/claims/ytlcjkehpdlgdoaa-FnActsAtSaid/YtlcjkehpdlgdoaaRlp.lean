/-
  Roles that a role has: plain. No program in sight.
-/
import Derived.Test.YtlcjkehpdlgdoaaRlv
import Derived.Test.YtlcjkehpdlgdoaaMem
set_option linter.unusedSimpArgs false
set_option linter.unusedVariables false
namespace Go.Proofs.Ytlcjkehpdlgdoaa
open Go.RowKit
def rowOf (ds : List Rl) (k : Nat) : List Int := match ds[k]? with | some d => d.xs | none => []
theorem rowOf_eq (ds : List Rl) (k : Nat) (h : k < ds.length) : rowOf ds k = ds[k].xs := by
  unfold rowOf; rw [List.getElem?_eq_getElem h]
def addRow (xs : List Int) (T : Nat) : Nat := xs.foldl (fun T x => T ||| 1 <<< x.toNat) T
theorem addRow_step (xs : List Int) (T : Nat) (k : Nat) (h : k < xs.length) : addRow (xs.take (k + 1)) T = addRow (xs.take k) T ||| 1 <<< xs[k].toNat := by
  unfold addRow
  rw [List.take_succ_eq_append_getElem h, List.foldl_append]
  rfl
theorem addRow_bit (m : Nat) : ∀ (xs : List Int) (T : Nat), (addRow xs T).testBit m = (T.testBit m || xs.any fun x => decide (x.toNat = m))
  | [], T => by simp [addRow]
  | x :: xs, T => by
    show (addRow xs (T ||| 1 <<< x.toNat)).testBit m = _
    rw [addRow_bit m xs, Nat.testBit_or, Nat.one_shiftLeft, Nat.testBit_two_pow, List.any_cons, Bool.or_assoc]
/-- One pass of the program: what the set's roles have is added. -/
def passTo (ds : List Rl) (S : Nat) : Nat → Nat
  | 0 => S
  | k + 1 => if S.testBit k then addRow (rowOf ds k) (passTo ds S k) else passTo ds S k
def passR (ds : List Rl) (S : Nat) : Nat := passTo ds S ds.length
def itR (ds : List Rl) (S : Nat) : Nat → Nat
  | 0 => S
  | p + 1 => passR ds (itR ds S p)
theorem passTo_bit (ds : List Rl) (S m : Nat) : ∀ k, (passTo ds S k).testBit m = true ↔ S.testBit m = true ∨ ∃ i, i < k ∧ S.testBit i = true ∧ ∃ x ∈ rowOf ds i, x.toNat = m
  | 0 => by simp [passTo]
  | k + 1 => by
    unfold passTo
    cases hk : S.testBit k
    · rw [if_neg (by simp), passTo_bit ds S m k]
      constructor
      · rintro (h | ⟨i, h1, h2⟩)
        · exact .inl h
        · exact .inr ⟨i, by omega, h2⟩
      · rintro (h | ⟨i, h1, h2, h3⟩)
        · exact .inl h
        · rcases Nat.lt_or_ge i k with q | q
          · exact .inr ⟨i, q, h2, h3⟩
          · obtain rfl : i = k := by omega
            rw [hk] at h2; cases h2
    · rw [if_pos rfl, addRow_bit, Bool.or_eq_true, passTo_bit ds S m k, List.any_eq_true]
      constructor
      · rintro ((h | ⟨i, h1, h2⟩) | ⟨x, hx, he⟩)
        · exact .inl h
        · exact .inr ⟨i, by omega, h2⟩
        · exact .inr ⟨k, by omega, hk, x, hx, of_decide_eq_true he⟩
      · rintro (h | ⟨i, h1, h2, x, hx, he⟩)
        · exact .inl (.inl h)
        · rcases Nat.lt_or_ge i k with q | q
          · exact .inl (.inr ⟨i, q, h2, x, hx, he⟩)
          · obtain rfl : i = k := by omega
            exact .inr ⟨x, hx, by simpa using he⟩
/-- All numbers are numbers of roles. -/
def RlIn (ds : List Rl) : Prop := ∀ i, ∀ x ∈ rowOf ds i, 0 ≤ x ∧ x < ds.length
theorem rValid_in {ds : List Rl} (h : rValid ds = true) : ds.length ≤ 8 ∧ RlIn ds ∧ ∀ d ∈ ds, 0 ≤ d.acts ∧ d.acts ≤ 15 := by
  simp only [rValid, Bool.and_eq_true, List.all_eq_true, decide_eq_true_eq, List.mem_range] at h
  obtain ⟨h1, h2⟩ := h
  have hk : ∀ k (hk : k < ds.length), inR ds[k].acts 0 15 = true ∧ ascB 0 (ds.length - 1) ds[k].xs = true := fun k hk => by
    have := h1 k hk
    rw [rlAt_eq ds k hk] at this
    simp only [rlOk, Bool.and_eq_true] at this
    exact ⟨this.1.2, this.2⟩
  refine ⟨h2, fun i x hx => ?_, fun d hd => ?_⟩
  · by_cases hi : i < ds.length
    · rw [rowOf_eq ds i hi] at hx
      have := ((asc_iff _ _ _).1 (hk i hi).2).1
      obtain ⟨j, hj, rfl⟩ := List.getElem_of_mem hx
      have := this j hj
      omega
    · unfold rowOf at hx
      rw [List.getElem?_eq_none (by omega)] at hx
      cases hx
  · obtain ⟨i, hi, rfl⟩ := List.getElem_of_mem hd
    exact (inR_iff _ _ _).1 (hk i hi).1
theorem addRow_lt (N : Nat) : ∀ (xs : List Int) (T : Nat), (∀ x ∈ xs, 0 ≤ x ∧ x < N) → T < 2 ^ N → addRow xs T < 2 ^ N
  | [], T, _, hT => hT
  | x :: xs, T, h, hT => by
    have h1 := h x (List.mem_cons_self ..)
    refine addRow_lt N xs _ (fun y hy => h y (List.mem_cons_of_mem _ hy)) (Nat.or_lt_two_pow hT ?_)
    rw [Nat.one_shiftLeft]
    exact Nat.pow_lt_pow_right (by omega) (by omega)
theorem passTo_lt (ds : List Rl) (h : RlIn ds) (S : Nat) (hS : S < 2 ^ ds.length) : ∀ k, passTo ds S k < 2 ^ ds.length
  | 0 => hS
  | k + 1 => by
    unfold passTo
    split
    · exact addRow_lt _ _ _ (h k) (passTo_lt ds h S hS k)
    · exact passTo_lt ds h S hS k
theorem itR_lt (ds : List Rl) (h : RlIn ds) (S : Nat) (hS : S < 2 ^ ds.length) : ∀ p, itR ds S p < 2 ^ ds.length
  | 0 => hS
  | p + 1 => passTo_lt ds h _ (itR_lt ds h S hS p) _
/-- How many bits are set below n. -/
def cnt (S : Nat) : Nat → Nat
  | 0 => 0
  | n + 1 => cnt S n + if S.testBit n then 1 else 0
theorem cnt_le (S : Nat) : ∀ n, cnt S n ≤ n
  | 0 => Nat.le_refl _
  | n + 1 => by
    have := cnt_le S n
    unfold cnt
    split <;> omega
theorem cnt_mono (S T : Nat) (h : ∀ m, S.testBit m = true → T.testBit m = true) : ∀ n, cnt S n ≤ cnt T n ∧ (cnt S n = cnt T n → ∀ m, m < n → S.testBit m = T.testBit m)
  | 0 => ⟨Nat.le_refl _, fun _ m hm => by omega⟩
  | n + 1 => by
    obtain ⟨h1, h2⟩ := cnt_mono S T h n
    unfold cnt
    cases hs : S.testBit n
    · cases ht : T.testBit n
      · refine ⟨by simpa using h1, fun e m hm => ?_⟩
        rcases Nat.lt_or_ge m n with q | q
        · exact h2 (by simpa using e) m q
        · obtain rfl : m = n := by omega
          rw [hs, ht]
      · refine ⟨by simp; omega, fun e => ?_⟩
        simp at e
        omega
    · rw [h n hs]
      refine ⟨by simpa using h1, fun e m hm => ?_⟩
      rcases Nat.lt_or_ge m n with q | q
      · exact h2 (by simpa using e) m q
      · obtain rfl : m = n := by omega
        rw [hs, h _ hs]
theorem passR_sub (ds : List Rl) (S m : Nat) (h : S.testBit m = true) : (passR ds S).testBit m = true := (passTo_bit ds S m _).2 (.inl h)
theorem eq_of_low {S T n : Nat} (hS : S < 2 ^ n) (hT : T < 2 ^ n) (h : ∀ m, m < n → S.testBit m = T.testBit m) : S = T := by
  refine Nat.eq_of_testBit_eq fun m => ?_
  rcases Nat.lt_or_ge m n with q | q
  · exact h m q
  · rw [Nat.testBit_lt_two_pow (Nat.lt_of_lt_of_le hS (Nat.pow_le_pow_right (by omega) q)), Nat.testBit_lt_two_pow (Nat.lt_of_lt_of_le hT (Nat.pow_le_pow_right (by omega) q))]
theorem passR_fix (ds : List Rl) (h : RlIn ds) (S : Nat) (hS : S < 2 ^ ds.length) : passR ds S = S ∨ cnt S ds.length + 1 ≤ cnt (passR ds S) ds.length := by
  obtain ⟨h1, h2⟩ := cnt_mono S (passR ds S) (passR_sub ds S) ds.length
  by_cases he : cnt S ds.length = cnt (passR ds S) ds.length
  · exact .inl (eq_of_low (passTo_lt ds h S hS _) hS fun m hm => (h2 he m hm).symm)
  · exact .inr (by omega)
theorem itR_grow (ds : List Rl) (h : RlIn ds) (S : Nat) (hS : S < 2 ^ ds.length) : ∀ p, itR ds S (p + 1) = itR ds S p ∨ p + 1 ≤ cnt (itR ds S (p + 1)) ds.length
  | 0 => by
    rcases passR_fix ds h S hS with e | e
    · exact .inl e
    · right
      show 0 + 1 ≤ cnt (passR ds S) ds.length
      omega
  | p + 1 => by
    rcases passR_fix ds h (itR ds S (p + 1)) (itR_lt ds h S hS _) with e | e
    · exact .inl e
    · rcases itR_grow ds h S hS p with q | q
      · left
        show passR ds (itR ds S (p + 1)) = itR ds S (p + 1)
        rw [q]
        exact q
      · right
        show p + 1 + 1 ≤ cnt (passR ds (itR ds S (p + 1))) ds.length
        omega
theorem itR_stay (ds : List Rl) (S p : Nat) (h : itR ds S (p + 1) = itR ds S p) : ∀ m, itR ds S (p + m) = itR ds S p
  | 0 => rfl
  | m + 1 => by
    show passR ds (itR ds S (p + m)) = _
    rw [itR_stay ds S p h m]
    exact h
/-- As many passes as there are roles are enough. -/
theorem itR_fix (ds : List Rl) (h : RlIn ds) (S : Nat) (hS : S < 2 ^ ds.length) : itR ds S (ds.length + 1) = itR ds S ds.length := by
  rcases itR_grow ds h S hS ds.length with e | e
  · exact e
  · have := cnt_le (itR ds S (ds.length + 1)) ds.length
    omega
theorem itR_done (ds : List Rl) (S p : Nat) (hp : p ≤ ds.length) (h : itR ds S (p + 1) = itR ds S p) : itR ds S p = itR ds S ds.length := by
  have := itR_stay ds S p h (ds.length - p)
  rw [show p + (ds.length - p) = ds.length by omega] at this
  exact this.symm
theorem itR_more (ds : List Rl) (hi : RlIn ds) (S : Nat) (hS : S < 2 ^ ds.length) (p : Nat) (hp : p ≤ ds.length) (h : itR ds S (p + 1) ≠ itR ds S p) : p + 1 ≤ ds.length := by
  rcases Nat.lt_or_ge p ds.length with q | q
  · exact q
  · obtain rfl : p = ds.length := by omega
    exact absurd (itR_fix ds hi S hS) h
/-- The set of the roles that role n has. -/
def setR (ds : List Rl) (n : Nat) : Nat := itR ds (1 <<< n) ds.length
theorem one_lt (n N : Nat) (h : n < N) : 1 <<< n < 2 ^ N := by
  rw [Nat.one_shiftLeft]
  exact Nat.pow_lt_pow_right (by omega) h
theorem setR_lt (ds : List Rl) (h : RlIn ds) (n : Nat) (hn : n < ds.length) : setR ds n < 2 ^ ds.length := itR_lt ds h _ (one_lt n _ hn) _
theorem setR_closed (ds : List Rl) (h : RlIn ds) (n : Nat) (hn : n < ds.length) (k : Nat) (hk : k < ds.length) (hb : (setR ds n).testBit k = true) (x : Int) (hx : x ∈ rowOf ds k) : (setR ds n).testBit x.toNat = true := by
  have hf : passR ds (setR ds n) = setR ds n := itR_fix ds h _ (one_lt n _ hn)
  rw [← hf]
  exact (passTo_bit ds _ _ _).2 (.inr ⟨k, hk, hb, x, hx, rfl⟩)
theorem setR_self (ds : List Rl) (n : Nat) : (setR ds n).testBit n = true := by
  have h0 : (1 <<< n).testBit n = true := by rw [Nat.one_shiftLeft, Nat.testBit_two_pow]; simp
  have h : ∀ p, (itR ds (1 <<< n) p).testBit n = true := fun p => by
    induction p with
    | zero => exact h0
    | succ p ih => exact passR_sub ds _ _ ih
  exact h _
/-- One pass of the reference, in place. -/
def gsTo (ds : List Rl) (T : Nat) : Nat → Nat
  | 0 => T
  | k + 1 => if (gsTo ds T k).testBit k then addRow (rowOf ds k) (gsTo ds T k) else gsTo ds T k
def gsIt (ds : List Rl) (T : Nat) : Nat → Nat
  | 0 => T
  | p + 1 => gsTo ds (gsIt ds T p) ds.length
theorem gsTo_lt (ds : List Rl) (h : RlIn ds) (S : Nat) (hS : S < 2 ^ ds.length) : ∀ k, gsTo ds S k < 2 ^ ds.length
  | 0 => hS
  | k + 1 => by
    unfold gsTo
    split
    · exact addRow_lt _ _ _ (h k) (gsTo_lt ds h S hS k)
    · exact gsTo_lt ds h S hS k
theorem gsIt_lt (ds : List Rl) (h : RlIn ds) (S : Nat) (hS : S < 2 ^ ds.length) : ∀ p, gsIt ds S p < 2 ^ ds.length
  | 0 => hS
  | p + 1 => gsTo_lt ds h _ (gsIt_lt ds h S hS p) _
theorem gsTo_mono (ds : List Rl) (T m : Nat) (h : T.testBit m = true) : ∀ k, (gsTo ds T k).testBit m = true
  | 0 => h
  | k + 1 => by
    have ih := gsTo_mono ds T m h k
    unfold gsTo
    split
    · rw [addRow_bit, ih, Bool.true_or]
    · exact ih
theorem gsTo_le (ds : List Rl) (T m : Nat) (j : Nat) (h : (gsTo ds T j).testBit m = true) : ∀ k, (gsTo ds T (j + k)).testBit m = true
  | 0 => h
  | k + 1 => by
    have ih := gsTo_le ds T m j h k
    show (gsTo ds T (j + k + 1)).testBit m = true
    unfold gsTo
    split
    · rw [addRow_bit, ih, Bool.true_or]
    · exact ih
theorem gs_over (ds : List Rl) (S T : Nat) (h : ∀ m, S.testBit m = true → T.testBit m = true) (m : Nat) (hm : (passR ds S).testBit m = true) : (gsTo ds T ds.length).testBit m = true := by
  rcases (passTo_bit ds S m _).1 hm with h1 | ⟨i, hi, h1, x, hx, he⟩
  · exact gsTo_mono ds T m (h m h1) _
  · have a := gsTo_mono ds T i (h i h1) i
    have b : (gsTo ds T (i + 1)).testBit m = true := by
      unfold gsTo
      rw [a, if_pos rfl, addRow_bit, Bool.or_eq_true]
      exact .inr (List.any_eq_true.2 ⟨x, hx, by simpa using he⟩)
    have := gsTo_le ds T m (i + 1) b (ds.length - (i + 1))
    rwa [show i + 1 + (ds.length - (i + 1)) = ds.length by omega] at this
theorem gs_ge (ds : List Rl) (S : Nat) : ∀ p m, (itR ds S p).testBit m = true → (gsIt ds S p).testBit m = true
  | 0, m, h => h
  | p + 1, m, h => gs_over ds _ _ (gs_ge ds S p) m h
theorem gs_under (ds : List Rl) (R : Nat) (hR : ∀ k, k < ds.length → R.testBit k = true → ∀ x ∈ rowOf ds k, R.testBit x.toNat = true) (T : Nat) (hT : ∀ m, T.testBit m = true → R.testBit m = true) : ∀ k, k ≤ ds.length → ∀ m, (gsTo ds T k).testBit m = true → R.testBit m = true
  | 0, _, m, h => hT m h
  | k + 1, hk, m, h => by
    have ih := gs_under ds R hR T hT k (by omega)
    unfold gsTo at h
    split at h
    · rename_i hb
      rw [addRow_bit, Bool.or_eq_true] at h
      rcases h with h | h
      · exact ih m h
      · obtain ⟨x, hx, he⟩ := List.any_eq_true.1 h
        rw [← of_decide_eq_true he]
        exact hR k (by omega) (ih k hb) x hx
    · exact ih m h
/-- The reference's way ends at the same set. -/
theorem gs_end (ds : List Rl) (h : RlIn ds) (n : Nat) (hn : n < ds.length) : gsIt ds (1 <<< n) ds.length = setR ds n := by
  refine eq_of_low (gsIt_lt ds h _ (one_lt n _ hn) _) (setR_lt ds h n hn) fun m hm => ?_
  rw [Bool.eq_iff_iff]
  constructor
  · have hu : ∀ p m, (gsIt ds (1 <<< n) p).testBit m = true → (setR ds n).testBit m = true := fun p => by
      induction p with
      | zero =>
        intro m hm
        have hm' : (1 <<< n).testBit m = true := hm
        rw [Nat.one_shiftLeft, Nat.testBit_two_pow] at hm'
        obtain rfl : n = m := by simpa using hm'
        exact setR_self ds n
      | succ p ih => exact gs_under ds _ (fun k hk hb x hx => setR_closed ds h n hn k hk hb x hx) _ ih _ (Nat.le_refl _)
    exact hu _ m
  · exact gs_ge ds _ _ m
/-- What RolesWith returns. -/
def withR (ds : List Rl) (n : Int) : List Int := if rValid ds && inR n 0 (ds.length - 1) then bitsTo (setR ds n.toNat) ds.length else []
theorem withR_len (ds : List Rl) (n : Int) : (withR ds n).length ≤ 8 := by
  unfold withR
  split
  · rename_i h
    rw [Bool.and_eq_true] at h
    have := (rValid_in h.1).1
    have := bitsTo_len (setR ds n.toNat) ds.length
    omega
  · exact Nat.zero_le _
theorem bits63 (s N : Nat) (h : s < 2 ^ N) (hN : N ≤ 8) : bitsTo s 63 = bitsTo s N := by
  have := bitsTo_end s N (63 - N) h
  rwa [show N + (63 - N) = 63 by omega] at this
end Go.Proofs.Ytlcjkehpdlgdoaa
