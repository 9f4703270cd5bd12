/-
  Patterns that stand for others: plain. No program in sight.
-/
import Derived.Test.YtamhnhojfhlanaaDoorPf
set_option linter.unusedSimpArgs false
set_option linter.unusedVariables false
namespace Go.Proofs.YtamhnhojfhlanaaDoor
/-- Word by word, as the program looks: the first row stands for the second. -/
def cov : List ByteArray → List ByteArray → Bool
  | [], [] => true
  | [], _ :: _ => false
  | _ :: _, [] => false
  | x :: xs, y :: ys => (isS x || decide (x = y)) && cov xs ys
/-- The rows of words that a pattern's paths can have. -/
def lens (b : List ByteArray) : List (List ByteArray) :=
  match b.getLast? with
  | some z => if isS2 z then (List.range (5 - (b.length - 1))).map fun j => b.dropLast ++ List.replicate (j + 1) star else [b]
  | none => [b]
def covBy (b ws : List ByteArray) : Bool := (lens b).any fun x => cov x ws
def patCov (a b : List ByteArray) : Bool := patOk a && patOk b && !((lens b).any fun ws => !covBy a ws)
def fits (p b : List ByteArray) : Bool := pathOk p && patOk b && covBy b p
/-- A path's words at a pattern's, as the reference looks. -/
def fitL : List ByteArray → List ByteArray → Bool
  | a, [] => a.isEmpty
  | [], _ :: _ => false
  | x :: a, y :: b => if isS2 y then true else (isS y || decide (y = x)) && fitL a b
/-- A pattern's words at another's, as the reference looks. -/
def covL (n : Nat) : Nat → List ByteArray → List ByteArray → Bool
  | _, [], b => b.isEmpty
  | _, _ :: _, [] => false
  | k, x :: a, y :: b => if isS2 x then true else if isS2 y then decide (k + 1 = 5) && decide (n = 5) && isS x else (isS x || decide (x = y)) && covL n (k + 1) a b
theorem isS_iff (x : ByteArray) : isS x = true ↔ x = star := by
  unfold isS star
  constructor
  · intro h
    have := eq_of_beq h
    exact ByteArray.ext (Array.toList_inj.1 this)
  · rintro rfl
    rfl
theorem isS2_iff (x : ByteArray) : isS2 x = true ↔ x = star2 := by
  unfold isS2 star2
  constructor
  · intro h
    have := eq_of_beq h
    exact ByteArray.ext (Array.toList_inj.1 this)
  · rintro rfl
    rfl
theorem isS_star : isS star = true := rfl
theorem isS2_star : isS2 star = false := rfl
theorem isS2_star2 : isS2 star2 = true := rfl
theorem isS_or (x : ByteArray) : (isS x || decide (x = star)) = isS x := by
  cases h : isS x
  · simp
    intro e
    rw [e, isS_star] at h
    cases h
  · rfl
/-- No two stars among them. -/
def noS2 (xs : List ByteArray) : Prop := ∀ x ∈ xs, isS2 x = false
theorem cov_fit : ∀ (a ws : List ByteArray), noS2 a → cov a ws = fitL ws a
  | [], [], _ => rfl
  | [], _ :: _, _ => rfl
  | _ :: _, [], _ => rfl
  | x :: a, y :: ws, h => by
    rw [cov, fitL, h x (by simp), if_neg (by simp), cov_fit a ws (fun z hz => h z (by simp [hz]))]
theorem any_range_succ (n : Nat) (p : Nat → Bool) : (List.range (n + 1)).any p = (p 0 || (List.range n).any fun j => p (j + 1)) := by
  rw [List.range_succ_eq_map, List.any_cons, List.any_map]
  rfl
theorem all_range_succ (n : Nat) (p : Nat → Bool) : (List.range (n + 1)).all p = (p 0 && (List.range n).all fun j => p (j + 1)) := by
  rw [List.range_succ_eq_map, List.all_cons, List.all_map]
  rfl
theorem cov_stars : ∀ (j : Nat) (ws : List ByteArray), cov (List.replicate j star) ws = decide (ws.length = j)
  | 0, [] => rfl
  | 0, _ :: _ => rfl
  | j + 1, [] => by simp [List.replicate_succ, cov]
  | j + 1, y :: ws => by
    rw [List.replicate_succ, cov, isS_star, Bool.true_or, Bool.true_and, cov_stars j ws]
    simp
theorem any_const_and (n : Nat) (c : Bool) (p : Nat → Bool) : (List.range n).any (fun j => c && p j) = (c && (List.range n).any p) := by
  cases c <;> simp
theorem cov_tails : ∀ (base ws : List ByteArray) (r : Nat), noS2 base → ws.length ≤ r → base.length < r →
    ((List.range (r - base.length)).any fun j => cov (base ++ List.replicate (j + 1) star) ws) = fitL ws (base ++ [star2])
  | [], ws, r, _, h1, h2 => by
    simp only [List.nil_append, List.length_nil, Nat.sub_zero, cov_stars]
    cases ws with
    | nil =>
      rw [fitL, List.any_eq_false]
      intro j _
      simp
    | cons y ws =>
      rw [fitL, isS2_star2, if_pos rfl, List.any_eq_true]
      exact ⟨ws.length, List.mem_range.2 (by simp at h1; omega), by simp⟩
  | x :: base, [], r, hb, h1, h2 => by
    rw [List.cons_append, fitL, List.any_eq_false]
    intro j _
    rw [List.cons_append, cov]
    simp
  | x :: base, y :: ws, r, hb, h1, h2 => by
    simp only [List.length_cons] at h1 h2 ⊢
    have ih := cov_tails base ws (r - 1) (fun z hz => hb z (by simp [hz])) (by omega) (by omega)
    simp only [List.cons_append, cov, fitL]
    rw [hb x (by simp), if_neg (by simp), ← ih, any_const_and]
    rw [show r - (base.length + 1) = r - 1 - base.length by omega]
/-- A pattern's words: none is two stars, but perhaps the last. -/
def PatW (b : List ByteArray) : Prop := noS2 b ∨ ∃ base, b = base ++ [star2] ∧ noS2 base
theorem nOk_nostar (x : ByteArray) (h : nOk x = true) : isS2 x = false := by
  cases hs : isS2 x
  · rfl
  · rw [(isS2_iff x).1 hs] at h
    exact absurd h (by decide)
theorem patTo_at (xs : List ByteArray) (k : Nat) (h : patTo xs k = true) (i : Nat) (hi : i < k) (hx : i < xs.length) : wOk xs.length i xs[i] = true := by
  unfold patTo at h
  have := List.all_eq_true.1 h i (List.mem_range.2 hi)
  rwa [List.getD_eq_getElem?_getD, List.getElem?_eq_getElem hx] at this
theorem wOk_mid {n k : Nat} {x : ByteArray} (h : wOk n k x = true) (hk : k + 1 < n) : isS2 x = false := by
  unfold wOk at h
  cases hs : isS2 x
  · rfl
  · have : nOk x = false := by
      cases hn : nOk x
      · rfl
      · rw [nOk_nostar x hn] at hs
        cases hs
    have h2 : isS x = false := by
      rw [(isS2_iff x).1 hs]
      rfl
    rw [hs, this, h2] at h
    simp at h
    omega
theorem patOk_len {b : List ByteArray} (h : patOk b = true) : b.length ≤ 5 := by
  unfold patOk at h
  simp at h
  exact h.2
theorem patOk_W {b : List ByteArray} (h : patOk b = true) : PatW b := by
  unfold patOk at h
  rw [Bool.and_eq_true] at h
  have hw := patTo_at b b.length h.1
  have hcases : b = [] ∨ ∃ base z, b = base ++ [z] := by
    rcases List.eq_nil_or_concat b with e | ⟨base, z, e⟩
    · exact .inl e
    · exact .inr ⟨base, z, e.trans (List.concat_eq_append)⟩
  rcases hcases with rfl | ⟨base, z, rfl⟩
  · exact .inl (fun x hx => by simp at hx)
  · have hb : noS2 base := fun x hx => by
      obtain ⟨i, hi, rfl⟩ := List.getElem_of_mem hx
      have := hw i (by simp; omega) (by simp; omega)
      rw [List.getElem_append_left hi] at this
      exact wOk_mid this (by simp; omega)
    cases hz : isS2 z
    · refine .inl fun x hx => ?_
      rcases List.mem_append.1 hx with hx | hx
      · exact hb x hx
      · rw [List.mem_singleton.1 hx, hz]
    · exact .inr ⟨base, by rw [(isS2_iff z).1 hz], hb⟩
theorem lens_no {b : List ByteArray} (h : noS2 b) : lens b = [b] := by
  unfold lens
  cases hl : b.getLast? with
  | none => rfl
  | some z =>
    have hz := h z (List.mem_of_getLast? hl)
    dsimp only
    rw [if_neg (by rw [hz]; simp)]
theorem lens_stars (base : List ByteArray) : lens (base ++ [star2]) = (List.range (5 - base.length)).map fun j => base ++ List.replicate (j + 1) star := by
  unfold lens
  simp [isS2_star2]
theorem covBy_fit {b ws : List ByteArray} (h : patOk b = true) (hl : ws.length ≤ 5) : covBy b ws = fitL ws b := by
  unfold covBy
  rcases patOk_W h with hn | ⟨base, rfl, hn⟩
  · rw [lens_no hn, List.any_cons, List.any_nil, Bool.or_false, cov_fit b ws hn]
  · rw [lens_stars, List.any_map]
    have := patOk_len h
    simp at this
    exact cov_tails base ws 5 hn hl (by omega)
theorem fit_covL (n : Nat) : ∀ (a b : List ByteArray) (k : Nat), noS2 b → fitL b a = covL n k a b
  | [], b, k, _ => by rw [fitL, covL]
  | x :: a, [], k, _ => rfl
  | x :: a, y :: b, k, h => by
    rw [fitL, covL, h y (by simp), fit_covL n a b (k + 1) (fun z hz => h z (by simp [hz]))]
    simp
theorem all_const_and (n : Nat) (hn : 0 < n) (c : Bool) (p : Nat → Bool) : (List.range n).all (fun j => c && p j) = (c && (List.range n).all p) := by
  cases c
  · obtain ⟨m, rfl⟩ : ∃ m, n = m + 1 := ⟨n - 1, by omega⟩
    rw [Bool.false_and, all_range_succ, Bool.false_and, Bool.false_and]
  · simp
theorem fit_all_nil (base : List ByteArray) (r : Nat) (h : base.length < r) : ((List.range (r - base.length)).all fun j => fitL (base ++ List.replicate (j + 1) star) []) = false := by
  rw [List.all_eq_false]
  refine ⟨0, List.mem_range.2 (by omega), ?_⟩
  cases base <;> simp [fitL, List.replicate_succ]
theorem covL_tails (n : Nat) : ∀ (base a : List ByteArray) (k r : Nat), noS2 base → base.length < r → a.length ≤ r → k + r = 5 → n = k + a.length →
    ((List.range (r - base.length)).all fun j => fitL (base ++ List.replicate (j + 1) star) a) = covL n k a (base ++ [star2])
  | base, [], k, r, _, h1, h2, h3, h4 => by
    rw [fit_all_nil base r h1]
    cases base <;> simp [covL]
  | [], x :: a, k, r, _, h1, h2, h3, h4 => by
    simp only [List.nil_append, List.length_nil, Nat.sub_zero, List.replicate_succ, fitL, covL, isS2_star2, if_true]
    simp only [List.length_cons, List.length_nil] at h1 h2 h4
    cases hx : isS2 x
    · simp only [Bool.false_eq_true, if_false, isS_or]
      rw [all_const_and r (by omega)]
      obtain ⟨m, rfl⟩ : ∃ m, r = m + 1 := ⟨r - 1, by omega⟩
      cases hs : isS x
      · simp
      · rw [Bool.true_and, Bool.and_true, all_range_succ]
        by_cases hm : m = 0
        · subst hm
          have ha : a = [] := List.length_eq_zero_iff.1 (by omega)
          subst ha
          simp [fitL]
          simp at h4
          omega
        · obtain ⟨m', rfl⟩ : ∃ m', m = m' + 1 := ⟨m - 1, by omega⟩
          rw [all_range_succ]
          have e : decide (k + 1 = 5) = false := by simp; omega
          rw [e, Bool.false_and]
          cases a with
          | nil => simp [fitL, List.replicate_succ]
          | cons z a => simp [fitL]
    · simp
  | y :: base, x :: a, k, r, hb, h1, h2, h3, h4 => by
    simp only [List.length_cons] at h1 h2 h4 ⊢
    have ih := covL_tails n base a (k + 1) (r - 1) (fun z hz => hb z (by simp [hz])) (by omega) (by omega) (by omega) (by omega)
    simp only [List.cons_append, fitL, covL]
    cases hx : isS2 x
    · simp only [Bool.false_eq_true, if_false]
      rw [hb y (by simp)]
      simp only [Bool.false_eq_true, if_false]
      rw [all_const_and _ (by omega), ← ih, show r - (base.length + 1) = r - 1 - base.length by omega]
    · simp
theorem lens_len {b : List ByteArray} (h : patOk b = true) : ∀ ws ∈ lens b, ws.length ≤ 5 := by
  have hl := patOk_len h
  rcases patOk_W h with hn | ⟨base, rfl, hn⟩
  · rw [lens_no hn]
    intro ws hw
    rw [List.mem_singleton.1 hw]
    exact hl
  · rw [lens_stars]
    intro ws hw
    obtain ⟨j, hj, rfl⟩ := List.mem_map.1 hw
    have := List.mem_range.1 hj
    simp
    omega
theorem not_any_not {α : Type} (xs : List α) (p : α → Bool) : (!(xs.any fun x => !p x)) = xs.all p := by
  induction xs with
  | nil => rfl
  | cons x xs ih => rw [List.any_cons, List.all_cons, ← ih]; cases p x <;> simp
theorem patCov_L {a b : List ByteArray} (ha : patOk a = true) (hb : patOk b = true) : patCov a b = covL a.length 0 a b := by
  unfold patCov
  rw [ha, hb, Bool.true_and, Bool.true_and, not_any_not]
  have e : (lens b).all (covBy a) = (lens b).all fun ws => fitL ws a := by
    rw [Bool.eq_iff_iff, List.all_eq_true, List.all_eq_true]
    constructor
    · intro h ws hw
      rw [← covBy_fit ha (lens_len hb ws hw)]
      exact h ws hw
    · intro h ws hw
      rw [covBy_fit ha (lens_len hb ws hw)]
      exact h ws hw
  rw [e]
  have hl := patOk_len hb
  rcases patOk_W hb with hn | ⟨base, rfl, hn⟩
  · rw [lens_no hn, List.all_cons, List.all_nil, Bool.and_true]
    exact fit_covL _ a b 0 hn
  · rw [lens_stars, List.all_map]
    simp at hl
    exact covL_tails a.length base a 0 5 hn (by omega) (patOk_len ha) (by omega) (by omega)
theorem fits_L {p b : List ByteArray} (hp : pathOk p = true) (hb : patOk b = true) : fits p b = fitL p b := by
  unfold fits
  have hl : p.length ≤ 5 := by
    unfold pathOk at hp
    simp at hp
    exact hp.2
  rw [hp, hb, Bool.true_and, Bool.true_and, covBy_fit hb hl]
/-! The laws. -/
theorem pathOk_pat {p : List ByteArray} (h : pathOk p = true) : patOk p = true ∧ noS2 p := by
  unfold pathOk at h
  rw [Bool.and_eq_true] at h
  have h1 := List.all_eq_true.1 h.1
  refine ⟨?_, fun x hx => nOk_nostar x (h1 x hx)⟩
  unfold patOk patTo
  rw [Bool.and_eq_true]
  refine ⟨List.all_eq_true.2 fun i hi => ?_, h.2⟩
  have hi := List.mem_range.1 hi
  rw [List.getD_eq_getElem?_getD, List.getElem?_eq_getElem hi]
  unfold wOk
  rw [show (some p[i]).getD default = p[i] from rfl, h1 _ (List.getElem_mem hi)]
  rfl
theorem fitL_self : ∀ p : List ByteArray, noS2 p → fitL p p = true
  | [], _ => rfl
  | x :: p, h => by
    rw [fitL, h x (by simp), fitL_self p (fun z hz => h z (by simp [hz]))]
    simp
theorem covL_self (n : Nat) : ∀ (a : List ByteArray) (k : Nat), PatW a → covL n k a a = true
  | [], _, _ => rfl
  | x :: a, k, h => by
    rw [covL]
    cases hx : isS2 x
    · have : PatW a := by
        rcases h with h | ⟨base, e, h⟩
        · exact .inl fun z hz => h z (by simp [hz])
        · cases base with
          | nil =>
            injection e with e1 e2
            rw [e1, isS2_star2] at hx
            cases hx
          | cons y base =>
            injection e with e1 e2
            exact .inr ⟨base, e2, fun z hz => h z (by simp [hz])⟩
      rw [covL_self n a (k + 1) this]
      simp
    · simp
theorem stars_ok : patOk [star2] = true := by decide
theorem fits_self (p : List ByteArray) : fits p p = pathOk p := by
  cases h : pathOk p
  · unfold fits
    rw [h]
    rfl
  · obtain ⟨h1, h2⟩ := pathOk_pat h
    rw [fits_L h h1, fitL_self p h2]
theorem fits_stars (p : List ByteArray) (hp : 1 ≤ p.length) : fits p [star2] = pathOk p := by
  cases h : pathOk p
  · unfold fits
    rw [h]
    rfl
  · rw [fits_L h stars_ok]
    cases p with
    | nil => simp at hp
    | cons x p => rfl
theorem fits_cov {p b : List ByteArray} (h : fits p b = true) : patCov b p = true := by
  have h' := h
  unfold fits at h'
  rw [Bool.and_eq_true, Bool.and_eq_true] at h'
  obtain ⟨⟨h1, h2⟩, h3⟩ := h'
  obtain ⟨h4, h5⟩ := pathOk_pat h1
  rw [fits_L h1 h2] at h
  rw [patCov_L h2 h4, ← fit_covL _ b p 0 h5, h]
theorem patCov_self (b : List ByteArray) : patCov b b = patOk b := by
  cases h : patOk b
  · unfold patCov
    rw [h]
    rfl
  · rw [patCov_L h h, covL_self _ b 0 (patOk_W h)]
theorem patCov_stars (b : List ByteArray) (hb : 1 ≤ b.length) : patCov [star2] b = patOk b := by
  cases h : patOk b
  · unfold patCov
    rw [h, Bool.and_false, Bool.false_and]
  · rw [patCov_L stars_ok h]
    cases b with
    | nil => simp at hb
    | cons x b => rfl
theorem cov_trans : ∀ a b c : List ByteArray, cov a b = true → cov b c = true → cov a c = true
  | [], [], _, _, h => h
  | [], _ :: _, _, h, _ => by simp [cov] at h
  | _ :: _, [], _, h, _ => by simp [cov] at h
  | x :: a, y :: b, [], _, h => by simp [cov] at h
  | x :: a, y :: b, z :: c, h1, h2 => by
    rw [cov, Bool.and_eq_true, Bool.or_eq_true, decide_eq_true_eq] at h1 h2 ⊢
    refine ⟨?_, cov_trans a b c h1.2 h2.2⟩
    rcases h1.1 with h | h
    · exact .inl h
    · rw [h]
      exact h2.1
theorem covers_all {a b p : List ByteArray} (h : patCov a b = true) (hf : fits p b = true) : fits p a = true := by
  unfold patCov at h
  rw [Bool.and_eq_true, Bool.and_eq_true, not_any_not] at h
  obtain ⟨⟨h1, h2⟩, h3⟩ := h
  unfold fits at hf ⊢
  rw [Bool.and_eq_true, Bool.and_eq_true] at hf ⊢
  obtain ⟨⟨h4, h5⟩, h6⟩ := hf
  refine ⟨⟨h4, h1⟩, ?_⟩
  unfold covBy at h6
  obtain ⟨ws, hw, hc⟩ := List.any_eq_true.1 h6
  have := List.all_eq_true.1 h3 ws hw
  unfold covBy at this
  obtain ⟨wv, hv, hc2⟩ := List.any_eq_true.1 this
  unfold covBy
  exact List.any_eq_true.2 ⟨wv, hv, cov_trans _ _ _ hc2 hc⟩
end Go.Proofs.YtamhnhojfhlanaaDoor
