/-
  slices.ContainsFunc over numbers, by what its function answers. Condition: that function only looks.
-/
import Derived.Test.YtjmjpejkongipaaI
set_option linter.unusedSimpArgs false
set_option linter.unusedVariables false
namespace Go.Proofs.Ytjmjpejkongipaa
open Go.RowKit
theorem any_step2 {α : Type} (xs : List α) (p : α → Bool) (k : Nat) (h : k < xs.length) (ha : (xs.take k).any p = false) (hp : p xs[k] = false) : (xs.take (k + 1)).any p = false := by
  rw [List.take_succ_eq_append_getElem h, List.any_append, ha]
  simp [hp]
theorem any_hit {α : Type} (xs : List α) (p : α → Bool) (k : Nat) (h : k < xs.length) (hp : p xs[k] = true) : xs.any p = true := List.any_eq_true.2 ⟨xs[k], List.getElem_mem h, hp⟩
theorem indexInts0_any (p : Int → Bool) (xs : List Int) (v : Value) (w : World) (h : SlI w v xs) (hp : ∀ n ∈ xs, Calls Try.prog 48 #[.int .i64 n] w fun e w' => e = .returned (.bool (p n)) ∧ w = w') :
    Calls Try.prog 50 #[v, .func (.func 48) #[] #[]] w fun e w' => ∃ r : Int, e = .returned (.int .i64 r) ∧ decide (0 ≤ r) = xs.any p ∧ w = w' := by
  obtain ⟨a, cap, rfl, h1, h2⟩ := SlF.shape h
  unfold maxLen at h2
  have H := Lib.hid h
  have HP := Lib.hid hp
  clear h hp
  go_enter Try.func50, Try.ntmps50
  go_wp2_with fail
  go_loop [8] (fun i => ∃ k : Nat, k ≤ xs.length ∧ i = .int .i64 k ∧ Hid ((xs.take k).any p = false)) (fun i => xs.length - (intOf i).toNat)
  case atStart => exact ⟨0, Nat.zero_le _, rfl, by simp [Hid]⟩
  case round =>
    obtain ⟨k, hk, rfl, ha⟩ := hrel
    by_cases hlt : k < xs.length
    · obtain ⟨g, off, cap', hv, _, _, c0⟩ := H.out.cell k hlt
      simp only [Value.slice.injEq] at hv
      obtain ⟨rfl, -, rfl⟩ := hv
      have hs := Lib.hid (fun hp => any_step2 xs p k hlt ha.out hp)
      have hb := Lib.hid (fun hp => any_hit xs p k hlt hp)
      have hc := Lib.hid (HP.out xs[k] (List.getElem_mem hlt))
      generalize xs[k] = n at c0 hs hb hc
      cases hq : p n
      · have hf := Lib.hid (hs.out hq)
        rw [hq] at hc
        go_wp2_with fail
        refine hc.out.mono ?_
        rintro e w' ⟨rfl, rfl⟩
        go_wp2_with fail
        go_round
        case rel => exact ⟨k + 1, by omega, by go_num, hf.out⟩
        case measure => simp [intOf]; omega
      · have hf := Lib.hid (hb.out hq)
        rw [hq] at hc
        go_wp2_with fail
        refine hc.out.mono ?_
        rintro e w' ⟨rfl, rfl⟩
        go_wp2_with fail
        go_ret
        exact ⟨k, rfl, by rw [hf.out]; simp, rfl⟩
    · have hf := Lib.hid (show xs.any p = false from by have := ha.out; rwa [List.take_of_length_le (by omega)] at this)
      go_wp2_with fail
      go_ret
      exact ⟨-1, rfl, by rw [hf.out]; rfl, rfl⟩
theorem containsInts0_any (p : Int → Bool) (xs : List Int) (v : Value) (w : World) (h : SlI w v xs) (hp : ∀ n ∈ xs, Calls Try.prog 48 #[.int .i64 n] w fun e w' => e = .returned (.bool (p n)) ∧ w = w') :
    Calls Try.prog 47 #[v, .func (.func 48) #[] #[]] w fun e w' => e = .returned (.bool (xs.any p)) ∧ w = w' := by
  have hc := indexInts0_any p xs v w h hp
  obtain ⟨a, cap, rfl, h1, h2⟩ := SlF.shape h
  clear h hp
  have HC := Lib.hid hc
  clear hc
  go_enter Try.func47, Try.ntmps47
  go_wp2_with fail
  refine HC.out.mono ?_
  rintro e w' ⟨r, rfl, hr, rfl⟩
  have HR := Lib.hid hr
  clear hr
  go_wp2_with fail
  go_ret
  exact ⟨by rw [← HR.out]; rfl, rfl⟩
end Go.Proofs.Ytjmjpejkongipaa
