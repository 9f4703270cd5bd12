/-
  The exact laws on labels, walked: each returns true for every input. No condition.
-/
import Derived.Test.YtfghgpdhcpcoiaaL
set_option linter.unusedSimpArgs false
set_option linter.unusedVariables false
namespace Go.Proofs.Ytfghgpdhcpcoiaa
open Go.RowKit

/-- The two ways to say 'below' agree: areas are at most 31. -/
theorem areas_agree : ∀ a, a < 32 → ∀ b, b < 32 → ((a ^^^ (a &&& b) == 0) = (a &&& b == a)) := by decide +kernel
theorem below_agree (l a m b : Int) : iBel l a m b = sBel l a m b := by
  unfold iBel sBel belB
  cases h1 : labValid l a
  · simp
  cases h2 : labValid m b
  · simp
  simp only [labValid, inR, Bool.and_eq_true, decide_eq_true_eq] at h1 h2
  obtain ⟨⟨_, _⟩, ha0, ha1⟩ := h1
  obtain ⟨⟨_, _⟩, hb0, hb1⟩ := h2
  obtain ⟨x, rfl⟩ := Int.eq_ofNat_of_zero_le ha0
  obtain ⟨y, rfl⟩ := Int.eq_ofNat_of_zero_le hb0
  rw [bits_andNot_nat x y (by omega) (by omega), bits_and_nat x y (by omega) (by omega)]
  have := areas_agree x (by omega) y (by omega)
  have e1 : (((x ^^^ (x &&& y) : Nat) : Int) == 0) = (x ^^^ (x &&& y) == 0) := by rw [Bool.eq_iff_iff]; simp
  have e2 : (((x &&& y : Nat) : Int) == (x : Int)) = (x &&& y == x) := by rw [Bool.eq_iff_iff]; simp; omega
  rw [e1, e2, this]
  simp

end Go.Proofs.Ytfghgpdhcpcoiaa
