/-
  Acts in a sum: what the reference asks bit by bit. No condition.
-/
import Derived.Test.YtaefobabippnhaaDoorA
import Derived.Test.YtaefobabippnhaaDoorN
set_option linter.unusedSimpArgs false
set_option linter.unusedVariables false
namespace Go.Proofs.YtaefobabippnhaaDoor
open Go.RowKit
theorem wrap64_pow (r : Nat) (h : r ≤ 62) : wrap64 (2 ^ r) = ((1 <<< r : Nat) : Int) := by
  have hp : 2 ^ r ≤ 2 ^ 62 := Nat.pow_le_pow_right (by omega) h
  have hq := Nat.two_pow_pos r
  have e : (2 : Int) ^ r = ((2 ^ r : Nat) : Int) := by simp
  rw [Nat.one_shiftLeft, e]
  generalize 2 ^ r = x at *
  unfold wrap64
  omega
theorem shr_step (n k : Nat) : (n >>> (k + 1) : Nat) = (n >>> k) / 2 := by rw [Nat.shiftRight_succ]
theorem bit_mod (n k : Nat) : (((n >>> k : Nat) : Int) % 2 == 1) = n.testBit k := by
  rw [Nat.testBit]
  have : 1 &&& n >>> k = (n >>> k) % 2 := by rw [Nat.and_comm, Nat.and_one_is_mod]
  rw [this]
  generalize n >>> k = m
  rw [Bool.eq_iff_iff]
  simp only [beq_iff_eq, bne_iff_ne, ne_eq]
  omega
/-- An act in a sum. -/
theorem l12Act_any (n act : Nat) (w : World) (hn : n ≤ 1048576) (ha : act ≤ 1000) : Calls Tryd.prog 17 #[.int .i64 n, .int .i64 act] w fun e w' => e = .returned (.bool (n.testBit act)) ∧ w = w' := by
  have hb := Lib.hid (bit_mod n act)
  go_enter Tryd.func17, Tryd.ntmps17
  go_wp2_with fail
  go_loop [0, 5] (fun s i => ∃ k : Nat, k ≤ act ∧ i = .int .i64 k ∧ s = .int .i64 (n >>> k : Nat)) (fun _ i => act - (intOf i).toNat)
  case atStart => exact ⟨0, Nat.zero_le _, rfl, rfl⟩
  case round =>
    obtain ⟨k, hk, rfl, rfl⟩ := hrel
    have hle : n >>> k ≤ n := by rw [Nat.shiftRight_eq_div_pow]; exact Nat.div_le_self _ _
    by_cases hlt : k < act
    · have hst := Lib.hid (show ((n >>> (k + 1) : Nat) : Int) = ((n >>> k : Nat) : Int) / 2 from by rw [shr_step]; omega)
      generalize n >>> k = m at hst hle
      go_wp2_with fail
      go_round
      case rel => exact ⟨k + 1, by omega, by go_num, by rw [hst.out]⟩
      case measure => simp [intOf]; omega
    · have hke : k = act := by omega
      subst hke
      generalize n >>> k = m at hb hle
      go_wp2_with fail
      go_ret
      exact ⟨by rw [← hb.out]; rfl, rfl⟩
/-- The sum of the acts that f holds of. -/
def sumBits (f : Nat → Bool) : Nat → Nat
  | 0 => 0
  | k + 1 => sumBits f k + if f k then 1 <<< k else 0
theorem sumBits_eq (f : Nat → Bool) (s : Nat) (h : s < 16) (hb : ∀ a, a < 4 → f a = s.testBit a) : sumBits f 4 = s := by
  simp only [sumBits, hb 0 (by omega), hb 1 (by omega), hb 2 (by omega), hb 3 (by omega)]
  have : ∀ s : Nat, s < 16 → ((((0 + if s.testBit 0 then 1 <<< 0 else 0) + if s.testBit 1 then 1 <<< 1 else 0) + if s.testBit 2 then 1 <<< 2 else 0) + if s.testBit 3 then 1 <<< 3 else 0) = s := by decide
  exact this s h
theorem sumBits_le (f : Nat → Bool) (k : Nat) (h : k ≤ 4) : sumBits f k ≤ 15 := by
  have h1 : ∀ k, sumBits f k < 2 ^ k := by
    intro k
    induction k with
    | zero => simp [sumBits]
    | succ k ih =>
      have : 1 <<< k = 2 ^ k := by simp [Nat.one_shiftLeft]
      rw [sumBits, Nat.pow_succ]
      split <;> omega
  have h2 := h1 k
  have h3 : 2 ^ k ≤ 2 ^ 4 := Nat.pow_le_pow_right (by omega) h
  omega
end Go.Proofs.YtaefobabippnhaaDoor
