/-
  Shared ground of this seat's proofs: small functions on numbers and names, each with the contract of its Go text. No condition.
-/
import Derived.Test.YtamhnhojfhlanaaDoorRows
import Derived.WalkKit
import Derived.WalkSpells
import Derived.WalkLawsBesides
import Derived.Handy
import Derived.Lib.Hide
import Derived.Deep.RegionHeld3
import Derived.Deep.QuietTactic
import Derived.BigQuiet
import Derived.Deep.LoopGhost
import Derived.Deep.DeepCutAuto
set_option linter.unusedSimpArgs false
set_option linter.unusedVariables false
namespace Go.Proofs.YtamhnhojfhlanaaDoor
open Go.RowKit

/-- A number lies in a range. -/
def inR (n lo hi : Int) : Bool := decide (lo ≤ n) && decide (n ≤ hi)
theorem inR_iff (n lo hi : Int) : inR n lo hi = true ↔ lo ≤ n ∧ n ≤ hi := by simp [inR]
theorem l1In_any (n lo hi : Int) (w : World) : Calls Tryd.prog 39 #[.int .i64 n, .int .i64 lo, .int .i64 hi] w fun e w' => e = .returned (.bool (inR n lo hi)) ∧ w = w' := by
  by_cases h1 : lo ≤ n <;> by_cases h2 : n ≤ hi
  all_goals
    go_enter Tryd.func39, Tryd.ntmps39
    go_wp2
    go_ret
    simp [inR, h1, h2]
theorem in_any (n lo hi : Int) (w : World) : Calls Tryd.prog 42 #[.int .i64 n, .int .i64 lo, .int .i64 hi] w fun e w' => e = .returned (.bool (inR n lo hi)) ∧ w = w' := by
  by_cases h1 : lo ≤ n <;> by_cases h2 : n ≤ hi
  all_goals
    go_enter Tryd.func42, Tryd.ntmps42
    go_wp2
    go_ret
    simp [inR, h1, h2]

/-- A small letter. -/
def isLow (c : UInt8) : Bool := decide (97 ≤ c.toNat) && decide (c.toNat ≤ 122)
/-- A name: 1 to 8 small letters. -/
def nameOk (l : List UInt8) : Bool := l.all isLow && (decide (1 ≤ l.length) && decide (l.length ≤ 8))
theorem take_all_step (s : ByteArray) (k : Nat) (h : k < s.size) (ha : (s.data.toList.take k).all isLow = true) (hc : isLow s[k] = true) : (s.data.toList.take (k + 1)).all isLow = true := by
  rw [List.take_succ_eq_append_getElem (by simpa using h), List.all_append, ha]
  simp only [List.all_cons, List.all_nil, Bool.and_true, Bool.true_and]; exact hc
theorem nameOk_of_bad (s : ByteArray) (k : Nat) (h : k < s.size) (hc : isLow s[k] = false) : nameOk s.data.toList = false := by
  have : s.data.toList.all isLow = false := by
    rw [List.all_eq_false]
    exact ⟨s[k], List.mem_iff_getElem.2 ⟨k, by simpa using h, rfl⟩, by simp [hc]⟩
  simp [nameOk, this]
theorem nameOk_of_all (s : ByteArray) (k : Nat) (h : ¬ k < s.size) (ha : (s.data.toList.take k).all isLow = true) : nameOk s.data.toList = inR (s.size : Int) 1 8 := by
  rw [List.take_of_length_le (by simp; omega)] at ha
  simp only [nameOk, inR, ha, Bool.true_and]
  have e : s.data.toList.length = s.size := by simp
  rw [e]
  congr 1 <;> (apply Bool.eq_iff_iff.2; simp; omega)
theorem isLow_true {c : UInt8} (h1 : 97 ≤ (c.toNat : Int)) (h2 : (c.toNat : Int) ≤ 122) : isLow c = true := by simp [isLow]; omega
theorem isLow_lo {c : UInt8} (h1 : (c.toNat : Int) < 97) : isLow c = false := by simp [isLow]; omega
theorem isLow_hi {c : UInt8} (h1 : 122 < (c.toNat : Int)) : isLow c = false := by simp [isLow]; omega
theorem implNameValid_any (s : ByteArray) (w : World) (hs : s.size ≤ maxLen) : Calls Tryd.prog 29 #[.string s] w fun e w' => e = .returned (.bool (nameOk s.data.toList)) ∧ w = w' := by
  unfold maxLen at hs
  go_enter Tryd.func29, Tryd.ntmps29
  go_wp2_with fail
  go_loop [6] (fun i => ∃ k : Nat, k ≤ s.size ∧ i = .int .i64 k ∧ Hid ((s.data.toList.take k).all isLow = true)) (fun i => s.size - (intOf i).toNat)
  case atStart => exact ⟨0, Nat.zero_le _, rfl, by simp [Hid]⟩
  case round =>
    obtain ⟨k, hk, rfl, ha⟩ := hrel
    by_cases hlt : k < s.size
    · by_cases h1 : (s[k].toNat : Int) < 97
      · have hb := Lib.hid (nameOk_of_bad s k hlt (isLow_lo h1))
        go_wp2_with fail
        go_ret
        exact ⟨by rw [hb.out]; rfl, rfl⟩
      · by_cases h2 : 122 < (s[k].toNat : Int)
        · have hb := Lib.hid (nameOk_of_bad s k hlt (isLow_hi h2))
          go_wp2_with fail
          go_ret
          exact ⟨by rw [hb.out]; rfl, rfl⟩
        · have hb := Lib.hid (take_all_step s k hlt ha.out (isLow_true (by omega) (by omega)))
          go_wp2_with fail
          go_round
          case rel => exact ⟨k + 1, by omega, by go_num, hb.out⟩
          case measure => simp [intOf]; omega
    · have hb := Lib.hid (nameOk_of_all s k hlt ha.out)
      go_wp2_with (go_at_call 42; refine (in_any _ _ _ _).mono ?_; rintro e w' ⟨rfl, rfl⟩)
      go_ret
      exact ⟨by rw [hb.out]; rfl, rfl⟩
theorem specNameValid_any (s : ByteArray) (w : World) (hs : s.size ≤ maxLen) : Calls Tryd.prog 25 #[.string s] w fun e w' => e = .returned (.bool (nameOk s.data.toList)) ∧ w = w' := by
  unfold maxLen at hs
  go_enter Tryd.func25, Tryd.ntmps25
  go_wp2_with fail
  go_loop [3] (fun i => ∃ k : Nat, k ≤ s.size ∧ i = .int .i64 k ∧ Hid ((s.data.toList.take k).all isLow = true)) (fun i => s.size - (intOf i).toNat)
  case atStart => exact ⟨0, Nat.zero_le _, rfl, by simp [Hid]⟩
  case round =>
    obtain ⟨k, hk, rfl, ha⟩ := hrel
    by_cases hlt : k < s.size
    · by_cases h1 : (s[k].toNat : Int) < 97
      · have hb := Lib.hid (nameOk_of_bad s k hlt (isLow_lo h1))
        go_wp2_with fail
        go_ret
        exact ⟨by rw [hb.out]; rfl, rfl⟩
      · by_cases h2 : 122 < (s[k].toNat : Int)
        · have hb := Lib.hid (nameOk_of_bad s k hlt (isLow_hi h2))
          go_wp2_with fail
          go_ret
          exact ⟨by rw [hb.out]; rfl, rfl⟩
        · have hb := Lib.hid (take_all_step s k hlt ha.out (isLow_true (by omega) (by omega)))
          go_wp2_with fail
          go_round
          case rel => exact ⟨k + 1, by omega, by go_num, hb.out⟩
          case measure => simp [intOf]; omega
    · have hb := Lib.hid (nameOk_of_all s k hlt ha.out)
      go_wp2_with (go_at_call 39; refine (l1In_any _ _ _ _).mono ?_; rintro e w' ⟨rfl, rfl⟩)
      go_ret
      exact ⟨by rw [hb.out]; rfl, rfl⟩
theorem alive_any (w : World) : Calls Tryd.prog 15 #[] w fun e w' => e = .returned (.bool true) ∧ w = w' := by
  go_enter Tryd.func15, Tryd.ntmps15
  go_wp2_with (go_at_call 29; refine (implNameValid_any _ _ (by decide)).mono ?_; rintro e w' ⟨rfl, rfl⟩)
  go_ret
  exact ⟨rfl, rfl⟩
end Go.Proofs.YtamhnhojfhlanaaDoor
