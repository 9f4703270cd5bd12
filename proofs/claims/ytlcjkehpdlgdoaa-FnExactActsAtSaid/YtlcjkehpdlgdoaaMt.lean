/-
  Texts that mark. No condition.
-/
import Derived.Test.YtlcjkehpdlgdoaaD
import Derived.Test.YtlcjkehpdlgdoaaI
set_option linter.unusedSimpArgs false
set_option linter.unusedVariables false
namespace Go.Proofs.Ytlcjkehpdlgdoaa
open Go.RowKit
def MarkTx (w : World) (e : Ending) (w' : World) : Prop := ∃ s : ByteArray, e = .returned (.string s) ∧ Below w.heap.size w w'
theorem one_string (x : Int) (w : World) : (convert 29 9 (.slice (some ⟨w.heap.size, 0, none⟩) 1 1)).run Try.prog (w.alloc (.cells #[.int .u8 x] 5)) = .ok (.string (strOfNums [x])) (w.alloc (.cells #[.int .u8 x] 5)) :=
  run_convert_bytes_arg _ 29 5 Try.underlying29 Try.underlying5 w.heap.size 0 1 1 [x] rfl (fun i hi => by
    obtain rfl : i = 0 := by omega
    simp [World.cell?_alloc_new]) 9 Try.underlying9
theorem one_size (x : Int) (s : ByteArray) : (strOfNums [x] ++ s).size = 1 + s.size := by
  rw [ByteArray.size_append]
  rfl
theorem markText_any (k0 : Int) (w : World) (h0 : 1 ≤ k0) (h1 : k0 ≤ 1099511627776) : Calls Try.prog 65 #[.int .i64 k0] w (MarkTx w) := by
  have hconv := one_string
  have hone : ∀ x : Int, (strOfNums [x]).size = 1 := fun x => strOfNums_size _
  go_enter Try.func65, Try.ntmps65
  go_wp2_with fail
  go_loopw [0, 3] (fun k o wr => ∃ (m : Nat) (f : Nat) (s : ByteArray), k = .int .i64 m ∧ o = .string s ∧ f ≤ 13 ∧ m ≤ 1099511627776 ∧ Hid (m < 10 ^ f) ∧ s.size ≤ 13 - f ∧ Below w.heap.size w wr) (fun k _ _ => (intOf k).toNat)
  case atStart =>
    obtain ⟨m, rfl⟩ : ∃ m : Nat, k0 = m := ⟨k0.toNat, by omega⟩
    exact ⟨m, 13, ⟨#[]⟩, rfl, rfl, by omega, by omega, by show m < 10 ^ 13; omega, Nat.zero_le _, Below.refl _ _⟩
  case round =>
    obtain ⟨m, f, s, rfl, rfl, hf, hmm, hm, hs, hB⟩ := hrel
    by_cases hm0 : 0 < m
    · have hm0i : (0 : Int) < (m : Int) := by omega
      obtain ⟨f, rfl⟩ : ∃ g, f = g + 1 := ⟨f - 1, by
        rcases Nat.eq_zero_or_pos f with h | h
        · subst h; have h := hm.out; simp at h; omega
        · omega⟩
      have hm2 : m / 10 < 10 ^ f := by have h := hm.out; rw [Nat.pow_succ] at h; omega
      have HM := Lib.hid hm2
      clear hm2 hm
      have hxa := fun o => Below.al hB o
      go_wp2_with fail
      refine ⟨⟨m / 10, f, _, by rw [show ((m / 10 : Nat) : Int) = (m : Int) / 10 from by omega], rfl, by omega, by omega, HM.out, by rw [one_size]; omega, hxa _⟩, ?_⟩
      simp [intOf]
      omega
    · go_wp2_with fail
      go_ret
      exact ⟨_, rfl, hB⟩
end Go.Proofs.Ytlcjkehpdlgdoaa
