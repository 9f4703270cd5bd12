/-
  Valid paths: the reference's look. No condition.
-/
import Derived.Test.YtamhnhojfhlanaaDoorPv
set_option linter.unusedSimpArgs false
set_option linter.unusedVariables false
namespace Go.Proofs.YtamhnhojfhlanaaDoor
open Go.RowKit
theorem all_upto (xs : List ByteArray) (p : ByteArray → Bool) (k : Nat) (h : k < xs.length) (ha : (xs.take k).all p = true) (hp : p xs[k] = true) : (xs.take (k + 1)).all p = true := by
  rw [List.take_succ_eq_append_getElem h, List.all_append, ha]
  simp [hp]
theorem all_not (xs : List ByteArray) (p : ByteArray → Bool) (k : Nat) (h : k < xs.length) (hp : p xs[k] = false) : xs.all p = false := by
  rw [List.all_eq_false]
  exact ⟨xs[k], List.getElem_mem h, by simp [hp]⟩
theorem specPathValid_any (s : ByteArray) (w : World) (hs : s.size ≤ 2097152) (xs0 : List ByteArray) (hx0 : Words s.data.toList xs0) : Calls Tryd.prog 11 #[.string s] w fun e w' => e = .returned (.bool (pathOk xs0)) ∧ Below w.heap.size w w' := by
  go_enter Tryd.func11, Tryd.ntmps11
  go_wp2_with fail
  refine (l30Words_any s w hs).mono ?_
  rintro e w1 ⟨v, xs, rfl, hw, hv, ho, b1⟩
  obtain rfl := words_one hw hx0
  obtain ⟨g, cap, rfl, h1, h2, h3, hc⟩ := row_at ho hv
  have HSM := Lib.hid hw.small
  have hwl := hw.len
  have HC := Lib.hid hc
  have hsz : s.data.toList.length = s.size := Array.length_toList
  clear hc
  unfold maxLen at h3
  go_wp2_with fail
  go_loopw [4] (fun i wr => ∃ k : Nat, k ≤ xs.length ∧ i = .int .i64 k ∧ Hid ((xs.take k).all nOk = true) ∧ wr = w1) (fun i _ => xs.length - (intOf i).toNat)
  case atStart => exact ⟨0, Nat.zero_le _, rfl, by simp [Hid], rfl⟩
  case round =>
    obtain ⟨k, hk, rfl, ha, rfl⟩ := hrel
    by_cases hlt : k < xs.length
    · have hlt2 : (k : Int) < (xs.length : Int) := by omega
      have c0 := HC.out k hlt
      have CN := Lib.hid (fun wx => specNameValid_any xs[k] wx (by have := HSM.out xs[k] (List.getElem_mem hlt); unfold maxLen; omega))
      have HS := Lib.hid (fun h => all_upto xs nOk k hlt ha.out h)
      have HB := Lib.hid (fun h => all_not xs nOk k hlt h)
      have HD := Lib.hid (show nOk xs[k] = nameOk xs[k].data.toList from rfl)
      generalize xs[k] = x at c0 CN HS HB HD
      cases hn : nameOk x.data.toList
      · have HF := Lib.hid (show pathOk xs = false by unfold pathOk; rw [HB.out (by rw [HD.out, hn]), Bool.false_and])
        rw [hn] at CN
        clear hn HS HB
        go_wp2_with fail
        refine (CN.out _).mono ?_
        rintro e w2 ⟨rfl, rfl⟩
        go_wp2_with fail
        go_ret
        exact ⟨by rw [HF.out]; rfl, b1⟩
      · have HF := Lib.hid (HS.out (by rw [HD.out, hn]))
        rw [hn] at CN
        clear hn HS HB
        go_wp2_with fail
        refine (CN.out _).mono ?_
        rintro e w2 ⟨rfl, rfl⟩
        go_wp2_with fail
        go_roundw
        case rel => exact ⟨k + 1, by omega, by go_num, HF, trivial⟩
        case measure => simp [intOf]; omega
    · have hlt2 : ¬ (k : Int) < (xs.length : Int) := by omega
      have hall : xs.all nOk = true := by
        have := ha.out
        rwa [List.take_of_length_le (by omega)] at this
      by_cases h5 : (xs.length : Int) ≤ 5
      all_goals
        have HF := Lib.hid (show pathOk xs = decide (xs.length ≤ 5) by unfold pathOk; rw [hall, Bool.true_and])
        clear hall
        go_wp2_with fail
        go_ret
        exact ⟨by rw [HF.out]; simp; omega, b1⟩
end Go.Proofs.YtamhnhojfhlanaaDoor
