/-
  Valid patterns: the program's look and the reference's. Condition: bytealg's MaxLen is a number.
-/
import Derived.Test.YtamhnhojfhlanaaDoorPu
set_option linter.unusedSimpArgs false
set_option linter.unusedVariables false
namespace Go.Proofs.YtamhnhojfhlanaaDoor
open Go.RowKit
def star : ByteArray := ⟨#[42]⟩
def star2 : ByteArray := ⟨#[42, 42]⟩
def isS (x : ByteArray) : Bool := x.data.toList == [42]
def isS2 (x : ByteArray) : Bool := x.data.toList == [42, 42]
/-- The word at place k of n is one that a pattern may have there. -/
def wOk (n k : Nat) (x : ByteArray) : Bool := nOk x || isS x || (isS2 x && decide (n ≤ k + 1))
def patTo (xs : List ByteArray) (k : Nat) : Bool := (List.range k).all fun i => wOk xs.length i (xs.getD i default)
def patOk (xs : List ByteArray) : Bool := patTo xs xs.length && decide (xs.length ≤ 5)
theorem patTo_step (xs : List ByteArray) (k : Nat) (h : k < xs.length) : patTo xs (k + 1) = (patTo xs k && wOk xs.length k xs[k]) := by
  unfold patTo
  rw [List.range_succ, List.all_append]
  simp [List.getD_eq_getElem?_getD, List.getElem?_eq_getElem h]
theorem patTo_bad (xs : List ByteArray) (k : Nat) (h : patTo xs k = false) (hk : k ≤ xs.length) : patOk xs = false := by
  unfold patOk
  have : patTo xs xs.length = false := by
    unfold patTo at h ⊢
    rw [List.all_eq_false] at h ⊢
    obtain ⟨i, hi, h2⟩ := h
    exact ⟨i, List.mem_range.2 (by have := List.mem_range.1 hi; omega), h2⟩
  rw [this, Bool.false_and]
theorem star_eq (x : ByteArray) : (x.toList == [42]) = isS x := by rw [ByteArray.toList_eq]; rfl
theorem star2_eq (x : ByteArray) : (x.toList == [42, 42]) = isS2 x := by rw [ByteArray.toList_eq]; rfl
set_option maxHeartbeats 1600000 in
theorem implPatternValid_any (s : ByteArray) (w : World) (hN : MaxN w) (hs : s.size ≤ 2097152) (xs0 : List ByteArray) (hx0 : Words s.data.toList xs0) : Calls Tryd.prog 14 #[.string s] w fun e w' => e = .returned (.bool (patOk xs0)) ∧ Below w.heap.size w w' := by
  go_enter Tryd.func14, Tryd.ntmps14
  go_wp2_with fail
  refine (split_any s w hN hs).mono ?_
  rintro e w1 ⟨v, xs, rfl, hw, hv, ho, b1⟩
  obtain rfl := words_one hw hx0
  obtain ⟨g, cap, rfl, h1, h2, h3, hc⟩ := row_at ho hv
  have HSM := Lib.hid hw.small
  have hwl := hw.len
  have HC := Lib.hid hc
  have hsz : s.data.toList.length = s.size := Array.length_toList
  have HW := Lib.hid hw
  clear hc hw hx0 ho hv
  unfold maxLen at h3
  go_wp2_with fail
  go_loopw [10] (fun i wr => ∃ k : Nat, k ≤ xs.length ∧ i = .int .i64 k ∧ Hid (patTo xs k = true) ∧ wr = w1) (fun i _ => xs.length - (intOf i).toNat)
  case atStart => exact ⟨0, Nat.zero_le _, rfl, rfl, rfl⟩
  case round =>
    obtain ⟨k, hk, rfl, ha, rfl⟩ := hrel
    by_cases hlt : k < xs.length
    · have hlt2 : (k : Int) < (xs.length : Int) := by omega
      have c0 := HC.out k hlt
      have CN := Lib.hid (fun wx => implNameValid_any xs[k] wx (by have := HSM.out xs[k] (List.getElem_mem hlt); unfold maxLen; omega))
      have HST := Lib.hid (patTo_step xs k hlt)
      have HBAD := Lib.hid (fun h => patTo_bad xs (k + 1) h (by omega))
      have s1 := star_eq xs[k]
      have s2 := star2_eq xs[k]
      have HD := Lib.hid (show wOk xs.length k xs[k] = (nameOk xs[k].data.toList || isS xs[k] || (isS2 xs[k] && decide (xs.length ≤ k + 1))) from rfl)
      generalize xs[k] = x at c0 CN HST HD s1 s2
      cases hn : nameOk x.data.toList
      · rw [hn] at CN
        cases e1 : isS x
        · rw [e1] at s1
          have s1n : (!(x.toList == [42])) = true := by rw [s1]; rfl
          have s1p : ¬ x.toList = [42] := fun h => by rw [h] at s1; simp at s1
          cases e2 : isS2 x
          · rw [e2] at s2
            have s2n : (!(x.toList == [42, 42])) = true := by rw [s2]; rfl
            have s2p : ¬ x.toList = [42, 42] := fun h => by rw [h] at s2; simp at s2
            have HF := Lib.hid (HBAD.out (by rw [HST.out, HD.out, hn, e1, e2]; simp))
            clear hn HST HBAD HD e1 e2
            go_wp2_with fail
            refine (CN.out _).mono ?_
            rintro e w2 ⟨rfl, rfl⟩
            go_wp2_with fail
            go_ret
            exact ⟨by rw [HF.out]; rfl, b1⟩
          · rw [e2] at s2
            have s2n : (!(x.toList == [42, 42])) = false := by rw [s2]; rfl
            have s2p : x.toList = [42, 42] := eq_of_beq s2
            by_cases hl : (k : Int) + 1 < (xs.length : Int)
            · have hl2 : (k : Int) < (xs.length : Int) - 1 := by omega
              have HF := Lib.hid (HBAD.out (by rw [HST.out, HD.out, hn, e1, e2]; simp; intro _; omega))
              clear hn HST HBAD HD e1 e2
              go_wp2_with fail
              refine (CN.out _).mono ?_
              rintro e w2 ⟨rfl, rfl⟩
              go_wp2_with fail
              go_ret
              exact ⟨by rw [HF.out]; rfl, b1⟩
            · have hl2 : ¬ (k : Int) < (xs.length : Int) - 1 := by omega
              have HF := Lib.hid (show patTo xs (k + 1) = true by rw [HST.out, HD.out, ha.out, hn, e1, e2]; simp; omega)
              clear hn HST HBAD HD e1 e2
              go_wp2_with fail
              refine (CN.out _).mono ?_
              rintro e w2 ⟨rfl, rfl⟩
              go_wp2_with fail
              go_roundw
              case rel => exact ⟨k + 1, by omega, by go_num, HF, trivial⟩
              case measure => simp [intOf]; omega
        · rw [e1] at s1
          have s1n : (!(x.toList == [42])) = false := by rw [s1]; rfl
          have s1p : x.toList = [42] := eq_of_beq s1
          have HF := Lib.hid (show patTo xs (k + 1) = true by rw [HST.out, HD.out, ha.out, hn, e1]; simp)
          clear hn HST HBAD HD e1
          go_wp2_with fail
          refine (CN.out _).mono ?_
          rintro e w2 ⟨rfl, rfl⟩
          go_wp2_with fail
          go_roundw
          case rel => exact ⟨k + 1, by omega, by go_num, HF, trivial⟩
          case measure => simp [intOf]; omega
      · have HF := Lib.hid (show patTo xs (k + 1) = true by rw [HST.out, HD.out, ha.out, hn]; simp)
        rw [hn] at CN
        clear hn HST HBAD HD
        go_wp2_with fail
        refine (CN.out _).mono ?_
        rintro e w2 ⟨rfl, rfl⟩
        go_wp2_with fail
        go_roundw
        case rel => exact ⟨k + 1, by omega, by go_num, HF, trivial⟩
        case measure => simp [intOf]; omega
    · have hlt2 : ¬ (k : Int) < (xs.length : Int) := by omega
      have hall : patTo xs xs.length = true := by
        have := ha.out
        rwa [show k = xs.length by omega] at this
      by_cases h5 : (xs.length : Int) ≤ 5
      all_goals
        have HF := Lib.hid (show patOk xs = decide (xs.length ≤ 5) by unfold patOk; rw [hall, Bool.true_and])
        clear hall
        go_wp2_with fail
        go_ret
        exact ⟨by rw [HF.out]; simp; omega, b1⟩
set_option maxHeartbeats 1600000 in
theorem specPatternValid_any (s : ByteArray) (w : World) (hs : s.size ≤ 2097152) (xs0 : List ByteArray) (hx0 : Words s.data.toList xs0) : Calls Tryd.prog 16 #[.string s] w fun e w' => e = .returned (.bool (patOk xs0)) ∧ Below w.heap.size w w' := by
  go_enter Tryd.func16, Tryd.ntmps16
  go_wp2_with fail
  refine (l30Words_any s w hs).mono ?_
  rintro e w1 ⟨v, xs, rfl, hw, hv, ho, b1⟩
  obtain rfl := words_one hw hx0
  obtain ⟨g, cap, rfl, h1, h2, h3, hc⟩ := row_at ho hv
  have HSM := Lib.hid hw.small
  have hwl := hw.len
  have HC := Lib.hid hc
  have hsz : s.data.toList.length = s.size := Array.length_toList
  have HW := Lib.hid hw
  clear hc hw hx0 ho hv
  unfold maxLen at h3
  go_wp2_with fail
  go_loopw [4] (fun i wr => ∃ k : Nat, k ≤ xs.length ∧ i = .int .i64 k ∧ Hid (patTo xs k = true) ∧ wr = w1) (fun i _ => xs.length - (intOf i).toNat)
  case atStart => exact ⟨0, Nat.zero_le _, rfl, rfl, rfl⟩
  case round =>
    obtain ⟨k, hk, rfl, ha, rfl⟩ := hrel
    by_cases hlt : k < xs.length
    · have hlt2 : (k : Int) < (xs.length : Int) := by omega
      have c0 := HC.out k hlt
      have CN := Lib.hid (fun wx => specNameValid_any xs[k] wx (by have := HSM.out xs[k] (List.getElem_mem hlt); unfold maxLen; omega))
      have HST := Lib.hid (patTo_step xs k hlt)
      have HBAD := Lib.hid (fun h => patTo_bad xs (k + 1) h (by omega))
      have s1 := star_eq xs[k]
      have s2 := star2_eq xs[k]
      have HD := Lib.hid (show wOk xs.length k xs[k] = (nameOk xs[k].data.toList || isS xs[k] || (isS2 xs[k] && decide (xs.length ≤ k + 1))) from rfl)
      generalize xs[k] = x at c0 CN HST HD s1 s2
      cases hn : nameOk x.data.toList
      · rw [hn] at CN
        cases e1 : isS x
        · rw [e1] at s1
          have s1n : (!(x.toList == [42])) = true := by rw [s1]; rfl
          have s1p : ¬ x.toList = [42] := fun h => by rw [h] at s1; simp at s1
          cases e2 : isS2 x
          · rw [e2] at s2
            have s2n : (!(x.toList == [42, 42])) = true := by rw [s2]; rfl
            have s2p : ¬ x.toList = [42, 42] := fun h => by rw [h] at s2; simp at s2
            have HF := Lib.hid (HBAD.out (by rw [HST.out, HD.out, hn, e1, e2]; simp))
            clear hn HST HBAD HD e1 e2
            go_wp2_with fail
            refine (CN.out _).mono ?_
            rintro e w2 ⟨rfl, rfl⟩
            go_wp2_with fail
            go_ret
            exact ⟨by rw [HF.out]; rfl, b1⟩
          · rw [e2] at s2
            have s2n : (!(x.toList == [42, 42])) = false := by rw [s2]; rfl
            have s2p : x.toList = [42, 42] := eq_of_beq s2
            by_cases hl : (k : Int) + 1 < (xs.length : Int)
            · have hl2 : (k : Int) < (xs.length : Int) - 1 := by omega
              have HF := Lib.hid (HBAD.out (by rw [HST.out, HD.out, hn, e1, e2]; simp; intro _; omega))
              clear hn HST HBAD HD e1 e2
              go_wp2_with fail
              refine (CN.out _).mono ?_
              rintro e w2 ⟨rfl, rfl⟩
              go_wp2_with fail
              go_ret
              exact ⟨by rw [HF.out]; rfl, b1⟩
            · have hl2 : ¬ (k : Int) < (xs.length : Int) - 1 := by omega
              have HF := Lib.hid (show patTo xs (k + 1) = true by rw [HST.out, HD.out, ha.out, hn, e1, e2]; simp; omega)
              clear hn HST HBAD HD e1 e2
              go_wp2_with fail
              refine (CN.out _).mono ?_
              rintro e w2 ⟨rfl, rfl⟩
              go_wp2_with fail
              go_roundw
              case rel => exact ⟨k + 1, by omega, by go_num, HF, trivial⟩
              case measure => simp [intOf]; omega
        · rw [e1] at s1
          have s1n : (!(x.toList == [42])) = false := by rw [s1]; rfl
          have s1p : x.toList = [42] := eq_of_beq s1
          have HF := Lib.hid (show patTo xs (k + 1) = true by rw [HST.out, HD.out, ha.out, hn, e1]; simp)
          clear hn HST HBAD HD e1
          go_wp2_with fail
          refine (CN.out _).mono ?_
          rintro e w2 ⟨rfl, rfl⟩
          go_wp2_with fail
          go_roundw
          case rel => exact ⟨k + 1, by omega, by go_num, HF, trivial⟩
          case measure => simp [intOf]; omega
      · have HF := Lib.hid (show patTo xs (k + 1) = true by rw [HST.out, HD.out, ha.out, hn]; simp)
        rw [hn] at CN
        clear hn HST HBAD HD
        go_wp2_with fail
        refine (CN.out _).mono ?_
        rintro e w2 ⟨rfl, rfl⟩
        go_wp2_with fail
        go_roundw
        case rel => exact ⟨k + 1, by omega, by go_num, HF, trivial⟩
        case measure => simp [intOf]; omega
    · have hlt2 : ¬ (k : Int) < (xs.length : Int) := by omega
      have hall : patTo xs xs.length = true := by
        have := ha.out
        rwa [show k = xs.length by omega] at this
      by_cases h5 : (xs.length : Int) ≤ 5
      all_goals
        have HF := Lib.hid (show patOk xs = decide (xs.length ≤ 5) by unfold patOk; rw [hall, Bool.true_and])
        clear hall
        go_wp2_with fail
        go_ret
        exact ⟨by rw [HF.out]; simp; omega, b1⟩
end Go.Proofs.YtamhnhojfhlanaaDoor
