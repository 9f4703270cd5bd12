/-
  The law on valid paths. Condition: bytealg's MaxLen is a number.
-/
import Derived.Test.YtamhnhojfhlanaaDoorPg
import Derived.Test.YtamhnhojfhlanaaDoorPc
set_option linter.unusedSimpArgs false
set_option linter.unusedVariables false
namespace Go.Proofs.YtamhnhojfhlanaaDoor
open Go.RowKit
theorem cat_list (s t : ByteArray) : (s ++ t).data.toList = s.data.toList ++ t.data.toList := by simp
theorem words_cat_slash {s : ByteArray} {xs : List ByteArray} (h : Words s.data.toList xs) : Words (s ++ ⟨#[47]⟩ : ByteArray).data.toList (xs ++ [⟨#[]⟩]) := by
  rw [cat_list]
  exact words_slash h
theorem words_cat_a {s : ByteArray} {xs : List ByteArray} (h : Words s.data.toList xs) : Words (s ++ ⟨#[47, 97]⟩ : ByteArray).data.toList (xs ++ [⟨#[97]⟩]) := by
  rw [cat_list, show (⟨#[47, 97]⟩ : ByteArray).data.toList = [47] ++ [97] from rfl, ← List.append_assoc]
  exact words_letter 97 (by decide) (words_slash h) _ rfl
theorem pathOk_slash (xs : List ByteArray) : pathOk (xs ++ [⟨#[]⟩]) = false := by
  unfold pathOk
  rw [List.all_append, show ([⟨#[]⟩] : List ByteArray).all nOk = false from by decide, Bool.and_false, Bool.false_and]
theorem pathOk_a (xs : List ByteArray) (h : pathOk xs = true) : pathOk (xs ++ [⟨#[97]⟩]) = decide (xs.length < 5) := by
  unfold pathOk at h ⊢
  rw [Bool.and_eq_true] at h
  rw [List.all_append, h.1, show ([⟨#[97]⟩] : List ByteArray).all nOk = true from by decide, List.length_append]
  simp
  omega
theorem words_len_slash (s : ByteArray) (k : Nat) (h : k < s.size) (hc : (s[k]'h).toNat = 47) : (wordsL (s.data.toList.take (k + 1))).length = (wordsL (s.data.toList.take k)).length + 1 := by
  rw [take_get s k h, show s[k]'h = 47 from UInt8.toNat_inj.1 hc, wordsL_slash]
  simp
theorem words_len_letter (s : ByteArray) (k : Nat) (h : k < s.size) (hc : (s[k]'h).toNat ≠ 47) : (wordsL (s.data.toList.take (k + 1))).length = (wordsL (s.data.toList.take k)).length := by
  obtain ⟨ws, w, h1, h2⟩ := wordsL_letter (s.data.toList.take k) (s[k]'h) (fun e => hc (by rw [e]; rfl))
  rw [take_get s k h, h2, h1]
  simp
theorem take_all (s : ByteArray) (k : Nat) (h : s.size ≤ k) : s.data.toList.take k = s.data.toList := List.take_of_length_le (by rw [Array.length_toList]; exact h)
theorem Words.count {l : List UInt8} {xs : List ByteArray} (h : Words l xs) : (wordsL l).length = xs.length := by rw [← h]; simp
set_option maxRecDepth 100000 in
set_option maxHeartbeats 1600000 in
theorem fnPathValid_any (a : Option Addr) (len cap : Nat) (w : World) (hN : MaxN w) (h : Bytes w a len cap) : Calls Tryd.prog 4 #[.slice a len cap] w fun e w' => e = .returned (.bool true) ∧ Below w.heap.size w w' := by
  have HN := Lib.hid hN
  have H := Lib.hid h
  have h1 := h.1
  have h2 := h.2.1
  unfold maxLen at h2
  clear h hN
  by_cases hl : (1048576 : Int) < (len : Int)
  · go_enter Tryd.func4, Tryd.ntmps4
    go_wp2_with fail
    go_ret
    exact ⟨rfl, Below.refl _ _⟩
  · have hc1 : (⟨#[47]⟩ : ByteArray).size = 1 := rfl
    have hc2 : (⟨#[47, 97]⟩ : ByteArray).size = 2 := rfl
    go_enter Tryd.func4, Tryd.ntmps4
    go_wp2_with fail
    refine (drawPathValid_any a len cap _ H.out).mono ?_
    rintro e w1 ⟨s, rfl, hs, b1⟩
    obtain ⟨xs, hx⟩ := words_of s
    have HX := Lib.hid hx
    have CI := Lib.hid (fun wx (h : MaxN wx) => implPathValid_any s wx h (by omega) xs hx)
    have CS := Lib.hid (fun wx => specPathValid_any s wx (by omega) xs hx)
    have C1 := Lib.hid (fun wx (h : MaxN wx) => implPathValid_any (s ++ ⟨#[47]⟩) wx h (by rw [ByteArray.size_append]; omega) _ (words_cat_slash hx))
    have C2 := Lib.hid (fun wx (h : MaxN wx) => implPathValid_any (s ++ ⟨#[47, 97]⟩) wx h (by rw [ByteArray.size_append]; omega) _ (words_cat_a hx))
    have C3 := Lib.hid (fun wx (h : MaxN wx) => implPatternValid_any s wx h (by omega) xs hx)
    rw [pathOk_slash] at C1
    clear hx
    cases hp : pathOk xs
    · rw [hp] at CI CS
      clear C2 C3
      go_wp2_with fail
      refine (CI.out _ (MaxN.below HN.out b1)).mono ?_
      rintro e w2 ⟨rfl, b2⟩
      have hB2 := Below.via b2 b1
      go_wp2_with fail
      refine (CS.out _).mono ?_
      rintro e w3 ⟨rfl, b3⟩
      have hB3 := Below.via b3 hB2
      go_wp2_with fail
      go_loopw [5, 6] (fun m i wr => ∃ (k n : Nat), k ≤ s.size ∧ i = .int .i64 k ∧ m = .int .i64 n ∧ n ≤ k + 1 ∧ wr = w3) (fun _ i _ => s.size - (intOf i).toNat)
      case atStart => exact ⟨0, 1, Nat.zero_le _, rfl, rfl, by omega, rfl⟩
      case round =>
        obtain ⟨k, n, hk, rfl, rfl, hn, rfl⟩ := hrel
        by_cases hlt : k < s.size
        · have hlt2 : (k : Int) < (s.size : Int) := by omega
          by_cases hc : (s[k]'hlt).toNat = 47
          · go_wp2_with fail
            go_roundw
            case rel => exact ⟨k + 1, n + 1, by omega, by go_num, by go_num, by omega, trivial⟩
            case measure => simp [intOf]; omega
          · have hc3 : ((((s[k]'hlt).toNat : Nat) : Int) == 47) = false := by rw [beq_eq_false_iff_ne]; omega
            go_wp2_with fail
            go_roundw
            case rel => exact ⟨k + 1, n, by omega, by go_num, rfl, by omega, trivial⟩
            case measure => simp [intOf]; omega
        · have hlt2 : ¬ (k : Int) < (s.size : Int) := by omega
          go_wp2_with fail
          refine (C1.out _ (MaxN.below HN.out hB3)).mono ?_
          rintro e w4 ⟨rfl, b4⟩
          have hB4 := Below.via b4 hB3
          go_wp2_with fail
          refine (alive_any _).mono ?_
          rintro e w5 ⟨rfl, rfl⟩
          go_wp2_with fail
          go_ret
          exact ⟨rfl, hB4⟩
    · rw [pathOk_a xs hp] at C2
      rw [(pathOk_pat hp).1] at C3
      rw [hp] at CI CS
      clear hp
      go_wp2_with fail
      refine (CI.out _ (MaxN.below HN.out b1)).mono ?_
      rintro e w2 ⟨rfl, b2⟩
      have hB2 := Below.via b2 b1
      go_wp2_with fail
      refine (CS.out _).mono ?_
      rintro e w3 ⟨rfl, b3⟩
      have hB3 := Below.via b3 hB2
      go_wp2_with fail
      go_loopw [5, 6] (fun m i wr => ∃ (k n : Nat), k ≤ s.size ∧ i = .int .i64 k ∧ m = .int .i64 n ∧ n ≤ k + 1 ∧ Hid (n = (wordsL (s.data.toList.take k)).length) ∧ wr = w3) (fun _ i _ => s.size - (intOf i).toNat)
      case atStart => exact ⟨0, 1, Nat.zero_le _, rfl, rfl, by omega, rfl, rfl⟩
      case round =>
        obtain ⟨k, n, hk, rfl, rfl, hn, hW, rfl⟩ := hrel
        by_cases hlt : k < s.size
        · have hlt2 : (k : Int) < (s.size : Int) := by omega
          by_cases hc : (s[k]'hlt).toNat = 47
          · have HF := Lib.hid (show n + 1 = (wordsL (s.data.toList.take (k + 1))).length by rw [hW.out]; exact (words_len_slash s k hlt hc).symm)
            go_wp2_with fail
            go_roundw
            case rel => exact ⟨k + 1, n + 1, by omega, by go_num, by go_num, by omega, HF, trivial⟩
            case measure => simp [intOf]; omega
          · have hc3 : ((((s[k]'hlt).toNat : Nat) : Int) == 47) = false := by rw [beq_eq_false_iff_ne]; omega
            have HF := Lib.hid (show n = _ from hW.out.trans (words_len_letter s k hlt hc).symm)
            go_wp2_with fail
            go_roundw
            case rel => exact ⟨k + 1, n, by omega, by go_num, rfl, by omega, HF, trivial⟩
            case measure => simp [intOf]; omega
        · have hlt2 : ¬ (k : Int) < (s.size : Int) := by omega
          have hnx : n = xs.length := by rw [hW.out, take_all s k (by omega), HX.out.count]
          subst hnx
          clear hW
          by_cases h5 : (xs.length : Int) < 5
          · have hd : decide ((xs.length : Int) < 5) = true := decide_eq_true h5
            rw [show decide (xs.length < 5) = true from decide_eq_true (by omega)] at C2
            go_wp2_with fail
            refine (C1.out _ (MaxN.below HN.out hB3)).mono ?_
            rintro e w4 ⟨rfl, b4⟩
            have hB4 := Below.via b4 hB3
            go_wp2_with fail
            refine (C2.out _ (MaxN.below HN.out hB4)).mono ?_
            rintro e w5 ⟨rfl, b5⟩
            have hB5 := Below.via b5 hB4
            go_wp2_with fail
            refine (C3.out _ (MaxN.below HN.out hB5)).mono ?_
            rintro e w6 ⟨rfl, b6⟩
            have hB6 := Below.via b6 hB5
            go_wp2_with fail
            refine (alive_any _).mono ?_
            rintro e w7 ⟨rfl, rfl⟩
            go_wp2_with fail
            go_ret
            exact ⟨rfl, hB6⟩
          · have hd : decide ((xs.length : Int) < 5) = false := decide_eq_false h5
            rw [show decide (xs.length < 5) = false from decide_eq_false (by omega)] at C2
            go_wp2_with fail
            refine (C1.out _ (MaxN.below HN.out hB3)).mono ?_
            rintro e w4 ⟨rfl, b4⟩
            have hB4 := Below.via b4 hB3
            go_wp2_with fail
            refine (C2.out _ (MaxN.below HN.out hB4)).mono ?_
            rintro e w5 ⟨rfl, b5⟩
            have hB5 := Below.via b5 hB4
            go_wp2_with fail
            refine (C3.out _ (MaxN.below HN.out hB5)).mono ?_
            rintro e w6 ⟨rfl, b6⟩
            have hB6 := Below.via b6 hB5
            go_wp2_with fail
            refine (alive_any _).mono ?_
            rintro e w7 ⟨rfl, rfl⟩
            go_wp2_with fail
            go_ret
            exact ⟨rfl, hB6⟩
end Go.Proofs.YtamhnhojfhlanaaDoor
