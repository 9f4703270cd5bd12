/-
  The law on valid patterns. Condition: bytealg's MaxLen is a number.
-/
import Derived.Test.YtamhnhojfhlanaaDoorPh
set_option linter.unusedSimpArgs false
set_option linter.unusedVariables false
namespace Go.Proofs.YtamhnhojfhlanaaDoor
open Go.RowKit
theorem wordsL_sub : ∀ (l : List UInt8), ∀ x ∈ wordsL l, ∀ c ∈ x, c ∈ l
  | [], x, h, c, hc => by
    simp [wordsL] at h
    rw [h] at hc
    exact hc
  | d :: r, x, h, c, hc => by
    have ih := wordsL_sub r
    unfold wordsL at h
    split at h
    · rcases List.mem_cons.1 h with rfl | h
      · simp at hc
      · exact List.mem_cons_of_mem _ (ih x h c hc)
    · split at h
      · simp at h
        rw [h] at hc
        simp at hc
        simp [hc]
      · rename_i y ys e
        rw [e] at ih
        rcases List.mem_cons.1 h with rfl | h
        · rcases List.mem_cons.1 hc with rfl | hc
          · simp
          · exact List.mem_cons_of_mem _ (ih y (by simp) c hc)
        · exact List.mem_cons_of_mem _ (ih x (by simp [h]) c hc)
/-- Among the first k letters there is a star. -/
def starTo (s : ByteArray) (k : Nat) : Bool := (s.data.toList.take k).any fun c => c == 42
theorem starTo_step (s : ByteArray) (k : Nat) (h : k < s.size) : starTo s (k + 1) = (starTo s k || decide ((s[k]'h).toNat = 42)) := by
  unfold starTo
  rw [take_get s k h, List.any_append, List.any_cons, List.any_nil, Bool.or_false]
  congr 1
  rw [Bool.eq_iff_iff, beq_iff_eq, decide_eq_true_eq]
  exact ⟨fun e => by rw [e]; rfl, fun e => UInt8.toNat_inj.1 e⟩
theorem nostar_path {s : ByteArray} {xs : List ByteArray} (h : Words s.data.toList xs) (hs : starTo s s.size = false) : pathOk xs = patOk xs := by
  have hno : ∀ x ∈ xs, isS x = false ∧ isS2 x = false := by
    intro x hx
    have hm : x.data.toList ∈ wordsL s.data.toList := by rw [← h]; exact List.mem_map.2 ⟨x, hx, rfl⟩
    have hsub := wordsL_sub _ _ hm
    unfold starTo at hs
    rw [take_all s s.size (Nat.le_refl _), List.any_eq_false] at hs
    constructor
    · cases e : isS x
      · rfl
      · have : x.data.toList = [42] := eq_of_beq e
        exact absurd rfl (hs 42 (hsub 42 (by rw [this]; simp)))
    · cases e : isS2 x
      · rfl
      · have : x.data.toList = [42, 42] := eq_of_beq e
        exact absurd rfl (hs 42 (hsub 42 (by rw [this]; simp)))
  unfold pathOk patOk patTo
  congr 1
  rw [Bool.eq_iff_iff, List.all_eq_true, List.all_eq_true]
  constructor
  · intro ha i hi
    have hi := List.mem_range.1 hi
    rw [List.getD_eq_getElem?_getD, List.getElem?_eq_getElem hi]
    unfold wOk
    rw [show (some xs[i]).getD default = xs[i] from rfl, ha _ (List.getElem_mem hi)]
    rfl
  · intro ha x hx
    obtain ⟨i, hi, rfl⟩ := List.getElem_of_mem hx
    have := ha i (List.mem_range.2 hi)
    rw [List.getD_eq_getElem?_getD, List.getElem?_eq_getElem hi] at this
    unfold wOk at this
    rw [show (some xs[i]).getD default = xs[i] from rfl, (hno _ hx).1, (hno _ hx).2] at this
    simpa using this
theorem words_cat_stars {s : ByteArray} {xs : List ByteArray} (h : Words s.data.toList xs) : Words (s ++ ⟨#[47, 42, 42, 47, 97]⟩ : ByteArray).data.toList (xs ++ [⟨#[42, 42]⟩] ++ [⟨#[97]⟩]) := by
  rw [cat_list, show (⟨#[47, 42, 42, 47, 97]⟩ : ByteArray).data.toList = [47] ++ [42] ++ [42] ++ [47] ++ [97] from rfl, ← List.append_assoc, ← List.append_assoc, ← List.append_assoc, ← List.append_assoc]
  exact words_letter 97 (by decide) (words_slash (words_letter (z := ⟨#[42]⟩) 42 (by decide) (words_letter (z := ⟨#[]⟩) 42 (by decide) (words_slash h) ⟨#[42]⟩ rfl) ⟨#[42, 42]⟩ rfl)) _ rfl
theorem patOk_stars (xs : List ByteArray) : patOk (xs ++ [⟨#[42, 42]⟩] ++ [⟨#[97]⟩]) = false := by
  have hl : (xs ++ [⟨#[42, 42]⟩] ++ [⟨#[97]⟩] : List ByteArray).length = xs.length + 2 := by simp
  refine patTo_bad _ (xs.length + 1) ?_ (by omega)
  rw [patTo_step _ xs.length (by omega)]
  have e : (xs ++ [⟨#[42, 42]⟩] ++ [⟨#[97]⟩] : List ByteArray)[xs.length]'(by omega) = ⟨#[42, 42]⟩ := by simp
  rw [e, hl]
  unfold wOk
  rw [show nOk ⟨#[42, 42]⟩ = false from by decide, show isS ⟨#[42, 42]⟩ = false from rfl]
  simp
set_option maxRecDepth 100000 in
set_option maxHeartbeats 1600000 in
theorem fnPatternValid_any (a : Option Addr) (len cap : Nat) (w : World) (hN : MaxN w) (h : Bytes w a len cap) : Calls Tryd.prog 6 #[.slice a len cap] w fun e w' => e = .returned (.bool true) ∧ Below w.heap.size w w' := by
  have HN := Lib.hid hN
  have H := Lib.hid h
  have h1 := h.1
  have h2 := h.2.1
  unfold maxLen at h2
  clear h hN
  by_cases hl : (1048576 : Int) < (len : Int)
  · go_enter Tryd.func6, Tryd.ntmps6
    go_wp2_with fail
    go_ret
    exact ⟨rfl, Below.refl _ _⟩
  · have hc1 : (⟨#[47, 42, 42, 47, 97]⟩ : ByteArray).size = 5 := rfl
    go_enter Tryd.func6, Tryd.ntmps6
    go_wp2_with fail
    refine (drawPatternValid_any a len cap _ H.out).mono ?_
    rintro e w1 ⟨s, rfl, hs, b1⟩
    obtain ⟨xs, hx⟩ := words_of s
    have HX := Lib.hid (nostar_path hx)
    have CI := Lib.hid (fun wx (h : MaxN wx) => implPatternValid_any s wx h (by omega) xs hx)
    have CS := Lib.hid (fun wx => specPatternValid_any s wx (by omega) xs hx)
    have C1 := Lib.hid (fun wx (h : MaxN wx) => implPatternValid_any (s ++ ⟨#[47, 42, 42, 47, 97]⟩) wx h (by rw [ByteArray.size_append]; omega) _ (words_cat_stars hx))
    have C2 := Lib.hid (fun wx (h : MaxN wx) => implPathValid_any s wx h (by omega) xs hx)
    rw [patOk_stars] at C1
    clear hx
    cases hp : patOk xs
    all_goals
      rw [hp] at CI CS HX
      clear hp
      go_wp2_with fail
      refine (CI.out _ (MaxN.below HN.out b1)).mono ?_
      rintro e w2 ⟨rfl, b2⟩
      have hB2 := Below.via b2 b1
      go_wp2_with fail
      refine (CS.out _).mono ?_
      rintro e w3 ⟨rfl, b3⟩
      have hB3 := Below.via b3 hB2
      go_wp2_with fail
      go_loopw [5, 6] (fun m i wr => ∃ (k : Nat) (b : Bool), k ≤ s.size ∧ i = .int .i64 k ∧ m = .bool b ∧ Hid (b = starTo s k) ∧ wr = w3) (fun _ i _ => s.size - (intOf i).toNat)
      case atStart => exact ⟨0, false, Nat.zero_le _, rfl, rfl, rfl, rfl⟩
      case round =>
        obtain ⟨k, b, hk, rfl, rfl, hW, rfl⟩ := hrel
        by_cases hlt : k < s.size
        · have hlt2 : (k : Int) < (s.size : Int) := by omega
          have hst := Lib.hid (starTo_step s k hlt)
          cases b
          · by_cases hc : (s[k]'hlt).toNat = 42
            · have HF := Lib.hid (show true = starTo s (k + 1) by rw [hst.out, hc]; simp)
              go_wp2_with fail
              go_roundw
              case rel => exact ⟨k + 1, true, by omega, by go_num, rfl, HF, trivial⟩
              case measure => simp [intOf]; omega
            · have hc3 : ((((s[k]'hlt).toNat : Nat) : Int) == 42) = false := by rw [beq_eq_false_iff_ne]; omega
              have HF := Lib.hid (show false = starTo s (k + 1) by rw [hst.out, ← hW.out]; simp [hc])
              go_wp2_with fail
              go_roundw
              case rel => exact ⟨k + 1, false, by omega, by go_num, rfl, HF, trivial⟩
              case measure => simp [intOf]; omega
          · have HF := Lib.hid (show true = starTo s (k + 1) by rw [hst.out, ← hW.out]; simp)
            go_wp2_with fail
            go_roundw
            case rel => exact ⟨k + 1, true, by omega, by go_num, rfl, HF, trivial⟩
            case measure => simp [intOf]; omega
        · have hlt2 : ¬ (k : Int) < (s.size : Int) := by omega
          obtain rfl : k = s.size := by omega
          cases b
          · rw [HX.out hW.out.symm] at C2
            clear hW
            go_wp2_with fail
            refine (C1.out _ (MaxN.below HN.out hB3)).mono ?_
            rintro e w4 ⟨rfl, b4⟩
            have hB4 := Below.via b4 hB3
            go_wp2_with fail
            refine (C2.out _ (MaxN.below HN.out hB4)).mono ?_
            rintro e w5 ⟨rfl, b5⟩
            have hB5 := Below.via b5 hB4
            go_wp2_with fail
            refine (alive_any _).mono ?_
            rintro e w7 ⟨rfl, rfl⟩
            go_wp2_with fail
            go_ret
            exact ⟨rfl, hB5⟩
          · clear hW
            go_wp2_with fail
            refine (C1.out _ (MaxN.below HN.out hB3)).mono ?_
            rintro e w4 ⟨rfl, b4⟩
            have hB4 := Below.via b4 hB3
            go_wp2_with fail
            refine (alive_any _).mono ?_
            rintro e w7 ⟨rfl, rfl⟩
            go_wp2_with fail
            go_ret
            exact ⟨rfl, hB4⟩
end Go.Proofs.YtamhnhojfhlanaaDoor
