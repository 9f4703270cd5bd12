/-
  The law on patterns that cover others. Condition: bytealg's MaxLen is a number.
-/
import Derived.Test.YtamhnhojfhlanaaDoorPa
import Derived.Test.YtamhnhojfhlanaaDoorPy
set_option linter.unusedSimpArgs false
set_option linter.unusedVariables false
namespace Go.Proofs.YtamhnhojfhlanaaDoor
open Go.RowKit
/-- The law's fourteen paths. -/
def pathsA : Array Value := #[.string ⟨#[97]⟩, .string ⟨#[98]⟩, .string ⟨#[99]⟩, .string ⟨#[97, 47, 97]⟩, .string ⟨#[97, 47, 98]⟩, .string ⟨#[98, 47, 97]⟩, .string ⟨#[99, 47, 99]⟩, .string ⟨#[97, 47, 98, 47, 99]⟩, .string ⟨#[98, 47, 98, 47, 98]⟩, .string ⟨#[99, 47, 97, 47, 98]⟩, .string ⟨#[97, 47, 97, 47, 97, 47, 97]⟩, .string ⟨#[98, 47, 97, 47, 99, 47, 98]⟩, .string ⟨#[97, 47, 98, 47, 97, 47, 98, 47, 97]⟩, .string ⟨#[99, 47, 99, 47, 99, 47, 99, 47, 99]⟩]
theorem path_at {w : World} {g : Nat} {t : TypeId} (h : Bk w g pathsA t) (m : Nat) (hm : m < 14) : ∃ s : ByteArray, w.cell? ⟨g, m, none⟩ = some (.string s) ∧ s.size ≤ 9 := by
  rcases (show m = 0 ∨ m = 1 ∨ m = 2 ∨ m = 3 ∨ m = 4 ∨ m = 5 ∨ m = 6 ∨ m = 7 ∨ m = 8 ∨ m = 9 ∨ m = 10 ∨ m = 11 ∨ m = 12 ∨ m = 13 by omega) with rfl | rfl | rfl | rfl | rfl | rfl | rfl | rfl | rfl | rfl | rfl | rfl | rfl | rfl
  all_goals exact ⟨_, (h.cell _).trans rfl, by decide⟩
set_option maxRecDepth 100000 in
set_option maxHeartbeats 1600000 in
theorem fnPatternCovers_any (a : Option Addr) (len cap : Nat) (w : World) (hN : MaxN w) (h : Bytes w a len cap) : Calls Tryd.prog 10 #[.slice a len cap] w fun e w' => e = .returned (.bool true) ∧ Below w.heap.size w w' := by
  have HN := Lib.hid hN
  have H := Lib.hid h
  have h1 := h.1
  have h2 := h.2.1
  unfold maxLen at h2
  clear h hN
  by_cases hl : (1048576 : Int) < (len : Int)
  · go_enter Tryd.func10, Tryd.ntmps10
    go_wp2_with fail
    go_ret
    exact ⟨rfl, Below.refl _ _⟩
  · go_enter Tryd.func10, Tryd.ntmps10
    go_wp2_with fail
    refine (drawPatternCovers_any a len cap _ H.out).mono ?_
    rintro e w1 ⟨s, t, rfl, hs, ht, b1⟩
    obtain ⟨xs, hx⟩ := words_of s
    obtain ⟨ys, hy⟩ := words_of t
    have CI := Lib.hid (fun wx (h : MaxN wx) => implPatternCovers_any s t wx h (by omega) (by omega) xs ys hx hy)
    have CS := Lib.hid (fun wx => specPatternCovers_any s t wx (by omega) (by omega) xs ys hx hy)
    have C1 := Lib.hid (fun wx (h : MaxN wx) => implPatternCovers_any t t wx h (by omega) (by omega) ys ys hy hy)
    have C2 := Lib.hid (fun wx (h : MaxN wx) => implPatternValid_any t wx h (by omega) ys hy)
    have C3 := Lib.hid (fun wx (h : MaxN wx) => implPatternCovers_any ⟨#[42, 42]⟩ t wx h (by decide) (by omega) [star2] ys words_stars hy)
    have F1 := Lib.hid (fun (z : ByteArray) (hz : z.size ≤ 9) zs (hw : Words z.data.toList zs) wx (h : MaxN wx) => implPathFits_any z t wx h (by omega) (by omega) zs ys hw hy)
    have F2 := Lib.hid (fun (z : ByteArray) (hz : z.size ≤ 9) zs (hw : Words z.data.toList zs) wx (h : MaxN wx) => implPathFits_any z s wx h (by omega) (by omega) zs xs hw hx)
    rw [patCov_self] at C1
    rw [patCov_stars ys hy.len.1] at C3
    clear hx hy
    cases hf : patCov xs ys
    · rw [hf] at CI CS
      clear F1 F2 hf
      cases hp : patOk ys
      all_goals
        rw [hp] at C1 C2 C3
        clear hp
        go_wp2_with fail
        refine (CI.out _ (MaxN.below HN.out b1)).mono ?_
        rintro e w2 ⟨rfl, b2⟩
        have hB2 := Below.via b2 b1
        go_wp2_with fail
        refine (CS.out _).mono ?_
        rintro e w3 ⟨rfl, b3⟩
        have hB3 := Below.via b3 hB2
        have hB3a := Below.al hB3 (.cells #[.string ⟨#[97]⟩, .string ⟨#[98]⟩, .string ⟨#[99]⟩, .string ⟨#[97, 47, 97]⟩, .string ⟨#[97, 47, 98]⟩, .string ⟨#[98, 47, 97]⟩, .string ⟨#[99, 47, 99]⟩, .string ⟨#[97, 47, 98, 47, 99]⟩, .string ⟨#[98, 47, 98, 47, 98]⟩, .string ⟨#[99, 47, 97, 47, 98]⟩, .string ⟨#[97, 47, 97, 47, 97, 47, 97]⟩, .string ⟨#[98, 47, 97, 47, 99, 47, 98]⟩, .string ⟨#[97, 47, 98, 47, 97, 47, 98, 47, 97]⟩, .string ⟨#[99, 47, 99, 47, 99, 47, 99, 47, 99]⟩] 9)
        go_wp2_with fail
        go_loopw [7] (fun i wr => i = .int .i64 0 ∧ wr = w3.alloc (.cells #[.string ⟨#[97]⟩, .string ⟨#[98]⟩, .string ⟨#[99]⟩, .string ⟨#[97, 47, 97]⟩, .string ⟨#[97, 47, 98]⟩, .string ⟨#[98, 47, 97]⟩, .string ⟨#[99, 47, 99]⟩, .string ⟨#[97, 47, 98, 47, 99]⟩, .string ⟨#[98, 47, 98, 47, 98]⟩, .string ⟨#[99, 47, 97, 47, 98]⟩, .string ⟨#[97, 47, 97, 47, 97, 47, 97]⟩, .string ⟨#[98, 47, 97, 47, 99, 47, 98]⟩, .string ⟨#[97, 47, 98, 47, 97, 47, 98, 47, 97]⟩, .string ⟨#[99, 47, 99, 47, 99, 47, 99, 47, 99]⟩] 9)) (fun _ _ => 0)
        case atStart => exact ⟨rfl, rfl⟩
        case round =>
          obtain ⟨rfl, rfl⟩ := hrel
          go_wp2_with fail
          refine (C1.out _ (MaxN.below HN.out hB3a)).mono ?_
          rintro e w4 ⟨rfl, b4⟩
          have hB4 := Below.via b4 hB3a
          go_wp2_with fail
          refine (C2.out _ (MaxN.below HN.out hB4)).mono ?_
          rintro e w5 ⟨rfl, b5⟩
          have hB5 := Below.via b5 hB4
          go_wp2_with fail
          refine (C3.out _ (MaxN.below HN.out hB5)).mono ?_
          rintro e w6 ⟨rfl, b6⟩
          have hB6 := Below.via b6 hB5
          go_wp2_with fail
          refine (C2.out _ (MaxN.below HN.out hB6)).mono ?_
          rintro e w7 ⟨rfl, b7⟩
          have hB7 := Below.via b7 hB6
          go_wp2_with fail
          refine (alive_any _).mono ?_
          rintro e w8 ⟨rfl, rfl⟩
          go_wp2_with fail
          go_ret
          exact ⟨rfl, hB7⟩
    · rw [hf] at CI CS
      have HT := Lib.hid (fun zs (h : fits zs ys = true) => covers_all hf h)
      clear hf
      cases hp : patOk ys
      all_goals
        rw [hp] at C1 C2 C3
        clear hp
        go_wp2_with fail
        refine (CI.out _ (MaxN.below HN.out b1)).mono ?_
        rintro e w2 ⟨rfl, b2⟩
        have hB2 := Below.via b2 b1
        go_wp2_with fail
        refine (CS.out _).mono ?_
        rintro e w3 ⟨rfl, b3⟩
        have hB3 := Below.via b3 hB2
        have hB3a := Lib.hid (Below.al hB3 (.cells #[.string ⟨#[97]⟩, .string ⟨#[98]⟩, .string ⟨#[99]⟩, .string ⟨#[97, 47, 97]⟩, .string ⟨#[97, 47, 98]⟩, .string ⟨#[98, 47, 97]⟩, .string ⟨#[99, 47, 99]⟩, .string ⟨#[97, 47, 98, 47, 99]⟩, .string ⟨#[98, 47, 98, 47, 98]⟩, .string ⟨#[99, 47, 97, 47, 98]⟩, .string ⟨#[97, 47, 97, 47, 97, 47, 97]⟩, .string ⟨#[98, 47, 97, 47, 99, 47, 98]⟩, .string ⟨#[97, 47, 98, 47, 97, 47, 98, 47, 97]⟩, .string ⟨#[99, 47, 99, 47, 99, 47, 99, 47, 99]⟩] 9))
        have KP := Lib.hid (show Bk (w3.alloc (.cells #[.string ⟨#[97]⟩, .string ⟨#[98]⟩, .string ⟨#[99]⟩, .string ⟨#[97, 47, 97]⟩, .string ⟨#[97, 47, 98]⟩, .string ⟨#[98, 47, 97]⟩, .string ⟨#[99, 47, 99]⟩, .string ⟨#[97, 47, 98, 47, 99]⟩, .string ⟨#[98, 47, 98, 47, 98]⟩, .string ⟨#[99, 47, 97, 47, 98]⟩, .string ⟨#[97, 47, 97, 47, 97, 47, 97]⟩, .string ⟨#[98, 47, 97, 47, 99, 47, 98]⟩, .string ⟨#[97, 47, 98, 47, 97, 47, 98, 47, 97]⟩, .string ⟨#[99, 47, 99, 47, 99, 47, 99, 47, 99]⟩] 9)) w3.heap.size pathsA 9 from Bk.new)
        go_wp2_with fail
        go_loopw [7] (fun i wr => ∃ k : Nat, k ≤ 14 ∧ i = .int .i64 k ∧ Hid (Bk wr w3.heap.size pathsA 9) ∧ Hid (Below w.heap.size w wr)) (fun i _ => 14 - (intOf i).toNat)
        case atStart => exact ⟨0, Nat.zero_le _, rfl, KP, hB3a⟩
        case round =>
          clear b1 b2 b3 hB2 hB3 hB3a KP
          obtain ⟨k, hk, rfl, hK, hB⟩ := hrel
          by_cases hlt : k < 14
          · have hlt2 : (k : Int) < 14 := by omega
            obtain ⟨z, hz, hzs⟩ := path_at hK.out k hlt
            obtain ⟨zs, hw⟩ := words_of z
            have G1 := Lib.hid (F1.out z hzs zs hw)
            have G2 := Lib.hid (F2.out z hzs zs hw)
            clear hw
            cases hq : fits zs ys
            · rw [hq] at G1
              clear hq
              go_wp2_with fail
              refine (G1.out _ (MaxN.below HN.out hB.out)).mono ?_
              rintro e w4 ⟨rfl, b4⟩
              have HB4 := Lib.hid (Below.via b4 hB.out)
              have HK4 := Lib.hid (hK.out.below b4)
              clear b4
              go_wp2_with fail
              go_roundw
              case rel => exact ⟨k + 1, by omega, by go_num, HK4, HB4⟩
              case measure => simp [intOf]; omega
            · rw [HT.out zs hq] at G2
              rw [hq] at G1
              clear hq
              go_wp2_with fail
              refine (G1.out _ (MaxN.below HN.out hB.out)).mono ?_
              rintro e w4 ⟨rfl, b4⟩
              have HB4 := Lib.hid (Below.via b4 hB.out)
              have HK4 := Lib.hid (hK.out.below b4)
              have hz4 := (b4.cell (World.block_lt_of_cell? _ _ hz)).trans hz
              clear b4 hz
              go_wp2_with fail
              refine (G2.out _ (MaxN.below HN.out HB4.out)).mono ?_
              rintro e w5 ⟨rfl, b5⟩
              have HB5 := Lib.hid (Below.via b5 HB4.out)
              have HK5 := Lib.hid (HK4.out.below b5)
              clear b5
              go_wp2_with fail
              go_roundw
              case rel => exact ⟨k + 1, by omega, by go_num, HK5, HB5⟩
              case measure => simp [intOf]; omega
          · have hlt2 : ¬ (k : Int) < 14 := by omega
            go_wp2_with fail
            refine (C1.out _ (MaxN.below HN.out hB.out)).mono ?_
            rintro e w4 ⟨rfl, b4⟩
            have hB4 := Below.via b4 hB.out
            go_wp2_with fail
            refine (C2.out _ (MaxN.below HN.out hB4)).mono ?_
            rintro e w5 ⟨rfl, b5⟩
            have hB5 := Below.via b5 hB4
            go_wp2_with fail
            refine (C3.out _ (MaxN.below HN.out hB5)).mono ?_
            rintro e w6 ⟨rfl, b6⟩
            have hB6 := Below.via b6 hB5
            go_wp2_with fail
            refine (C2.out _ (MaxN.below HN.out hB6)).mono ?_
            rintro e w7 ⟨rfl, b7⟩
            have hB7 := Below.via b7 hB6
            go_wp2_with fail
            refine (alive_any _).mono ?_
            rintro e w8 ⟨rfl, rfl⟩
            go_wp2_with fail
            go_ret
            exact ⟨rfl, hB7⟩
end Go.Proofs.YtamhnhojfhlanaaDoor
