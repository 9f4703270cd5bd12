/-
  Paths and patterns drawn from a law's bytes. Condition: the bytes can be read.
-/
import Derived.Test.YtamhnhojfhlanaaDoorPd
set_option linter.unusedSimpArgs false
set_option linter.unusedVariables false
namespace Go.Proofs.YtamhnhojfhlanaaDoor
open Go.RowKit
def TextS (w : World) (e : Ending) (w' : World) : Prop := ∃ s : ByteArray, e = .returned (.string s) ∧ s.size ≤ 16 ∧ Below w.heap.size w w'
theorem drawPathValid_any (a : Option Addr) (len cap : Nat) (w : World) (h : Bytes w a len cap) : Calls Tryd.prog 13 #[.slice a len cap] w (TextS w) := by
  have H := Lib.hid h
  clear h
  go_enter Tryd.func13, Tryd.ntmps13
  go_wp2_with fail
  refine (open_any a len cap _ H.out).mono ?_
  rintro e w1 ⟨rfl, r1, h1⟩
  go_wp2_with fail
  refine (odd_any _ 2 _ _ r1 (by omega) (by omega) (by omega)).mono ?_
  rintro e w2 ⟨o, rfl, r2⟩
  cases o
  · go_wp2_with fail
    refine (pick_any _ 4 _ _ r2.rd (by omega) (by omega)).mono ?_
    rintro e w3 ⟨y, rfl, lo3, hi3, r3⟩
    go_wp2_with fail
    refine (l20Path_any _ _ _ _ r3.rd (by omega)).mono ?_
    rintro e w4 ⟨s, rfl, hs, r4⟩
    go_wp2_with fail
    go_ret
    exact ⟨s, rfl, hs, Below.rd r4 (Below.rd r3 (Below.rd r2 h1 (Nat.le_refl _)) (Nat.le_refl _)) (Nat.le_refl _)⟩
  · go_wp2_with fail
    refine (l20Bad_any _ _ _ r2.rd (by omega)).mono ?_
    rintro e w4 ⟨s, rfl, hs, r4⟩
    go_wp2_with fail
    go_ret
    exact ⟨s, rfl, hs, Below.rd r4 (Below.rd r2 h1 (Nat.le_refl _)) (Nat.le_refl _)⟩
theorem drawPatternValid_any (a : Option Addr) (len cap : Nat) (w : World) (h : Bytes w a len cap) : Calls Tryd.prog 17 #[.slice a len cap] w (TextS w) := by
  have H := Lib.hid h
  clear h
  go_enter Tryd.func17, Tryd.ntmps17
  go_wp2_with fail
  refine (open_any a len cap _ H.out).mono ?_
  rintro e w1 ⟨rfl, r1, h1⟩
  go_wp2_with fail
  refine (odd_any _ 2 _ _ r1 (by omega) (by omega) (by omega)).mono ?_
  rintro e w2 ⟨o, rfl, r2⟩
  cases o
  · go_wp2_with fail
    refine (l20Path_any _ _ _ _ r2.rd (by omega)).mono ?_
    rintro e w4 ⟨s, rfl, hs, r4⟩
    go_wp2_with fail
    go_ret
    exact ⟨s, rfl, hs, Below.rd r4 (Below.rd r2 h1 (Nat.le_refl _)) (Nat.le_refl _)⟩
  · go_wp2_with fail
    refine (l20Bad_any _ _ _ r2.rd (by omega)).mono ?_
    rintro e w4 ⟨s, rfl, hs, r4⟩
    go_wp2_with fail
    go_ret
    exact ⟨s, rfl, hs, Below.rd r4 (Below.rd r2 h1 (Nat.le_refl _)) (Nat.le_refl _)⟩
end Go.Proofs.YtamhnhojfhlanaaDoor
