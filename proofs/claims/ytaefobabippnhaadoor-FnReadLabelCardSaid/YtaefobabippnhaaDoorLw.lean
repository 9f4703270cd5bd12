/-
  Labels' texts drawn. Condition: the bytes can be read.
-/
import Derived.Test.YtaefobabippnhaaDoorLt
import Derived.Test.YtaefobabippnhaaDoorE
set_option linter.unusedSimpArgs false
set_option linter.unusedVariables false
namespace Go.Proofs.YtaefobabippnhaaDoor
open Go.RowKit
def LabOneS (w : World) (e : Ending) (w' : World) : Prop := ∃ l a : Int, e = .returned (.agg #[.int .i64 l, .int .i64 a]) ∧ Below w.heap.size w w'
def TextS (w : World) (e : Ending) (w' : World) : Prop := ∃ s : ByteArray, e = .returned (.string s) ∧ s.size ≤ 32 ∧ Below w.heap.size w w'
theorem drawLabelText_any (a : Option Addr) (len cap : Nat) (w : World) (h : Bytes w a len cap) : Calls Tryd.prog 13 #[.slice a len cap] w (LabOneS w) := by
  have hb0 := Lib.hid (fun w' (k : Below w.heap.size w w') => h.below k)
  clear h
  have kr := Bk.new (w := w) (vs := #[.int .i64 0, .int .i64 0]) (t := 25)
  go_enter Tryd.func13, Tryd.ntmps13
  go_wp2_with fail
  refine (open_any a len cap _ (hb0.out _ (below_al _ _))).mono ?_
  rintro e w1 ⟨rfl, r1, h1⟩
  simp only [World.size_alloc] at r1
  have z1 := h1.size
  simp only [World.size_alloc] at z1
  go_wp2_with fail
  refine (l20Label_any _ 6 _ _ r1 (by omega) (by omega) (by omega)).mono ?_
  rintro e w2 ⟨l, x, rfl, r2⟩
  replace kr := (kr.below h1).rdn r2 (by omega)
  have xr := kr.cell
  have fr := kr.free
  go_wp2_with fail
  (try simp only [Exit.inBlock, Exit.then]); refine bodyPost_ret (by simp [results, Tryd.results13, go_sem, xr]; try rfl) rfl ?_
  refine ⟨_, _, rfl, ?_⟩
  clear xr fr kr
  (repeat' first | (with_reducible exact Below.refl _ _) | (with_reducible refine Below.rd (by assumption) ?_ ?_) | (with_reducible refine Below.via (by assumption) ?_) | (with_reducible refine Below.al ?_ _) | (with_reducible refine Below.dn ?_ _) | (with_reducible refine Below.dr ?_) | (with_reducible refine Below.setCell ?_ ?_ _) | (dsimp only; omega) | (simp only [World.size_alloc, World.size_drew]; omega) | (simp; done) | omega)
theorem drawReadLabel_any (a : Option Addr) (len cap : Nat) (w : World) (h : Bytes w a len cap) : Calls Tryd.prog 16 #[.slice a len cap] w (TextS w) := by
  have H := Lib.hid h
  clear h
  have hc1 : (⟨#[32]⟩ : ByteArray).size = 1 := rfl
  have hc4 : (⟨#[43, 101, 43, 101]⟩ : ByteArray).size = 4 := rfl
  go_enter Tryd.func16, Tryd.ntmps16
  go_wp2_with fail
  refine (open_any a len cap _ H.out).mono ?_
  rintro e w1 ⟨rfl, r1, h1⟩
  go_wp2_with fail
  refine (l20Label_any _ 0 _ _ r1 (by omega) (by omega) (by omega)).mono ?_
  rintro e w2 ⟨l, x, rfl, r2⟩
  have hB2 := Below.rd r2 h1 (Nat.le_refl _)
  go_wp2_with fail
  refine (specLabelText_any l x w2).mono ?_
  rintro e w3 ⟨rfl, b3⟩
  have hsz := labS_size l x
  have hB3 := Below.via b3 hB2
  have r3 := r2.rd.below b3
  generalize labS l x = t at hsz
  go_wp2_with fail
  refine (odd_any _ 3 _ _ r3 (by omega) (by omega) (by omega)).mono ?_
  rintro e w4 ⟨o, rfl, r4⟩
  have hB4 := Below.rd r4 hB3 (Nat.le_refl _)
  have hlt := r3.lt
  have hz3 := hB3.size
  cases o
  · go_wp2_with fail
    go_ret
    exact ⟨_, rfl, by omega, hB4⟩
  · go_wp2_with fail
    refine (pick_any _ 9 _ _ (r4.rd.below (below_al _ _)) (by omega) (by omega)).mono ?_
    rintro e w5 ⟨y, rfl, lo5, hi5, r5⟩
    have ks := Bk.new.rd r5 r4.rd.lt
    have hB5 := Below.rd r5 (Below.al hB4 _) (Nat.le_refl _)
    have xs := ks.cell
    rcases (show y = 0 ∨ y = 1 ∨ y = 2 ∨ y = 3 ∨ y = 4 ∨ y = 5 ∨ y = 6 ∨ y = 7 ∨ y = 8 by omega) with rfl | rfl | rfl | rfl | rfl | rfl | rfl | rfl | rfl
    all_goals
      go_wp2_with fail
      go_ret
      exact ⟨_, rfl, by first | decide | (rw [ByteArray.size_append]; omega), hB5⟩
end Go.Proofs.YtaefobabippnhaaDoor
