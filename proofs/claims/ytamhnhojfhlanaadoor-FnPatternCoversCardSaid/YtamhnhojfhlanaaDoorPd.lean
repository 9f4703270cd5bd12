/-
  Paths are drawn. Condition: the reader is whole.
-/
import Derived.Test.YtamhnhojfhlanaaDoorPw
import Derived.Test.YtamhnhojfhlanaaDoorD
set_option linter.unusedSimpArgs false
set_option linter.unusedVariables false
namespace Go.Proofs.YtamhnhojfhlanaaDoor
open Go.RowKit
/-- A text is drawn. -/
def TxS (b : Nat) (M : Int) (w : World) (e : Ending) (w' : World) : Prop := ∃ s : ByteArray, e = .returned (.string s) ∧ s.size ≤ 16 ∧ Reads b M (M + 8) w w'
theorem l20Bad_any (b : Nat) (M : Int) (w : World) (h : Rd w b M) (hM : M ≤ 1099511627776 - 10) :
    Calls Tryd.prog 32 #[.pointer (some ⟨b, 0, none⟩)] w (TxS b M w) := by
  have hlt := h.lt
  have H := Lib.hid h
  clear h
  go_enter Tryd.func32, Tryd.ntmps32
  go_wp2_with fail
  refine (pick_any b 10 M _ (H.out.below (below_al _ _)) (by omega) (by omega)).mono ?_
  rintro e w5 ⟨y, rfl, lo5, hi5, r5⟩
  have ks := Bk.new.rd r5 hlt
  have xs := ks.cell
  rcases (show y = 0 ∨ y = 1 ∨ y = 2 ∨ y = 3 ∨ y = 4 ∨ y = 5 ∨ y = 6 ∨ y = 7 ∨ y = 8 ∨ y = 9 by omega) with rfl | rfl | rfl | rfl | rfl | rfl | rfl | rfl | rfl | rfl
  all_goals
    go_wp2_with fail
    go_ret
    refine ⟨_, rfl, by decide, ?_⟩
    (refine Reads.mono (M' := ?_) ?_ ?_; rotate_left; (repeat' first | (with_reducible exact Reads.refl H.out) | (with_reducible refine Reads.via (by assumption) ?_) | (with_reducible refine Reads.grow (by assumption) ?_) | (with_reducible refine Reads.al ?_ _) | (with_reducible refine Reads.dr ?_) | (with_reducible refine Reads.set ?_ hlt ?_ _ _) | omega))
theorem letters_at {w : World} {g : Nat} {c0 c1 c2 : UInt8} {t : TypeId} (h : Bk w g #[.string ⟨#[c0]⟩, .string ⟨#[c1]⟩, .string ⟨#[c2]⟩] t) (m : Nat) (hm : m < 3) : ∃ s : ByteArray, w.cell? ⟨g, m, none⟩ = some (.string s) ∧ s.size = 1 := by
  rcases (show m = 0 ∨ m = 1 ∨ m = 2 by omega) with rfl | rfl | rfl
  · exact ⟨_, (h.cell _).trans rfl, rfl⟩
  · exact ⟨_, (h.cell _).trans rfl, rfl⟩
  · exact ⟨_, (h.cell _).trans rfl, rfl⟩
theorem l20Path_any (b : Nat) (M : Int) (sh : Bool) (w : World) (h : Rd w b M) (hM : M ≤ 1099511627776 - 10) :
    Calls Tryd.prog 33 #[.pointer (some ⟨b, 0, none⟩), .bool sh] w (TxS b M w) := by
  have hlt := h.lt
  have H := Lib.hid h
  clear h
  have hc1 : (⟨#[47]⟩ : ByteArray).size = 1 := rfl
  have hc3 : (⟨#[47, 42, 42]⟩ : ByteArray).size = 3 := rfl
  cases sh
  · go_enter Tryd.func33, Tryd.ntmps33
    go_wp2_with fail
    refine (pick_any b 3 M _ (H.out.below (below_al _ _)) (by omega) (by omega)).mono ?_
    rintro e w1 ⟨y, rfl, lo1, hi1, r1⟩
    have ks := Bk.new.rd r1 hlt
    obtain ⟨m, rfl⟩ := Int.eq_ofNat_of_zero_le lo1
    obtain ⟨z, hz, zs⟩ := letters_at ks m (by omega)
    have ksH := Lib.hid ks
    have R1 := Lib.hid (show Reads b M (M + 1) w w1 by (refine Reads.mono (M' := ?_) ?_ ?_; rotate_left; (repeat' first | (with_reducible exact Reads.refl H.out) | (with_reducible refine Reads.via (by assumption) ?_) | (with_reducible refine Reads.grow (by assumption) ?_) | (with_reducible refine Reads.al ?_ _) | (with_reducible refine Reads.dr ?_) | (with_reducible refine Reads.set ?_ hlt ?_ _ _) | omega)))
    clear ks
    go_wp2_with fail
    refine (pick_any b 4 _ _ R1.out.rd (by omega) (by omega)).mono ?_
    rintro e w2 ⟨n, rfl, lo2, hi2, r2⟩
    obtain ⟨n, rfl⟩ := Int.eq_ofNat_of_zero_le lo2
    have R2 := Lib.hid (show Reads b M (M + 2) w w2 by
      have := R1.out.trans r2
      exact this.mono (by omega))
    have ks2 := Lib.hid (ksH.out.rd r2 hlt)
    go_wp2_with fail
    go_loopw [6, 7] (fun v i wr => ∃ (c : Nat) (x : ByteArray), c ≤ 3 ∧ i = .int .i64 c ∧ v = .string x ∧ x.size + 2 * c ≤ 7 ∧ Hid (Reads b M (M + 2 + (3 - c)) w wr) ∧ Hid (Bk wr w.heap.size #[.string ⟨#[97]⟩, .string ⟨#[98]⟩, .string ⟨#[99]⟩] 9)) (fun _ i _ => (intOf i).toNat)
    case atStart => exact ⟨n, z, by omega, rfl, rfl, by omega, R2.out.mono (by omega), ks2.out⟩
    case round =>
      obtain ⟨c, x, hc, rfl, rfl, hx, hR, hK⟩ := hrel
      by_cases hpos : 0 < c
      · have hp2 : (0 : Int) < (c : Int) := by omega
        go_wp2_with fail
        refine (pick_any b 3 _ _ hR.out.rd (by omega) (by omega)).mono ?_
        rintro e w3 ⟨y, rfl, lo3, hi3, r3⟩
        obtain ⟨m3, rfl⟩ := Int.eq_ofNat_of_zero_le lo3
        have ks3 := hK.out.rd r3 hlt
        obtain ⟨z3, hz3, zs3⟩ := letters_at ks3 m3 (by omega)
        have K3 := Lib.hid ks3
        have R3 := Lib.hid ((hR.out.trans r3).mono (show _ ≤ M + 2 + (3 - ((c - 1 : Nat) : Int)) by omega))
        clear ks3
        go_wp2_with fail
        go_roundw
        case rel => exact ⟨c - 1, x ++ ⟨#[47]⟩ ++ z3, by omega, by go_num, rfl, by rw [ByteArray.size_append, ByteArray.size_append]; omega, R3.out, K3.out⟩
        case measure => simp [intOf]; omega
      · have hp2 : ¬ (0 : Int) < (c : Int) := by omega
        go_wp2_with fail
        go_ret
        exact ⟨x, rfl, by omega, hR.out.mono (by omega)⟩
  · go_enter Tryd.func33, Tryd.ntmps33
    go_wp2_with fail
    refine (pick_any b 3 M _ ((H.out.below (below_al _ (.cells #[.string ⟨#[97]⟩, .string ⟨#[98]⟩, .string ⟨#[99]⟩] 9))).below (below_al _ _)) (by omega) (by omega)).mono ?_
    rintro e w1 ⟨y, rfl, lo1, hi1, r1⟩
    have ks := (Bk.new (w := w.alloc (.cells #[.string ⟨#[97]⟩, .string ⟨#[98]⟩, .string ⟨#[99]⟩] 9)) (vs := #[.string ⟨#[97]⟩, .string ⟨#[98]⟩, .string ⟨#[42]⟩]) (t := 9)).rd r1 (by simp only [World.size_alloc]; omega)
    simp only [World.size_alloc] at ks
    obtain ⟨m, rfl⟩ := Int.eq_ofNat_of_zero_le lo1
    obtain ⟨z, hz, zs⟩ := letters_at ks m (by omega)
    have ksH := Lib.hid ks
    have R1 := Lib.hid (show Reads b M (M + 1) w w1 by (refine Reads.mono (M' := ?_) ?_ ?_; rotate_left; (repeat' first | (with_reducible exact Reads.refl H.out) | (with_reducible refine Reads.via (by assumption) ?_) | (with_reducible refine Reads.grow (by assumption) ?_) | (with_reducible refine Reads.al ?_ _) | (with_reducible refine Reads.dr ?_) | (with_reducible refine Reads.set ?_ hlt ?_ _ _) | omega)))
    clear ks
    go_wp2_with fail
    refine (pick_any b 4 _ _ R1.out.rd (by omega) (by omega)).mono ?_
    rintro e w2 ⟨n, rfl, lo2, hi2, r2⟩
    obtain ⟨n, rfl⟩ := Int.eq_ofNat_of_zero_le lo2
    have R2 := Lib.hid (show Reads b M (M + 2) w w2 by
      have := R1.out.trans r2
      exact this.mono (by omega))
    have ks2 := Lib.hid (ksH.out.rd r2 (by omega))
    go_wp2_with fail
    go_loopw [6, 7] (fun v i wr => ∃ (c : Nat) (x : ByteArray), c ≤ 3 ∧ i = .int .i64 c ∧ v = .string x ∧ x.size + 2 * c ≤ 7 ∧ Hid (Reads b M (M + 2 + (3 - c)) w wr) ∧ Hid (Bk wr (w.heap.size + 1) #[.string ⟨#[97]⟩, .string ⟨#[98]⟩, .string ⟨#[42]⟩] 9)) (fun _ i _ => (intOf i).toNat)
    case atStart => exact ⟨n, z, by omega, rfl, rfl, by omega, R2.out.mono (by omega), ks2.out⟩
    case round =>
      obtain ⟨c, x, hc, rfl, rfl, hx, hR, hK⟩ := hrel
      by_cases hpos : 0 < c
      · have hp2 : (0 : Int) < (c : Int) := by omega
        go_wp2_with fail
        refine (pick_any b 3 _ _ hR.out.rd (by omega) (by omega)).mono ?_
        rintro e w3 ⟨y, rfl, lo3, hi3, r3⟩
        obtain ⟨m3, rfl⟩ := Int.eq_ofNat_of_zero_le lo3
        have ks3 := hK.out.rd r3 (by omega)
        obtain ⟨z3, hz3, zs3⟩ := letters_at ks3 m3 (by omega)
        have K3 := Lib.hid ks3
        have R3 := Lib.hid ((hR.out.trans r3).mono (show _ ≤ M + 2 + (3 - ((c - 1 : Nat) : Int)) by omega))
        clear ks3
        go_wp2_with fail
        go_roundw
        case rel => exact ⟨c - 1, x ++ ⟨#[47]⟩ ++ z3, by omega, by go_num, rfl, by rw [ByteArray.size_append, ByteArray.size_append]; omega, R3.out, K3.out⟩
        case measure => simp [intOf]; omega
      · have hp2 : ¬ (0 : Int) < (c : Int) := by omega
        go_wp2_with fail
        refine (pick_any b 3 _ _ hR.out.rd (by omega) (by omega)).mono ?_
        rintro e w4 ⟨y, rfl, lo4, hi4, r4⟩
        have R4 := hR.out.trans r4
        by_cases hy : y = 0
        · subst hy
          have hz4 := R4.rd.lt
          have HR4 := Lib.hid R4
          clear R4 hR
          go_wp2_with fail
          refine (pick_any b 4 _ _ ((HR4.out.rd.below (below_al _ (.cells #[.string ⟨#[42, 42]⟩, .string (x ++ ⟨#[47, 42, 42]⟩)] 9))).below (below_al _ _)) (by omega) (by omega)).mono ?_
          rintro e w5 ⟨y5, rfl, lo5, hi5, r5⟩
          have kb := (Bk.new (w := w4.alloc (.cells #[.string ⟨#[42, 42]⟩, .string (x ++ ⟨#[47, 42, 42]⟩)] 9)) (vs := #[.int .i64 0, .int .i64 1, .int .i64 1, .int .i64 1]) (t := 3)).rd r5 (by simp only [World.size_alloc]; omega)
          have ka := ((Bk.new (w := w4) (vs := #[.string ⟨#[42, 42]⟩, .string (x ++ ⟨#[47, 42, 42]⟩)]) (t := 9)).alloc (.cells #[.int .i64 0, .int .i64 1, .int .i64 1, .int .i64 1] 3)).rd r5 hz4
          have xa := ka.cell
          have xb := kb.cell
          simp only [World.size_alloc] at xb
          have RF := Lib.hid (show Reads b M (M + 8) w w5 by
            have R4 := HR4.out
            (refine Reads.mono (M' := ?_) ?_ ?_; rotate_left; (repeat' first | (with_reducible exact Reads.refl H.out) | (with_reducible refine Reads.via (by assumption) ?_) | (with_reducible refine Reads.grow (by assumption) ?_) | (with_reducible refine Reads.al ?_ _) | (with_reducible refine Reads.dr ?_) | (with_reducible refine Reads.set ?_ hlt ?_ _ _) | omega)))
          rcases (show y5 = 0 ∨ y5 = 1 ∨ y5 = 2 ∨ y5 = 3 by omega) with rfl | rfl | rfl | rfl
          all_goals
            go_wp2_with fail
            go_ret
            exact ⟨_, rfl, by first | decide | (rw [ByteArray.size_append]; omega), RF.out⟩
        · have hy2 : (y == 0) = false := by rw [beq_eq_false_iff_ne]; exact hy
          go_wp2_with fail
          go_ret
          exact ⟨x, rfl, by omega, R4.mono (by omega)⟩
end Go.Proofs.YtamhnhojfhlanaaDoor
