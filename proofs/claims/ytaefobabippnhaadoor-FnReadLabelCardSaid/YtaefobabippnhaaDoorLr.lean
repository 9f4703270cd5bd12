/-
  Labels are read: the program's way. Condition: the levels' names lie as they were laid.
-/
import Derived.Test.YtaefobabippnhaaDoorLs
set_option linter.unusedSimpArgs false
set_option linter.unusedVariables false
namespace Go.Proofs.YtaefobabippnhaaDoor
open Go.RowKit
/-- What is read: a label whose text it is, or none is. -/
def RdL (s : ByteArray) (e : Ending) : Prop :=
  (∃ l a : Nat, IsLab s.data.toList l a ∧ e = .returned (.tuple #[.agg #[.int .i64 l, .int .i64 a], .bool true])) ∨ (NoLab s.data.toList ∧ e = .returned (.tuple #[.agg #[.int .i64 0, .int .i64 0], .bool false]))
theorem labS_eq (l a : Nat) (hl : l < 4) (ha : a < 32) (s : ByteArray) : labS l a = s ↔ IsLab s.data.toList l a := by
  unfold labS IsLab
  rw [labTx_eq l a hl ha]
  constructor
  · rintro rfl
    exact ⟨hl, ha, rfl⟩
  · rintro ⟨_, _, h⟩
    rw [h]
theorem str_no {a b : ByteArray} (h : ¬ a = b) : (a.toList == b.toList) = false := by
  rw [ByteArray.toList_eq, ByteArray.toList_eq]
  cases hc : a.data.toList == b.data.toList
  · rfl
  · exact absurd (ByteArray.ext (Array.toList_inj.1 (eq_of_beq hc))) h
theorem str_yes (a : ByteArray) : (a.toList == a.toList) = true := by simp
theorem noLab_all {s : List UInt8} (h : ∀ l, l < 4 → ∀ a, ¬ IsLab s l a) : NoLab s := fun l a hl => h l hl.1 a hl
theorem noLab_level {s : List UInt8} (k : Nat) (h : ∀ a, a < 32 → ¬ IsLab s k a) : ∀ a, ¬ IsLab s k a := fun a hl => h a hl.2.1 hl
set_option maxRecDepth 100000 in
set_option maxHeartbeats 6400000 in
theorem implReadLabel_any (s : ByteArray) (w : World) (hN : LvN w) : Calls Tryd.prog 11 #[.string s] w fun e w' => RdL s e ∧ Below w.heap.size w w' := by
  have HN := Lib.hid hN
  clear hN
  have hB0 := Below.al (Below.refl w.heap.size w) (.cells #[.int .i64 0, .int .i64 0] 25)
  have k0 := Lib.hid (Bk.new (w := w) (vs := #[.int .i64 0, .int .i64 0]) (t := 25))
  go_enter Tryd.func11, Tryd.ntmps11
  go_wp2_with fail
  go_loopw [4] (fun i wr => ∃ k : Nat, k ≤ 4 ∧ i = .int .i64 k ∧ Hid (∀ l, l < k → ∀ a, ¬ IsLab s.data.toList l a) ∧ Hid (Bk wr w.heap.size #[.int .i64 0, .int .i64 0] 25) ∧ Below w.heap.size w wr) (fun i _ => 4 - (intOf i).toNat)
  case atStart => exact ⟨0, Nat.zero_le _, rfl, by intro l hl; omega, k0.out, hB0⟩
  case round =>
    clear hB0 k0
    obtain ⟨k, hk, rfl, hno, hK, hB⟩ := hrel
    by_cases hlt : k < 4
    · have hlt2 : (k : Int) ≤ 3 := by omega
      go_wp2_with fail
      go_loopw [5] (fun i wr => ∃ j : Nat, j ≤ 32 ∧ i = .int .i64 j ∧ Hid (∀ a, a < j → ¬ IsLab s.data.toList k a) ∧ Hid (Bk wr w.heap.size #[.int .i64 0, .int .i64 0] 25) ∧ Below w.heap.size w wr) (fun i _ => 32 - (intOf i).toNat)
      case atStart => exact ⟨0, Nat.zero_le _, rfl, by intro l hl; omega, hK.out, hB⟩
      case round =>
        clear hB hK
        obtain ⟨j, hj, rfl, hnj, hK, hB⟩ := hrel
        by_cases hjl : j < 32
        · have hjl2 : (j : Int) ≤ 31 := by omega
          have HA := Lib.hid (labS_eq k j hlt hjl s)
          have hBn := Below.al hB (.cells #[.int .i64 k, .int .i64 j] 25)
          have kn := Bk.new (w := wr) (vs := #[.int .i64 k, .int .i64 j]) (t := 25)
          have xn := kn.cell
          have yn := kn.lt
          have CA := implLabelText_any k j (wr.alloc (.cells #[.int .i64 k, .int .i64 j] 25)) (LvN.below HN.out hBn)
          generalize labS (k : Int) (j : Int) = t at HA CA
          go_wp2_with fail
          refine CA.mono ?_
          rintro e w3 ⟨rfl, b3⟩
          have kn3 := kn.below b3
          have hB3 := Below.via b3 hBn
          have K3 := (hK.out.alloc (.cells #[.int .i64 k, .int .i64 j] 25)).below b3
          clear xn yn kn CA b3 hBn hK
          have xn := kn3.cell
          have yn := kn3.lt
          by_cases he : t = s
          · have HL := Lib.hid (HA.out.1 he)
            have hbe : (t.toList == s.toList) = true := by rw [he]; exact str_yes s
            have fr := K3.free
            have yr := K3.lt
            have xr := K3.cell
            have kr := ((K3.same 0 (.int .i64 k)).same 1 (.int .i64 j)).cell
            clear he HA
            go_wp2_with fail
            (try simp only [Exit.inBlock, Exit.then]); refine bodyPost_ret (by simp [results, Tryd.results11, go_sem, kr]; try rfl) rfl ?_
            refine ⟨.inl ⟨k, j, HL.out, rfl⟩, ?_⟩
            (repeat' first | (with_reducible exact Below.refl _ _) | (with_reducible refine Below.rd (by assumption) ?_ ?_) | (with_reducible refine Below.via (by assumption) ?_) | (with_reducible refine Below.al ?_ _) | (with_reducible refine Below.dn ?_ _) | (with_reducible refine Below.dr ?_) | (with_reducible refine Below.setCell ?_ ?_ _) | (dsimp only; omega) | (simp only [World.size_alloc, World.size_drew]; omega) | (simp; done) | omega)
          · have HL := Lib.hid (fun h => he (HA.out.2 h))
            have hbe : (t.toList == s.toList) = false := str_no he
            clear he HA
            go_wp2_with fail
            go_roundw
            case rel => exact ⟨j + 1, by omega, by go_num, fun a ha => by
              rcases Nat.lt_or_ge a j with h | h
              · exact hnj.out a h
              · obtain rfl : a = j := by omega
                exact HL.out, K3, hB3⟩
            case measure => simp [intOf]; omega
        · have hjl2 : ¬ (j : Int) ≤ 31 := by omega
          go_wp2_with fail
          go_roundw
          case rel => exact ⟨k + 1, by omega, by go_num, fun l hl a => by
            rcases Nat.lt_or_ge l k with h | h
            · exact hno.out l h a
            · obtain rfl : l = k := by omega
              exact noLab_level l (fun a ha => hnj.out a (by omega)) a, hK, hB⟩
          case measure => simp [intOf]; omega
    · have hlt2 : ¬ (k : Int) ≤ 3 := by omega
      have x0 := hK.out.cell
      have f0 := hK.out.free
      have y0 := hK.out.lt
      have kr := ((hK.out.same 0 (.int .i64 0)).same 1 (.int .i64 0)).cell
      go_wp2_with fail
      (try simp only [Exit.inBlock, Exit.then]); refine bodyPost_ret (by simp [results, Tryd.results11, go_sem, kr]; try rfl) rfl ?_
      refine ⟨.inr ⟨noLab_all fun l hl => hno.out l (by omega), rfl⟩, ?_⟩
      (repeat' first | (with_reducible exact Below.refl _ _) | (with_reducible refine Below.rd (by assumption) ?_ ?_) | (with_reducible refine Below.via (by assumption) ?_) | (with_reducible refine Below.al ?_ _) | (with_reducible refine Below.dn ?_ _) | (with_reducible refine Below.dr ?_) | (with_reducible refine Below.setCell ?_ ?_ _) | (dsimp only; omega) | (simp only [World.size_alloc, World.size_drew]; omega) | (simp; done) | omega)
end Go.Proofs.YtaefobabippnhaaDoor
