/-
  Two rows of grants, compared. No condition.
-/
import Derived.Test.YtlcjkehpdlgdoaaG
import Derived.Laws.StructEq
set_option linter.unusedSimpArgs false
set_option linter.unusedVariables false
namespace Go.Proofs.Ytlcjkehpdlgdoaa
open Go.RowKit
theorem guardG : Try.prog.eqGuardType Try.prog.depth 33 = false := by kernel_rfl
theorem eqAggG (d e : Gra) (w : World) : (Op.equalIn 10000 33 (.agg #[.int .i64 d.f0, .int .i64 d.f1, .int .i64 d.f2, .int .i64 d.f3]) (.agg #[.int .i64 e.f0, .int .i64 e.f1, .int .i64 e.f2, .int .i64 e.f3])).run Try.prog w = .ok (eqG d e) w := by
  have u3 := Try.underlying3
  have a3 := Try.isAgg3
  have z3 := Try.sizeOf3
  have hS : Try.prog.underlying 33 = some (.struct (Try.prog.fieldsOf 33)) := by kernel_rfl
  have hp : Try.prog.stoodInHeld 33 = false := by kernel_rfl
  rw [show (10000 : Nat) = 9999 + 1 from rfl, run_equalIn_agg w 9999 33 _ _ hS hp]
  simp only [Program.fieldsOf, Try.underlying33]
  go_simp
  by_cases h0 : d.f0 = e.f0 <;> by_cases h1 : d.f1 = e.f1 <;> by_cases h2 : d.f2 = e.f2 <;> by_cases h3 : d.f3 = e.f3 <;> simp [eqG, h0, h1, h2, h3]
set_option maxHeartbeats 800000 in
theorem sameGrants_any (ds es : List Gra) (v u : Value) (w : World) (h : SlG w v ds) (h' : SlG w u es) : Calls Try.prog 33 #[v, u] w fun e w' => e = .returned (.bool (eqGs ds es)) ∧ Below w.heap.size w w' := by
  obtain ⟨a, cap, rfl, h1, h2⟩ := SlF.shape h
  obtain ⟨b, cap2, rfl, h3, h4⟩ := SlF.shape h'
  unfold maxLen at h2 h4
  have H := Lib.hid h
  have H' := Lib.hid h'
  clear h h'
  by_cases hl : ds.length = es.length
  · have hn : ((ds.length : Int) != (es.length : Int)) = false := by rw [hl]; simp
    have HL := Lib.hid hl
    clear hl
    go_enter Try.func33, Try.ntmps33
    go_wp2_with fail
    go_loopw [5] (fun i wr => ∃ k : Nat, k ≤ ds.length ∧ i = .int .i64 k ∧ Hid (∀ i (h1 : i < ds.length) (h2 : i < es.length), i < k → eqG ds[i] es[i] = true) ∧ Below w.heap.size w wr) (fun i _ => ds.length - (intOf i).toNat)
    case atStart => exact ⟨0, Nat.zero_le _, rfl, by intro i _ _ hi; omega, Below.refl _ _⟩
    case round =>
      obtain ⟨k, hk, rfl, ha, hB⟩ := hrel
      by_cases hlt : k < ds.length
      · have hlt2 : k < es.length := by have := HL.out; omega
        obtain ⟨g, off, cap', hv, _, _, c0, c1, c2, c3⟩ := (H.out.below hB).cells k hlt
        simp only [Value.slice.injEq] at hv
        obtain ⟨rfl, -, rfl⟩ := hv
        obtain ⟨g2, off2, cap2', hv, _, _, b0, b1, b2, b3⟩ := (H'.out.below hB).cells k hlt2
        simp only [Value.slice.injEq] at hv
        obtain ⟨rfl, -, rfl⟩ := hv
        have hs := Lib.hid (fun (hp : eqG ds[k] es[k] = true) => (show ∀ i (h1 : i < ds.length) (h2 : i < es.length), i < k + 1 → eqG ds[i] es[i] = true from fun i h1 h2 hi => by
          rcases Nat.lt_succ_iff_lt_or_eq.1 hi with hi | rfl
          · exact ha.out i h1 h2 hi
          · exact hp))
        have hb := Lib.hid (fun hp => eqGs_bad ds es k hlt hlt2 hp)
        generalize ds[k] = d at c0 c1 c2 c3 hs hb
        generalize es[k] = e at b0 b1 b2 b3 hs hb
        have heq := eqAggG d e
        have hgu := guardG
        cases hq : eqG d e
        · have hf := Lib.hid (hb.out hq)
          clear hs hb
          go_wp2_with fail
          go_quiet (fail)
          go_wp2_with fail
          go_ret
          exact ⟨by rw [hf.out]; rfl, Below.dn hB _⟩
        · have hf := Lib.hid (hs.out hq)
          clear hs hb
          go_wp2_with fail
          go_quiet (fail)
          go_wp2_with fail
          go_roundw
          case rel => exact ⟨k + 1, by omega, by go_num, hf.out, Below.dn hB _⟩
          case measure => simp [intOf]; omega
      · have hf := Lib.hid (eqGs_end ds es HL.out (fun i h1 h2 => ha.out i h1 h2 (by omega)))
        go_wp2_with fail
        go_ret
        exact ⟨by rw [hf.out]; rfl, hB⟩
  · have hn : ((ds.length : Int) != (es.length : Int)) = true := by simp; omega
    have hf := Lib.hid (eqGs_lens ds es hl)
    clear hl
    go_enter Try.func33, Try.ntmps33
    go_wp2_with fail
    go_ret
    exact ⟨by rw [hf.out]; rfl, Below.refl _ _⟩
end Go.Proofs.Ytlcjkehpdlgdoaa
