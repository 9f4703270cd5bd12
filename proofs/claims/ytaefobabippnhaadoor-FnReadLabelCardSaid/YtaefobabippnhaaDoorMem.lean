/-
  The members of a set of bits. No condition.
-/
import Derived.Test.YtaefobabippnhaaDoorI
import Derived.Test.YtaefobabippnhaaDoorN
set_option linter.unusedSimpArgs false
set_option linter.unusedVariables false
namespace Go.Proofs.YtaefobabippnhaaDoor
open Go.RowKit
/-- The bits of s below k, in ascending order. -/
def bitsTo (s k : Nat) : List Int := ((List.range k).filter (fun i => s.testBit i)).map (fun (i : Nat) => (i : Int))
theorem bitsTo_zero (s : Nat) : bitsTo s 0 = [] := rfl
theorem bitsTo_on (s k : Nat) (h : s.testBit k = true) : bitsTo s (k + 1) = bitsTo s k ++ [(k : Int)] := by
  simp [bitsTo, List.range_succ, List.filter_append, h]
theorem bitsTo_off (s k : Nat) (h : s.testBit k = false) : bitsTo s (k + 1) = bitsTo s k := by
  simp [bitsTo, List.range_succ, List.filter_append, h]
theorem bitsTo_end (s k m : Nat) (h : s < 2 ^ k) : bitsTo s (k + m) = bitsTo s k := by
  induction m with
  | zero => rfl
  | succ m ih =>
    rw [← Nat.add_assoc, bitsTo_off s (k + m) (Nat.testBit_lt_two_pow (Nat.lt_of_lt_of_le h (Nat.pow_le_pow_right (by omega) (by omega)))), ih]
theorem bitsTo_len (s k : Nat) : (bitsTo s k).length ≤ k := by
  unfold bitsTo
  rw [List.length_map]
  exact Nat.le_trans (List.length_filter_le _ _) (by simp)
theorem bits_one (s k : Nat) (hs : s < 4611686018427387904) : (bits BinOp.and IntKind.i64 ((s : Int) / 2 ^ k) 1 == 1) = s.testBit k := by
  have h1 : ((s : Int) / 2 ^ k) = ((s / 2 ^ k : Nat) : Int) := by simp
  have h2 : s / 2 ^ k < 4611686018427387904 := Nat.lt_of_le_of_lt (Nat.div_le_self _ _) hs
  rw [h1, show (1 : Int) = ((1 : Nat) : Int) from rfl, bits_and_nat _ _ (by omega) (by omega), Nat.and_one_is_mod, Nat.testBit_eq_decide_div_mod_eq]
  rw [Bool.eq_iff_iff]
  simp
  omega
set_option maxHeartbeats 800000 in
theorem members_any (s : Nat) (w : World) (hs : s < 4611686018427387904) : Calls Tryd.prog 19 #[.int .i64 s] w (NewI (bitsTo s 63) w) := by
  go_enter Tryd.func19, Tryd.ntmps19
  go_wp2_with fail
  go_loopw [3, 4] (fun v i wr => ∃ (k : Nat), k ≤ 62 ∧ i = .int .i64 k ∧ Hid (wr.ownsRow w.heap.size 3 1 v (bitsTo s k).length (cellsI (bitsTo s k))) ∧ Below w.heap.size w wr) (fun _ i _ => 64 - (intOf i).toNat)
  case atStart =>
    exact ⟨0, by omega, rfl, World.ownsRow_nil _ _ _ _, Below.refl _ _⟩
  case round =>
    obtain ⟨k, hk, rfl, ho, hB⟩ := hrel
    have hb1 := bits_one s k hs
    have hl := bitsTo_len s k
    by_cases h1 : 0 < s / 2 ^ k
    · have e1 : (0 : Int) < (s : Int) / 2 ^ k := by
        have : ((s : Int) / 2 ^ k) = ((s / 2 ^ k : Nat) : Int) := by simp
        rw [this]; omega
      have hk2 : k < 62 := by
        rcases Nat.lt_or_ge k 62 with h | h
        · exact h
        · exfalso
          have hp : 2 ^ 62 ≤ 2 ^ k := Nat.pow_le_pow_right (by omega) h
          have : s / 2 ^ k = 0 := Nat.div_eq_of_lt (by omega)
          omega
      clear h1
      cases ht : s.testBit k
      · rw [ht] at hb1
        have hf := Lib.hid (bitsTo_off s k ht)
        clear ht
        go_wp2_with fail
        refine ⟨⟨k + 1, by omega, by go_num, ?_, hB⟩, by simp [intOf]; omega⟩
        rw [hf.out]
        exact ho
      · rw [ht] at hb1
        have hf := Lib.hid (bitsTo_on s k ht)
        clear ht
        go_wp2_with (at_builtin; refine Hid.out ?_); refine Lib.hid ?_
        refine wpList_app (s := .tmp 16) (x := .tmp 18) rfl 40 3 (.int .i64 0) 1 8 rfl Tryd.underlying40 infoI rfl (by decide) (by decide) w.heap.size _ (bitsTo s k).length (cellsI (bitsTo s k)) rfl (own_alloc ho.out _) ⟨wr.heap.size, 0, none⟩ 1 1 [.int .i64 k] rfl rfl (news_bk Bk.new) (fun u hu => List.all_eq_true.mp (show List.all [Value.int .i64 k] Value.oneCell' = true from rfl) u hu) (by omega) (by have := hB.size; simp only [World.size_alloc]; omega) ?_
        intro v' w5 hown' hgrow hnn
        have hf5 := own_alloc ho.out (.cells #[.int .i64 k] 3)
        have hB5 : Below w.heap.size w w5 := Below.grown (Below.al hB _) hgrow (by have := hB.size; simp only [World.size_alloc]; omega) (own_gt hf5)
        clear hgrow hnn hf5
        have ho5 := Lib.hid hown'
        clear hown'
        go_wp2_with fail
        refine ⟨⟨k + 1, by omega, by go_num, ?_, hB5⟩, by simp [intOf]; omega⟩
        rw [hf.out]
        show w5.ownsRow _ _ _ _ _ _
        rw [cellsI_app, List.length_append]
        exact ho5.out
    · have e1 : ¬ (0 : Int) < (s : Int) / 2 ^ k := by
        have : ((s : Int) / 2 ^ k) = ((s / 2 ^ k : Nat) : Int) := by simp
        rw [this]; omega
      have hlt : s < 2 ^ k := by
        rcases Nat.lt_or_ge s (2 ^ k) with h | h
        · exact h
        · exact absurd (Nat.div_pos h (Nat.two_pow_pos k)) h1
      have hf := Lib.hid (bitsTo_end s k (63 - k) hlt)
      clear h1 hlt
      go_wp2_with fail
      go_ret
      refine ⟨_, rfl, ?_, hB⟩
      have he := hf.out
      rw [show k + (63 - k) = 63 by omega] at he
      rw [he]
      exact ho.out
end Go.Proofs.YtaefobabippnhaaDoor
