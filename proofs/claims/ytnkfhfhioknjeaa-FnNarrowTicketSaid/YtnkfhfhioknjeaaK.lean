/-
  Seals: the mixing of numbers, and what the small functions on tickets return. Conditions: the numbers lie in their ranges.
-/
import Derived.Test.YtnkfhfhioknjeaaI
import Derived.Deep.DrawnRows
set_option linter.unusedSimpArgs false
set_option linter.unusedVariables false
namespace Go.Proofs.Ytnkfhfhioknjeaa
open Go.RowKit
/-- A number is mixed into a seal. -/
def mixN (s n : Int) : Int := (((31 * s + 7919 * n + 17) % 1000003) * ((31 * s + 7919 * n + 17) % 1000003) + (31 * s + 7919 * n + 17) % 1000003 + 7) % 1000003
theorem mixN_bd (s n : Int) : 0 ≤ mixN s n ∧ mixN s n < 1000003 := by unfold mixN; omega
theorem sq_bd (x : Int) : 0 ≤ x % 1000003 ∧ x % 1000003 < 1000003 ∧ 0 ≤ (x % 1000003) * (x % 1000003) ∧ (x % 1000003) * (x % 1000003) ≤ 1000006000009 := by
  have h1 : 0 ≤ x % 1000003 := by omega
  have h2 : x % 1000003 < 1000003 := by omega
  refine ⟨h1, h2, Int.mul_nonneg h1 h1, ?_⟩
  calc (x % 1000003) * (x % 1000003) ≤ 1000003 * 1000003 := Int.mul_le_mul (by omega) (by omega) h1 (by omega)
    _ ≤ 1000006000009 := by decide
theorem mix_any (s n : Int) (w : World) (hs0 : 0 ≤ s) (hs1 : s ≤ 1000002) (hn0 : 0 ≤ n) (hn1 : n ≤ 1000) : Calls Try.prog 32 #[.int .i64 s, .int .i64 n] w fun e w' => e = .returned (.int .i64 (mixN s n)) ∧ w = w' := by
  have hm : mixN s n = (((s * 31 + n * 7919 + 17) % 1000003) * ((s * 31 + n * 7919 + 17) % 1000003) + (s * 31 + n * 7919 + 17) % 1000003 + 7) % 1000003 := by
    have e : s * 31 + n * 7919 + 17 = 31 * s + 7919 * n + 17 := by omega
    rw [e]; rfl
  have HM := Lib.hid hm
  clear hm
  obtain ⟨b1, b2, b3, b4⟩ := sq_bd (s * 31 + n * 7919 + 17)
  go_enter Try.func32, Try.ntmps32
  go_wp2_with fail
  go_ret
  exact ⟨by rw [HM.out]; rfl, rfl⟩
def sealFold (s : Int) (ns : List Int) : Int := ns.foldl mixN s
theorem sealFold_step (s : Int) (ns : List Int) (k : Nat) (h : k < ns.length) : sealFold s (ns.take (k + 1)) = mixN (sealFold s (ns.take k)) ns[k] := by
  unfold sealFold
  rw [List.take_succ_eq_append_getElem h, List.foldl_append]
  rfl
theorem sealFold_bd (s : Int) (ns : List Int) (h0 : 0 ≤ s) (h1 : s ≤ 1000002) : 0 ≤ sealFold s ns ∧ sealFold s ns ≤ 1000002 := by
  unfold sealFold
  induction ns generalizing s with
  | nil => exact ⟨h0, h1⟩
  | cons n ns ih =>
    have := mixN_bd s n
    exact ih _ this.1 (by omega)
theorem sealNext_any (s : Int) (ns : List Int) (v : Value) (w : World) (h : SlI w v ns) (hs0 : 0 ≤ s) (hs1 : s ≤ 1000002) (hn : ∀ n ∈ ns, 0 ≤ n ∧ n ≤ 1000) : Calls Try.prog 38 #[.int .i64 s, v] w fun e w' => e = .returned (.int .i64 (sealFold s ns)) ∧ w = w' := by
  obtain ⟨a, cap, rfl, h1, h2⟩ := SlF.shape h
  unfold maxLen at h2
  have H := Lib.hid h
  have HN := Lib.hid hn
  clear h hn
  go_enter Try.func38, Try.ntmps38
  go_wp2_with fail
  go_loop [0, 10] (fun t i => ∃ k : Nat, k ≤ ns.length ∧ i = .int .i64 k ∧ t = .int .i64 (sealFold s (ns.take k))) (fun _ i => ns.length - (intOf i).toNat)
  case atStart => exact ⟨0, Nat.zero_le _, rfl, rfl⟩
  case round =>
    obtain ⟨k, hk, rfl, rfl⟩ := hrel
    by_cases hlt : k < ns.length
    · obtain ⟨g, off, cap', hv, _, _, c0⟩ := H.out.cell k hlt
      simp only [Value.slice.injEq] at hv
      obtain ⟨rfl, -, rfl⟩ := hv
      have hst := Lib.hid (sealFold_step s ns k hlt)
      have hb := sealFold_bd s (ns.take k) hs0 hs1
      have hnn := HN.out ns[k] (List.getElem_mem hlt)
      generalize ns[k] = n at c0 hst hnn
      generalize sealFold s (ns.take k) = t at hst hb
      obtain ⟨hb0, hb1⟩ := hb
      obtain ⟨hn0, hn1⟩ := hnn
      obtain ⟨b1, b2, b3, b4⟩ := sq_bd (31 * t + 7919 * n + 17)
      go_wp2_with fail
      go_round
      case rel => exact ⟨k + 1, by omega, by go_num, by rw [hst.out]; rfl⟩
      case measure => simp [intOf]; omega
    · have hf := Lib.hid (show sealFold s (ns.take k) = sealFold s ns by rw [List.take_of_length_le (by omega)])
      go_wp2_with fail
      go_ret
      exact ⟨by rw [hf.out]; rfl, rfl⟩
def actOk (n : Int) : Bool := inR n 0 15
theorem actsValid_any (ns : List Int) (v : Value) (w : World) (h : SlI w v ns) : Calls Try.prog 37 #[v] w fun e w' => e = .returned (.bool (ns.all actOk)) ∧ w = w' := by
  obtain ⟨a, cap, rfl, h1, h2⟩ := SlF.shape h
  unfold maxLen at h2
  have H := Lib.hid h
  clear h
  go_enter Try.func37, Try.ntmps37
  go_wp2_with fail
  go_loop [7] (fun i => ∃ k : Nat, k ≤ ns.length ∧ i = .int .i64 k ∧ Hid ((ns.take k).all actOk = true)) (fun i => ns.length - (intOf i).toNat)
  case atStart => exact ⟨0, Nat.zero_le _, rfl, by simp [Hid]⟩
  case round =>
    obtain ⟨k, hk, rfl, ha⟩ := hrel
    by_cases hlt : k < ns.length
    · obtain ⟨g, off, cap', hv, _, _, c0⟩ := H.out.cell k hlt
      simp only [Value.slice.injEq] at hv
      obtain ⟨rfl, -, rfl⟩ := hv
      have hs := Lib.hid (fun hp => all_step ns actOk k hlt ha.out hp)
      have hb := Lib.hid (fun hp => all_bad ns actOk k hlt hp)
      generalize ns[k] = n at c0 hs hb
      cases p : inR n 0 15
      · have hf := Lib.hid (hb.out p)
        clear hs hb
        go_wp2_with ((go_at_call 34; refine (in_any _ _ _ _).mono ?_; rintro e w' ⟨rfl, rfl⟩))
        go_ret
        exact ⟨by rw [hf.out]; rfl, rfl⟩
      · have hf := Lib.hid (hs.out p)
        clear hs hb
        go_wp2_with ((go_at_call 34; refine (in_any _ _ _ _).mono ?_; rintro e w' ⟨rfl, rfl⟩))
        go_round
        case rel => exact ⟨k + 1, by omega, by go_num, hf.out⟩
        case measure => simp [intOf]; omega
    · have hf := Lib.hid (all_end ns actOk k hlt ha.out)
      go_wp2_with fail
      go_ret
      exact ⟨by rw [hf.out]; rfl, rfl⟩
theorem isPersonT_any (n : Int) (w : World) : Calls Try.prog 35 #[.int .i64 n] w fun e w' => e = .returned (.bool (inR n 0 6)) ∧ w = w' := by
  go_enter Try.func35, Try.ntmps35
  go_wp2_with (first | (go_at_call 34; refine (in_any _ _ _ _).mono ?_; rintro e w' ⟨rfl, rfl⟩))
  go_ret
  exact ⟨rfl, rfl⟩
theorem isTimeT_any (n : Int) (w : World) : Calls Try.prog 36 #[.int .i64 n] w fun e w' => e = .returned (.bool (inR n 0 1000)) ∧ w = w' := by
  go_enter Try.func36, Try.ntmps36
  go_wp2_with (first | (go_at_call 34; refine (in_any _ _ _ _).mono ?_; rintro e w' ⟨rfl, rfl⟩))
  go_ret
  exact ⟨rfl, rfl⟩
end Go.Proofs.Ytnkfhfhioknjeaa
