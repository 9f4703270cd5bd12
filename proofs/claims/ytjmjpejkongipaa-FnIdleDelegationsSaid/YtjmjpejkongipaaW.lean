/-
  Valid delegations: the program's and the reference's look. No condition.
-/
import Derived.Test.YtjmjpejkongipaaV
set_option linter.unusedSimpArgs false
set_option linter.unusedVariables false
namespace Go.Proofs.Ytjmjpejkongipaa
open Go.RowKit
def dOk (d : Deleg) : Bool := inR d.f0 0 6 && inR d.f1 0 6 && !(d.f0 == d.f1) && inR d.f2 1 15
def dValid (ds : List Deleg) : Bool := ds.all dOk && decide (ds.length ≤ 10)
theorem isPerson_any (n : Int) (w : World) : Calls Try.prog 30 #[.int .i64 n] w fun e w' => e = .returned (.bool (inR n 0 6)) ∧ w = w' := by
  go_enter Try.func30, Try.ntmps30
  go_wp2_with (first | (go_at_call 31; refine (in_any _ _ _ _).mono ?_; rintro e w' ⟨rfl, rfl⟩))
  go_ret
  exact ⟨rfl, rfl⟩
theorem implDValid_any (ds : List Deleg) (v : Value) (w : World) (h : SlD w v ds) : Calls Try.prog 12 #[v] w fun e w' => e = .returned (.bool (dValid ds)) ∧ Below w.heap.size w w' := by
  obtain ⟨a, cap, rfl, h1, h2⟩ := SlF.shape h
  unfold maxLen at h2
  have H := Lib.hid h
  clear h
  go_enter Try.func12, Try.ntmps12
  go_wp2_with fail
  go_loopw [7] (fun i wr => ∃ k : Nat, k ≤ ds.length ∧ i = .int .i64 k ∧ Hid ((ds.take k).all dOk = true) ∧ Below w.heap.size w wr) (fun i _ => ds.length - (intOf i).toNat)
  case atStart => exact ⟨0, Nat.zero_le _, rfl, by simp [Hid], Below.refl _ _⟩
  case round =>
    obtain ⟨k, hk, rfl, ha, hB⟩ := hrel
    by_cases hlt : k < ds.length
    · obtain ⟨g, off, cap', hv, _, _, c0, c1, c2⟩ := (H.out.below hB).cells k hlt
      simp only [Value.slice.injEq] at hv
      obtain ⟨rfl, -, rfl⟩ := hv
      have hs := Lib.hid (fun hp => all_step ds dOk k hlt ha.out hp)
      have hb := Lib.hid (fun hp => all_bad ds dOk k hlt hp)
      generalize ds[k] = d at c0 c1 c2 hs hb
      have hxa := fun o => Below.al hB o
      cases p1 : inR d.f0 0 6
      · have hf := Lib.hid (hb.out (by simp [dOk, p1]))
        clear hs hb
        go_wp2_with (first | (go_at_call 30; refine (isPerson_any _ _).mono ?_; rintro e w' ⟨rfl, rfl⟩) | (go_at_call 31; refine (in_any _ _ _ _).mono ?_; rintro e w' ⟨rfl, rfl⟩))
        go_ret
        exact ⟨by simp only [dValid, hf.out]; rfl, hxa _⟩
      · cases p2 : inR d.f1 0 6
        · have hf := Lib.hid (hb.out (by simp [dOk, p2]))
          clear hs hb
          go_wp2_with (first | (go_at_call 30; refine (isPerson_any _ _).mono ?_; rintro e w' ⟨rfl, rfl⟩) | (go_at_call 31; refine (in_any _ _ _ _).mono ?_; rintro e w' ⟨rfl, rfl⟩))
          go_ret
          exact ⟨by simp only [dValid, hf.out]; rfl, hxa _⟩
        · cases p3 : d.f0 == d.f1
          · cases p4 : inR d.f2 1 15
            · have hf := Lib.hid (hb.out (by simp [dOk, p4]))
              clear hs hb
              go_wp2_with (first | (go_at_call 30; refine (isPerson_any _ _).mono ?_; rintro e w' ⟨rfl, rfl⟩) | (go_at_call 31; refine (in_any _ _ _ _).mono ?_; rintro e w' ⟨rfl, rfl⟩))
              go_ret
              exact ⟨by simp only [dValid, hf.out]; rfl, hxa _⟩
            · have hf := Lib.hid (hs.out (by simp [dOk, p1, p2, p3, p4]))
              clear hs hb
              go_wp2_with (first | (go_at_call 30; refine (isPerson_any _ _).mono ?_; rintro e w' ⟨rfl, rfl⟩) | (go_at_call 31; refine (in_any _ _ _ _).mono ?_; rintro e w' ⟨rfl, rfl⟩))
              go_roundw
              case rel => exact ⟨k + 1, by omega, by go_num, hf.out, hxa _⟩
              case measure => simp [intOf]; omega
          · have hf := Lib.hid (hb.out (by simp [dOk, p3]))
            clear hs hb
            go_wp2_with (first | (go_at_call 30; refine (isPerson_any _ _).mono ?_; rintro e w' ⟨rfl, rfl⟩) | (go_at_call 31; refine (in_any _ _ _ _).mono ?_; rintro e w' ⟨rfl, rfl⟩))
            go_ret
            exact ⟨by simp only [dValid, hf.out]; rfl, hxa _⟩
    · have hf := Lib.hid (all_end ds dOk k hlt ha.out)
      by_cases h10 : ds.length ≤ 10
      all_goals
        go_wp2_with fail
        go_ret
        exact ⟨by simp only [dValid, hf.out]; simp [h10]; omega, hB⟩
theorem specDValid_any (ds : List Deleg) (v : Value) (w : World) (h : SlD w v ds) : Calls Try.prog 10 #[v] w fun e w' => e = .returned (.bool (dValid ds)) ∧ Below w.heap.size w w' := by
  obtain ⟨a, cap, rfl, h1, h2⟩ := SlF.shape h
  unfold maxLen at h2
  have H := Lib.hid h
  clear h
  go_enter Try.func10, Try.ntmps10
  go_wp2_with fail
  go_loopw [3] (fun i wr => ∃ k : Nat, k ≤ ds.length ∧ i = .int .i64 k ∧ Hid ((ds.take k).all dOk = true) ∧ Below w.heap.size w wr) (fun i _ => ds.length - (intOf i).toNat)
  case atStart => exact ⟨0, Nat.zero_le _, rfl, by simp [Hid], Below.refl _ _⟩
  case round =>
    obtain ⟨k, hk, rfl, ha, hB⟩ := hrel
    by_cases hlt : k < ds.length
    · obtain ⟨g, off, cap', hv, _, _, c0, c1, c2⟩ := (H.out.below hB).cells k hlt
      simp only [Value.slice.injEq] at hv
      obtain ⟨rfl, -, rfl⟩ := hv
      have hs := Lib.hid (fun hp => all_step ds dOk k hlt ha.out hp)
      have hb := Lib.hid (fun hp => all_bad ds dOk k hlt hp)
      generalize ds[k] = d at c0 c1 c2 hs hb
      have hxa := fun o => Below.al hB o
      cases p1 : inR d.f0 0 6
      · have hf := Lib.hid (hb.out (by simp [dOk, p1]))
        clear hs hb
        go_wp2_with (first | (go_at_call 28; refine (l1In_any _ _ _ _).mono ?_; rintro e w' ⟨rfl, rfl⟩))
        go_ret
        exact ⟨by simp only [dValid, hf.out]; rfl, hxa _⟩
      · cases p2 : inR d.f1 0 6
        · have hf := Lib.hid (hb.out (by simp [dOk, p2]))
          clear hs hb
          go_wp2_with (first | (go_at_call 28; refine (l1In_any _ _ _ _).mono ?_; rintro e w' ⟨rfl, rfl⟩))
          go_ret
          exact ⟨by simp only [dValid, hf.out]; rfl, hxa _⟩
        · cases p3 : d.f0 == d.f1
          · cases p4 : inR d.f2 1 15
            · have hf := Lib.hid (hb.out (by simp [dOk, p4]))
              clear hs hb
              go_wp2_with (first | (go_at_call 28; refine (l1In_any _ _ _ _).mono ?_; rintro e w' ⟨rfl, rfl⟩))
              go_ret
              exact ⟨by simp only [dValid, hf.out]; rfl, hxa _⟩
            · have hf := Lib.hid (hs.out (by simp [dOk, p1, p2, p3, p4]))
              clear hs hb
              go_wp2_with (first | (go_at_call 28; refine (l1In_any _ _ _ _).mono ?_; rintro e w' ⟨rfl, rfl⟩))
              go_roundw
              case rel => exact ⟨k + 1, by omega, by go_num, hf.out, hxa _⟩
              case measure => simp [intOf]; omega
          · have hf := Lib.hid (hb.out (by simp [dOk, p3]))
            clear hs hb
            go_wp2_with (first | (go_at_call 28; refine (l1In_any _ _ _ _).mono ?_; rintro e w' ⟨rfl, rfl⟩))
            go_ret
            exact ⟨by simp only [dValid, hf.out]; rfl, hxa _⟩
    · have hf := Lib.hid (all_end ds dOk k hlt ha.out)
      by_cases h10 : ds.length ≤ 10
      all_goals
        go_wp2_with fail
        go_ret
        exact ⟨by simp only [dValid, hf.out]; simp [h10]; omega, hB⟩
end Go.Proofs.Ytjmjpejkongipaa
