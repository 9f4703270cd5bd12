/-
  Valid grants: the program's and the reference's look. No condition.
-/
import Derived.Test.YtlcjkehpdlgdoaaG
set_option linter.unusedSimpArgs false
set_option linter.unusedVariables false
namespace Go.Proofs.Ytlcjkehpdlgdoaa
open Go.RowKit
/-- A grant of roles numbered to m. -/
def gOk (m : Int) (d : Gra) : Bool := inR d.f0 0 6 && inR d.f1 0 m && inR d.f2 0 1000 && inR d.f3 (d.f2 + 1) 1000
def gValid (many : Int) (ds : List Gra) : Bool := ds.all (gOk (wrap64 (many - 1))) && (inR many 1 8 && decide (ds.length ≤ 12))
theorem gOk_spec (m : Int) (d : Gra) : gOk m d = (inR d.f0 0 6 && inR d.f1 0 m && inR d.f3 1 1000 && inR d.f2 0 (d.f3 - 1)) := by
  rw [Bool.eq_iff_iff]
  simp only [gOk, inR, Bool.and_eq_true, decide_eq_true_eq]
  omega
theorem isPersonG_any (n : Int) (w : World) : Calls Try.prog 48 #[.int .i64 n] w fun e w' => e = .returned (.bool (inR n 0 6)) ∧ w = w' := by
  go_enter Try.func48, Try.ntmps48
  go_wp2_with (first | (go_at_call 49; refine (in_any _ _ _ _).mono ?_; rintro e w' ⟨rfl, rfl⟩))
  go_ret
  exact ⟨rfl, rfl⟩
theorem isTime_any (n : Int) (w : World) : Calls Try.prog 50 #[.int .i64 n] w fun e w' => e = .returned (.bool (inR n 0 1000)) ∧ w = w' := by
  go_enter Try.func50, Try.ntmps50
  go_wp2_with (first | (go_at_call 49; refine (in_any _ _ _ _).mono ?_; rintro e w' ⟨rfl, rfl⟩))
  go_ret
  exact ⟨rfl, rfl⟩
theorem implGValid_any (many : Int) (ds : List Gra) (v : Value) (w : World) (h : SlG w v ds) : Calls Try.prog 17 #[.int .i64 many, v] w fun e w' => e = .returned (.bool (gValid many ds)) ∧ Below w.heap.size w w' := by
  obtain ⟨a, cap, rfl, h1, h2⟩ := SlF.shape h
  unfold maxLen at h2
  have H := Lib.hid h
  clear h
  have hgv : gValid many ds = (ds.all (gOk (wrap64 (many - 1))) && (inR many 1 8 && decide (ds.length ≤ 12))) := rfl
  generalize hq : gValid many ds = q at hgv ⊢
  replace hgv := Lib.hid hgv
  clear hq
  go_enter Try.func17, Try.ntmps17
  go_wp2_with fail
  go_loopw [9] (fun i wr => ∃ k : Nat, k ≤ ds.length ∧ i = .int .i64 k ∧ Hid ((ds.take k).all (gOk (wrap64 (many - 1))) = true) ∧ Below w.heap.size w wr) (fun i _ => ds.length - (intOf i).toNat)
  case atStart => exact ⟨0, Nat.zero_le _, rfl, by simp [Hid], Below.refl _ _⟩
  case round =>
    obtain ⟨k, hk, rfl, ha, hB⟩ := hrel
    by_cases hlt : k < ds.length
    · obtain ⟨g, off, cap', hv, _, _, c0, c1, c2, c3⟩ := (H.out.below hB).cells k hlt
      simp only [Value.slice.injEq] at hv
      obtain ⟨rfl, -, rfl⟩ := hv
      have hs := Lib.hid (fun hp => all_step ds (gOk (wrap64 (many - 1))) k hlt ha.out hp)
      have hb := Lib.hid (fun hp => all_bad ds (gOk (wrap64 (many - 1))) k hlt hp)
      generalize ds[k] = d at c0 c1 c2 c3 hs hb
      have hxa := fun o => Below.al hB o
      cases p1 : inR d.f0 0 6
      · have hf := Lib.hid (hb.out (by simp [gOk, p1]))
        clear hs hb
        go_wp2_with (first | (go_at_call 48; refine (isPersonG_any _ _).mono ?_; rintro e w' ⟨rfl, rfl⟩) | (go_at_call 50; refine (isTime_any _ _).mono ?_; rintro e w' ⟨rfl, rfl⟩) | (go_at_call 49; refine (in_any _ _ _ _).mono ?_; rintro e w' ⟨rfl, rfl⟩))
        go_ret
        exact ⟨by rw [hgv.out, hf.out]; rfl, hxa _⟩
      · skip
        cases p2 : inR d.f1 0 (wrap64 (many - 1))
        · have hf := Lib.hid (hb.out (by simp [gOk, p2]))
          clear hs hb
          go_wp2_with (first | (go_at_call 48; refine (isPersonG_any _ _).mono ?_; rintro e w' ⟨rfl, rfl⟩) | (go_at_call 50; refine (isTime_any _ _).mono ?_; rintro e w' ⟨rfl, rfl⟩) | (go_at_call 49; refine (in_any _ _ _ _).mono ?_; rintro e w' ⟨rfl, rfl⟩))
          go_ret
          exact ⟨by rw [hgv.out, hf.out]; rfl, hxa _⟩
        · skip
          cases p3 : inR d.f2 0 1000
          · have hf := Lib.hid (hb.out (by simp [gOk, p3]))
            clear hs hb
            go_wp2_with (first | (go_at_call 48; refine (isPersonG_any _ _).mono ?_; rintro e w' ⟨rfl, rfl⟩) | (go_at_call 50; refine (isTime_any _ _).mono ?_; rintro e w' ⟨rfl, rfl⟩) | (go_at_call 49; refine (in_any _ _ _ _).mono ?_; rintro e w' ⟨rfl, rfl⟩))
            go_ret
            exact ⟨by rw [hgv.out, hf.out]; rfl, hxa _⟩
          · have q3 := (inR_iff _ _ _).mp p3
            skip
            cases p4 : inR d.f3 (d.f2 + 1) 1000
            · have hf := Lib.hid (hb.out (by simp [gOk, p4]))
              clear hs hb
              go_wp2_with (first | (go_at_call 48; refine (isPersonG_any _ _).mono ?_; rintro e w' ⟨rfl, rfl⟩) | (go_at_call 50; refine (isTime_any _ _).mono ?_; rintro e w' ⟨rfl, rfl⟩) | (go_at_call 49; refine (in_any _ _ _ _).mono ?_; rintro e w' ⟨rfl, rfl⟩))
              go_ret
              exact ⟨by rw [hgv.out, hf.out]; rfl, hxa _⟩
            · have hf := Lib.hid (hs.out (by simp [gOk, p1, p2, p3, p4]))
              clear hs hb
              go_wp2_with (first | (go_at_call 48; refine (isPersonG_any _ _).mono ?_; rintro e w' ⟨rfl, rfl⟩) | (go_at_call 50; refine (isTime_any _ _).mono ?_; rintro e w' ⟨rfl, rfl⟩) | (go_at_call 49; refine (in_any _ _ _ _).mono ?_; rintro e w' ⟨rfl, rfl⟩))
              go_roundw
              case rel => exact ⟨k + 1, by omega, by go_num, hf.out, hxa _⟩
              case measure => simp [intOf]; omega
    · have hf := Lib.hid (all_end ds (gOk (wrap64 (many - 1))) k hlt ha.out)
      cases hm : inR many 1 8
      · go_wp2_with (first | (go_at_call 49; refine (in_any _ _ _ _).mono ?_; rintro e w' ⟨rfl, rfl⟩))
        go_ret
        exact ⟨by rw [hgv.out, hf.out, hm]; rfl, hB⟩
      · by_cases h10 : ds.length ≤ 12
        all_goals
          go_wp2_with (first | (go_at_call 49; refine (in_any _ _ _ _).mono ?_; rintro e w' ⟨rfl, rfl⟩))
          go_ret
          exact ⟨by rw [hgv.out, hf.out, hm]; simp [h10]; omega, hB⟩
theorem specGValid_any (many : Int) (ds : List Gra) (v : Value) (w : World) (h : SlG w v ds) : Calls Try.prog 15 #[.int .i64 many, v] w fun e w' => e = .returned (.bool (gValid many ds)) ∧ Below w.heap.size w w' := by
  obtain ⟨a, cap, rfl, h1, h2⟩ := SlF.shape h
  unfold maxLen at h2
  have H := Lib.hid h
  clear h
  have hgv : gValid many ds = (ds.all (gOk (wrap64 (many - 1))) && (inR many 1 8 && decide (ds.length ≤ 12))) := rfl
  generalize hq : gValid many ds = q at hgv ⊢
  replace hgv := Lib.hid hgv
  clear hq
  go_enter Try.func15, Try.ntmps15
  go_wp2_with fail
  go_loopw [5] (fun i wr => ∃ k : Nat, k ≤ ds.length ∧ i = .int .i64 k ∧ Hid ((ds.take k).all (gOk (wrap64 (many - 1))) = true) ∧ Below w.heap.size w wr) (fun i _ => ds.length - (intOf i).toNat)
  case atStart => exact ⟨0, Nat.zero_le _, rfl, by simp [Hid], Below.refl _ _⟩
  case round =>
    obtain ⟨k, hk, rfl, ha, hB⟩ := hrel
    by_cases hlt : k < ds.length
    · obtain ⟨g, off, cap', hv, _, _, c0, c1, c2, c3⟩ := (H.out.below hB).cells k hlt
      simp only [Value.slice.injEq] at hv
      obtain ⟨rfl, -, rfl⟩ := hv
      have hs := Lib.hid (fun hp => all_step ds (gOk (wrap64 (many - 1))) k hlt ha.out hp)
      have hb := Lib.hid (fun hp => all_bad ds (gOk (wrap64 (many - 1))) k hlt hp)
      generalize ds[k] = d at c0 c1 c2 c3 hs hb
      have hxa := fun o => Below.al hB o
      cases p1 : inR d.f0 0 6
      · have hf := Lib.hid (hb.out (by simp [gOk_spec, p1]))
        clear hs hb
        go_wp2_with (first | (go_at_call 46; refine (l1In_any _ _ _ _).mono ?_; rintro e w' ⟨rfl, rfl⟩))
        go_ret
        exact ⟨by rw [hgv.out, hf.out]; rfl, hxa _⟩
      · skip
        cases p2 : inR d.f1 0 (wrap64 (many - 1))
        · have hf := Lib.hid (hb.out (by simp [gOk_spec, p2]))
          clear hs hb
          go_wp2_with (first | (go_at_call 46; refine (l1In_any _ _ _ _).mono ?_; rintro e w' ⟨rfl, rfl⟩))
          go_ret
          exact ⟨by rw [hgv.out, hf.out]; rfl, hxa _⟩
        · skip
          cases p3 : inR d.f3 1 1000
          · have hf := Lib.hid (hb.out (by simp [gOk_spec, p3]))
            clear hs hb
            go_wp2_with (first | (go_at_call 46; refine (l1In_any _ _ _ _).mono ?_; rintro e w' ⟨rfl, rfl⟩))
            go_ret
            exact ⟨by rw [hgv.out, hf.out]; rfl, hxa _⟩
          · have q3 := (inR_iff _ _ _).mp p3
            skip
            cases p4 : inR d.f2 0 (d.f3 - 1)
            · have hf := Lib.hid (hb.out (by simp [gOk_spec, p4]))
              clear hs hb
              go_wp2_with (first | (go_at_call 46; refine (l1In_any _ _ _ _).mono ?_; rintro e w' ⟨rfl, rfl⟩))
              go_ret
              exact ⟨by rw [hgv.out, hf.out]; rfl, hxa _⟩
            · have hf := Lib.hid (hs.out (by simp [gOk_spec, p1, p2, p3, p4]))
              clear hs hb
              go_wp2_with (first | (go_at_call 46; refine (l1In_any _ _ _ _).mono ?_; rintro e w' ⟨rfl, rfl⟩))
              go_roundw
              case rel => exact ⟨k + 1, by omega, by go_num, hf.out, hxa _⟩
              case measure => simp [intOf]; omega
    · have hf := Lib.hid (all_end ds (gOk (wrap64 (many - 1))) k hlt ha.out)
      cases hm : inR many 1 8
      · go_wp2_with (first | (go_at_call 46; refine (l1In_any _ _ _ _).mono ?_; rintro e w' ⟨rfl, rfl⟩))
        go_ret
        exact ⟨by rw [hgv.out, hf.out, hm]; rfl, hB⟩
      · by_cases h10 : ds.length ≤ 12
        all_goals
          go_wp2_with (first | (go_at_call 46; refine (l1In_any _ _ _ _).mono ?_; rintro e w' ⟨rfl, rfl⟩))
          go_ret
          exact ⟨by rw [hgv.out, hf.out, hm]; simp [h10]; omega, hB⟩
end Go.Proofs.Ytlcjkehpdlgdoaa
