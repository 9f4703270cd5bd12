/-
  Valid tuples: the program's and the reference's look. No condition.
-/
import Derived.Test.YtgfcikckomhbeaaDoorTu
set_option linter.unusedSimpArgs false
set_option linter.unusedVariables false
namespace Go.Proofs.YtgfcikckomhbeaaDoor
open Go.RowKit
def viaOk (s : ByteArray) : Bool := s.toList.isEmpty || nameOk s.data.toList
def tOk (d : Tup) : Bool := inR d.f0 0 6 && inR d.f2 0 6 && nameOk d.f1.data.toList && viaOk d.f3
def tValid (ds : List Tup) : Bool := ds.all tOk && decide (ds.length ≤ 12)
/-- Strings as long as memory allows. -/
def Str (d : Tup) : Prop := d.f1.size ≤ maxLen ∧ d.f3.size ≤ maxLen
theorem isPerson_any (n : Int) (w : World) : Calls Tryd.prog 23 #[.int .i64 n] w fun e w' => e = .returned (.bool (inR n 0 6)) ∧ w = w' := by
  go_enter Tryd.func23, Tryd.ntmps23
  go_wp2_with (first | (go_at_call 33; refine (in_any _ _ _ _).mono ?_; rintro e w' ⟨rfl, rfl⟩))
  go_ret
  exact ⟨rfl, rfl⟩
set_option maxHeartbeats 1600000 in
theorem implTValid_any (ds : List Tup) (v : Value) (w : World) (h : SlT w v ds) (hstr : ∀ d ∈ ds, Str d) : Calls Tryd.prog 12 #[v] w fun e w' => e = .returned (.bool (tValid ds)) ∧ Below w.heap.size w w' := by
  obtain ⟨a, cap, rfl, h1, h2⟩ := SlF.shape h
  unfold maxLen at h2
  have H := Lib.hid h
  have HSt := Lib.hid hstr
  clear h hstr
  go_enter Tryd.func12, Tryd.ntmps12
  go_wp2_with fail
  go_loopw [7] (fun i wr => ∃ k : Nat, k ≤ ds.length ∧ i = .int .i64 k ∧ Hid ((ds.take k).all tOk = true) ∧ Below w.heap.size w wr) (fun i _ => ds.length - (intOf i).toNat)
  case atStart => exact ⟨0, Nat.zero_le _, rfl, by simp [Hid], Below.refl _ _⟩
  case round =>
    obtain ⟨k, hk, rfl, ha, hB⟩ := hrel
    by_cases hlt : k < ds.length
    · obtain ⟨g, off, cap', hv, _, _, c0, c1, c2, c3⟩ := (H.out.below hB).cells k hlt
      simp only [Value.slice.injEq] at hv
      obtain ⟨rfl, -, rfl⟩ := hv
      obtain ⟨HS1, HS2⟩ := HSt.out ds[k] (List.getElem_mem hlt)
      have hs := Lib.hid (fun hp => all_step ds tOk k hlt ha.out hp)
      have hb := Lib.hid (fun hp => all_bad ds tOk k hlt hp)
      generalize ds[k] = d at c0 c1 c2 c3 hs hb HS1 HS2
      have hxa := fun o => Below.al hB o
      cases p1 : inR d.f0 0 6
      · have hf := Lib.hid (hb.out (by simp [tOk, viaOk, p1]))
        clear hs hb
        go_wp2_with (first | (go_at_call 23; refine (isPerson_any _ _).mono ?_; rintro e w' ⟨rfl, rfl⟩) | (go_at_call 24; first | ((with_reducible refine (implNameValid_any d.f1 _ HS1).mono ?_); rintro e w' ⟨rfl, rfl⟩) | ((with_reducible refine (implNameValid_any d.f3 _ HS2).mono ?_); rintro e w' ⟨rfl, rfl⟩)))
        go_ret
        exact ⟨by simp only [tValid, hf.out]; rfl, hxa _⟩
      · cases p2 : inR d.f2 0 6
        · have hf := Lib.hid (hb.out (by simp [tOk, viaOk, p1, p2]))
          clear hs hb
          go_wp2_with (first | (go_at_call 23; refine (isPerson_any _ _).mono ?_; rintro e w' ⟨rfl, rfl⟩) | (go_at_call 24; first | ((with_reducible refine (implNameValid_any d.f1 _ HS1).mono ?_); rintro e w' ⟨rfl, rfl⟩) | ((with_reducible refine (implNameValid_any d.f3 _ HS2).mono ?_); rintro e w' ⟨rfl, rfl⟩)))
          go_ret
          exact ⟨by simp only [tValid, hf.out]; rfl, hxa _⟩
        · cases p3 : nameOk d.f1.data.toList
          · have hf := Lib.hid (hb.out (by simp [tOk, viaOk, p1, p2, p3]))
            clear hs hb
            go_wp2_with (first | (go_at_call 23; refine (isPerson_any _ _).mono ?_; rintro e w' ⟨rfl, rfl⟩) | (go_at_call 24; first | ((with_reducible refine (implNameValid_any d.f1 _ HS1).mono ?_); rintro e w' ⟨rfl, rfl⟩) | ((with_reducible refine (implNameValid_any d.f3 _ HS2).mono ?_); rintro e w' ⟨rfl, rfl⟩)))
            go_ret
            exact ⟨by simp only [tValid, hf.out]; rfl, hxa _⟩
          · cases p4 : d.f3.toList.isEmpty
            · have n4 : (!d.f3.toList.isEmpty) = true := by rw [p4]; rfl
              cases p5 : nameOk d.f3.data.toList
              · have hf := Lib.hid (hb.out (by simp [tOk, viaOk, p1, p2, p3, p4, p5]))
                clear hs hb
                go_wp2_with (first | (go_at_call 23; refine (isPerson_any _ _).mono ?_; rintro e w' ⟨rfl, rfl⟩) | (go_at_call 24; first | ((with_reducible refine (implNameValid_any d.f1 _ HS1).mono ?_); rintro e w' ⟨rfl, rfl⟩) | ((with_reducible refine (implNameValid_any d.f3 _ HS2).mono ?_); rintro e w' ⟨rfl, rfl⟩)))
                go_ret
                exact ⟨by simp only [tValid, hf.out]; rfl, hxa _⟩
              · have hf := Lib.hid (hs.out (by simp [tOk, viaOk, p1, p2, p3, p4, p5]))
                clear hs hb
                go_wp2_with (first | (go_at_call 23; refine (isPerson_any _ _).mono ?_; rintro e w' ⟨rfl, rfl⟩) | (go_at_call 24; first | ((with_reducible refine (implNameValid_any d.f1 _ HS1).mono ?_); rintro e w' ⟨rfl, rfl⟩) | ((with_reducible refine (implNameValid_any d.f3 _ HS2).mono ?_); rintro e w' ⟨rfl, rfl⟩)))
                go_roundw
                case rel => exact ⟨k + 1, by omega, by go_num, hf.out, hxa _⟩
                case measure => simp [intOf]; omega
            · have n4 : (!d.f3.toList.isEmpty) = false := by rw [p4]; rfl
              have hf := Lib.hid (hs.out (by simp [tOk, viaOk, p1, p2, p3, p4]))
              clear hs hb
              go_wp2_with (first | (go_at_call 23; refine (isPerson_any _ _).mono ?_; rintro e w' ⟨rfl, rfl⟩) | (go_at_call 24; first | ((with_reducible refine (implNameValid_any d.f1 _ HS1).mono ?_); rintro e w' ⟨rfl, rfl⟩) | ((with_reducible refine (implNameValid_any d.f3 _ HS2).mono ?_); rintro e w' ⟨rfl, rfl⟩)))
              go_roundw
              case rel => exact ⟨k + 1, by omega, by go_num, hf.out, hxa _⟩
              case measure => simp [intOf]; omega
    · have hf := Lib.hid (all_end ds tOk k hlt ha.out)
      by_cases h12 : ds.length ≤ 12
      all_goals
        go_wp2_with fail
        go_ret
        exact ⟨by simp only [tValid, hf.out]; simp [h12]; omega, hB⟩
set_option maxHeartbeats 1600000 in
theorem specTValid_any (ds : List Tup) (v : Value) (w : World) (h : SlT w v ds) (hstr : ∀ d ∈ ds, Str d) : Calls Tryd.prog 18 #[v] w fun e w' => e = .returned (.bool (tValid ds)) ∧ Below w.heap.size w w' := by
  obtain ⟨a, cap, rfl, h1, h2⟩ := SlF.shape h
  unfold maxLen at h2
  have H := Lib.hid h
  have HSt := Lib.hid hstr
  clear h hstr
  go_enter Tryd.func18, Tryd.ntmps18
  go_wp2_with fail
  go_loopw [3] (fun i wr => ∃ k : Nat, k ≤ ds.length ∧ i = .int .i64 k ∧ Hid ((ds.take k).all tOk = true) ∧ Below w.heap.size w wr) (fun i _ => ds.length - (intOf i).toNat)
  case atStart => exact ⟨0, Nat.zero_le _, rfl, by simp [Hid], Below.refl _ _⟩
  case round =>
    obtain ⟨k, hk, rfl, ha, hB⟩ := hrel
    by_cases hlt : k < ds.length
    · obtain ⟨g, off, cap', hv, _, _, c0, c1, c2, c3⟩ := (H.out.below hB).cells k hlt
      simp only [Value.slice.injEq] at hv
      obtain ⟨rfl, -, rfl⟩ := hv
      obtain ⟨HS1, HS2⟩ := HSt.out ds[k] (List.getElem_mem hlt)
      have hs := Lib.hid (fun hp => all_step ds tOk k hlt ha.out hp)
      have hb := Lib.hid (fun hp => all_bad ds tOk k hlt hp)
      generalize ds[k] = d at c0 c1 c2 c3 hs hb HS1 HS2
      have hxa := fun o => Below.al hB o
      cases p1 : inR d.f0 0 6
      · have hf := Lib.hid (hb.out (by simp [tOk, viaOk, p1]))
        clear hs hb
        go_wp2_with (first | (go_at_call 30; refine (l1In_any _ _ _ _).mono ?_; rintro e w' ⟨rfl, rfl⟩) | (go_at_call 31; first | ((with_reducible refine (specNameValid_any d.f1 _ HS1).mono ?_); rintro e w' ⟨rfl, rfl⟩) | ((with_reducible refine (specNameValid_any d.f3 _ HS2).mono ?_); rintro e w' ⟨rfl, rfl⟩)))
        go_ret
        exact ⟨by simp only [tValid, hf.out]; rfl, hxa _⟩
      · cases p2 : inR d.f2 0 6
        · have hf := Lib.hid (hb.out (by simp [tOk, viaOk, p1, p2]))
          clear hs hb
          go_wp2_with (first | (go_at_call 30; refine (l1In_any _ _ _ _).mono ?_; rintro e w' ⟨rfl, rfl⟩) | (go_at_call 31; first | ((with_reducible refine (specNameValid_any d.f1 _ HS1).mono ?_); rintro e w' ⟨rfl, rfl⟩) | ((with_reducible refine (specNameValid_any d.f3 _ HS2).mono ?_); rintro e w' ⟨rfl, rfl⟩)))
          go_ret
          exact ⟨by simp only [tValid, hf.out]; rfl, hxa _⟩
        · cases p3 : nameOk d.f1.data.toList
          · have hf := Lib.hid (hb.out (by simp [tOk, viaOk, p1, p2, p3]))
            clear hs hb
            go_wp2_with (first | (go_at_call 30; refine (l1In_any _ _ _ _).mono ?_; rintro e w' ⟨rfl, rfl⟩) | (go_at_call 31; first | ((with_reducible refine (specNameValid_any d.f1 _ HS1).mono ?_); rintro e w' ⟨rfl, rfl⟩) | ((with_reducible refine (specNameValid_any d.f3 _ HS2).mono ?_); rintro e w' ⟨rfl, rfl⟩)))
            go_ret
            exact ⟨by simp only [tValid, hf.out]; rfl, hxa _⟩
          · cases p4 : d.f3.toList.isEmpty
            · have n4 : (!d.f3.toList.isEmpty) = true := by rw [p4]; rfl
              cases p5 : nameOk d.f3.data.toList
              · have hf := Lib.hid (hb.out (by simp [tOk, viaOk, p1, p2, p3, p4, p5]))
                clear hs hb
                go_wp2_with (first | (go_at_call 30; refine (l1In_any _ _ _ _).mono ?_; rintro e w' ⟨rfl, rfl⟩) | (go_at_call 31; first | ((with_reducible refine (specNameValid_any d.f1 _ HS1).mono ?_); rintro e w' ⟨rfl, rfl⟩) | ((with_reducible refine (specNameValid_any d.f3 _ HS2).mono ?_); rintro e w' ⟨rfl, rfl⟩)))
                go_ret
                exact ⟨by simp only [tValid, hf.out]; rfl, hxa _⟩
              · have hf := Lib.hid (hs.out (by simp [tOk, viaOk, p1, p2, p3, p4, p5]))
                clear hs hb
                go_wp2_with (first | (go_at_call 30; refine (l1In_any _ _ _ _).mono ?_; rintro e w' ⟨rfl, rfl⟩) | (go_at_call 31; first | ((with_reducible refine (specNameValid_any d.f1 _ HS1).mono ?_); rintro e w' ⟨rfl, rfl⟩) | ((with_reducible refine (specNameValid_any d.f3 _ HS2).mono ?_); rintro e w' ⟨rfl, rfl⟩)))
                go_roundw
                case rel => exact ⟨k + 1, by omega, by go_num, hf.out, hxa _⟩
                case measure => simp [intOf]; omega
            · have n4 : (!d.f3.toList.isEmpty) = false := by rw [p4]; rfl
              have hf := Lib.hid (hs.out (by simp [tOk, viaOk, p1, p2, p3, p4]))
              clear hs hb
              go_wp2_with (first | (go_at_call 30; refine (l1In_any _ _ _ _).mono ?_; rintro e w' ⟨rfl, rfl⟩) | (go_at_call 31; first | ((with_reducible refine (specNameValid_any d.f1 _ HS1).mono ?_); rintro e w' ⟨rfl, rfl⟩) | ((with_reducible refine (specNameValid_any d.f3 _ HS2).mono ?_); rintro e w' ⟨rfl, rfl⟩)))
              go_roundw
              case rel => exact ⟨k + 1, by omega, by go_num, hf.out, hxa _⟩
              case measure => simp [intOf]; omega
    · have hf := Lib.hid (all_end ds tOk k hlt ha.out)
      by_cases h12 : ds.length ≤ 12
      all_goals
        go_wp2_with fail
        go_ret
        exact ⟨by simp only [tValid, hf.out]; simp [h12]; omega, hB⟩
end Go.Proofs.YtgfcikckomhbeaaDoor
