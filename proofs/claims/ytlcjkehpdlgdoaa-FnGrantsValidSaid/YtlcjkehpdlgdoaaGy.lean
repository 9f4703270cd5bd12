/-
  The law on valid grants, walked. Condition: the bytes can be read.
-/
import Derived.Test.YtlcjkehpdlgdoaaGt
set_option linter.unusedSimpArgs false
set_option linter.unusedVariables false
namespace Go.Proofs.Ytlcjkehpdlgdoaa
open Go.RowKit
theorem gValid_two (many : Int) (ds : List Gra) : gValid many (ds ++ [⟨0, 0, 3, 3⟩]) = false := by
  simp [gValid, List.all_append, gOk, inR]
theorem gValid_drop (many : Int) (ds : List Gra) (l : Nat) (h : gValid many ds = true) : gValid many (ds.drop l) = true := by
  simp only [gValid, Bool.and_eq_true, List.all_eq_true, decide_eq_true_eq, List.length_drop] at h ⊢
  exact ⟨fun x hx => h.1 x (List.mem_of_mem_drop hx), h.2.1, by omega⟩
/-- Grants are drawn from bytes. -/
def GraD (w : World) (e : Ending) (w' : World) : Prop :=
  ∃ (many : Int) (v : Value) (ds : List Gra), e = .returned (.tuple #[.int .i64 many, v]) ∧ v ≠ .slice none 0 0 ∧ 0 ≤ many ∧ many ≤ 9 ∧ ds.length ≤ 8 ∧ w'.ownsRow w.heap.size 33 4 v ds.length (cellsG ds) ∧ Below w.heap.size w w'
theorem drawGrantsValid_any (a : Option Addr) (len cap : Nat) (w : World) (h : Bytes w a len cap) : Calls Try.prog 19 #[.slice a len cap] w (GraD w) := by
  have H := Lib.hid h
  clear h
  go_enter Try.func19, Try.ntmps19
  go_wp2_with fail
  refine (open_any a len cap _ H.out).mono ?_
  rintro e w1 ⟨rfl, r1, h1⟩
  have zb := r1.lt
  have z1 := h1.size
  go_wp2_with fail
  refine (pick_any _ 5 _ _ r1 (by omega) (by omega)).mono ?_
  rintro e w2 ⟨x, rfl, lo, hi, r2⟩
  have z2 := r2.size
  go_wp2_with fail
  refine (pick_any _ 6 _ _ ((r2.rd.below (below_al _ _)).below (below_al _ _)) (by omega) (by omega)).mono ?_
  rintro e w3 ⟨y, rfl, lo3, hi3, r3⟩
  have z3 := r3.size
  have k1 := (Bk.alloc (Bk.new (w := w2) (vs := #[.int .i64 (1 + x), .int .i64 0, .int .i64 9]) (t := 3)) (.cells #[.int .i64 0, .int .i64 0, .int .i64 0, .int .i64 0, .int .i64 1, .int .i64 2] 3)).rdn r3 (by omega)
  have k2 := (Bk.new (w := w2.alloc (.cells #[.int .i64 (1 + x), .int .i64 0, .int .i64 9] 3)) (vs := #[.int .i64 0, .int .i64 0, .int .i64 0, .int .i64 0, .int .i64 1, .int .i64 2]) (t := 3)).rdn r3 (by simp; omega)
  have c1 := k1.cell
  have c2 := k2.cell
  clear k1 k2
  simp only [World.size_alloc] at c2
  rcases (show y = 0 ∨ y = 1 ∨ y = 2 ∨ y = 3 ∨ y = 4 ∨ y = 5 by omega) with rfl | rfl | rfl | rfl | rfl | rfl
  all_goals
    go_wp2_with fail
    refine (l20Grants_any _ _ 3 _ _ r3.rd (by omega) (by omega) (by omega) (by omega) (by omega)).mono ?_
    rintro e w4 ⟨v, ds, rfl, hv, hl, ho, r4⟩
    go_wp2_with fail
    go_ret2
    refine ⟨_, v, ds, rfl, hv, by omega, by omega, hl, own_lo ho (by have := z2; have := z3; simp only [World.size_alloc] at *; omega), ?_⟩
    (repeat' first | (with_reducible exact Below.refl _ _) | (with_reducible refine Below.rd (by assumption) ?_ ?_) | (with_reducible refine Below.via (by assumption) ?_) | (with_reducible refine Below.al ?_ _) | (with_reducible refine Below.dn ?_ _) | (with_reducible refine Below.dr ?_) | (with_reducible refine Below.setCell ?_ ?_ _) | (dsimp only; omega) | (simp only [World.size_alloc, World.size_drew]; omega) | (simp; done) | omega)
set_option maxHeartbeats 1600000 in
theorem grantsValid_walk (a : Option Addr) (len cap : Nat) (w : World) (h : Bytes w a len cap) : Calls Try.prog 4 #[.slice a len cap] w fun e w' => e = .returned (.bool true) ∧ Below w.heap.size w w' := by
  have h1 := h.1
  have h2 := h.2.1
  unfold maxLen at h2
  have H := Lib.hid h
  clear h
  have hmk0 : ∀ w : World, (Instr.buildSlice 25 0 #[]).run Try.prog w = .ok (.slice (some ⟨w.heap.size, 0, none⟩) 0 0) (w.alloc (.cells #[] 33)) := fun w => by kernel_rfl
  by_cases hl : 1048576 < len
  · go_enter Try.func4, Try.ntmps4
    go_wp2_with fail
    go_ret
    exact ⟨rfl, Below.refl _ _⟩
  · go_enter Try.func4, Try.ntmps4
    go_wp2_with fail
    refine (drawGrantsValid_any a len cap _ H.out).mono ?_
    rintro e w1 ⟨many, v, ds, rfl, hv, hm0, hm9, hlen, ho, b1⟩
    obtain ⟨g, c, rfl, hg, hn, hc, hcell⟩ := own_ad ho hv
    have hs1 := own_sl ho
    have Hs := Lib.hid hs1
    have Ho := Lib.hid ho
    clear hcell hs1 ho hv
    have hd2 := gValid_two many ds
    have hd3 := fun h => gValid_drop many ds (ds.length / 2) h
    go_wp2_with fail
    refine (implGValid_any many ds _ _ Hs.out).mono ?_
    rintro e w2 ⟨rfl, b2⟩
    have hs2 := Lib.hid (SlF.below Hs.out b2)
    have ho2 := Lib.hid (own_below Ho.out b2)
    go_wp2_with fail
    refine (specGValid_any many ds _ _ hs2.out).mono ?_
    rintro e w3 ⟨rfl, b3⟩
    have hs3 := Lib.hid (SlF.below hs2.out b3)
    have ho3 := Lib.hid (own_below ho2.out b3)
    have hz3 : w1.heap.size ≤ w3.heap.size := Nat.le_trans b2.size b3.size
    have ha3 := own_alloc ho3.out (.cells #[] 33)
    obtain ⟨g', c', hgc, _, _, _, hcell⟩ := own_ad ha3 (by simp)
    simp only [Value.slice.injEq, Option.some.injEq, Addr.mk.injEq, true_and, and_true] at hgc
    obtain ⟨rfl, rfl⟩ := hgc
    have hcell := Lib.hid hcell
    clear ha3
    go_wp2_with (at_builtin; refine Hid.out ?_); refine Lib.hid ?_
    refine wpList_app (s := .tmp 23) (x := .tmp 24) rfl 25 33 (.agg #[.int .i64 0, .int .i64 0, .int .i64 0, .int .i64 0]) 4 32 rfl Try.underlying25 infoG rfl (by decide) (by decide) w3.heap.size _ 0 [] rfl (own_made w3 _ _ _ (Nat.le_refl _)) ⟨g, 0, none⟩ ds.length c (cellsG ds) rfl (flat_length encG 4 (fun _ => rfl) ds) hcell.out ?_ (by omega) (by simp) ?_
    · intro u hu
      obtain ⟨d, _, hd⟩ := List.mem_flatMap.mp hu
      simp [encG] at hd
      rcases hd with rfl | rfl | rfl | rfl <;> rfl
    intro v4 w4 ho4 hg4 hn4
    have b4 : Below w3.heap.size w3 w4 := Below.grown (below_al _ _) hg4 (by simp only [World.size_alloc]; omega) (own_gt (own_made w3 _ 33 4 (Nat.le_refl _)))
    simp only [Nat.zero_add, List.nil_append] at ho4
    clear hg4 hn4
    have ho4' := Lib.hid ho4
    have hz4 := b4.size
    go_wp2_with (at_builtin; refine Hid.out ?_); refine Lib.hid ?_
    refine wpList_app (s := .tmp 25) (x := .tmp 27) rfl 25 33 (.agg #[.int .i64 0, .int .i64 0, .int .i64 0, .int .i64 0]) 4 32 rfl Try.underlying25 infoG rfl (by decide) (by decide) w3.heap.size _ ds.length (cellsG ds) rfl (own_alloc ho4'.out _) ⟨w4.heap.size, 0, none⟩ 1 1 (encG ⟨0, 0, 3, 3⟩) rfl rfl (news_bk Bk.new) (fun u hu => List.all_eq_true.mp (show List.all (encG ⟨0, 0, 3, 3⟩) Value.oneCell' = true from rfl) u hu) (by omega) (by simp only [World.size_alloc]; omega) ?_
    intro v5 w5 ho5 hg5 hn5
    have b5 : Below w3.heap.size w3 w5 := Below.grown (Below.al b4 _) hg5 (by simp only [World.size_alloc]; omega) (own_gt ho4'.out)
    clear hg5 hn5
    have hs5 : Hid (SlG w5 v5 (ds ++ [⟨0, 0, 3, 3⟩])) := by
      have h5 := own_sl ho5
      unfold SlG
      rw [cellsG_app]
      simpa [cellsG, encG, Hid] using h5
    have hs6 := Lib.hid (SlF.below hs3.out b5)
    have c1 := implGValid_any many _ _ _ hs5.out
    rw [hd2] at c1
    cases hdv : gValid many ds
    · go_wp2_with (first | (go_at_call 17; with_reducible refine c1.mono ?_; rintro e w6 ⟨rfl, b6⟩) | (go_at_call 20; refine (alive_any _).mono ?_; rintro e w' ⟨rfl, rfl⟩))
      go_ret
      refine ⟨rfl, ?_⟩
      (repeat' first | (with_reducible exact Below.refl _ _) | (with_reducible refine Below.rd (by assumption) ?_ ?_) | (with_reducible refine Below.via (by assumption) ?_) | (with_reducible refine Below.al ?_ _) | (with_reducible refine Below.dn ?_ _) | (with_reducible refine Below.dr ?_) | (with_reducible refine Below.setCell ?_ ?_ _) | (dsimp only; omega) | (simp only [World.size_alloc, World.size_drew]; omega) | (simp; done) | omega)
    · have hdq := hd3 hdv
      by_cases hcc : c = ds.length / 2
      · go_wp2_with (first | (go_at_call 17; with_reducible refine c1.mono ?_; rintro e w6 ⟨rfl, b6⟩))
        have s6 := slG_drop (SlF.below hs6.out b6) (ds.length / 2) (by omega)
        simp only [sliced, if_pos hcc] at s6
        simp only [hcc, Nat.sub_self] at s6
        have c2 := implGValid_any many _ _ _ s6
        rw [hdq] at c2
        refine c2.mono ?_
        rintro e w7 ⟨rfl, b7⟩
        go_wp2_with ((go_at_call 20; refine (alive_any _).mono ?_; rintro e w' ⟨rfl, rfl⟩))
        go_ret
        refine ⟨rfl, ?_⟩
        (repeat' first | (with_reducible exact Below.refl _ _) | (with_reducible refine Below.rd (by assumption) ?_ ?_) | (with_reducible refine Below.via (by assumption) ?_) | (with_reducible refine Below.al ?_ _) | (with_reducible refine Below.dn ?_ _) | (with_reducible refine Below.dr ?_) | (with_reducible refine Below.setCell ?_ ?_ _) | (dsimp only; omega) | (simp only [World.size_alloc, World.size_drew]; omega) | (simp; done) | omega)
      · go_wp2_with (first | (go_at_call 17; with_reducible refine c1.mono ?_; rintro e w6 ⟨rfl, b6⟩))
        have s6 := slG_drop (SlF.below hs6.out b6) (ds.length / 2) (by omega)
        simp only [sliced, if_neg hcc, Option.map_some, addr_add, Nat.zero_add] at s6
        have c2 := implGValid_any many _ _ _ s6
        rw [hdq] at c2
        refine c2.mono ?_
        rintro e w7 ⟨rfl, b7⟩
        go_wp2_with ((go_at_call 20; refine (alive_any _).mono ?_; rintro e w' ⟨rfl, rfl⟩))
        go_ret
        refine ⟨rfl, ?_⟩
        (repeat' first | (with_reducible exact Below.refl _ _) | (with_reducible refine Below.rd (by assumption) ?_ ?_) | (with_reducible refine Below.via (by assumption) ?_) | (with_reducible refine Below.al ?_ _) | (with_reducible refine Below.dn ?_ _) | (with_reducible refine Below.dr ?_) | (with_reducible refine Below.setCell ?_ ?_ _) | (dsimp only; omega) | (simp only [World.size_alloc, World.size_drew]; omega) | (simp; done) | omega)
end Go.Proofs.Ytlcjkehpdlgdoaa
