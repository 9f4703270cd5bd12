/-
  The law on valid delegations, walked. Condition: the bytes can be read.
-/
import Derived.Test.YtjmjpejkongipaaT
import Derived.Test.YtjmjpejkongipaaUa
set_option linter.unusedSimpArgs false
set_option linter.unusedVariables false
namespace Go.Proofs.Ytjmjpejkongipaa
open Go.RowKit
theorem dValid_two (ds : List Deleg) : dValid (ds ++ [⟨2, 2, 1⟩]) = false := by
  simp [dValid, List.all_append, dOk, inR]
theorem dValid_drop (ds : List Deleg) (l : Nat) (h : dValid ds = true) : dValid (ds.drop l) = true := by
  simp only [dValid, Bool.and_eq_true, List.all_eq_true, decide_eq_true_eq, List.length_drop] at h ⊢
  exact ⟨fun x hx => h.1 x (List.mem_of_mem_drop hx), by omega⟩
theorem slD_drop {w : World} {a : Option Addr} {c : Nat} {ds : List Deleg} (h : SlD w (.slice a ds.length c) ds) (k : Nat) (hk : k ≤ ds.length) : SlD w (sliced a k ds.length c 3) (ds.drop k) := by
  have s := SlF.drop h k hk
  unfold SlD
  rw [List.length_drop]
  unfold cellsD at s ⊢
  rw [drop_flat encD 3 (fun _ => rfl)] at s
  exact s
/-- Delegations are drawn from bytes. -/
def DelD (w : World) (e : Ending) (w' : World) : Prop :=
  ∃ (v : Value) (ds : List Deleg), e = .returned v ∧ v ≠ .slice none 0 0 ∧ ds.length ≤ 8 ∧ w'.ownsRow w.heap.size 32 3 v ds.length (cellsD ds) ∧ Below w.heap.size w w'
theorem drawDelegationsValid_any (a : Option Addr) (len cap : Nat) (w : World) (h : Bytes w a len cap) : Calls Try.prog 14 #[.slice a len cap] w (DelD w) := by
  have H := Lib.hid h
  clear h
  go_enter Try.func14, Try.ntmps14
  go_wp2_with fail
  refine (open_any a len cap _ H.out).mono ?_
  rintro e w1 ⟨rfl, r1, h1⟩
  have zb := r1.lt
  have z1 := h1.size
  go_wp2_with fail
  refine (l20Delegations_any _ 2 _ _ r1 (by omega) (by omega) (by omega)).mono ?_
  rintro e w2 ⟨v, ds, rfl, hv, hl, ho, r2⟩
  go_wp2_with fail
  go_ret
  refine ⟨v, ds, rfl, hv, hl, own_lo ho z1, ?_⟩
  (repeat' first | (with_reducible exact Below.refl _ _) | (with_reducible refine Below.rd (by assumption) ?_ ?_) | (with_reducible refine Below.via (by assumption) ?_) | (with_reducible refine Below.al ?_ _) | (with_reducible refine Below.dn ?_ _) | (with_reducible refine Below.dr ?_) | (with_reducible refine Below.setCell ?_ ?_ _) | (dsimp only; omega) | (simp only [World.size_alloc, World.size_drew]; omega) | (simp; done) | omega)
set_option maxHeartbeats 1600000 in
theorem delegationsValid_walk (a : Option Addr) (len cap : Nat) (w : World) (h : Bytes w a len cap) : Calls Try.prog 4 #[.slice a len cap] w fun e w' => e = .returned (.bool true) ∧ Below w.heap.size w w' := by
  have h1 := h.1
  have h2 := h.2.1
  unfold maxLen at h2
  have H := Lib.hid h
  clear h
  have hmk0 : ∀ w : World, (Instr.buildSlice 25 0 #[]).run Try.prog w = .ok (.slice (some ⟨w.heap.size, 0, none⟩) 0 0) (w.alloc (.cells #[] 32)) := fun w => by kernel_rfl
  by_cases hl : 1048576 < len
  · go_enter Try.func4, Try.ntmps4
    go_wp2_with fail
    go_ret
    exact ⟨rfl, Below.refl _ _⟩
  · go_enter Try.func4, Try.ntmps4
    go_wp2_with fail
    refine (drawDelegationsValid_any a len cap _ H.out).mono ?_
    rintro e w1 ⟨v, ds, rfl, hv, hlen, ho, b1⟩
    obtain ⟨g, c, rfl, hg, hn, hc, hcell⟩ := own_ad ho hv
    have hs1 := own_sl ho
    have Hs := Lib.hid hs1
    have Ho := Lib.hid ho
    clear hcell hs1 ho hv
    have hd2 := dValid_two ds
    have hd3 := fun h => dValid_drop ds (ds.length / 2) h
    go_wp2_with fail
    refine (implDValid_any ds _ _ Hs.out).mono ?_
    rintro e w2 ⟨rfl, b2⟩
    have hs2 := Lib.hid (SlF.below Hs.out b2)
    have ho2 := Lib.hid (own_below Ho.out b2)
    go_wp2_with fail
    refine (specDValid_any ds _ _ hs2.out).mono ?_
    rintro e w3 ⟨rfl, b3⟩
    have hs3 := Lib.hid (SlF.below hs2.out b3)
    have ho3 := Lib.hid (own_below ho2.out b3)
    have hz3 : w1.heap.size ≤ w3.heap.size := Nat.le_trans b2.size b3.size
    have ha3 := own_alloc ho3.out (.cells #[] 32)
    obtain ⟨g', c', hgc, _, _, _, hcell⟩ := own_ad ha3 (by simp)
    simp only [Value.slice.injEq, Option.some.injEq, Addr.mk.injEq, true_and, and_true] at hgc
    obtain ⟨rfl, rfl⟩ := hgc
    have hcell := Lib.hid hcell
    clear ha3
    go_wp2_with (at_builtin; refine Hid.out ?_); refine Lib.hid ?_
    refine wpList_app (s := .tmp 16) (x := .tmp 17) rfl 25 32 (.agg #[.int .i64 0, .int .i64 0, .int .i64 0]) 3 24 rfl Try.underlying25 infoD rfl (by decide) (by decide) w3.heap.size _ 0 [] rfl (own_made w3 _ _ _ (Nat.le_refl _)) ⟨g, 0, none⟩ ds.length c (cellsD ds) rfl (flat_length encD 3 (fun _ => rfl) ds) hcell.out ?_ (by omega) (by simp) ?_
    · intro u hu
      obtain ⟨d, _, hd⟩ := List.mem_flatMap.mp hu
      simp [encD] at hd
      rcases hd with rfl | rfl | rfl <;> rfl
    intro v4 w4 ho4 hg4 hn4
    have b4 : Below w3.heap.size w3 w4 := Below.grown (below_al _ _) hg4 (by simp only [World.size_alloc]; omega) (own_gt (own_made w3 _ 32 3 (Nat.le_refl _)))
    simp only [Nat.zero_add, List.nil_append] at ho4
    clear hg4 hn4
    have ho4' := Lib.hid ho4
    have hz4 := b4.size
    go_wp2_with (at_builtin; refine Hid.out ?_); refine Lib.hid ?_
    refine wpList_app (s := .tmp 18) (x := .tmp 20) rfl 25 32 (.agg #[.int .i64 0, .int .i64 0, .int .i64 0]) 3 24 rfl Try.underlying25 infoD rfl (by decide) (by decide) w3.heap.size _ ds.length (cellsD ds) rfl (own_alloc ho4'.out _) ⟨w4.heap.size, 0, none⟩ 1 1 (encD ⟨2, 2, 1⟩) rfl rfl (news_bk Bk.new) (by intro u hu; simp [encD] at hu; (first | (rcases hu with rfl | rfl | rfl | rfl <;> rfl) | (rcases hu with rfl | rfl | rfl <;> rfl) | (rcases hu with rfl | rfl <;> rfl) | (subst hu; rfl))) (by omega) (by simp only [World.size_alloc]; omega) ?_
    intro v5 w5 ho5 hg5 hn5
    have b5 : Below w3.heap.size w3 w5 := Below.grown (Below.al b4 _) hg5 (by simp only [World.size_alloc]; omega) (own_gt ho4'.out)
    clear hg5 hn5
    have hs5 : Hid (SlD w5 v5 (ds ++ [⟨2, 2, 1⟩])) := by
      have h5 := own_sl ho5
      unfold SlD
      rw [cellsD_app]
      simpa [cellsD, encD, Hid] using h5
    have hs6 := Lib.hid (SlF.below hs3.out b5)
    have c1 := implDValid_any _ _ _ hs5.out
    rw [hd2] at c1
    cases hdv : dValid ds
    · go_wp2_with (first | (go_at_call 12; with_reducible refine c1.mono ?_; rintro e w6 ⟨rfl, b6⟩) | (go_at_call 15; refine (alive_any _).mono ?_; rintro e w' ⟨rfl, rfl⟩))
      go_ret
      refine ⟨rfl, ?_⟩
      (repeat' first | (with_reducible exact Below.refl _ _) | (with_reducible refine Below.rd (by assumption) ?_ ?_) | (with_reducible refine Below.via (by assumption) ?_) | (with_reducible refine Below.al ?_ _) | (with_reducible refine Below.dn ?_ _) | (with_reducible refine Below.dr ?_) | (with_reducible refine Below.setCell ?_ ?_ _) | (dsimp only; omega) | (simp only [World.size_alloc, World.size_drew]; omega) | (simp; done) | omega)
    · have hdq := hd3 hdv
      by_cases hcc : c = ds.length / 2
      · go_wp2_with (first | (go_at_call 12; with_reducible refine c1.mono ?_; rintro e w6 ⟨rfl, b6⟩))
        have s6 := slD_drop (SlF.below hs6.out b6) (ds.length / 2) (by omega)
        simp only [sliced, if_pos hcc] at s6
        simp only [hcc, Nat.sub_self] at s6
        have c2 := implDValid_any _ _ _ s6
        rw [hdq] at c2
        refine c2.mono ?_
        rintro e w7 ⟨rfl, b7⟩
        go_wp2_with ((go_at_call 15; refine (alive_any _).mono ?_; rintro e w' ⟨rfl, rfl⟩))
        go_ret
        refine ⟨rfl, ?_⟩
        (repeat' first | (with_reducible exact Below.refl _ _) | (with_reducible refine Below.rd (by assumption) ?_ ?_) | (with_reducible refine Below.via (by assumption) ?_) | (with_reducible refine Below.al ?_ _) | (with_reducible refine Below.dn ?_ _) | (with_reducible refine Below.dr ?_) | (with_reducible refine Below.setCell ?_ ?_ _) | (dsimp only; omega) | (simp only [World.size_alloc, World.size_drew]; omega) | (simp; done) | omega)
      · go_wp2_with (first | (go_at_call 12; with_reducible refine c1.mono ?_; rintro e w6 ⟨rfl, b6⟩))
        have s6 := slD_drop (SlF.below hs6.out b6) (ds.length / 2) (by omega)
        simp only [sliced, if_neg hcc, Option.map_some, addr_add, Nat.zero_add] at s6
        have c2 := implDValid_any _ _ _ s6
        rw [hdq] at c2
        refine c2.mono ?_
        rintro e w7 ⟨rfl, b7⟩
        go_wp2_with ((go_at_call 15; refine (alive_any _).mono ?_; rintro e w' ⟨rfl, rfl⟩))
        go_ret
        refine ⟨rfl, ?_⟩
        (repeat' first | (with_reducible exact Below.refl _ _) | (with_reducible refine Below.rd (by assumption) ?_ ?_) | (with_reducible refine Below.via (by assumption) ?_) | (with_reducible refine Below.al ?_ _) | (with_reducible refine Below.dn ?_ _) | (with_reducible refine Below.dr ?_) | (with_reducible refine Below.setCell ?_ ?_ _) | (dsimp only; omega) | (simp only [World.size_alloc, World.size_drew]; omega) | (simp; done) | omega)
end Go.Proofs.Ytjmjpejkongipaa
