/-
  The law on valid tuples, walked. Condition: the bytes can be read.
-/
import Derived.Test.YtfeaclnbkmaeeaaTue
import Derived.Test.YtfeaclnbkmaeeaaUa
set_option linter.unusedSimpArgs false
set_option linter.unusedVariables false
namespace Go.Proofs.Ytfeaclnbkmaeeaa
open Go.RowKit
theorem tValid_two (ds : List Tup) : tValid (ds ++ [⟨0, ⟨#[]⟩, 0, ⟨#[]⟩⟩]) = false := by
  simp [tValid, List.all_append, tOk, nameOk]
theorem tValid_drop (ds : List Tup) (l : Nat) (h : tValid ds = true) : tValid (ds.drop l) = true := by
  simp only [tValid, Bool.and_eq_true, List.all_eq_true, decide_eq_true_eq, List.length_drop] at h ⊢
  exact ⟨fun x hx => h.1 x (List.mem_of_mem_drop hx), by omega⟩
theorem slT_drop {w : World} {a : Option Addr} {c : Nat} {ds : List Tup} (h : SlT w (.slice a ds.length c) ds) (k : Nat) (hk : k ≤ ds.length) : SlT w (sliced a k ds.length c 4) (ds.drop k) := by
  have s := SlF.drop h k hk
  unfold SlT
  rw [List.length_drop]
  unfold cellsT at s ⊢
  rw [drop_flat encT 4 (fun _ => rfl)] at s
  exact s
theorem tuStr {ds : List Tup} (h : ∀ d ∈ ds, TuBd d) : ∀ d ∈ ds, Str d := fun d hd => by
  have := (h d hd).s1
  have := (h d hd).s3
  unfold Str maxLen
  omega
theorem tuStr2 {ds : List Tup} (h : ∀ d ∈ ds, Str d) : ∀ d ∈ ds ++ [⟨0, ⟨#[]⟩, 0, ⟨#[]⟩⟩], Str d := fun d hd => by
  rcases List.mem_append.1 hd with h1 | h1
  · exact h d h1
  · simp at h1
    subst h1
    exact ⟨Nat.zero_le _, Nat.zero_le _⟩
/-- Tuples are drawn from bytes. -/
def TuD (w : World) (e : Ending) (w' : World) : Prop :=
  ∃ (v : Value) (ds : List Tup), e = .returned v ∧ v ≠ .slice none 0 0 ∧ ds.length ≤ 9 ∧ (∀ d ∈ ds, TuBd d) ∧ w'.ownsRow w.heap.size 32 4 v ds.length (cellsT ds) ∧ Below w.heap.size w w'
theorem drawTuplesValid_any (a : Option Addr) (len cap : Nat) (w : World) (h : Bytes w a len cap) : Calls Try.prog 14 #[.slice a len cap] w (TuD w) := by
  have H := Lib.hid h
  clear h
  go_enter Try.func14, Try.ntmps14
  go_wp2_with fail
  refine (open_any a len cap _ H.out).mono ?_
  rintro e w1 ⟨rfl, r1, h1⟩
  have zb := r1.lt
  have z1 := h1.size
  go_wp2_with fail
  refine (l20Tuples_any _ 2 _ _ r1 (by omega) (by omega) (by omega)).mono ?_
  rintro e w2 ⟨v, ds, rfl, hv, hl, hbd, ho, r2⟩
  go_wp2_with fail
  go_ret
  refine ⟨v, ds, rfl, hv, hl, hbd, own_lo ho z1, ?_⟩
  (repeat' first | (with_reducible exact Below.refl _ _) | (with_reducible refine Below.rd (by assumption) ?_ ?_) | (with_reducible refine Below.via (by assumption) ?_) | (with_reducible refine Below.al ?_ _) | (with_reducible refine Below.dn ?_ _) | (with_reducible refine Below.dr ?_) | (with_reducible refine Below.setCell ?_ ?_ _) | (dsimp only; omega) | (simp only [World.size_alloc, World.size_drew]; omega) | (simp; done) | omega)
set_option maxHeartbeats 1600000 in
theorem tuplesValid_walk (a : Option Addr) (len cap : Nat) (w : World) (h : Bytes w a len cap) : Calls Try.prog 4 #[.slice a len cap] w fun e w' => e = .returned (.bool true) ∧ Below w.heap.size w w' := by
  have h1 := h.1
  have h2 := h.2.1
  unfold maxLen at h2
  have H := Lib.hid h
  clear h
  have hmk0 : ∀ w : World, (Instr.buildSlice 25 0 #[]).run Try.prog w = .ok (.slice (some ⟨w.heap.size, 0, none⟩) 0 0) (w.alloc (.cells #[] 32)) := fun w => by kernel_rfl
  by_cases hl : 1048576 < len
  · go_enter Try.func4, Try.ntmps4
    go_wp2_with fail
    go_ret
    exact ⟨rfl, Below.refl _ _⟩
  · go_enter Try.func4, Try.ntmps4
    go_wp2_with fail
    refine (drawTuplesValid_any a len cap _ H.out).mono ?_
    rintro e w1 ⟨v, ds, rfl, hv, hlen, hbd, ho, b1⟩
    obtain ⟨g, c, rfl, hg, hn, hc, hcell⟩ := own_ad ho hv
    have hs1 := own_sl ho
    have Hs := Lib.hid hs1
    have HT := Lib.hid (tuStr hbd)
    have HT2 := Lib.hid (tuStr2 (tuStr hbd))
    have HT3 := Lib.hid (fun d (h : d ∈ ds.drop (ds.length / 2)) => tuStr hbd d (List.mem_of_mem_drop h))
    clear hbd
    have Ho := Lib.hid ho
    clear hcell hs1 ho hv
    have hd2 := tValid_two ds
    have hd3 := fun h => tValid_drop ds (ds.length / 2) h
    go_wp2_with fail
    refine (implTValid_any ds _ _ Hs.out HT.out).mono ?_
    rintro e w2 ⟨rfl, b2⟩
    have hs2 := Lib.hid (SlF.below Hs.out b2)
    have ho2 := Lib.hid (own_below Ho.out b2)
    go_wp2_with fail
    refine (specTValid_any ds _ _ hs2.out HT.out).mono ?_
    rintro e w3 ⟨rfl, b3⟩
    have hs3 := Lib.hid (SlF.below hs2.out b3)
    have ho3 := Lib.hid (own_below ho2.out b3)
    have hz3 : w1.heap.size ≤ w3.heap.size := Nat.le_trans b2.size b3.size
    have ha3 := own_alloc ho3.out (.cells #[] 32)
    obtain ⟨g', c', hgc, _, _, _, hcell⟩ := own_ad ha3 (by simp)
    simp only [Value.slice.injEq, Option.some.injEq, Addr.mk.injEq, true_and, and_true] at hgc
    obtain ⟨rfl, rfl⟩ := hgc
    have hcell := Lib.hid hcell
    clear ha3
    go_wp2_with (at_builtin; refine Hid.out ?_); refine Lib.hid ?_
    refine wpList_app (s := .tmp 16) (x := .tmp 17) rfl 25 32 (.agg #[.int .i64 0, .string ⟨#[]⟩, .int .i64 0, .string ⟨#[]⟩]) 4 48 rfl Try.underlying25 infoT rfl (by decide) (by decide) w3.heap.size _ 0 [] rfl (own_made w3 _ _ _ (Nat.le_refl _)) ⟨g, 0, none⟩ ds.length c (cellsT ds) rfl (flat_length encT 4 (fun _ => rfl) ds) hcell.out ?_ (by omega) (by simp) ?_
    · intro u hu
      obtain ⟨d, _, hd⟩ := List.mem_flatMap.mp hu
      simp [encT] at hd
      rcases hd with rfl | rfl | rfl | rfl <;> rfl
    intro v4 w4 ho4 hg4 hn4
    have b4 : Below w3.heap.size w3 w4 := Below.grown (below_al _ _) hg4 (by simp only [World.size_alloc]; omega) (own_gt (own_made w3 _ 32 4 (Nat.le_refl _)))
    simp only [Nat.zero_add, List.nil_append] at ho4
    clear hg4 hn4
    have ho4' := Lib.hid ho4
    have hz4 := b4.size
    go_wp2_with (at_builtin; refine Hid.out ?_); refine Lib.hid ?_
    refine wpList_app (s := .tmp 18) (x := .tmp 20) rfl 25 32 (.agg #[.int .i64 0, .string ⟨#[]⟩, .int .i64 0, .string ⟨#[]⟩]) 4 48 rfl Try.underlying25 infoT rfl (by decide) (by decide) w3.heap.size _ ds.length (cellsT ds) rfl (own_alloc ho4'.out _) ⟨w4.heap.size, 0, none⟩ 1 1 (encT ⟨0, ⟨#[]⟩, 0, ⟨#[]⟩⟩) rfl rfl (news_bk Bk.new) (fun u hu => List.all_eq_true.mp (show List.all (encT ⟨0, ⟨#[]⟩, 0, ⟨#[]⟩⟩) Value.oneCell' = true from rfl) u hu) (by omega) (by simp only [World.size_alloc]; omega) ?_
    intro v5 w5 ho5 hg5 hn5
    have b5 : Below w3.heap.size w3 w5 := Below.grown (Below.al b4 _) hg5 (by simp only [World.size_alloc]; omega) (own_gt ho4'.out)
    clear hg5 hn5
    have hs5 : Hid (SlT w5 v5 (ds ++ [⟨0, ⟨#[]⟩, 0, ⟨#[]⟩⟩])) := by
      have h5 := own_sl ho5
      unfold SlT
      rw [appCellsT]
      simpa [cellsT, encT, Hid] using h5
    have hs6 := Lib.hid (SlF.below hs3.out b5)
    have c1 := implTValid_any _ _ _ hs5.out HT2.out
    rw [hd2] at c1
    cases hdv : tValid ds
    · go_wp2_with (first | (go_at_call 12; with_reducible refine c1.mono ?_; rintro e w6 ⟨rfl, b6⟩) | (go_at_call 15; refine (alive_any _).mono ?_; rintro e w' ⟨rfl, rfl⟩))
      go_ret
      refine ⟨rfl, ?_⟩
      (repeat' first | (with_reducible exact Below.refl _ _) | (with_reducible refine Below.rd (by assumption) ?_ ?_) | (with_reducible refine Below.via (by assumption) ?_) | (with_reducible refine Below.al ?_ _) | (with_reducible refine Below.dn ?_ _) | (with_reducible refine Below.dr ?_) | (with_reducible refine Below.setCell ?_ ?_ _) | (dsimp only; omega) | (simp only [World.size_alloc, World.size_drew]; omega) | (simp; done) | omega)
    · have hdq := hd3 hdv
      by_cases hcc : c = ds.length / 2
      · go_wp2_with (first | (go_at_call 12; with_reducible refine c1.mono ?_; rintro e w6 ⟨rfl, b6⟩))
        have s6 := slT_drop (SlF.below hs6.out b6) (ds.length / 2) (by omega)
        simp only [sliced, if_pos hcc] at s6
        simp only [hcc, Nat.sub_self] at s6
        have c2 := implTValid_any _ _ _ s6 HT3.out
        rw [hdq] at c2
        refine c2.mono ?_
        rintro e w7 ⟨rfl, b7⟩
        go_wp2_with ((go_at_call 15; refine (alive_any _).mono ?_; rintro e w' ⟨rfl, rfl⟩))
        go_ret
        refine ⟨rfl, ?_⟩
        (repeat' first | (with_reducible exact Below.refl _ _) | (with_reducible refine Below.rd (by assumption) ?_ ?_) | (with_reducible refine Below.via (by assumption) ?_) | (with_reducible refine Below.al ?_ _) | (with_reducible refine Below.dn ?_ _) | (with_reducible refine Below.dr ?_) | (with_reducible refine Below.setCell ?_ ?_ _) | (dsimp only; omega) | (simp only [World.size_alloc, World.size_drew]; omega) | (simp; done) | omega)
      · go_wp2_with (first | (go_at_call 12; with_reducible refine c1.mono ?_; rintro e w6 ⟨rfl, b6⟩))
        have s6 := slT_drop (SlF.below hs6.out b6) (ds.length / 2) (by omega)
        simp only [sliced, if_neg hcc, Option.map_some, addr_add, Nat.zero_add] at s6
        have c2 := implTValid_any _ _ _ s6 HT3.out
        rw [hdq] at c2
        refine c2.mono ?_
        rintro e w7 ⟨rfl, b7⟩
        go_wp2_with ((go_at_call 15; refine (alive_any _).mono ?_; rintro e w' ⟨rfl, rfl⟩))
        go_ret
        refine ⟨rfl, ?_⟩
        (repeat' first | (with_reducible exact Below.refl _ _) | (with_reducible refine Below.rd (by assumption) ?_ ?_) | (with_reducible refine Below.via (by assumption) ?_) | (with_reducible refine Below.al ?_ _) | (with_reducible refine Below.dn ?_ _) | (with_reducible refine Below.dr ?_) | (with_reducible refine Below.setCell ?_ ?_ _) | (dsimp only; omega) | (simp only [World.size_alloc, World.size_drew]; omega) | (simp; done) | omega)
end Go.Proofs.Ytfeaclnbkmaeeaa
