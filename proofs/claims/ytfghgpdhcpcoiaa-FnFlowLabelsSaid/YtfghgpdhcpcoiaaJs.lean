/-
  The law on valid moves, walked. Condition: the bytes can be read.
-/
import Derived.Test.YtfghgpdhcpcoiaaJh
import Derived.Test.YtfghgpdhcpcoiaaJf
set_option linter.unusedSimpArgs false
set_option linter.unusedVariables false
namespace Go.Proofs.Ytfghgpdhcpcoiaa
open Go.RowKit
theorem OwnM.lo {T : Nat} {w : World} {lo S lo' : Nat} {v : Value} {ds : List Mv} (h : OwnM T w lo S v ds) (hl : lo' ≤ lo) : OwnM T w lo' S v ds := by
  obtain ⟨us, h1, h2, h3, h4⟩ := h
  exact ⟨us, h1, own_lo h2 hl, h3, fun i hi hi2 => ⟨own_lo (h4 i hi hi2).1 hl, (h4 i hi hi2).2⟩⟩
theorem cellsM_one (us : List Value) (ds : List Mv) (h : ∀ u ∈ us, u.oneCell' = true) : ∀ u ∈ cellsM us ds, u.oneCell' = true := fun u hu => by
  obtain ⟨p, hp, hq⟩ := List.mem_flatMap.mp hu
  simp only [encM, List.mem_cons, List.not_mem_nil, or_false] at hq
  rcases hq with rfl | rfl
  · exact h _ (List.of_mem_zip hp).1
  · rfl
theorem slI_one_cell {w : World} {v : Value} {ns : List Int} (h : SlI w v ns) : v.oneCell' = true := by
  obtain ⟨a, c, rfl, _, _⟩ := SlF.shape h
  rfl
theorem SlM.snoc {w : World} {v : Value} {us : List Value} {ds : List Mv} (h : us.length = ds.length) {u : Value} {d : Mv} (hs : SlF w v 2 (ds.length + 1) (cellsM us ds ++ [u, .int .i64 d.n])) (hi : ∀ i (h : i < ds.length) (h2 : i < us.length), SlI w us[i] ds[i].xs) (hu : SlI w u d.xs) : SlM w v (ds ++ [d]) := by
  refine ⟨us ++ [u], by simp [h], ?_, fun i hi1 hi2 => ?_⟩
  · rw [cellsM_snoc us ds h, List.length_append]
    exact hs
  · by_cases hlt : i < ds.length
    · have hlt2 : i < us.length := by omega
      rw [List.getElem_append_left hlt2, List.getElem_append_left hlt]
      exact hi i hlt hlt2
    · have hie : i = ds.length := by simp at hi1; omega
      subst hie
      rw [List.getElem_append_right (by omega), List.getElem_append_right (by omega)]
      have e1 : (us.length : Nat) = ds.length := h
      simp only [← e1, Nat.sub_self, List.getElem_cons_zero]
      exact hu
theorem SlM.drop {w : World} {a : Option Addr} {c : Nat} {ds : List Mv} (h : SlM w (.slice a ds.length c) ds) (k : Nat) (hk : k ≤ ds.length) : SlM w (sliced a k ds.length c 2) (ds.drop k) := by
  obtain ⟨us, h1, h2, h3⟩ := h
  refine ⟨us.drop k, by simp [h1], ?_, fun i hi hi2 => ?_⟩
  · have s := SlF.drop h2 k hk
    rw [List.length_drop]
    unfold cellsM at s ⊢
    rw [drop_flat encM 2 encM_len] at s
    simp only [List.zip, List.drop_zipWith] at s ⊢
    exact s
  · rw [List.getElem_drop, List.getElem_drop]
    exact h3 (k + i) (by simp at hi; omega) (by simp at hi2; omega)
theorem mvValid_two (many : Int) (ds : List Mv) : mvValidS many (ds ++ [⟨[], -1⟩]) = false := by
  rw [← mvValid_eq]
  simp [mvValidI, List.all_append, mvOkI, inR]
theorem mvValid_drop (many : Int) (ds : List Mv) (l : Nat) (h : mvValidS many ds = true) : mvValidS many (ds.drop l) = true := by
  simp only [mvValidS, Bool.and_eq_true, List.all_eq_true, decide_eq_true_eq, List.length_drop] at h ⊢
  exact ⟨fun x hx => h.1 x (List.mem_of_mem_drop hx), h.2.1, by omega⟩
/-- Moves are drawn from bytes. -/
def MoD (w : World) (e : Ending) (w' : World) : Prop :=
  ∃ (many : Int) (v : Value) (ds : List Mv), e = .returned (.tuple #[.int .i64 many, v]) ∧ v ≠ .slice none 0 0 ∧ ds.length ≤ 6 ∧ OwnM 34 w' w.heap.size w'.heap.size v ds ∧ Below w.heap.size w w'
set_option maxHeartbeats 1600000 in
theorem drawMovesValid_any (a : Option Addr) (len cap : Nat) (w : World) (h : Bytes w a len cap) : Calls Try.prog 16 #[.slice a len cap] w (MoD w) := by
  have H := Lib.hid h
  clear h
  go_enter Try.func16, Try.ntmps16
  go_wp2_with fail
  refine (open_any a len cap _ H.out).mono ?_
  rintro e w1 ⟨rfl, r1, h1⟩
  have zb := r1.lt
  have z1 := h1.size
  go_wp2_with fail
  refine (pick_any _ 4 _ _ r1 (by omega) (by omega)).mono ?_
  rintro e w2 ⟨x, rfl, lo, hi, r2⟩
  have z2 := r2.size
  go_wp2_with fail
  refine (pick_any _ 6 _ _ ((r2.rd.below (below_al _ _)).below (below_al _ _)) (by omega) (by omega)).mono ?_
  rintro e w3 ⟨y, rfl, lo3, hi3, r3⟩
  have z3 := r3.size
  have k1 := (Bk.alloc (Bk.new (w := w2) (vs := #[.int .i64 (1 + x), .int .i64 0, .int .i64 7]) (t := 3)) (.cells #[.int .i64 0, .int .i64 0, .int .i64 0, .int .i64 0, .int .i64 1, .int .i64 2] 3)).rdn r3 (by omega)
  have k2 := (bk_atb (W := w2.alloc (.cells #[.int .i64 (1 + x), .int .i64 0, .int .i64 7] 3)) (vs := #[.int .i64 0, .int .i64 0, .int .i64 0, .int .i64 0, .int .i64 1, .int .i64 2]) (t := 3) (g := w2.heap.size + 1) (by simp)).rdn r3 (by omega)
  obtain ⟨m, rfl⟩ : ∃ m : Nat, y = m := ⟨y.toNat, by omega⟩
  obtain ⟨q, hq, hc⟩ : ∃ q : Nat, q < 3 ∧ w3.cell? ⟨w2.heap.size + 1, m, none⟩ = some (.int .i64 q) := by
    rcases (show m = 0 ∨ m = 1 ∨ m = 2 ∨ m = 3 ∨ m = 4 ∨ m = 5 by omega) with rfl | rfl | rfl | rfl | rfl | rfl
    iterate 4 exact ⟨0, by omega, (k2.cell _).trans rfl⟩
    · exact ⟨1, by omega, (k2.cell _).trans rfl⟩
    · exact ⟨2, by omega, (k2.cell _).trans rfl⟩
  obtain ⟨many, hm0, hm9, hd⟩ : ∃ many : Int, 0 ≤ many ∧ many ≤ 12 ∧ w3.cell? ⟨w2.heap.size, q, none⟩ = some (.int .i64 many) := by
    rcases (show q = 0 ∨ q = 1 ∨ q = 2 by omega) with rfl | rfl | rfl
    · exact ⟨_, by omega, by omega, (k1.cell _).trans rfl⟩
    · exact ⟨_, by omega, by omega, (k1.cell _).trans rfl⟩
    · exact ⟨_, by omega, by omega, (k1.cell _).trans rfl⟩
  clear k1 k2
  go_wp2_with fail
  refine (l20Moves_any _ many 3 _ _ r3.rd (by omega) (by omega) (by omega) hm0 hm9).mono ?_
  rintro e w4 ⟨v, ds, rfl, hv, hl, _, ho, r4⟩
  simp only [World.size_alloc] at z3
  have HO := Lib.hid ho
  have HV := Lib.hid hv
  clear ho hv
  go_wp2_with fail
  go_ret2
  refine ⟨_, v, ds, rfl, HV.out, hl, HO.out.lo (by omega), ?_⟩
  (repeat' first | (with_reducible exact Below.refl _ _) | (with_reducible refine Below.rd (by assumption) ?_ ?_) | (with_reducible refine Below.via (by assumption) ?_) | (with_reducible refine Below.al ?_ _) | (with_reducible refine Below.dn ?_ _) | (with_reducible refine Below.dr ?_) | (with_reducible refine Below.setCell ?_ ?_ _) | (dsimp only; omega) | (simp only [World.size_alloc, World.size_drew]; omega) | (simp; done) | omega)
set_option maxRecDepth 100000 in
set_option maxHeartbeats 3200000 in
theorem movesValid_walk (a : Option Addr) (len cap : Nat) (w : World) (h : Bytes w a len cap) : Calls Try.prog 4 #[.slice a len cap] w fun e w' => e = .returned (.bool true) ∧ Below w.heap.size w w' := by
  have h1 := h.1
  have h2 := h.2.1
  unfold maxLen at h2
  have H := Lib.hid h
  clear h
  have hmk0 : ∀ w : World, (Instr.buildSlice 25 0 #[]).run Try.prog w = .ok (.slice (some ⟨w.heap.size, 0, none⟩) 0 0) (w.alloc (.cells #[] 34)) := fun w => by kernel_rfl
  by_cases hl : 1048576 < len
  · go_enter Try.func4, Try.ntmps4
    go_wp2_with fail
    go_ret
    exact ⟨rfl, Below.refl _ _⟩
  · go_enter Try.func4, Try.ntmps4
    go_wp2_with fail
    refine (drawMovesValid_any a len cap _ H.out).mono ?_
    rintro e w1 ⟨many, v, ds, rfl, hv, hlen, ho, b1⟩
    obtain ⟨us, hus, hown, _, hin⟩ := ho
    obtain ⟨g, c, rfl, hg, hn, hc, _⟩ := own_ad hown hv
    have HS1 := Lib.hid (show SlM w1 (.slice (some ⟨g, 0, none⟩) ds.length c) ds from ⟨us, hus, own_sl hown, fun i hi hi2 => own_sl (hin i hi hi2).1⟩)
    have HF1 := Lib.hid (own_sl hown)
    have HI1 := Lib.hid (fun i h h2 => own_sl (hin i h h2).1)
    have HONE := Lib.hid (cellsM_one us ds (fun u hu => by
      obtain ⟨i, hi, rfl⟩ := List.mem_iff_getElem.1 hu
      exact slI_one_cell (own_sl (hin i (by omega) hi).1)))
    clear hown hin hv
    unfold maxLen at hc
    have HI := fun v wx h => implMvValid_any many ds v wx h
    simp only [mvValid_eq] at HI
    have HS := fun v wx h => specMvValid_any many ds v wx h
    have HI2 := fun v wx h => implMvValid_any many (ds ++ [⟨[], -1⟩]) v wx h
    simp only [mvValid_eq, mvValid_two] at HI2
    have HI3 := fun v wx h => implMvValid_any many (ds.drop (ds.length / 2)) v wx h
    simp only [mvValid_eq] at HI3
    have hd3 := fun h => mvValid_drop many ds (ds.length / 2) h
    generalize mvValidS many ds = R at HI HS hd3
    have hnb : (R != R) = false := by simp
    go_wp2_with fail
    refine (HI _ _ HS1.out).mono ?_
    rintro e w2 ⟨rfl, b2⟩
    go_wp2_with fail
    refine (HS _ _ (SlM.below HS1.out b2)).mono ?_
    rintro e w3 ⟨rfl, b3⟩
    have hB3 := Below.via b3 b2
    have hz3 := hB3.size
    have hBw3 := Below.via hB3 b1
    clear HI HS
    go_wp2_with (at_builtin; refine Hid.out ?_); refine Lib.hid ?_
    have hA := Below.al hB3 (.cells #[] 34)
    have hs9 := Lib.hid (SlF.below HF1.out hA)
    refine wpList_appS (s := .tmp 23) (x := .tmp 24) rfl 25 34 (.agg #[.slice none 0 0, .int .i64 0]) 2 32 rfl Try.underlying25 infoMo rfl (by decide) (by decide) w3.heap.size (.slice (some ⟨w3.heap.size, 0, none⟩) 0 0) 0 [] (by rfl) (own_made w3 _ _ _ (Nat.le_refl _)) (.slice (some ⟨g, 0, none⟩) ds.length c) ds.length (cellsM us ds) (by rfl) hs9.out HONE.out (by omega) (by simp) ?_
    intro v4 w4 ho4 hg4 _ _
    have b4 : Below w3.heap.size w3 w4 := Below.grown (below_al _ _) hg4 (by simp only [World.size_alloc]; omega) (own_gt (own_made w3 _ 34 2 (Nat.le_refl _)))
    simp only [Nat.zero_add, List.nil_append] at ho4
    clear hg4 hs9 hA
    have ho4' := Lib.hid ho4
    clear ho4
    have hz4 := b4.size
    go_wp2_with (at_builtin; refine Hid.out ?_); refine Lib.hid ?_
    refine wpList_appS (s := .tmp 25) (x := .tmp 27) rfl 25 34 (.agg #[.slice none 0 0, .int .i64 0]) 2 32 rfl Try.underlying25 infoMo rfl (by decide) (by decide) w3.heap.size v4 ds.length (cellsM us ds) (by rfl) (own_alloc ho4'.out _) (.slice (some ⟨w4.heap.size, 0, none⟩) 1 1) 1 [.slice none 0 0, .int .i64 (-1)] (by rfl) (slF_bk (k := 2) (n := 1) (cs := [.slice none 0 0, .int .i64 (-1)]) (bk_atb rfl) rfl (by omega)) (by intro u hu; simp at hu; rcases hu with rfl | rfl <;> rfl) (by omega) (by simp only [World.size_alloc]; omega) ?_
    intro v5 w5 ho5 hg5 _ _
    have b5 : Below w3.heap.size w3 w5 := Below.grown (Below.al b4 _) hg5 (by simp only [World.size_alloc]; omega) (own_gt ho4'.out)
    have hB5 := Below.via b5 hB3
    have HS5 := Lib.hid (SlM.snoc (us := us) (ds := ds) (d := ⟨[], -1⟩) hus (own_sl ho5) (fun i h h2 => SlI.below (HI1.out i h h2) hB5) (SlF.nil _ _))
    have HS6 := Lib.hid (SlM.below HS1.out hB5)
    have hBw5 := Below.via hB5 b1
    obtain ⟨va, vc, rfl, _, _⟩ := SlF.shape (own_sl ho5)
    clear hg5 ho5 ho4' HS1 HF1 HI1 b4 hz4
    go_wp2_with fail
    refine (HI2 _ _ HS5.out).mono ?_
    rintro e w6 ⟨rfl, b6⟩
    have hBw6 := Below.via b6 hBw5
    cases R
    · clear HI3
      go_wp2_with ((go_at_call 17; refine (alive_any _).mono ?_; rintro e w' ⟨rfl, rfl⟩))
      go_ret
      exact ⟨rfl, hBw6⟩
    · have hdq := hd3 rfl
      rw [hdq] at HI3
      by_cases hcc : c = ds.length / 2
      · have s6 := SlM.drop (SlM.below HS6.out b6) (ds.length / 2) (by omega)
        simp only [sliced, if_pos hcc] at s6
        simp only [hcc, Nat.sub_self] at s6
        have S6 := Lib.hid s6
        clear s6
        go_wp2_with fail
        refine (HI3 _ _ S6.out).mono ?_
        rintro e w7 ⟨rfl, b7⟩
        go_wp2_with ((go_at_call 17; refine (alive_any _).mono ?_; rintro e w' ⟨rfl, rfl⟩))
        go_ret
        exact ⟨rfl, Below.via b7 hBw6⟩
      · have s6 := SlM.drop (SlM.below HS6.out b6) (ds.length / 2) (by omega)
        simp only [sliced, if_neg hcc, Option.map_some, addr_add, Nat.zero_add] at s6
        have S6 := Lib.hid s6
        clear s6
        go_wp2_with fail
        refine (HI3 _ _ S6.out).mono ?_
        rintro e w7 ⟨rfl, b7⟩
        go_wp2_with ((go_at_call 17; refine (alive_any _).mono ?_; rintro e w' ⟨rfl, rfl⟩))
        go_ret
        exact ⟨rfl, Below.via b7 hBw6⟩
end Go.Proofs.Ytfghgpdhcpcoiaa
