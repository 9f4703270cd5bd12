/-
  Delegations are drawn. Condition: the reader is whole.
-/
import Derived.Test.YtjmjpejkongipaaW
import Derived.Test.YtjmjpejkongipaaD
set_option linter.unusedSimpArgs false
set_option linter.unusedVariables false
namespace Go.Proofs.Ytjmjpejkongipaa
open Go.RowKit
theorem own_rd {w w' : World} {lo e k b : Nat} {M M' : Int} {v : Value} {n : Nat} {cs : List Value} (h : w.ownsRow lo e k v n cs) (r : Reads b M M' w w') (hb : b < lo) : w'.ownsRow lo e k v n cs :=
  h.kept r.step (by
    cases hv : v.ownBlock with
    | none => exact .inl rfl
    | some j => right; intro e; have := own_gt h j hv; simp at e; omega)
theorem cellsD_app (xs ys : List Deleg) : cellsD (xs ++ ys) = cellsD xs ++ cellsD ys := by simp [cellsD]
/-- Delegations are drawn. -/
def DelS (b : Nat) (M : Int) (w : World) (e : Ending) (w' : World) : Prop :=
  ∃ (v : Value) (ds : List Deleg), e = .returned v ∧ v ≠ .slice none 0 0 ∧ ds.length ≤ 8 ∧ w'.ownsRow w.heap.size 32 3 v ds.length (cellsD ds) ∧ Reads b M (M + 40) w w'
theorem l20Delegations_any (b : Nat) (n M : Int) (w : World) (h : Rd w b M) (hM : M ≤ 1099511627776 - 40) (hn : 0 ≤ n) (hn2 : n ≤ 1099511627776) :
    Calls Try.prog 33 #[.pointer (some ⟨b, 0, none⟩), .int .i64 n] w (DelS b M w) := by
  have hlt := h.lt
  have H := Lib.hid h
  clear h
  have hmk0 : ∀ w : World, (Instr.buildSlice 25 0 #[]).run Try.prog w = .ok (.slice (some ⟨w.heap.size, 0, none⟩) 0 0) (w.alloc (.cells #[] 32)) := fun w => by kernel_rfl
  go_enter Try.func33, Try.ntmps33
  go_wp2_with fail
  refine (pick_any b 8 _ _ (H.out.below (below_al _ _)) (by omega) (by omega)).mono ?_
  rintro e w1 ⟨x, rfl, xlo, xhi, r1⟩
  have o1 := Lib.hid (own_rd (own_made w w.heap.size 32 3 (Nat.le_refl _)) r1 hlt)
  go_wp2_with fail
  go_loopw [5, 6] (fun v i wr => ∃ (k : Int) (ds : List Deleg), 0 ≤ k ∧ k ≤ 7 ∧ i = .int .i64 k ∧ (ds.length : Int) ≤ 7 - k ∧ Hid (v ≠ .slice none 0 0) ∧ Hid (wr.ownsRow w.heap.size 32 3 v ds.length (cellsD ds)) ∧ Reads b M (M + 1 + 3 * (7 - k)) w wr) (fun _ i _ => (intOf i).toNat)
  case atStart =>
    refine ⟨x, [], xlo, by omega, rfl, by simp; omega, by simp [Hid], o1.out, ?_⟩
    (refine Reads.mono (M' := ?_) ?_ ?_; rotate_left; (repeat' first | (with_reducible exact Reads.refl H.out) | (with_reducible refine Reads.via (by assumption) ?_) | (with_reducible refine Reads.grow (by assumption) ?_) | (with_reducible refine Reads.al ?_ _) | (with_reducible refine Reads.dr ?_) | (with_reducible refine Reads.set ?_ hlt ?_ _ _) | omega))
  case round =>
    obtain ⟨k, ds, hk0, hk7, rfl, hlen, hv, ho, hR⟩ := hrel
    by_cases hk : 0 < k
    · have hkd : decide (0 < k) = true := by simpa using hk
      go_wp2_with fail
      refine (pick_any b 4 _ _ hR.rd (by omega) (by omega)).mono ?_
      rintro e w2 ⟨x2, rfl, lo2, hi2, r2⟩
      go_wp2_with fail
      refine (pick_any b 3 _ _ r2.rd (by omega) (by omega)).mono ?_
      rintro e w3 ⟨x3, rfl, lo3, hi3, r3⟩
      go_wp2_with fail
      refine (pick_any b 15 _ _ r3.rd (by omega) (by omega)).mono ?_
      rintro e w4 ⟨x4, rfl, lo4, hi4, r4⟩
      have ho4 := own_rd (own_rd (own_rd ho.out r2 hlt) r3 hlt) r4 hlt
      have hz4 := hlt
      go_wp2_with (at_builtin; refine Hid.out ?_); refine Lib.hid ?_
      refine wpList_app (s := .tmp 17) (x := .tmp 29) rfl 25 32 (.agg #[.int .i64 0, .int .i64 0, .int .i64 0]) 3 24 rfl Try.underlying25 infoD rfl (by decide) (by decide) w.heap.size _ ds.length (cellsD ds) rfl (own_alloc ho4 _) ⟨w4.heap.size, 0, none⟩ 1 1 (encD ⟨x2, (x2+1+x3)%4, 1+x4⟩) rfl rfl (news_bk Bk.new) (by intro u hu; simp [encD] at hu; (first | (rcases hu with rfl | rfl | rfl | rfl <;> rfl) | (rcases hu with rfl | rfl | rfl <;> rfl) | (rcases hu with rfl | rfl <;> rfl) | (subst hu; rfl))) (by omega) (by have h2 := hR.step.size; have h3 := r2.step.size; have h4 := r3.step.size; have h5 := r4.step.size; simp only [World.size_alloc]; omega) ?_
      intro v' w5 hown' hgrow hnn
      have hf5 := own_alloc ho4 (.cells #[.int .i64 x2, .int .i64 ((x2+1+x3)%4), .int .i64 (1+x4)] 32)
      go_wp2_with fail
      refine ⟨⟨k - 1, ds ++ [⟨x2, (x2+1+x3)%4, 1+x4⟩], by omega, by omega, rfl, by simp; omega, hnn hv.out, ?_, ?_⟩, by simp only [intOf]; omega⟩
      · show w5.ownsRow _ _ _ _ _ _
        rw [cellsD_app]
        simpa [cellsD, encD] using hown'
      · refine Reads.app hgrow (M' := _) ?_ hlt (own_gt hf5)
        (refine Reads.mono (M' := ?_) ?_ ?_; rotate_left; (repeat' first | (with_reducible exact Reads.refl H.out) | (with_reducible refine Reads.via (by assumption) ?_) | (with_reducible refine Reads.grow (by assumption) ?_) | (with_reducible refine Reads.al ?_ _) | (with_reducible refine Reads.dr ?_) | (with_reducible refine Reads.set ?_ hlt ?_ _ _) | omega))
    · have hkd : decide (0 < k) = false := by simpa using hk
      go_wp2_with fail
      refine (odd_any b n _ _ hR.rd (by omega) (by omega) (by omega)).mono ?_
      rintro e w2 ⟨y, rfl, r2⟩
      have ho2 := own_rd ho.out r2 hlt
      cases y
      · go_wp2_with fail
        go_ret
        refine ⟨_, ds, rfl, hv.out, by omega, ho2, ?_⟩
        (refine Reads.mono (M' := ?_) ?_ ?_; rotate_left; (repeat' first | (with_reducible exact Reads.refl H.out) | (with_reducible refine Reads.via (by assumption) ?_) | (with_reducible refine Reads.grow (by assumption) ?_) | (with_reducible refine Reads.al ?_ _) | (with_reducible refine Reads.dr ?_) | (with_reducible refine Reads.set ?_ hlt ?_ _ _) | omega))
      · go_wp2_with fail
        refine (pick_any b 4 _ _ (r2.rd.below (below_al _ _)) (by omega) (by omega)).mono ?_
        rintro e w3 ⟨x3, rfl, lo3, hi3, r3⟩
        have ks := Bk.new.rd r3 r2.rd.lt
        have xs := ks.cell
        have ho3 := own_rd (own_alloc ho2 _) r3 hlt
        rcases (show x3 = 0 ∨ x3 = 1 ∨ x3 = 2 ∨ x3 = 3 by omega) with rfl | rfl | rfl | rfl
        · go_wp2_with (at_builtin; refine Hid.out ?_); refine Lib.hid ?_
          refine wpList_app (s := .tmp 34) (x := .tmp 44) rfl 25 32 (.agg #[.int .i64 0, .int .i64 0, .int .i64 0]) 3 24 rfl Try.underlying25 infoD rfl (by decide) (by decide) w.heap.size _ ds.length (cellsD ds) rfl (own_alloc ho3 _) ⟨w3.heap.size, 0, none⟩ 1 1 (encD ⟨1, 1, 1⟩) rfl rfl (news_bk Bk.new) (by intro u hu; simp [encD] at hu; (first | (rcases hu with rfl | rfl | rfl | rfl <;> rfl) | (rcases hu with rfl | rfl | rfl <;> rfl) | (rcases hu with rfl | rfl <;> rfl) | (subst hu; rfl))) (by omega) (by have h2 := hR.step.size; have h3 := r2.step.size; have h4 := r3.step.size; simp only [World.size_alloc] at h2 h3 h4 ⊢; omega) ?_
          intro v' w5 hown' hgrow hnn
          have hf5 := own_alloc ho3 (.cells (encD ⟨1, 1, 1⟩).toArray 32)
          go_wp2_with fail
          go_ret
          refine ⟨v', ds ++ [⟨1, 1, 1⟩], rfl, hnn hv.out, by simp; omega, ?_, ?_⟩
          · rw [cellsD_app]
            simpa [cellsD, encD] using hown'
          · refine Reads.app hgrow (M' := _) ?_ hlt (own_gt hf5)
            (refine Reads.mono (M' := ?_) ?_ ?_; rotate_left; (repeat' first | (with_reducible exact Reads.refl H.out) | (with_reducible refine Reads.via (by assumption) ?_) | (with_reducible refine Reads.grow (by assumption) ?_) | (with_reducible refine Reads.al ?_ _) | (with_reducible refine Reads.dr ?_) | (with_reducible refine Reads.set ?_ hlt ?_ _ _) | omega))
        · go_wp2_with (at_builtin; refine Hid.out ?_); refine Lib.hid ?_
          refine wpList_app (s := .tmp 34) (x := .tmp 44) rfl 25 32 (.agg #[.int .i64 0, .int .i64 0, .int .i64 0]) 3 24 rfl Try.underlying25 infoD rfl (by decide) (by decide) w.heap.size _ ds.length (cellsD ds) rfl (own_alloc ho3 _) ⟨w3.heap.size, 0, none⟩ 1 1 (encD ⟨0, 1, 0⟩) rfl rfl (news_bk Bk.new) (by intro u hu; simp [encD] at hu; (first | (rcases hu with rfl | rfl | rfl | rfl <;> rfl) | (rcases hu with rfl | rfl | rfl <;> rfl) | (rcases hu with rfl | rfl <;> rfl) | (subst hu; rfl))) (by omega) (by have h2 := hR.step.size; have h3 := r2.step.size; have h4 := r3.step.size; simp only [World.size_alloc] at h2 h3 h4 ⊢; omega) ?_
          intro v' w5 hown' hgrow hnn
          have hf5 := own_alloc ho3 (.cells (encD ⟨0, 1, 0⟩).toArray 32)
          go_wp2_with fail
          go_ret
          refine ⟨v', ds ++ [⟨0, 1, 0⟩], rfl, hnn hv.out, by simp; omega, ?_, ?_⟩
          · rw [cellsD_app]
            simpa [cellsD, encD] using hown'
          · refine Reads.app hgrow (M' := _) ?_ hlt (own_gt hf5)
            (refine Reads.mono (M' := ?_) ?_ ?_; rotate_left; (repeat' first | (with_reducible exact Reads.refl H.out) | (with_reducible refine Reads.via (by assumption) ?_) | (with_reducible refine Reads.grow (by assumption) ?_) | (with_reducible refine Reads.al ?_ _) | (with_reducible refine Reads.dr ?_) | (with_reducible refine Reads.set ?_ hlt ?_ _ _) | omega))
        · go_wp2_with (at_builtin; refine Hid.out ?_); refine Lib.hid ?_
          refine wpList_app (s := .tmp 34) (x := .tmp 44) rfl 25 32 (.agg #[.int .i64 0, .int .i64 0, .int .i64 0]) 3 24 rfl Try.underlying25 infoD rfl (by decide) (by decide) w.heap.size _ ds.length (cellsD ds) rfl (own_alloc ho3 _) ⟨w3.heap.size, 0, none⟩ 1 1 (encD ⟨0, 7, 1⟩) rfl rfl (news_bk Bk.new) (by intro u hu; simp [encD] at hu; (first | (rcases hu with rfl | rfl | rfl | rfl <;> rfl) | (rcases hu with rfl | rfl | rfl <;> rfl) | (rcases hu with rfl | rfl <;> rfl) | (subst hu; rfl))) (by omega) (by have h2 := hR.step.size; have h3 := r2.step.size; have h4 := r3.step.size; simp only [World.size_alloc] at h2 h3 h4 ⊢; omega) ?_
          intro v' w5 hown' hgrow hnn
          have hf5 := own_alloc ho3 (.cells (encD ⟨0, 7, 1⟩).toArray 32)
          go_wp2_with fail
          go_ret
          refine ⟨v', ds ++ [⟨0, 7, 1⟩], rfl, hnn hv.out, by simp; omega, ?_, ?_⟩
          · rw [cellsD_app]
            simpa [cellsD, encD] using hown'
          · refine Reads.app hgrow (M' := _) ?_ hlt (own_gt hf5)
            (refine Reads.mono (M' := ?_) ?_ ?_; rotate_left; (repeat' first | (with_reducible exact Reads.refl H.out) | (with_reducible refine Reads.via (by assumption) ?_) | (with_reducible refine Reads.grow (by assumption) ?_) | (with_reducible refine Reads.al ?_ _) | (with_reducible refine Reads.dr ?_) | (with_reducible refine Reads.set ?_ hlt ?_ _ _) | omega))
        · go_wp2_with (at_builtin; refine Hid.out ?_); refine Lib.hid ?_
          refine wpList_app (s := .tmp 34) (x := .tmp 44) rfl 25 32 (.agg #[.int .i64 0, .int .i64 0, .int .i64 0]) 3 24 rfl Try.underlying25 infoD rfl (by decide) (by decide) w.heap.size _ ds.length (cellsD ds) rfl (own_alloc ho3 _) ⟨w3.heap.size, 0, none⟩ 1 1 (encD ⟨0, 1, 16⟩) rfl rfl (news_bk Bk.new) (by intro u hu; simp [encD] at hu; (first | (rcases hu with rfl | rfl | rfl | rfl <;> rfl) | (rcases hu with rfl | rfl | rfl <;> rfl) | (rcases hu with rfl | rfl <;> rfl) | (subst hu; rfl))) (by omega) (by have h2 := hR.step.size; have h3 := r2.step.size; have h4 := r3.step.size; simp only [World.size_alloc] at h2 h3 h4 ⊢; omega) ?_
          intro v' w5 hown' hgrow hnn
          have hf5 := own_alloc ho3 (.cells (encD ⟨0, 1, 16⟩).toArray 32)
          go_wp2_with fail
          go_ret
          refine ⟨v', ds ++ [⟨0, 1, 16⟩], rfl, hnn hv.out, by simp; omega, ?_, ?_⟩
          · rw [cellsD_app]
            simpa [cellsD, encD] using hown'
          · refine Reads.app hgrow (M' := _) ?_ hlt (own_gt hf5)
            (refine Reads.mono (M' := ?_) ?_ ?_; rotate_left; (repeat' first | (with_reducible exact Reads.refl H.out) | (with_reducible refine Reads.via (by assumption) ?_) | (with_reducible refine Reads.grow (by assumption) ?_) | (with_reducible refine Reads.al ?_ _) | (with_reducible refine Reads.dr ?_) | (with_reducible refine Reads.set ?_ hlt ?_ _ _) | omega))
end Go.Proofs.Ytjmjpejkongipaa
