/-
  Grants are drawn. Condition: the reader is whole.
-/
import Derived.Test.YtlcjkehpdlgdoaaGw
import Derived.Test.YtlcjkehpdlgdoaaD
import Derived.Test.YtlcjkehpdlgdoaaUa
set_option linter.unusedSimpArgs false
set_option linter.unusedVariables false
namespace Go.Proofs.Ytlcjkehpdlgdoaa
open Go.RowKit
theorem ownG_rd {w w' : World} {lo e k b : Nat} {M M' : Int} {v : Value} {n : Nat} {cs : List Value} (h : w.ownsRow lo e k v n cs) (r : Reads b M M' w w') (hb : b < lo) : w'.ownsRow lo e k v n cs :=
  h.kept r.step (by
    cases hv : v.ownBlock with
    | none => exact .inl rfl
    | some j => right; intro e; have := own_gt h j hv; simp at e; omega)
theorem cellsG_app (xs ys : List Gra) : cellsG (xs ++ ys) = cellsG xs ++ cellsG ys := by simp [cellsG]
theorem slG_drop {w : World} {a : Option Addr} {c : Nat} {ds : List Gra} (h : SlG w (.slice a ds.length c) ds) (k : Nat) (hk : k ≤ ds.length) : SlG w (sliced a k ds.length c 4) (ds.drop k) := by
  have s := SlF.drop h k hk
  unfold SlG
  rw [List.length_drop]
  unfold cellsG at s ⊢
  rw [drop_flat encG 4 (fun _ => rfl)] at s
  exact s
/-- Grants are drawn. -/
def GraS (b : Nat) (M : Int) (w : World) (e : Ending) (w' : World) : Prop :=
  ∃ (v : Value) (ds : List Gra), e = .returned v ∧ v ≠ .slice none 0 0 ∧ ds.length ≤ 8 ∧ w'.ownsRow w.heap.size 33 4 v ds.length (cellsG ds) ∧ Reads b M (M + 40) w w'
set_option maxHeartbeats 1600000 in
theorem l20Grants_any (b : Nat) (many n M : Int) (w : World) (h : Rd w b M) (hM : M ≤ 1099511627776 - 40) (hn : 0 ≤ n) (hn2 : n ≤ 1099511627776) (hm : 0 ≤ many) (hm2 : many ≤ 1099511627776) :
    Calls Try.prog 54 #[.pointer (some ⟨b, 0, none⟩), .int .i64 many, .int .i64 n] w (GraS b M w) := by
  have hlt := h.lt
  have H := Lib.hid h
  clear h
  have hmx : max 0 many = many := by omega
  have hmk0 : ∀ w : World, (Instr.buildSlice 25 0 #[]).run Try.prog w = .ok (.slice (some ⟨w.heap.size, 0, none⟩) 0 0) (w.alloc (.cells #[] 33)) := fun w => by kernel_rfl
  go_enter Try.func54, Try.ntmps54
  go_wp2_with fail
  refine (pick_any b 7 _ _ (H.out.below (below_al _ _)) (by omega) (by omega)).mono ?_
  rintro e w1 ⟨x, rfl, xlo, xhi, r1⟩
  have o1 := Lib.hid (ownG_rd (own_made w w.heap.size 33 4 (Nat.le_refl _)) r1 hlt)
  go_wp2_with fail
  go_loopw [7, 8] (fun v i wr => ∃ (k : Int) (ds : List Gra), 0 ≤ k ∧ k ≤ 6 ∧ i = .int .i64 k ∧ (ds.length : Int) ≤ 6 - k ∧ Hid (v ≠ .slice none 0 0) ∧ Hid (wr.ownsRow w.heap.size 33 4 v ds.length (cellsG ds)) ∧ Reads b M (M + 1 + 4 * (6 - k)) w wr) (fun _ i _ => (intOf i).toNat)
  case atStart =>
    refine ⟨x, [], xlo, by omega, rfl, by simp; omega, by simp [Hid], o1.out, ?_⟩
    (refine Reads.mono (M' := ?_) ?_ ?_; rotate_left; (repeat' first | (with_reducible exact Reads.refl H.out) | (with_reducible refine Reads.via (by assumption) ?_) | (with_reducible refine Reads.grow (by assumption) ?_) | (with_reducible refine Reads.al ?_ _) | (with_reducible refine Reads.dr ?_) | (with_reducible refine Reads.set ?_ hlt ?_ _ _) | omega))
  case round =>
    obtain ⟨k, ds, hk0, hk7, rfl, hlen, hv, ho, hR⟩ := hrel
    by_cases hk : 0 < k ∧ 0 < many
    · obtain ⟨hk, hmm⟩ := hk
      have hkd : decide (0 < k) = true := by simpa using hk
      have hmd : decide (0 < many) = true := by simpa using hmm
      go_wp2_with fail
      refine (pick_any b 20 _ _ hR.rd (by omega) (by omega)).mono ?_
      rintro e w2 ⟨x1, rfl, lo1, hi1, r2⟩
      go_wp2_with fail
      refine (pick_any b 3 _ _ r2.rd (by omega) (by omega)).mono ?_
      rintro e w3 ⟨x2, rfl, lo2, hi2, r3⟩
      go_wp2_with fail
      refine (pick_any b many _ _ r3.rd (by omega) (by omega)).mono ?_
      rintro e w4 ⟨x3, rfl, lo3, hi3, r4⟩
      go_wp2_with fail
      refine (pick_any b 20 _ _ r4.rd (by omega) (by omega)).mono ?_
      rintro e w5 ⟨x4, rfl, lo4, hi4, r5⟩
      have ho4 := ownG_rd (ownG_rd (ownG_rd (ownG_rd ho.out r2 hlt) r3 hlt) r4 hlt) r5 hlt
      go_wp2_with (at_builtin; refine Hid.out ?_); refine Lib.hid ?_
      refine wpList_app (s := .tmp 23) (x := .tmp 36) rfl 25 33 (.agg #[.int .i64 0, .int .i64 0, .int .i64 0, .int .i64 0]) 4 32 rfl Try.underlying25 infoG rfl (by decide) (by decide) w.heap.size _ ds.length (cellsG ds) rfl (own_alloc ho4 _) ⟨w5.heap.size, 0, none⟩ 1 1 (encG ⟨x2, x3, x1, x1 + 1 + x4⟩) rfl rfl (news_bk Bk.new) (fun u hu => List.all_eq_true.mp (show List.all (encG ⟨x2, x3, x1, x1 + 1 + x4⟩) Value.oneCell' = true from rfl) u hu) (by omega) (by have h2 := hR.step.size; have h3 := r2.step.size; have h4 := r3.step.size; have h5 := r4.step.size; have h6 := r5.step.size; simp only [World.size_alloc]; omega) ?_
      intro v' w6 hown' hgrow hnn
      have hf5 := own_alloc ho4 (.cells (encG ⟨x2, x3, x1, x1 + 1 + x4⟩).toArray 33)
      go_wp2_with fail
      refine ⟨⟨k - 1, ds ++ [⟨x2, x3, x1, x1 + 1 + x4⟩], by omega, by omega, rfl, by simp; omega, hnn hv.out, ?_, ?_⟩, by simp only [intOf]; omega⟩
      · show w6.ownsRow _ _ _ _ _ _
        rw [cellsG_app]
        simpa [cellsG, encG] using hown'
      · refine Reads.app hgrow (M' := _) ?_ hlt (own_gt hf5)
        (refine Reads.mono (M' := ?_) ?_ ?_; rotate_left; (repeat' first | (with_reducible exact Reads.refl H.out) | (with_reducible refine Reads.via (by assumption) ?_) | (with_reducible refine Reads.grow (by assumption) ?_) | (with_reducible refine Reads.al ?_ _) | (with_reducible refine Reads.dr ?_) | (with_reducible refine Reads.set ?_ hlt ?_ _ _) | omega))
    · rcases (show many = 0 ∧ 0 < k ∨ many = 0 ∧ k ≤ 0 ∨ 0 < many ∧ k ≤ 0 by omega) with ⟨rfl, hk1⟩ | ⟨rfl, hk1⟩ | ⟨hm0, hk1⟩
      iterate 2
        · have hkn := hk1
          clear hmx
          go_wp2_with fail
          refine (odd_any b n _ _ hR.rd (by omega) (by omega) (by omega)).mono ?_
          rintro e w2 ⟨y, rfl, r2⟩
          have ho2 := ownG_rd ho.out r2 hlt
          cases y
          · go_wp2_with fail
            go_ret
            refine ⟨_, ds, rfl, hv.out, by omega, ho2, ?_⟩
            (refine Reads.mono (M' := ?_) ?_ ?_; rotate_left; (repeat' first | (with_reducible exact Reads.refl H.out) | (with_reducible refine Reads.via (by assumption) ?_) | (with_reducible refine Reads.grow (by assumption) ?_) | (with_reducible refine Reads.al ?_ _) | (with_reducible refine Reads.dr ?_) | (with_reducible refine Reads.set ?_ hlt ?_ _ _) | omega))
          · go_wp2_with fail
            refine (pick_any b 4 _ _ (r2.rd.below (below_al _ _)) (by omega) (by omega)).mono ?_
            rintro e w3 ⟨x3, rfl, lo3, hi3, r3⟩
            have ks := Bk.new.rd r3 r2.rd.lt
            have xs := ks.cell
            have ho3 := ownG_rd (own_alloc ho2 _) r3 hlt
            rcases (show x3 = 0 ∨ x3 = 1 ∨ x3 = 2 ∨ x3 = 3 by omega) with rfl | rfl | rfl | rfl
            · go_wp2_with (at_builtin; refine Hid.out ?_); refine Lib.hid ?_
              refine wpList_app (s := .tmp 41) (x := .tmp 53) rfl 25 33 (.agg #[.int .i64 0, .int .i64 0, .int .i64 0, .int .i64 0]) 4 32 rfl Try.underlying25 infoG rfl (by decide) (by decide) w.heap.size _ ds.length (cellsG ds) rfl (own_alloc ho3 _) ⟨w3.heap.size, 0, none⟩ 1 1 (encG ⟨7, 0, 0, 1⟩) rfl rfl (news_bk Bk.new) (fun u hu => List.all_eq_true.mp (show List.all (encG ⟨7, 0, 0, 1⟩) Value.oneCell' = true from rfl) u hu) (by omega) (by have h2 := hR.step.size; have h3 := r2.step.size; have h4 := r3.step.size; simp only [World.size_alloc] at h2 h3 h4 ⊢; omega) ?_
              intro v' w5 hown' hgrow hnn
              have hf5 := own_alloc ho3 (.cells (encG ⟨7, 0, 0, 1⟩).toArray 33)
              go_wp2_with fail
              go_ret
              refine ⟨v', ds ++ [⟨7, 0, 0, 1⟩], rfl, hnn hv.out, by simp; omega, ?_, ?_⟩
              · rw [cellsG_app]
                simpa [cellsG, encG] using hown'
              · refine Reads.app hgrow (M' := _) ?_ hlt (own_gt hf5)
                (refine Reads.mono (M' := ?_) ?_ ?_; rotate_left; (repeat' first | (with_reducible exact Reads.refl H.out) | (with_reducible refine Reads.via (by assumption) ?_) | (with_reducible refine Reads.grow (by assumption) ?_) | (with_reducible refine Reads.al ?_ _) | (with_reducible refine Reads.dr ?_) | (with_reducible refine Reads.set ?_ hlt ?_ _ _) | omega))
            · go_wp2_with (at_builtin; refine Hid.out ?_); refine Lib.hid ?_
              refine wpList_app (s := .tmp 41) (x := .tmp 53) rfl 25 33 (.agg #[.int .i64 0, .int .i64 0, .int .i64 0, .int .i64 0]) 4 32 rfl Try.underlying25 infoG rfl (by decide) (by decide) w.heap.size _ ds.length (cellsG ds) rfl (own_alloc ho3 _) ⟨w3.heap.size, 0, none⟩ 1 1 (encG ⟨0, 0, 0, 1⟩) rfl rfl (news_bk Bk.new) (fun u hu => List.all_eq_true.mp (show List.all (encG ⟨0, 0, 0, 1⟩) Value.oneCell' = true from rfl) u hu) (by omega) (by have h2 := hR.step.size; have h3 := r2.step.size; have h4 := r3.step.size; simp only [World.size_alloc] at h2 h3 h4 ⊢; omega) ?_
              intro v' w5 hown' hgrow hnn
              have hf5 := own_alloc ho3 (.cells (encG ⟨0, 0, 0, 1⟩).toArray 33)
              go_wp2_with fail
              go_ret
              refine ⟨v', ds ++ [⟨0, 0, 0, 1⟩], rfl, hnn hv.out, by simp; omega, ?_, ?_⟩
              · rw [cellsG_app]
                simpa [cellsG, encG] using hown'
              · refine Reads.app hgrow (M' := _) ?_ hlt (own_gt hf5)
                (refine Reads.mono (M' := ?_) ?_ ?_; rotate_left; (repeat' first | (with_reducible exact Reads.refl H.out) | (with_reducible refine Reads.via (by assumption) ?_) | (with_reducible refine Reads.grow (by assumption) ?_) | (with_reducible refine Reads.al ?_ _) | (with_reducible refine Reads.dr ?_) | (with_reducible refine Reads.set ?_ hlt ?_ _ _) | omega))
            · go_wp2_with (at_builtin; refine Hid.out ?_); refine Lib.hid ?_
              refine wpList_app (s := .tmp 41) (x := .tmp 53) rfl 25 33 (.agg #[.int .i64 0, .int .i64 0, .int .i64 0, .int .i64 0]) 4 32 rfl Try.underlying25 infoG rfl (by decide) (by decide) w.heap.size _ ds.length (cellsG ds) rfl (own_alloc ho3 _) ⟨w3.heap.size, 0, none⟩ 1 1 (encG ⟨0, 0, 5, 5⟩) rfl rfl (news_bk Bk.new) (fun u hu => List.all_eq_true.mp (show List.all (encG ⟨0, 0, 5, 5⟩) Value.oneCell' = true from rfl) u hu) (by omega) (by have h2 := hR.step.size; have h3 := r2.step.size; have h4 := r3.step.size; simp only [World.size_alloc] at h2 h3 h4 ⊢; omega) ?_
              intro v' w5 hown' hgrow hnn
              have hf5 := own_alloc ho3 (.cells (encG ⟨0, 0, 5, 5⟩).toArray 33)
              go_wp2_with fail
              go_ret
              refine ⟨v', ds ++ [⟨0, 0, 5, 5⟩], rfl, hnn hv.out, by simp; omega, ?_, ?_⟩
              · rw [cellsG_app]
                simpa [cellsG, encG] using hown'
              · refine Reads.app hgrow (M' := _) ?_ hlt (own_gt hf5)
                (refine Reads.mono (M' := ?_) ?_ ?_; rotate_left; (repeat' first | (with_reducible exact Reads.refl H.out) | (with_reducible refine Reads.via (by assumption) ?_) | (with_reducible refine Reads.grow (by assumption) ?_) | (with_reducible refine Reads.al ?_ _) | (with_reducible refine Reads.dr ?_) | (with_reducible refine Reads.set ?_ hlt ?_ _ _) | omega))
            · go_wp2_with (at_builtin; refine Hid.out ?_); refine Lib.hid ?_
              refine wpList_app (s := .tmp 41) (x := .tmp 53) rfl 25 33 (.agg #[.int .i64 0, .int .i64 0, .int .i64 0, .int .i64 0]) 4 32 rfl Try.underlying25 infoG rfl (by decide) (by decide) w.heap.size _ ds.length (cellsG ds) rfl (own_alloc ho3 _) ⟨w3.heap.size, 0, none⟩ 1 1 (encG ⟨0, 0, 0, 1001⟩) rfl rfl (news_bk Bk.new) (fun u hu => List.all_eq_true.mp (show List.all (encG ⟨0, 0, 0, 1001⟩) Value.oneCell' = true from rfl) u hu) (by omega) (by have h2 := hR.step.size; have h3 := r2.step.size; have h4 := r3.step.size; simp only [World.size_alloc] at h2 h3 h4 ⊢; omega) ?_
              intro v' w5 hown' hgrow hnn
              have hf5 := own_alloc ho3 (.cells (encG ⟨0, 0, 0, 1001⟩).toArray 33)
              go_wp2_with fail
              go_ret
              refine ⟨v', ds ++ [⟨0, 0, 0, 1001⟩], rfl, hnn hv.out, by simp; omega, ?_, ?_⟩
              · rw [cellsG_app]
                simpa [cellsG, encG] using hown'
              · refine Reads.app hgrow (M' := _) ?_ hlt (own_gt hf5)
                (refine Reads.mono (M' := ?_) ?_ ?_; rotate_left; (repeat' first | (with_reducible exact Reads.refl H.out) | (with_reducible refine Reads.via (by assumption) ?_) | (with_reducible refine Reads.grow (by assumption) ?_) | (with_reducible refine Reads.al ?_ _) | (with_reducible refine Reads.dr ?_) | (with_reducible refine Reads.set ?_ hlt ?_ _ _) | omega))
      · have hkn := hk1
        go_wp2_with fail
        refine (odd_any b n _ _ hR.rd (by omega) (by omega) (by omega)).mono ?_
        rintro e w2 ⟨y, rfl, r2⟩
        have ho2 := ownG_rd ho.out r2 hlt
        cases y
        · go_wp2_with fail
          go_ret
          refine ⟨_, ds, rfl, hv.out, by omega, ho2, ?_⟩
          (refine Reads.mono (M' := ?_) ?_ ?_; rotate_left; (repeat' first | (with_reducible exact Reads.refl H.out) | (with_reducible refine Reads.via (by assumption) ?_) | (with_reducible refine Reads.grow (by assumption) ?_) | (with_reducible refine Reads.al ?_ _) | (with_reducible refine Reads.dr ?_) | (with_reducible refine Reads.set ?_ hlt ?_ _ _) | omega))
        · go_wp2_with fail
          refine (pick_any b 4 _ _ (r2.rd.below (below_al _ _)) (by omega) (by omega)).mono ?_
          rintro e w3 ⟨x3, rfl, lo3, hi3, r3⟩
          have ks := Bk.new.rd r3 r2.rd.lt
          have xs := ks.cell
          have ho3 := ownG_rd (own_alloc ho2 _) r3 hlt
          rcases (show x3 = 0 ∨ x3 = 1 ∨ x3 = 2 ∨ x3 = 3 by omega) with rfl | rfl | rfl | rfl
          · go_wp2_with (at_builtin; refine Hid.out ?_); refine Lib.hid ?_
            refine wpList_app (s := .tmp 41) (x := .tmp 53) rfl 25 33 (.agg #[.int .i64 0, .int .i64 0, .int .i64 0, .int .i64 0]) 4 32 rfl Try.underlying25 infoG rfl (by decide) (by decide) w.heap.size _ ds.length (cellsG ds) rfl (own_alloc ho3 _) ⟨w3.heap.size, 0, none⟩ 1 1 (encG ⟨7, 0, 0, 1⟩) rfl rfl (news_bk Bk.new) (fun u hu => List.all_eq_true.mp (show List.all (encG ⟨7, 0, 0, 1⟩) Value.oneCell' = true from rfl) u hu) (by omega) (by have h2 := hR.step.size; have h3 := r2.step.size; have h4 := r3.step.size; simp only [World.size_alloc] at h2 h3 h4 ⊢; omega) ?_
            intro v' w5 hown' hgrow hnn
            have hf5 := own_alloc ho3 (.cells (encG ⟨7, 0, 0, 1⟩).toArray 33)
            go_wp2_with fail
            go_ret
            refine ⟨v', ds ++ [⟨7, 0, 0, 1⟩], rfl, hnn hv.out, by simp; omega, ?_, ?_⟩
            · rw [cellsG_app]
              simpa [cellsG, encG] using hown'
            · refine Reads.app hgrow (M' := _) ?_ hlt (own_gt hf5)
              (refine Reads.mono (M' := ?_) ?_ ?_; rotate_left; (repeat' first | (with_reducible exact Reads.refl H.out) | (with_reducible refine Reads.via (by assumption) ?_) | (with_reducible refine Reads.grow (by assumption) ?_) | (with_reducible refine Reads.al ?_ _) | (with_reducible refine Reads.dr ?_) | (with_reducible refine Reads.set ?_ hlt ?_ _ _) | omega))
          · go_wp2_with (at_builtin; refine Hid.out ?_); refine Lib.hid ?_
            refine wpList_app (s := .tmp 41) (x := .tmp 53) rfl 25 33 (.agg #[.int .i64 0, .int .i64 0, .int .i64 0, .int .i64 0]) 4 32 rfl Try.underlying25 infoG rfl (by decide) (by decide) w.heap.size _ ds.length (cellsG ds) rfl (own_alloc ho3 _) ⟨w3.heap.size, 0, none⟩ 1 1 (encG ⟨0, many, 0, 1⟩) rfl rfl (news_bk Bk.new) (fun u hu => List.all_eq_true.mp (show List.all (encG ⟨0, many, 0, 1⟩) Value.oneCell' = true from rfl) u hu) (by omega) (by have h2 := hR.step.size; have h3 := r2.step.size; have h4 := r3.step.size; simp only [World.size_alloc] at h2 h3 h4 ⊢; omega) ?_
            intro v' w5 hown' hgrow hnn
            have hf5 := own_alloc ho3 (.cells (encG ⟨0, many, 0, 1⟩).toArray 33)
            go_wp2_with fail
            go_ret
            refine ⟨v', ds ++ [⟨0, many, 0, 1⟩], rfl, hnn hv.out, by simp; omega, ?_, ?_⟩
            · rw [cellsG_app]
              simpa [cellsG, encG] using hown'
            · refine Reads.app hgrow (M' := _) ?_ hlt (own_gt hf5)
              (refine Reads.mono (M' := ?_) ?_ ?_; rotate_left; (repeat' first | (with_reducible exact Reads.refl H.out) | (with_reducible refine Reads.via (by assumption) ?_) | (with_reducible refine Reads.grow (by assumption) ?_) | (with_reducible refine Reads.al ?_ _) | (with_reducible refine Reads.dr ?_) | (with_reducible refine Reads.set ?_ hlt ?_ _ _) | omega))
          · go_wp2_with (at_builtin; refine Hid.out ?_); refine Lib.hid ?_
            refine wpList_app (s := .tmp 41) (x := .tmp 53) rfl 25 33 (.agg #[.int .i64 0, .int .i64 0, .int .i64 0, .int .i64 0]) 4 32 rfl Try.underlying25 infoG rfl (by decide) (by decide) w.heap.size _ ds.length (cellsG ds) rfl (own_alloc ho3 _) ⟨w3.heap.size, 0, none⟩ 1 1 (encG ⟨0, 0, 5, 5⟩) rfl rfl (news_bk Bk.new) (fun u hu => List.all_eq_true.mp (show List.all (encG ⟨0, 0, 5, 5⟩) Value.oneCell' = true from rfl) u hu) (by omega) (by have h2 := hR.step.size; have h3 := r2.step.size; have h4 := r3.step.size; simp only [World.size_alloc] at h2 h3 h4 ⊢; omega) ?_
            intro v' w5 hown' hgrow hnn
            have hf5 := own_alloc ho3 (.cells (encG ⟨0, 0, 5, 5⟩).toArray 33)
            go_wp2_with fail
            go_ret
            refine ⟨v', ds ++ [⟨0, 0, 5, 5⟩], rfl, hnn hv.out, by simp; omega, ?_, ?_⟩
            · rw [cellsG_app]
              simpa [cellsG, encG] using hown'
            · refine Reads.app hgrow (M' := _) ?_ hlt (own_gt hf5)
              (refine Reads.mono (M' := ?_) ?_ ?_; rotate_left; (repeat' first | (with_reducible exact Reads.refl H.out) | (with_reducible refine Reads.via (by assumption) ?_) | (with_reducible refine Reads.grow (by assumption) ?_) | (with_reducible refine Reads.al ?_ _) | (with_reducible refine Reads.dr ?_) | (with_reducible refine Reads.set ?_ hlt ?_ _ _) | omega))
          · go_wp2_with (at_builtin; refine Hid.out ?_); refine Lib.hid ?_
            refine wpList_app (s := .tmp 41) (x := .tmp 53) rfl 25 33 (.agg #[.int .i64 0, .int .i64 0, .int .i64 0, .int .i64 0]) 4 32 rfl Try.underlying25 infoG rfl (by decide) (by decide) w.heap.size _ ds.length (cellsG ds) rfl (own_alloc ho3 _) ⟨w3.heap.size, 0, none⟩ 1 1 (encG ⟨0, 0, 0, 1001⟩) rfl rfl (news_bk Bk.new) (fun u hu => List.all_eq_true.mp (show List.all (encG ⟨0, 0, 0, 1001⟩) Value.oneCell' = true from rfl) u hu) (by omega) (by have h2 := hR.step.size; have h3 := r2.step.size; have h4 := r3.step.size; simp only [World.size_alloc] at h2 h3 h4 ⊢; omega) ?_
            intro v' w5 hown' hgrow hnn
            have hf5 := own_alloc ho3 (.cells (encG ⟨0, 0, 0, 1001⟩).toArray 33)
            go_wp2_with fail
            go_ret
            refine ⟨v', ds ++ [⟨0, 0, 0, 1001⟩], rfl, hnn hv.out, by simp; omega, ?_, ?_⟩
            · rw [cellsG_app]
              simpa [cellsG, encG] using hown'
            · refine Reads.app hgrow (M' := _) ?_ hlt (own_gt hf5)
              (refine Reads.mono (M' := ?_) ?_ ?_; rotate_left; (repeat' first | (with_reducible exact Reads.refl H.out) | (with_reducible refine Reads.via (by assumption) ?_) | (with_reducible refine Reads.grow (by assumption) ?_) | (with_reducible refine Reads.al ?_ _) | (with_reducible refine Reads.dr ?_) | (with_reducible refine Reads.set ?_ hlt ?_ _ _) | omega))
end Go.Proofs.Ytlcjkehpdlgdoaa
