/-
  Rows of tuples are drawn. Condition: the reader is whole.
-/
import Derived.Test.YtfeaclnbkmaeeaaTud
import Derived.Test.YtfeaclnbkmaeeaaUa
set_option linter.unusedSimpArgs false
set_option linter.unusedVariables false
namespace Go.Proofs.Ytfeaclnbkmaeeaa
open Go.RowKit
theorem own_rd {w w' : World} {lo e k b : Nat} {M M' : Int} {v : Value} {n : Nat} {cs : List Value} (h : w.ownsRow lo e k v n cs) (r : Reads b M M' w w') (hb : b < lo) : w'.ownsRow lo e k v n cs :=
  h.kept r.step (by
    cases hv : v.ownBlock with
    | none => exact .inl rfl
    | some j => right; intro e; have := own_gt h j hv; simp at e; omega)
theorem appCellsT (xs ys : List Tup) : cellsT (xs ++ ys) = cellsT xs ++ cellsT ys := by simp [cellsT]
/-- Tuples are drawn. -/
def TuR (b : Nat) (M : Int) (w : World) (e : Ending) (w' : World) : Prop :=
  ∃ (v : Value) (ds : List Tup), e = .returned v ∧ v ≠ .slice none 0 0 ∧ ds.length ≤ 9 ∧ (∀ d ∈ ds, TuBd d) ∧ w'.ownsRow w.heap.size 32 4 v ds.length (cellsT ds) ∧ Reads b M (M + 240) w w'
theorem l20Tuples_any (b : Nat) (n M : Int) (w : World) (h : Rd w b M) (hM : M ≤ 1099511627776 - 400) (hn : 0 ≤ n) (hn2 : n ≤ 1099511627776) :
    Calls Try.prog 34 #[.pointer (some ⟨b, 0, none⟩), .int .i64 n] w (TuR b M w) := by
  have hlt := h.lt
  have H := Lib.hid h
  clear h
  have hmk0 : ∀ w : World, (Instr.buildSlice 25 0 #[]).run Try.prog w = .ok (.slice (some ⟨w.heap.size, 0, none⟩) 0 0) (w.alloc (.cells #[] 32)) := fun w => by kernel_rfl
  go_enter Try.func34, Try.ntmps34
  go_wp2_with fail
  refine (pick_any b 9 _ _ (H.out.below (below_al _ _)) (by omega) (by omega)).mono ?_
  rintro e w1 ⟨x, rfl, xlo, xhi, r1⟩
  have o1 := Lib.hid (own_rd (own_made w w.heap.size 32 4 (Nat.le_refl _)) r1 hlt)
  go_wp2_with fail
  go_loopw [5, 6] (fun v i wr => ∃ (k : Int) (ds : List Tup), 0 ≤ k ∧ k ≤ 8 ∧ i = .int .i64 k ∧ (ds.length : Int) ≤ 8 - k ∧ Hid (v ≠ .slice none 0 0) ∧ Hid (∀ d ∈ ds, TuBd d) ∧ Hid (wr.ownsRow w.heap.size 32 4 v ds.length (cellsT ds)) ∧ Reads b M (M + 1 + 20 * (8 - k)) w wr) (fun _ i _ => (intOf i).toNat)
  case atStart =>
    refine ⟨x, [], xlo, by omega, rfl, by simp; omega, by simp [Hid], by simp [Hid], o1.out, ?_⟩
    (refine Reads.mono (M' := ?_) ?_ ?_; rotate_left; (repeat' first | (with_reducible exact Reads.refl H.out) | (with_reducible refine Reads.via (by assumption) ?_) | (with_reducible refine Reads.grow (by assumption) ?_) | (with_reducible refine Reads.al ?_ _) | (with_reducible refine Reads.dr ?_) | (with_reducible refine Reads.set ?_ hlt ?_ _ _) | omega))
  case round =>
    obtain ⟨k, ds, hk0, hk7, rfl, hlen, hv, hbd, ho, hR⟩ := hrel
    by_cases hk : 0 < k
    · have hkd : decide (0 < k) = true := by simpa using hk
      go_wp2_with fail
      refine (l20Tuple_any b 0 _ _ hR.rd (by omega) (by omega) (by omega)).mono ?_
      rintro e w4 ⟨d, rfl, hd, r4⟩
      have hd2 := Lib.hid (show ∀ x ∈ ds ++ [d], TuBd x from fun x hx => by rcases List.mem_append.1 hx with h | h; exact hbd.out x h; simp at h; subst h; exact hd)
      have ho4 := own_rd ho.out r4 hlt
      have hz4 := hlt
      clear hd
      go_wp2_with (at_builtin; refine Hid.out ?_); refine Lib.hid ?_
      refine wpList_app (s := .tmp 14) (x := .tmp 17) rfl 25 32 (.agg #[.int .i64 0, .string ⟨#[]⟩, .int .i64 0, .string ⟨#[]⟩]) 4 48 rfl Try.underlying25 infoT rfl (by decide) (by decide) w.heap.size _ ds.length (cellsT ds) rfl (own_alloc ho4 _) ⟨w4.heap.size, 0, none⟩ 1 1 (encT d) rfl rfl (news_bk Bk.new) (fun u hu => List.all_eq_true.mp (show List.all (encT d) Value.oneCell' = true from rfl) u hu) (by omega) (by have h2 := hR.step.size; have h3 := r4.step.size; simp only [World.size_alloc]; omega) ?_
      intro v' w5 hown' hgrow hnn
      have hf5 := own_alloc ho4 (.cells (encT d).toArray 32)
      go_wp2_with fail
      refine ⟨⟨k - 1, ds ++ [d], by omega, by omega, rfl, by simp; omega, hnn hv.out, hd2.out, ?_, ?_⟩, by simp only [intOf]; omega⟩
      · show w5.ownsRow _ _ _ _ _ _
        rw [appCellsT]
        simpa [cellsT, encT] using hown'
      · refine Reads.app hgrow (M' := _) ?_ hlt (own_gt hf5)
        (refine Reads.mono (M' := ?_) ?_ ?_; rotate_left; (repeat' first | (with_reducible exact Reads.refl H.out) | (with_reducible refine Reads.via (by assumption) ?_) | (with_reducible refine Reads.grow (by assumption) ?_) | (with_reducible refine Reads.al ?_ _) | (with_reducible refine Reads.dr ?_) | (with_reducible refine Reads.set ?_ hlt ?_ _ _) | omega))
    · have hkd : decide (0 < k) = false := by simpa using hk
      go_wp2_with fail
      refine (odd_any b n _ _ hR.rd (by omega) (by omega) (by omega)).mono ?_
      rintro e w2 ⟨y, rfl, r2⟩
      have ho2 := own_rd ho.out r2 hlt
      cases y
      · go_wp2_with fail
        go_ret
        refine ⟨_, ds, rfl, hv.out, by omega, hbd.out, ho2, ?_⟩
        (refine Reads.mono (M' := ?_) ?_ ?_; rotate_left; (repeat' first | (with_reducible exact Reads.refl H.out) | (with_reducible refine Reads.via (by assumption) ?_) | (with_reducible refine Reads.grow (by assumption) ?_) | (with_reducible refine Reads.al ?_ _) | (with_reducible refine Reads.dr ?_) | (with_reducible refine Reads.set ?_ hlt ?_ _ _) | omega))
      · go_wp2_with fail
        refine (l20Tuple_any b 1 _ _ r2.rd (by omega) (by omega) (by omega)).mono ?_
        rintro e w4 ⟨d, rfl, hd, r4⟩
        have hd2 := Lib.hid (show ∀ x ∈ ds ++ [d], TuBd x from fun x hx => by rcases List.mem_append.1 hx with h | h; exact hbd.out x h; simp at h; subst h; exact hd)
        have ho4 := own_rd ho2 r4 hlt
        have hz4 := hlt
        clear hd
        go_wp2_with (at_builtin; refine Hid.out ?_); refine Lib.hid ?_
        refine wpList_app (s := .tmp 22) (x := .tmp 25) rfl 25 32 (.agg #[.int .i64 0, .string ⟨#[]⟩, .int .i64 0, .string ⟨#[]⟩]) 4 48 rfl Try.underlying25 infoT rfl (by decide) (by decide) w.heap.size _ ds.length (cellsT ds) rfl (own_alloc ho4 _) ⟨w4.heap.size, 0, none⟩ 1 1 (encT d) rfl rfl (news_bk Bk.new) (fun u hu => List.all_eq_true.mp (show List.all (encT d) Value.oneCell' = true from rfl) u hu) (by omega) (by have h2 := hR.step.size; have h3 := r2.step.size; have h4 := r4.step.size; simp only [World.size_alloc]; omega) ?_
        intro v' w5 hown' hgrow hnn
        have hf5 := own_alloc ho4 (.cells (encT d).toArray 32)
        go_wp2_with fail
        go_ret
        refine ⟨v', ds ++ [d], rfl, hnn hv.out, by simp; omega, hd2.out, ?_, ?_⟩
        · rw [appCellsT]
          simpa [cellsT, encT] using hown'
        · refine Reads.app hgrow (M' := _) ?_ hlt (own_gt hf5)
          (refine Reads.mono (M' := ?_) ?_ ?_; rotate_left; (repeat' first | (with_reducible exact Reads.refl H.out) | (with_reducible refine Reads.via (by assumption) ?_) | (with_reducible refine Reads.grow (by assumption) ?_) | (with_reducible refine Reads.al ?_ _) | (with_reducible refine Reads.dr ?_) | (with_reducible refine Reads.set ?_ hlt ?_ _ _) | omega))
end Go.Proofs.Ytfeaclnbkmaeeaa
