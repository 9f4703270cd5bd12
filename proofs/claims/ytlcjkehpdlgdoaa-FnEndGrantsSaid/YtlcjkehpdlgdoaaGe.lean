/-
  Grants that end: the program's way and the reference's. No condition.
-/
import Derived.Test.YtlcjkehpdlgdoaaGa
import Derived.Test.YtlcjkehpdlgdoaaGk
set_option linter.unusedSimpArgs false
set_option linter.unusedVariables false
namespace Go.Proofs.Ytlcjkehpdlgdoaa
open Go.RowKit
theorem bk_at {W : World} {vs : Array Value} {t g : Nat} (hg : W.heap.size = g) : Bk (W.alloc (.cells vs t)) g vs t := by subst hg; exact Bk.new
theorem own_far {w : World} {lo e k : Nat} {v : Value} {n : Nat} {cs : List Value} (h : w.ownsRow lo e k v n cs) {g : Nat} (hg : w.heap.size ≤ g + 1) (hne : ∀ j, v.ownBlock = some j → j ≠ g) (o : Nat) (u : Value) : (w.setCell ⟨g, o, none⟩ u).ownsRow lo e k v n cs :=
  h.kept (row := some g) ⟨rfl, rfl, rfl, by simp, fun k _ hk => heap_setCell_other w ⟨g, o, none⟩ k u (fun e => hk (by simp [e]))⟩ (by
    cases hv : v.ownBlock with
    | none => exact .inl rfl
    | some j => right; intro he; exact hne j hv (by simpa using he))
theorem cellsG_app2 (xs ys : List Gra) : cellsG (xs ++ ys) = cellsG xs ++ cellsG ys := by simp [cellsG]
/-- A grant as it is when those of someone end. -/
def endG (who now : Int) (g : Gra) : Option Gra := if (g.f0 == who || who == -1) then (if now ≤ g.f2 then none else some ⟨g.f0, g.f1, g.f2, min g.f3 now⟩) else some g
def endTo (ds : List Gra) (who now : Int) (k : Nat) : List Gra := (ds.take k).filterMap (endG who now)
def endGrants (many : Int) (ds : List Gra) (who now : Int) : List Gra := if gValid many ds then ds.filterMap (endG who now) else []
theorem endTo_none (ds : List Gra) (who now : Int) (k : Nat) (h : k < ds.length) (d : Gra) (hd : ds[k] = d) (he : endG who now d = none) : endTo ds who now (k + 1) = endTo ds who now k := by
  unfold endTo
  rw [List.take_succ_eq_append_getElem h, List.filterMap_append, hd]
  simp [he]
theorem endTo_some (ds : List Gra) (who now : Int) (k : Nat) (h : k < ds.length) (d : Gra) (hd : ds[k] = d) (x : Gra) (he : endG who now d = some x) : endTo ds who now (k + 1) = endTo ds who now k ++ [x] := by
  unfold endTo
  rw [List.take_succ_eq_append_getElem h, List.filterMap_append, hd]
  simp [he]
theorem endTo_len (ds : List Gra) (who now : Int) (k : Nat) (h : k ≤ ds.length) : (endTo ds who now k).length ≤ k := by
  unfold endTo
  refine Nat.le_trans (List.length_filterMap_le _ _) ?_
  rw [List.length_take]
  omega
theorem endGrants_len (many : Int) (ds : List Gra) (who now : Int) : (endGrants many ds who now).length ≤ 12 := by
  unfold endGrants
  split
  · rename_i h
    have := gValid_f1 many ds h
    exact Nat.le_trans (List.length_filterMap_le _ _) this.2.2.1
  · simp
def NewG' (ds : List Gra) (w : World) (e : Ending) (w' : World) : Prop := ∃ v, e = .returned v ∧ w'.ownsRow w.heap.size 33 4 v ds.length (cellsG ds) ∧ Below w.heap.size w w'
/-- One grant more behind the ended ones. -/
theorem ended_more {w5 : World} {lo : Nat} {v : Value} {ds : List Gra} {who now : Int} {k : Nat} {x : Gra} (hf : endTo ds who now (k + 1) = endTo ds who now k ++ [x]) (h : w5.ownsRow lo 33 4 v ((endTo ds who now k).length + 1) (cellsG (endTo ds who now k) ++ encG x)) :
    w5.ownsRow lo 33 4 v (endTo ds who now (k + 1)).length (cellsG (endTo ds who now (k + 1))) := by
  rw [hf, cellsG_app2, List.length_append]
  simpa [cellsG] using h
set_option maxHeartbeats 3200000 in
theorem implEndGrants_any (many : Int) (ds : List Gra) (who now : Int) (v : Value) (w : World) (h : SlG w v ds) : Calls Try.prog 30 #[.int .i64 many, v, .int .i64 who, .int .i64 now] w (NewG' (endGrants many ds who now) w) := by
  obtain ⟨a, cap, rfl, h1, h2⟩ := SlF.shape h
  unfold maxLen at h2
  have H := Lib.hid h
  clear h
  cases hv : gValid many ds
  · have hg : endGrants many ds who now = [] := by simp [endGrants, hv]
    rw [hg]
    go_enter Try.func30, Try.ntmps30
    go_wp2_with fail
    refine (implGValid_any many ds _ _ H.out).mono ?_
    rintro e w1 ⟨rfl, b1⟩
    rw [hv]
    go_wp2_with fail
    go_ret
    exact ⟨_, rfl, World.ownsRow_nil _ _ _ _, b1⟩
  · obtain ⟨hm1, hm8, hl, hfs⟩ := gValid_f1 many ds hv
    have HF := Lib.hid hfs
    clear hfs
    have hg : endGrants many ds who now = endTo ds who now ds.length := by simp [endGrants, hv, endTo]
    rw [hg]
    clear hg
    go_enter Try.func30, Try.ntmps30
    go_wp2_with fail
    refine (implGValid_any many ds _ _ H.out).mono ?_
    rintro e w1 ⟨rfl, b1⟩
    rw [hv]
    go_wp2_with fail
    go_loopw [9, 18] (fun u i wr => ∃ k : Nat, k ≤ ds.length ∧ i = .int .i64 k ∧ Hid (wr.ownsRow w.heap.size 33 4 u (endTo ds who now k).length (cellsG (endTo ds who now k))) ∧ Below w.heap.size w wr) (fun _ i _ => ds.length - (intOf i).toNat)
    case atStart => exact ⟨0, Nat.zero_le _, rfl, World.ownsRow_nil _ _ _ _, b1⟩
    case round =>
      obtain ⟨k, hk, rfl, ho, hB⟩ := hrel
      have hln := endTo_len ds who now k hk
      by_cases hlt : k < ds.length
      · obtain ⟨g, off, cap', hvv, _, _, c0, c1, c2, c3⟩ := (H.out.below hB).cells k hlt
        simp only [Value.slice.injEq] at hvv
        obtain ⟨rfl, -, rfl⟩ := hvv
        have hval := HF.out ds[k] (List.getElem_mem hlt)
        have hsn := Lib.hid (fun d hd => endTo_none ds who now k hlt d hd)
        have hss := Lib.hid (fun d hd => endTo_some ds who now k hlt d hd)
        generalize ds[k] = d at c0 c1 c2 c3 hsn hss hval
        cases p1 : d.f0 == who
        · cases p2 : who == -1
          · have hf := Lib.hid (hss.out d rfl ⟨d.f0, d.f1, d.f2, d.f3⟩ (by simp [endG, p1, p2]))
            clear hsn hss
            go_wp2_with (at_builtin; refine Hid.out ?_); refine Lib.hid ?_
            refine wpList_app (s := .tmp 39) (x := .tmp 41) rfl 25 33 (.agg #[.int .i64 0, .int .i64 0, .int .i64 0, .int .i64 0]) 4 32 rfl Try.underlying25 infoG rfl (by decide) (by decide) w.heap.size _ (endTo ds who now k).length (cellsG (endTo ds who now k)) rfl (own_alloc (own_alloc ho.out _) _) ⟨wr.heap.size + 1, 0, none⟩ 1 1 (encG ⟨d.f0, d.f1, d.f2, d.f3⟩) rfl rfl (news_bk (bk_at (by simp))) (fun u hu => List.all_eq_true.mp (show List.all (encG ⟨d.f0, d.f1, d.f2, d.f3⟩) Value.oneCell' = true from rfl) u hu) (by omega) (by have := hB.size; simp; omega) ?_
            intro v' w5 hown' hgrow hnn
            have hB5 : Below w.heap.size w w5 := Below.grown (Below.al (Below.al hB _) _) hgrow (by have := hB.size; simp; omega) (own_gt ho.out)
            clear hgrow hnn
            have ho5 := Lib.hid (ended_more hf.out hown')
            clear hown'
            go_wp2_with fail
            refine ⟨⟨k + 1, by omega, by go_num, ho5, hB5⟩, by simp [intOf]; omega⟩
          · by_cases p3 : now ≤ d.f2
            · have hf := Lib.hid (hsn.out d rfl (by simp [endG, p3, p1, p2]))
              clear hsn hss
              go_wp2_with fail
              refine ⟨⟨k + 1, by omega, by go_num, by rw [hf.out]; exact own_alloc ho.out _, Below.al hB _⟩, by simp [intOf]; omega⟩
            · by_cases p4 : d.f3 ≤ now
              · have hf := Lib.hid (hss.out d rfl ⟨d.f0, d.f1, d.f2, d.f3⟩ (by simp [endG, p3, p1, p2]; omega))
                clear hsn hss
                go_wp2_with (at_builtin; refine Hid.out ?_); refine Lib.hid ?_
                refine wpList_app (s := .tmp 39) (x := .tmp 41) rfl 25 33 (.agg #[.int .i64 0, .int .i64 0, .int .i64 0, .int .i64 0]) 4 32 rfl Try.underlying25 infoG rfl (by decide) (by decide) w.heap.size _ (endTo ds who now k).length (cellsG (endTo ds who now k)) rfl (own_alloc (own_alloc ho.out _) _) ⟨wr.heap.size + 1, 0, none⟩ 1 1 (encG ⟨d.f0, d.f1, d.f2, d.f3⟩) rfl rfl (news_bk (bk_at (by simp))) (fun u hu => List.all_eq_true.mp (show List.all (encG ⟨d.f0, d.f1, d.f2, d.f3⟩) Value.oneCell' = true from rfl) u hu) (by omega) (by have := hB.size; simp; omega) ?_
                intro v' w5 hown' hgrow hnn
                have hB5 : Below w.heap.size w w5 := Below.grown (Below.al (Below.al hB _) _) hgrow (by have := hB.size; simp; omega) (own_gt ho.out)
                clear hgrow hnn
                have ho5 := Lib.hid (ended_more hf.out hown')
                clear hown'
                go_wp2_with fail
                refine ⟨⟨k + 1, by omega, by go_num, ho5, hB5⟩, by simp [intOf]; omega⟩
              · have hf := Lib.hid (hss.out d rfl ⟨d.f0, d.f1, d.f2, now⟩ (by simp [endG, p3, p1, p2]; omega))
                clear hsn hss
                go_wp2_with (at_builtin; refine Hid.out ?_); refine Lib.hid ?_
                refine wpList_app (s := .tmp 39) (x := .tmp 41) rfl 25 33 (.agg #[.int .i64 0, .int .i64 0, .int .i64 0, .int .i64 0]) 4 32 rfl Try.underlying25 infoG rfl (by decide) (by decide) w.heap.size _ (endTo ds who now k).length (cellsG (endTo ds who now k)) rfl (own_alloc (own_alloc ho.out _) _) ⟨wr.heap.size + 1, 0, none⟩ 1 1 (encG ⟨d.f0, d.f1, d.f2, now⟩) rfl rfl (news_bk (bk_at (by simp))) (fun u hu => List.all_eq_true.mp (show List.all (encG ⟨d.f0, d.f1, d.f2, now⟩) Value.oneCell' = true from rfl) u hu) (by omega) (by have := hB.size; simp; omega) ?_
                intro v' w5 hown' hgrow hnn
                have hB5 : Below w.heap.size w w5 := Below.grown (Below.al (Below.al hB _) _) hgrow (by have := hB.size; simp; omega) (own_gt ho.out)
                clear hgrow hnn
                have ho5 := Lib.hid (ended_more hf.out hown')
                clear hown'
                go_wp2_with fail
                refine ⟨⟨k + 1, by omega, by go_num, ho5, hB5⟩, by simp [intOf]; omega⟩
        · by_cases p3 : now ≤ d.f2
          · have hf := Lib.hid (hsn.out d rfl (by simp [endG, p3, p1]))
            clear hsn hss
            go_wp2_with fail
            refine ⟨⟨k + 1, by omega, by go_num, by rw [hf.out]; exact own_alloc ho.out _, Below.al hB _⟩, by simp [intOf]; omega⟩
          · by_cases p4 : d.f3 ≤ now
            · have hf := Lib.hid (hss.out d rfl ⟨d.f0, d.f1, d.f2, d.f3⟩ (by simp [endG, p3, p1]; omega))
              clear hsn hss
              go_wp2_with (at_builtin; refine Hid.out ?_); refine Lib.hid ?_
              refine wpList_app (s := .tmp 39) (x := .tmp 41) rfl 25 33 (.agg #[.int .i64 0, .int .i64 0, .int .i64 0, .int .i64 0]) 4 32 rfl Try.underlying25 infoG rfl (by decide) (by decide) w.heap.size _ (endTo ds who now k).length (cellsG (endTo ds who now k)) rfl (own_alloc (own_alloc ho.out _) _) ⟨wr.heap.size + 1, 0, none⟩ 1 1 (encG ⟨d.f0, d.f1, d.f2, d.f3⟩) rfl rfl (news_bk (bk_at (by simp))) (fun u hu => List.all_eq_true.mp (show List.all (encG ⟨d.f0, d.f1, d.f2, d.f3⟩) Value.oneCell' = true from rfl) u hu) (by omega) (by have := hB.size; simp; omega) ?_
              intro v' w5 hown' hgrow hnn
              have hB5 : Below w.heap.size w w5 := Below.grown (Below.al (Below.al hB _) _) hgrow (by have := hB.size; simp; omega) (own_gt ho.out)
              clear hgrow hnn
              have ho5 := Lib.hid (ended_more hf.out hown')
              clear hown'
              go_wp2_with fail
              refine ⟨⟨k + 1, by omega, by go_num, ho5, hB5⟩, by simp [intOf]; omega⟩
            · have hf := Lib.hid (hss.out d rfl ⟨d.f0, d.f1, d.f2, now⟩ (by simp [endG, p3, p1]; omega))
              clear hsn hss
              go_wp2_with (at_builtin; refine Hid.out ?_); refine Lib.hid ?_
              refine wpList_app (s := .tmp 39) (x := .tmp 41) rfl 25 33 (.agg #[.int .i64 0, .int .i64 0, .int .i64 0, .int .i64 0]) 4 32 rfl Try.underlying25 infoG rfl (by decide) (by decide) w.heap.size _ (endTo ds who now k).length (cellsG (endTo ds who now k)) rfl (own_alloc (own_alloc ho.out _) _) ⟨wr.heap.size + 1, 0, none⟩ 1 1 (encG ⟨d.f0, d.f1, d.f2, now⟩) rfl rfl (news_bk (bk_at (by simp))) (fun u hu => List.all_eq_true.mp (show List.all (encG ⟨d.f0, d.f1, d.f2, now⟩) Value.oneCell' = true from rfl) u hu) (by omega) (by have := hB.size; simp; omega) ?_
              intro v' w5 hown' hgrow hnn
              have hB5 : Below w.heap.size w w5 := Below.grown (Below.al (Below.al hB _) _) hgrow (by have := hB.size; simp; omega) (own_gt ho.out)
              clear hgrow hnn
              have ho5 := Lib.hid (ended_more hf.out hown')
              clear hown'
              go_wp2_with fail
              refine ⟨⟨k + 1, by omega, by go_num, ho5, hB5⟩, by simp [intOf]; omega⟩
      · have hke : k = ds.length := by omega
        subst hke
        go_wp2_with fail
        go_ret
        exact ⟨_, rfl, ho.out, hB⟩
set_option maxHeartbeats 3200000 in
theorem specEndGrants_any (many : Int) (ds : List Gra) (who now : Int) (v : Value) (w : World) (h : SlG w v ds) : Calls Try.prog 29 #[.int .i64 many, v, .int .i64 who, .int .i64 now] w (NewG' (endGrants many ds who now) w) := by
  obtain ⟨a, cap, rfl, h1, h2⟩ := SlF.shape h
  unfold maxLen at h2
  have H := Lib.hid h
  clear h
  have hmk0 : ∀ w : World, (Instr.buildSlice 25 0 #[]).run Try.prog w = .ok (.slice (some ⟨w.heap.size, 0, none⟩) 0 0) (w.alloc (.cells #[] 33)) := fun w => by kernel_rfl
  cases hv : gValid many ds
  · have hg : endGrants many ds who now = [] := by simp [endGrants, hv]
    rw [hg]
    by_cases hm : 0 < ds.length
    · go_enter Try.func29, Try.ntmps29
      go_wp2_with fail
      go_loopw [9, 10] (fun u i wr => i = .int .i64 0 ∧ Hid (wr.ownsRow w.heap.size 33 4 u 0 []) ∧ Below w.heap.size w wr) (fun _ i _ => 0)
      case atStart => exact ⟨rfl, own_made _ _ _ _ (Nat.le_refl _), Below.al (Below.refl _ _) _⟩
      case round =>
        obtain ⟨rfl, ho, hB⟩ := hrel
        go_wp2_with fail
        refine (specGValid_any many ds _ _ (SlF.below H.out hB)).mono ?_
        rintro e w1 ⟨rfl, b1⟩
        rw [hv]
        have ho1 := Lib.hid (own_below ho.out b1)
        go_wp2_with fail
        go_ret
        exact ⟨_, rfl, ho1.out, Below.via b1 hB⟩
    · go_enter Try.func29, Try.ntmps29
      go_wp2_with fail
      go_loopw [9, 10] (fun u i wr => i = .int .i64 0 ∧ Hid (wr.ownsRow w.heap.size 33 4 u 0 []) ∧ Below w.heap.size w wr) (fun _ i _ => 0)
      case atStart => exact ⟨rfl, own_made _ _ _ _ (Nat.le_refl _), Below.al (Below.refl _ _) _⟩
      case round =>
        obtain ⟨rfl, ho, hB⟩ := hrel
        go_wp2_with fail
        go_ret
        exact ⟨_, rfl, ho.out, hB⟩
  · obtain ⟨hm1, hm8, hl, hfs⟩ := gValid_f1 many ds hv
    have HF := Lib.hid hfs
    clear hfs
    have hg : endGrants many ds who now = endTo ds who now ds.length := by simp [endGrants, hv, endTo]
    rw [hg]
    clear hg
    go_enter Try.func29, Try.ntmps29
    go_wp2_with fail
    go_loopw [9, 10] (fun u i wr => ∃ k : Nat, k ≤ ds.length ∧ i = .int .i64 k ∧ Hid (wr.ownsRow w.heap.size 33 4 u (endTo ds who now k).length (cellsG (endTo ds who now k))) ∧ Below w.heap.size w wr) (fun _ i _ => ds.length - (intOf i).toNat)
    case atStart => exact ⟨0, Nat.zero_le _, rfl, own_made _ _ _ _ (Nat.le_refl _), Below.al (Below.refl _ _) _⟩
    case round =>
      obtain ⟨k, hk, rfl, ho, hB⟩ := hrel
      have hln := endTo_len ds who now k hk
      by_cases hlt : k < ds.length
      · go_wp2_with fail
        refine (specGValid_any many ds _ _ (SlF.below H.out hB)).mono ?_
        rintro e wr ⟨rfl, b1⟩
        rw [hv]
        replace ho := Lib.hid (own_below ho.out b1)
        replace hB := Below.via b1 hB
        clear b1
        obtain ⟨g, off, cap', hvv, _, _, c0, c1, c2, c3⟩ := (H.out.below hB).cells k hlt
        simp only [Value.slice.injEq] at hvv
        obtain ⟨rfl, -, rfl⟩ := hvv
        have hval := HF.out ds[k] (List.getElem_mem hlt)
        have hsn := Lib.hid (fun d hd => endTo_none ds who now k hlt d hd)
        have hss := Lib.hid (fun d hd => endTo_some ds who now k hlt d hd)
        generalize ds[k] = d at c0 c1 c2 c3 hsn hss hval
        cases p1 : who == -1
        · cases p2 : d.f0 == who
          · have hf := Lib.hid (hss.out d rfl ⟨d.f0, d.f1, d.f2, d.f3⟩ (by simp [endG, p1, p2]))
            clear hsn hss
            go_wp2_with (at_builtin; refine Hid.out ?_); refine Lib.hid ?_
            refine wpList_app (s := .tmp 46) (x := .tmp 48) rfl 25 33 (.agg #[.int .i64 0, .int .i64 0, .int .i64 0, .int .i64 0]) 4 32 rfl Try.underlying25 infoG rfl (by decide) (by decide) w.heap.size _ (endTo ds who now k).length (cellsG (endTo ds who now k)) rfl (own_alloc (own_alloc ho.out _) _) ⟨wr.heap.size + 1, 0, none⟩ 1 1 (encG ⟨d.f0, d.f1, d.f2, d.f3⟩) rfl rfl (news_bk (bk_at (by simp))) (fun u hu => List.all_eq_true.mp (show List.all (encG ⟨d.f0, d.f1, d.f2, d.f3⟩) Value.oneCell' = true from rfl) u hu) (by omega) (by have := hB.size; simp; omega) ?_
            intro v' w5 hown' hgrow hnn
            have hB5 : Below w.heap.size w w5 := Below.grown (Below.al (Below.al hB _) _) hgrow (by have := hB.size; simp; omega) (own_gt ho.out)
            clear hgrow hnn
            have ho5 := Lib.hid (ended_more hf.out hown')
            clear hown'
            go_wp2_with fail
            refine ⟨⟨k + 1, by omega, by go_num, ho5, hB5⟩, by simp [intOf]; omega⟩
          · by_cases p3 : now ≤ d.f2
            · have hf := Lib.hid (hsn.out d rfl (by simp [endG, p3, p1, p2]))
              clear hsn hss
              have hmin : ¬ d.f3 ≤ now := by omega
              go_wp2_with fail
              refine ⟨⟨k + 1, by omega, by go_num, by rw [hf.out]; exact own_alloc ho.out _, Below.al hB _⟩, by simp [intOf]; omega⟩
            · by_cases p4 : d.f3 ≤ now
              · have hf := Lib.hid (hss.out d rfl ⟨d.f0, d.f1, d.f2, d.f3⟩ (by simp [endG, p3, p1, p2]; omega))
                clear hsn hss
                go_wp2_with (at_builtin; refine Hid.out ?_); refine Lib.hid ?_
                refine wpList_app (s := .tmp 46) (x := .tmp 48) rfl 25 33 (.agg #[.int .i64 0, .int .i64 0, .int .i64 0, .int .i64 0]) 4 32 rfl Try.underlying25 infoG rfl (by decide) (by decide) w.heap.size _ (endTo ds who now k).length (cellsG (endTo ds who now k)) rfl (own_alloc (own_alloc ho.out _) _) ⟨wr.heap.size + 1, 0, none⟩ 1 1 (encG ⟨d.f0, d.f1, d.f2, d.f3⟩) rfl rfl (news_bk (bk_at (by simp))) (fun u hu => List.all_eq_true.mp (show List.all (encG ⟨d.f0, d.f1, d.f2, d.f3⟩) Value.oneCell' = true from rfl) u hu) (by omega) (by have := hB.size; simp; omega) ?_
                intro v' w5 hown' hgrow hnn
                have hB5 : Below w.heap.size w w5 := Below.grown (Below.al (Below.al hB _) _) hgrow (by have := hB.size; simp; omega) (own_gt ho.out)
                clear hgrow hnn
                have ho5 := Lib.hid (ended_more hf.out hown')
                clear hown'
                go_wp2_with fail
                refine ⟨⟨k + 1, by omega, by go_num, ho5, hB5⟩, by simp [intOf]; omega⟩
              · have hf := Lib.hid (hss.out d rfl ⟨d.f0, d.f1, d.f2, now⟩ (by simp [endG, p3, p1, p2]; omega))
                clear hsn hss
                go_wp2_with (at_builtin; refine Hid.out ?_); refine Lib.hid ?_
                refine wpList_app (s := .tmp 46) (x := .tmp 48) rfl 25 33 (.agg #[.int .i64 0, .int .i64 0, .int .i64 0, .int .i64 0]) 4 32 rfl Try.underlying25 infoG rfl (by decide) (by decide) w.heap.size _ (endTo ds who now k).length (cellsG (endTo ds who now k)) rfl (own_alloc (own_alloc ho.out _) _) ⟨wr.heap.size + 1, 0, none⟩ 1 1 (encG ⟨d.f0, d.f1, d.f2, now⟩) rfl rfl (news_bk (bk_at (by simp))) (fun u hu => List.all_eq_true.mp (show List.all (encG ⟨d.f0, d.f1, d.f2, now⟩) Value.oneCell' = true from rfl) u hu) (by omega) (by have := hB.size; simp; omega) ?_
                intro v' w5 hown' hgrow hnn
                have hB5 : Below w.heap.size w w5 := Below.grown (Below.al (Below.al hB _) _) hgrow (by have := hB.size; simp; omega) (own_gt ho.out)
                clear hgrow hnn
                have ho5 := Lib.hid (ended_more hf.out hown')
                clear hown'
                go_wp2_with fail
                refine ⟨⟨k + 1, by omega, by go_num, ho5, hB5⟩, by simp [intOf]; omega⟩
        · by_cases p3 : now ≤ d.f2
          · have hf := Lib.hid (hsn.out d rfl (by simp [endG, p3, p1]))
            clear hsn hss
            have hmin : ¬ d.f3 ≤ now := by omega
            go_wp2_with fail
            refine ⟨⟨k + 1, by omega, by go_num, by rw [hf.out]; exact own_alloc ho.out _, Below.al hB _⟩, by simp [intOf]; omega⟩
          · by_cases p4 : d.f3 ≤ now
            · have hf := Lib.hid (hss.out d rfl ⟨d.f0, d.f1, d.f2, d.f3⟩ (by simp [endG, p3, p1]; omega))
              clear hsn hss
              go_wp2_with (at_builtin; refine Hid.out ?_); refine Lib.hid ?_
              refine wpList_app (s := .tmp 46) (x := .tmp 48) rfl 25 33 (.agg #[.int .i64 0, .int .i64 0, .int .i64 0, .int .i64 0]) 4 32 rfl Try.underlying25 infoG rfl (by decide) (by decide) w.heap.size _ (endTo ds who now k).length (cellsG (endTo ds who now k)) rfl (own_alloc (own_alloc ho.out _) _) ⟨wr.heap.size + 1, 0, none⟩ 1 1 (encG ⟨d.f0, d.f1, d.f2, d.f3⟩) rfl rfl (news_bk (bk_at (by simp))) (fun u hu => List.all_eq_true.mp (show List.all (encG ⟨d.f0, d.f1, d.f2, d.f3⟩) Value.oneCell' = true from rfl) u hu) (by omega) (by have := hB.size; simp; omega) ?_
              intro v' w5 hown' hgrow hnn
              have hB5 : Below w.heap.size w w5 := Below.grown (Below.al (Below.al hB _) _) hgrow (by have := hB.size; simp; omega) (own_gt ho.out)
              clear hgrow hnn
              have ho5 := Lib.hid (ended_more hf.out hown')
              clear hown'
              go_wp2_with fail
              refine ⟨⟨k + 1, by omega, by go_num, ho5, hB5⟩, by simp [intOf]; omega⟩
            · have hf := Lib.hid (hss.out d rfl ⟨d.f0, d.f1, d.f2, now⟩ (by simp [endG, p3, p1]; omega))
              clear hsn hss
              go_wp2_with (at_builtin; refine Hid.out ?_); refine Lib.hid ?_
              refine wpList_app (s := .tmp 46) (x := .tmp 48) rfl 25 33 (.agg #[.int .i64 0, .int .i64 0, .int .i64 0, .int .i64 0]) 4 32 rfl Try.underlying25 infoG rfl (by decide) (by decide) w.heap.size _ (endTo ds who now k).length (cellsG (endTo ds who now k)) rfl (own_alloc (own_alloc ho.out _) _) ⟨wr.heap.size + 1, 0, none⟩ 1 1 (encG ⟨d.f0, d.f1, d.f2, now⟩) rfl rfl (news_bk (bk_at (by simp))) (fun u hu => List.all_eq_true.mp (show List.all (encG ⟨d.f0, d.f1, d.f2, now⟩) Value.oneCell' = true from rfl) u hu) (by omega) (by have := hB.size; simp; omega) ?_
              intro v' w5 hown' hgrow hnn
              have hB5 : Below w.heap.size w w5 := Below.grown (Below.al (Below.al hB _) _) hgrow (by have := hB.size; simp; omega) (own_gt ho.out)
              clear hgrow hnn
              have ho5 := Lib.hid (ended_more hf.out hown')
              clear hown'
              go_wp2_with fail
              refine ⟨⟨k + 1, by omega, by go_num, ho5, hB5⟩, by simp [intOf]; omega⟩
      · have hke : k = ds.length := by omega
        subst hke
        go_wp2_with fail
        go_ret
        exact ⟨_, rfl, ho.out, hB⟩
end Go.Proofs.Ytlcjkehpdlgdoaa
