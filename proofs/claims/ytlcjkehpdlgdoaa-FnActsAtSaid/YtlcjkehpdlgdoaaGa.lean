/-
  The roles that are granted at a time: the program's way and the reference's. No condition.
-/
import Derived.Test.YtlcjkehpdlgdoaaMem
import Derived.Test.YtlcjkehpdlgdoaaGw
set_option linter.unusedSimpArgs false
set_option linter.unusedVariables false
namespace Go.Proofs.Ytlcjkehpdlgdoaa
open Go.RowKit
theorem wrap64_pow (r : Nat) (h : r ≤ 62) : wrap64 (2 ^ r) = ((1 <<< r : Nat) : Int) := by
  have hp : 2 ^ r ≤ 2 ^ 62 := Nat.pow_le_pow_right (by omega) h
  have hq := Nat.two_pow_pos r
  have e : (2 : Int) ^ r = ((2 ^ r : Nat) : Int) := by simp
  rw [Nat.one_shiftLeft, e]
  generalize 2 ^ r = x at *
  unfold wrap64
  omega
theorem any_step {α : Type} (xs : List α) (p : α → Bool) (k : Nat) (h : k < xs.length) : (xs.take (k + 1)).any p = ((xs.take k).any p || p xs[k]) := by
  rw [List.take_succ_eq_append_getElem h, List.any_append]
  simp
theorem any_end {α : Type} (xs : List α) (p : α → Bool) (k : Nat) (h : ¬ k < xs.length) : (xs.take k).any p = xs.any p := by
  rw [List.take_of_length_le (by omega)]
/-- A grant holds for someone, a role and a time. -/
def onG (who now role : Int) (g : Gra) : Bool := (((g.f0 == who && g.f1 == role) && decide (g.f2 ≤ now)) && decide (now < g.f3))
/-- A grant holds for someone and a time. -/
def onT (who now : Int) (g : Gra) : Bool := ((g.f0 == who && decide (g.f2 ≤ now)) && decide (now < g.f3))
def setAt (ds : List Gra) (who now : Int) : Nat := ds.foldl (fun s g => if onT who now g then s ||| 1 <<< g.f1.toNat else s) 0
def grantsAt (many : Int) (ds : List Gra) (who now : Int) : List Int := if gValid many ds then ((List.range many.toNat).filter (fun (r : Nat) => ds.any (onG who now r))).map (fun (r : Nat) => (r : Int)) else []
theorem setAt_step (ds : List Gra) (who now : Int) (k : Nat) (h : k < ds.length) : setAt (ds.take (k + 1)) who now = if onT who now ds[k] then setAt (ds.take k) who now ||| 1 <<< ds[k].f1.toNat else setAt (ds.take k) who now := by
  unfold setAt
  rw [List.take_succ_eq_append_getElem h, List.foldl_append]
  rfl
theorem fold_bit (ds : List Gra) (who now : Int) (s0 : Nat) (r : Nat) (h : ∀ g ∈ ds, 0 ≤ g.f1) :
    (ds.foldl (fun s g => if onT who now g then s ||| 1 <<< g.f1.toNat else s) s0).testBit r = (s0.testBit r || ds.any (onG who now r)) := by
  induction ds generalizing s0 with
  | nil => simp
  | cons g ds ih =>
    rw [List.foldl_cons, ih _ (fun g hg => h g (List.mem_cons_of_mem _ hg)), List.any_cons]
    have h0 := h g List.mem_cons_self
    have hd : decide (g.f1.toNat = r) = (g.f1 == (r : Int)) := by
      rw [Bool.eq_iff_iff]; simp; omega
    cases ht : onT who now g
    · have : onG who now r g = false := by
        simp only [onT, onG] at ht ⊢
        revert ht
        cases g.f0 == who <;> cases decide (g.f2 ≤ now) <;> cases decide (now < g.f3) <;> cases g.f1 == (r : Int) <;> simp
      rw [this]
      simp
    · have : onG who now r g = (g.f1 == (r : Int)) := by
        simp only [onT, onG] at ht ⊢
        revert ht
        cases g.f0 == who <;> cases decide (g.f2 ≤ now) <;> cases decide (now < g.f3) <;> cases g.f1 == (r : Int) <;> simp
      rw [this, ← hd, if_pos rfl, Nat.testBit_or, Nat.one_shiftLeft, Nat.testBit_two_pow, Bool.or_assoc]
theorem gValid_f1 (many : Int) (ds : List Gra) (h : gValid many ds = true) : 1 ≤ many ∧ many ≤ 8 ∧ ds.length ≤ 12 ∧ ∀ g ∈ ds, 0 ≤ g.f1 ∧ g.f1 < many ∧ 0 ≤ g.f0 ∧ g.f0 ≤ 6 ∧ 0 ≤ g.f2 ∧ g.f2 < g.f3 ∧ g.f3 ≤ 1000 := by
  simp only [gValid, Bool.and_eq_true, List.all_eq_true, decide_eq_true_eq, inR_iff] at h
  have hw : wrap64 (many - 1) = many - 1 := by have := h.2.1; unfold wrap64; omega
  refine ⟨h.2.1.1, h.2.1.2, h.2.2, fun g hg => ?_⟩
  have h1 := h.1 g hg
  simp only [gOk, Bool.and_eq_true, inR_iff, hw] at h1
  omega
theorem setAt_lt (ds : List Gra) (who now : Int) (h : ∀ g ∈ ds, 0 ≤ g.f1 ∧ g.f1 ≤ 7) : setAt ds who now < 256 := by
  unfold setAt
  have : ∀ (s0 : Nat), s0 < 2 ^ 8 → ds.foldl (fun s g => if onT who now g then s ||| 1 <<< g.f1.toNat else s) s0 < 2 ^ 8 := by
    induction ds with
    | nil => intro s0 h0; exact h0
    | cons g ds ih =>
      intro s0 h0
      rw [List.foldl_cons]
      refine ih (fun g hg => h g (List.mem_cons_of_mem _ hg)) _ ?_
      split
      · refine Nat.or_lt_two_pow h0 ?_
        rw [Nat.one_shiftLeft]
        have := h g List.mem_cons_self
        exact Nat.pow_lt_pow_right (by omega) (by omega)
      · exact h0
  exact this 0 (by omega)
theorem grantsAt_bits (many : Int) (ds : List Gra) (who now : Int) (h : gValid many ds = true) : bitsTo (setAt ds who now) 63 = grantsAt many ds who now := by
  obtain ⟨h1, h2, h3, h4⟩ := gValid_f1 many ds h
  have hlt : ∀ g ∈ ds, g.f1 < many := fun g hg => (h4 g hg).2.1
  have hb : ∀ r : Nat, (setAt ds who now).testBit r = ds.any (onG who now r) := fun r => by
    rw [setAt, fold_bit ds who now 0 r (fun g hg => (h4 g hg).1)]
    simp
  unfold grantsAt
  rw [if_pos h]
  have hset : setAt ds who now < 2 ^ many.toNat := by
    refine Nat.lt_pow_two_of_testBit _ fun i hi => ?_
    rw [hb, List.any_eq_false]
    intro g hg
    have := hlt g hg
    simp only [onG]
    have : (g.f1 == (i : Int)) = false := by simp; omega
    simp [this]
  have he := bitsTo_end (setAt ds who now) many.toNat (63 - many.toNat) hset
  rw [show many.toNat + (63 - many.toNat) = 63 by omega] at he
  rw [he, bitsTo]
  congr 1
  exact List.filter_congr fun r _ => hb r
theorem rolesAt_any (ds : List Gra) (who now : Int) (v : Value) (w : World) (h : SlG w v ds) (hf : ∀ g ∈ ds, 0 ≤ g.f1 ∧ g.f1 ≤ 7) : Calls Try.prog 57 #[v, .int .i64 who, .int .i64 now] w fun e w' => e = .returned (.int .i64 (setAt ds who now : Nat)) ∧ Below w.heap.size w w' := by
  obtain ⟨a, cap, rfl, h1, h2⟩ := SlF.shape h
  unfold maxLen at h2
  have H := Lib.hid h
  have HF := Lib.hid hf
  clear h hf
  go_enter Try.func57, Try.ntmps57
  go_wp2_with fail
  go_loopw [7, 12] (fun s i wr => ∃ k : Nat, k ≤ ds.length ∧ i = .int .i64 k ∧ s = .int .i64 (setAt (ds.take k) who now : Nat) ∧ Below w.heap.size w wr) (fun _ i _ => ds.length - (intOf i).toNat)
  case atStart => exact ⟨0, Nat.zero_le _, rfl, rfl, Below.refl _ _⟩
  case round =>
    obtain ⟨k, hk, rfl, rfl, hB⟩ := hrel
    by_cases hlt : k < ds.length
    · obtain ⟨g, off, cap', hv, _, _, c0, c1, c2, c3⟩ := (H.out.below hB).cells k hlt
      simp only [Value.slice.injEq] at hv
      obtain ⟨rfl, -, rfl⟩ := hv
      have hs := Lib.hid (setAt_step ds who now k hlt)
      have hlt8 := setAt_lt (ds.take k) who now (fun g hg => HF.out g (List.mem_of_mem_take hg))
      have hb1 := HF.out ds[k] (List.getElem_mem hlt)
      generalize ds[k] = d at c0 c1 c2 c3 hs hb1
      generalize hS : setAt (ds.take k) who now = S at *
      have hSH := Lib.hid hS
      clear hS
      have hxa := fun o => Below.al hB o
      cases p1 : d.f0 == who
      · have hf := Lib.hid (hs.out.trans (show _ = S from by simp [onT, p1]))
        clear hs
        go_wp2_with fail
        go_roundw
        case rel => exact ⟨k + 1, by omega, by go_num, by rw [hf.out], hxa _⟩
        case measure => simp [intOf]; omega
      · cases p2 : decide (d.f2 ≤ now)
        · have hf := Lib.hid (hs.out.trans (show _ = S from by simp only [onT, p1, p2]; rfl))
          clear hs
          go_wp2_with fail
          go_roundw
          case rel => exact ⟨k + 1, by omega, by go_num, by rw [hf.out], hxa _⟩
          case measure => simp [intOf]; omega
        · cases p3 : decide (now < d.f3)
          · have hf := Lib.hid (hs.out.trans (show _ = S from by simp only [onT, p1, p2, p3]; rfl))
            clear hs
            go_wp2_with fail
            go_roundw
            case rel => exact ⟨k + 1, by omega, by go_num, by rw [hf.out], hxa _⟩
            case measure => simp [intOf]; omega
          · have hf := Lib.hid (hs.out.trans (show _ = S ||| 1 <<< d.f1.toNat from by simp [onT, p1, p2, p3]))
            clear hs
            obtain ⟨r, hr⟩ : ∃ r : Nat, d.f1 = (r : Int) := ⟨d.f1.toNat, by omega⟩
            rw [hr] at c1 hf hb1
            have hr7 : r ≤ 7 := by omega
            have hw := wrap64_pow r (by omega)
            have hbor := bits_or_nat S (1 <<< r) (by omega) (by rcases (show r = 0 ∨ r = 1 ∨ r = 2 ∨ r = 3 ∨ r = 4 ∨ r = 5 ∨ r = 6 ∨ r = 7 by omega) with rfl | rfl | rfl | rfl | rfl | rfl | rfl | rfl <;> decide)
            rw [← hw] at hbor
            clear hw
            go_wp2_with fail
            go_roundw
            case rel => exact ⟨k + 1, by omega, by go_num, by rw [hf.out]; rfl, hxa _⟩
            case measure => simp [intOf]; omega
    · have hf := Lib.hid (show setAt (ds.take k) who now = setAt ds who now by rw [List.take_of_length_le (by omega)])
      go_wp2_with fail
      go_ret
      exact ⟨by rw [hf.out]; rfl, hB⟩
theorem grantsAt_len (many : Int) (ds : List Gra) (who now : Int) : (grantsAt many ds who now).length ≤ 8 := by
  unfold grantsAt
  split
  · rename_i h
    have := gValid_f1 many ds h
    rw [List.length_map]
    refine Nat.le_trans (List.length_filter_le _ _) ?_
    simp
    omega
  · simp
theorem implGrantsAt_any (many : Int) (ds : List Gra) (who now : Int) (v : Value) (w : World) (h : SlG w v ds) : Calls Try.prog 22 #[.int .i64 many, v, .int .i64 who, .int .i64 now] w (NewI (grantsAt many ds who now) w) := by
  have H := Lib.hid h
  clear h
  cases hv : gValid many ds
  · have hg : grantsAt many ds who now = [] := by simp [grantsAt, hv]
    rw [hg]
    go_enter Try.func22, Try.ntmps22
    go_wp2_with fail
    refine (implGValid_any many ds v _ H.out).mono ?_
    rintro e w1 ⟨rfl, b1⟩
    rw [hv]
    go_wp2_with fail
    go_ret
    exact ⟨_, rfl, World.ownsRow_nil _ _ _ _, b1⟩
  · have hg := grantsAt_bits many ds who now hv
    obtain ⟨hm1, hm8, hl, hfs⟩ := gValid_f1 many ds hv
    have h7 : ∀ g ∈ ds, 0 ≤ g.f1 ∧ g.f1 ≤ 7 := fun g hg => by have := hfs g hg; omega
    have hlt := setAt_lt ds who now h7
    have H7 := Lib.hid h7
    clear h7 hfs
    rw [← hg]
    clear hg
    go_enter Try.func22, Try.ntmps22
    go_wp2_with fail
    refine (implGValid_any many ds v _ H.out).mono ?_
    rintro e w1 ⟨rfl, b1⟩
    rw [hv]
    go_wp2_with fail
    refine (rolesAt_any ds who now v _ (SlF.below H.out b1) H7.out).mono ?_
    rintro e w2 ⟨rfl, b2⟩
    generalize setAt ds who now = S at *
    go_wp2_with fail
    refine (members_any S _ (by omega)).mono ?_
    rintro e w3 ⟨u, rfl, o3, b3⟩
    have O3 := Lib.hid o3
    clear o3
    go_wp2_with fail
    go_ret
    refine ⟨u, rfl, own_lo O3.out (by have := b1.size; have := b2.size; omega), ?_⟩
    (repeat' first | (with_reducible exact Below.refl _ _) | (with_reducible refine Below.rd (by assumption) ?_ ?_) | (with_reducible refine Below.via (by assumption) ?_) | (with_reducible refine Below.al ?_ _) | (with_reducible refine Below.dn ?_ _) | (with_reducible refine Below.dr ?_) | (with_reducible refine Below.setCell ?_ ?_ _) | (dsimp only; omega) | (simp only [World.size_alloc, World.size_drew]; omega) | (simp; done) | omega)
/-- The roles below k that are granted. -/
def atTo (ds : List Gra) (who now : Int) (k : Nat) : List Int := ((List.range k).filter (fun (r : Nat) => ds.any (onG who now r))).map (fun (r : Nat) => (r : Int))
theorem atTo_step (ds : List Gra) (who now : Int) (k : Nat) : atTo ds who now (k + 1) = if ds.any (onG who now k) then atTo ds who now k ++ [(k : Int)] else atTo ds who now k := by
  unfold atTo
  rw [List.range_succ, List.filter_append]
  cases h : ds.any (onG who now k) <;> simp [h]
theorem atTo_len (ds : List Gra) (who now : Int) (k : Nat) : (atTo ds who now k).length ≤ k := by
  unfold atTo
  rw [List.length_map]
  exact Nat.le_trans (List.length_filter_le _ _) (by simp)
set_option maxHeartbeats 1600000 in
theorem specGrantsAt_any (many : Int) (ds : List Gra) (who now : Int) (v : Value) (w : World) (h : SlG w v ds) : Calls Try.prog 21 #[.int .i64 many, v, .int .i64 who, .int .i64 now] w (NewI (grantsAt many ds who now) w) := by
  obtain ⟨a, cap, rfl, h1, h2⟩ := SlF.shape h
  unfold maxLen at h2
  have H := Lib.hid h
  clear h
  have hmk0 : ∀ w : World, (Instr.buildSlice 36 0 #[]).run Try.prog w = .ok (.slice (some ⟨w.heap.size, 0, none⟩) 0 0) (w.alloc (.cells #[] 3)) := fun w => by kernel_rfl
  cases hv : gValid many ds
  · have hg : grantsAt many ds who now = [] := by simp [grantsAt, hv]
    rw [hg]
    by_cases hm : 0 < many
    · go_enter Try.func21, Try.ntmps21
      go_wp2_with fail
      go_loopw [9, 10] (fun u i wr => i = .int .i64 0 ∧ Hid (wr.ownsRow w.heap.size 3 1 u 0 []) ∧ Below w.heap.size w wr) (fun _ i _ => 0)
      case atStart => exact ⟨rfl, own_made _ _ _ _ (Nat.le_refl _), Below.al (Below.refl _ _) _⟩
      case round =>
        obtain ⟨rfl, ho, hB⟩ := hrel
        go_wp2_with fail
        refine (specGValid_any many ds _ _ (SlF.below H.out hB)).mono ?_
        rintro e w1 ⟨rfl, b1⟩
        rw [hv]
        have ho1 := Lib.hid (own_below ho.out b1)
        go_wp2_with fail
        go_ret
        exact ⟨_, rfl, ho1.out, Below.via b1 hB⟩
    · go_enter Try.func21, Try.ntmps21
      go_wp2_with fail
      go_loopw [9, 10] (fun u i wr => i = .int .i64 0 ∧ Hid (wr.ownsRow w.heap.size 3 1 u 0 []) ∧ Below w.heap.size w wr) (fun _ i _ => 0)
      case atStart => exact ⟨rfl, own_made _ _ _ _ (Nat.le_refl _), Below.al (Below.refl _ _) _⟩
      case round =>
        obtain ⟨rfl, ho, hB⟩ := hrel
        go_wp2_with fail
        go_ret
        exact ⟨_, rfl, ho.out, hB⟩
  · obtain ⟨hm1, hm8, hl, hfs⟩ := gValid_f1 many ds hv
    clear hfs
    obtain ⟨m, rfl⟩ : ∃ m : Nat, many = (m : Int) := ⟨many.toNat, by omega⟩
    have hg : grantsAt m ds who now = atTo ds who now m := by simp [grantsAt, hv, atTo]
    rw [hg]
    go_enter Try.func21, Try.ntmps21
    go_wp2_with fail
    go_loopw [9, 10] (fun u i wr => ∃ r : Nat, r ≤ m ∧ i = .int .i64 r ∧ Hid (wr.ownsRow w.heap.size 3 1 u (atTo ds who now r).length (cellsI (atTo ds who now r))) ∧ Below w.heap.size w wr) (fun _ i _ => m - (intOf i).toNat)
    case atStart => exact ⟨0, Nat.zero_le _, rfl, own_made _ _ _ _ (Nat.le_refl _), Below.al (Below.refl _ _) _⟩
    case round =>
      obtain ⟨r, hr, rfl, ho, hB⟩ := hrel
      by_cases hrm : r < m
      · have hst := Lib.hid (atTo_step ds who now r)
        have hln := atTo_len ds who now r
        go_wp2_with fail
        refine (specGValid_any m ds _ _ (SlF.below H.out hB)).mono ?_
        rintro e w1 ⟨rfl, b1⟩
        rw [hv]
        have ho1 := Lib.hid (own_below ho.out b1)
        have hB1 := Below.via b1 hB
        clear ho
        go_wp2_with fail
        go_loopw [11, 12] (fun f i wx => ∃ k : Nat, k ≤ ds.length ∧ i = .int .i64 k ∧ f = .bool ((ds.take k).any (onG who now r)) ∧ wx = w1) (fun _ i _ => ds.length - (intOf i).toNat)
        case atStart => exact ⟨0, Nat.zero_le _, rfl, rfl, rfl⟩
        case round =>
          obtain ⟨k, hk, rfl, rfl, rfl⟩ := hrel
          by_cases hlt : k < ds.length
          · obtain ⟨g, off, cap', hvv, _, _, c0, c1, c2, c3⟩ := (H.out.below hB1).cells k hlt
            simp only [Value.slice.injEq] at hvv
            obtain ⟨rfl, -, rfl⟩ := hvv
            have hs := Lib.hid (any_step ds (onG who now r) k hlt)
            generalize ds[k] = d at c0 c1 c2 c3 hs
            cases hf : (ds.take k).any (onG who now r)
            · cases p1 : d.f0 == who
              · have hf2 := Lib.hid (hs.out.trans (show _ = false from by rw [hf]; simp [onG, p1]))
                clear hs
                go_wp2_with fail
                go_roundw
                case rel => exact ⟨k + 1, by omega, by go_num, by rw [hf2.out], trivial⟩
                case measure => simp [intOf]; omega
              · cases p2 : d.f1 == (r : Int)
                · have hf2 := Lib.hid (hs.out.trans (show _ = false from by rw [hf]; simp [onG, p1, p2]))
                  clear hs
                  go_wp2_with fail
                  go_roundw
                  case rel => exact ⟨k + 1, by omega, by go_num, by rw [hf2.out], trivial⟩
                  case measure => simp [intOf]; omega
                · cases p3 : decide (d.f2 ≤ now)
                  · have hf2 := Lib.hid (hs.out.trans (show _ = false from by rw [hf]; simp only [onG, p1, p2, p3]; rfl))
                    clear hs
                    go_wp2_with fail
                    go_roundw
                    case rel => exact ⟨k + 1, by omega, by go_num, by rw [hf2.out], trivial⟩
                    case measure => simp [intOf]; omega
                  · have hf2 := Lib.hid (hs.out.trans (show _ = decide (now < d.f3) from by rw [hf]; simp only [onG, p1, p2, p3]; simp))
                    clear hs
                    go_wp2_with fail
                    go_roundw
                    case rel => exact ⟨k + 1, by omega, by go_num, by rw [hf2.out], trivial⟩
                    case measure => simp [intOf]; omega
            · have hf2 := Lib.hid (hs.out.trans (show _ = true from by rw [hf]; rfl))
              clear hs
              go_wp2_with fail
              go_roundw
              case rel => exact ⟨k + 1, by omega, by go_num, by rw [hf2.out], trivial⟩
              case measure => simp [intOf]; omega
          · have he := any_end ds (onG who now r) k hlt
            rw [he]
            cases hf : ds.any (onG who now r)
            · have hf2 := Lib.hid (hst.out.trans (show _ = atTo ds who now r from by rw [hf]; rfl))
              go_wp2_with fail
              refine ⟨⟨r + 1, by omega, by go_num, ?_, hB1⟩, by simp [intOf]; omega⟩
              rw [hf2.out]
              exact ho1
            · have hf2 := Lib.hid (hst.out.trans (show _ = atTo ds who now r ++ [(r : Int)] from by rw [hf]; rfl))
              go_wp2_with (at_builtin; refine Hid.out ?_); refine Lib.hid ?_
              refine wpList_app (s := .tmp 68) (x := .tmp 70) rfl 36 3 (.int .i64 0) 1 8 rfl Try.underlying36 infoI rfl (by decide) (by decide) w.heap.size _ (atTo ds who now r).length (cellsI (atTo ds who now r)) rfl (own_alloc ho1.out _) ⟨_, 0, none⟩ 1 1 [.int .i64 r] rfl rfl (news_bk Bk.new) (fun u hu => List.all_eq_true.mp (show List.all [Value.int .i64 r] Value.oneCell' = true from rfl) u hu) (by omega) (by have := hB1.size; simp only [World.size_alloc]; omega) ?_
              intro v' w5 hown' hgrow hnn
              have hf5 := own_alloc ho1.out (.cells #[.int .i64 r] 3)
              have hB5 : Below w.heap.size w w5 := Below.grown (Below.al hB1 _) hgrow (by have := hB1.size; simp only [World.size_alloc]; omega) (own_gt hf5)
              clear hgrow hnn hf5
              have ho5 := Lib.hid hown'
              clear hown'
              go_wp2_with fail
              refine ⟨⟨r + 1, by omega, by go_num, ?_, hB5⟩, by simp [intOf]; omega⟩
              rw [hf2.out]
              show w5.ownsRow _ _ _ _ _ _
              rw [cellsI_app, List.length_append]
              exact ho5.out
      · have hre : r = m := by omega
        subst hre
        go_wp2_with fail
        go_ret
        exact ⟨_, rfl, ho.out, hB⟩
end Go.Proofs.Ytlcjkehpdlgdoaa
