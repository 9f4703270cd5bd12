/-
  Related things, and whether a thing is related: the program's way and the reference's. No condition.
-/
import Derived.Test.YtfeaclnbkmaeeaaTut
set_option linter.unusedSimpArgs false
set_option linter.unusedVariables false
namespace Go.Proofs.Ytfeaclnbkmaeeaa
open Go.RowKit
theorem own_ne {w : World} {lo e k : Nat} {v : Value} {n : Nat} {cs : List Value} {g : Nat} {vs : Array Value} {t : TypeId} (h : w.ownsRow lo e k v n cs) (hb : Bk w g vs t) (ht : t ≠ e) : v.ownBlock ≠ some g := by
  rcases h.2 with ⟨rfl, _⟩ | ⟨g2, cap, cur, rfl, _, hg, _⟩
  · simp [Value.ownBlock]
  · intro he
    simp [Value.ownBlock] at he
    subst he
    unfold Bk at hb
    rw [hg] at hb
    simp at hb
    exact ht hb.2.symm
theorem below_al0 (w : World) (o : Obj) : Below w.heap.size w (w.alloc o) := Below.al (Below.refl _ _) o
def relT (ds : List Tup) (about : Int) (nm : ByteArray) : List Int := if tValid ds then bitsTo (relN ds 4 about nm) 7 else []
def isRel (ds : List Tup) (about : Int) (nm : ByteArray) (other : Int) : Bool := (relT ds about nm).any (fun n => n == other)
theorem relT_len (ds : List Tup) (about : Int) (nm : ByteArray) : (relT ds about nm).length ≤ 7 := by
  unfold relT
  split
  · exact bitsTo_len _ _
  · simp
theorem bits63 (S : Nat) (h : S < 128) : bitsTo S 63 = bitsTo S 7 := by
  have := bitsTo_end S 7 56 (by omega)
  simpa using this
theorem implRel_any (ds : List Tup) (about : Int) (nm : ByteArray) (v : Value) (w : World) (h : SlT w v ds) (hstr : ∀ d ∈ ds, Str d) : Calls Try.prog 20 #[v, .int .i64 about, .string nm] w (NewI (relT ds about nm) w) := by
  have H := Lib.hid h
  have HSt := Lib.hid hstr
  clear h hstr
  cases hv : tValid ds
  · have hg : relT ds about nm = [] := by simp [relT, hv]
    rw [hg]
    go_enter Try.func20, Try.ntmps20
    go_wp2_with fail
    refine (implTValid_any ds v _ H.out HSt.out).mono ?_
    rintro e w1 ⟨rfl, b1⟩
    rw [hv]
    go_wp2_with fail
    go_ret
    exact ⟨_, rfl, World.ownsRow_nil _ _ _ _, b1⟩
  · have h7 := tValid_in7 hv
    have hg : relT ds about nm = bitsTo (relN ds 4 about nm) 63 := by simp [relT, hv, bits63 _ (relN_lt ds h7 4 about nm)]
    have hlt := relN_lt ds h7 4 about nm
    have H7 := Lib.hid h7
    clear h7
    rw [hg]
    clear hg
    go_enter Try.func20, Try.ntmps20
    go_wp2_with fail
    refine (implTValid_any ds v _ H.out HSt.out).mono ?_
    rintro e w1 ⟨rfl, b1⟩
    rw [hv]
    go_wp2_with fail
    refine (related_any ds H7.out 4 about nm v _ (by omega) (SlF.below H.out b1)).mono ?_
    rintro e w2 ⟨rfl, b2⟩
    generalize relN ds 4 about nm = S at *
    go_wp2_with fail
    refine (members_any S _ (by omega)).mono ?_
    rintro e w3 ⟨u, rfl, o3, b3⟩
    have O3 := Lib.hid o3
    clear o3
    go_wp2_with fail
    go_ret
    refine ⟨u, rfl, own_lo O3.out (by have := b1.size; have := b2.size; omega), ?_⟩
    (repeat' first | (with_reducible exact Below.refl _ _) | (with_reducible refine Below.rd (by assumption) ?_ ?_) | (with_reducible refine Below.via (by assumption) ?_) | (with_reducible refine Below.al ?_ _) | (with_reducible refine Below.dn ?_ _) | (with_reducible refine Below.dr ?_) | (with_reducible refine Below.setCell ?_ ?_ _) | (dsimp only; omega) | (simp only [World.size_alloc, World.size_drew]; omega) | (simp; done) | omega)
set_option maxHeartbeats 1600000 in
theorem specRel_any (ds : List Tup) (about : Int) (nm : ByteArray) (v : Value) (w : World) (h : SlT w v ds) (hstr : ∀ d ∈ ds, Str d) : Calls Try.prog 19 #[v, .int .i64 about, .string nm] w (NewI (relT ds about nm) w) := by
  have H := Lib.hid h
  have HSt := Lib.hid hstr
  clear h hstr
  have hmk0 : ∀ w : World, (Instr.buildSlice 39 0 #[]).run Try.prog w = .ok (.slice (some ⟨w.heap.size, 0, none⟩) 0 0) (w.alloc (.cells #[] 3)) := fun w => by kernel_rfl
  have hb0 := below_al0 w (.cells #[] 3)
  have ho0 := Lib.hid (own_made w w.heap.size 3 1 (Nat.le_refl _))
  cases hv : tValid ds
  · have hg : relT ds about nm = [] := by simp [relT, hv]
    rw [hg]
    go_enter Try.func19, Try.ntmps19
    go_wp2_with fail
    refine (specTValid_any ds v _ (SlF.below H.out hb0) HSt.out).mono ?_
    rintro e w1 ⟨rfl, b1⟩
    rw [hv]
    have ho1 := Lib.hid (own_below ho0.out b1)
    have hB1 := Below.via b1 hb0
    go_wp2_with fail
    go_ret
    exact ⟨_, rfl, ho1.out, hB1⟩
  · have h7 := tValid_in7 hv
    have hg : relT ds about nm = bitsTo (relN ds 4 about nm) 7 := by simp [relT, hv]
    have H7 := Lib.hid h7
    clear h7
    rw [hg]
    clear hg
    go_enter Try.func19, Try.ntmps19
    go_wp2_with fail
    refine (specTValid_any ds v _ (SlF.below H.out hb0) HSt.out).mono ?_
    rintro e w1 ⟨rfl, b1⟩
    rw [hv]
    have ho1 := Lib.hid (own_below ho0.out b1)
    have hB1 := Below.via b1 hb0
    clear hmk0 ho0
    go_wp2_with fail
    refine (reach_any ds H7.out 4 about nm v _ (by omega) (SlF.below H.out hB1)).mono ?_
    rintro e w2 ⟨g, rfl, hg, K, b2⟩
    have ho2 := Lib.hid (own_below ho1.out b2)
    have hB2 := Below.via b2 hB1
    have hz1 := hB1.size
    generalize relN ds 4 about nm = S at *
    have KH := Lib.hid K
    clear K ho1
    go_wp2_with fail
    go_loopw [7, 9] (fun u i wr => ∃ r : Nat, r ≤ 7 ∧ i = .int .i64 r ∧ Hid (wr.ownsRow w.heap.size 3 1 u (bitsTo S r).length (cellsI (bitsTo S r))) ∧ Hid (Bk wr g (bools S) 4) ∧ Below w.heap.size w wr) (fun _ i _ => 7 - (intOf i).toNat)
    case atStart => exact ⟨0, by omega, rfl, ho2.out, KH.out, hB2⟩
    case round =>
      obtain ⟨r, hr, rfl, ho, hK, hB⟩ := hrel
      by_cases hr7 : r < 7
      · have hr7i : (r : Int) < 7 := by omega
        have cr := (hK.out.cell r).trans (bools_get S r hr7)
        have hl := bitsTo_len S r
        cases ht : S.testBit r
        · rw [ht] at cr
          have hf := Lib.hid (bitsTo_off S r ht)
          clear ht
          go_wp2_with fail
          go_roundw
          case rel => exact ⟨r + 1, by omega, by go_num, by rw [hf.out]; exact ho, hK, hB⟩
          case measure => simp [intOf]; omega
        · rw [ht] at cr
          have hf := Lib.hid (bitsTo_on S r ht)
          clear ht
          have hsz := hB.size
          have hne := own_ne ho.out hK.out (by decide)
          go_wp2_with (at_builtin; refine Hid.out ?_); refine Lib.hid ?_
          refine wpList_app (s := .tmp 27) (x := .tmp 29) rfl 39 3 (.int .i64 0) 1 8 rfl Try.underlying39 infoI rfl (by decide) (by decide) w.heap.size _ (bitsTo S r).length (cellsI (bitsTo S r)) rfl (own_alloc ho.out _) ⟨wr.heap.size, 0, none⟩ 1 1 [.int .i64 r] rfl rfl (news_bk Bk.new) (fun u hu => List.all_eq_true.mp (show List.all [Value.int .i64 r] Value.oneCell' = true from rfl) u hu) (by omega) (by simp only [World.size_alloc]; omega) ?_
          intro v' w5 hown' hgrow hnn
          have hf5 := own_alloc ho.out (.cells #[.int .i64 r] 3)
          have hB5 : Below w.heap.size w w5 := Below.grown (Below.al hB _) hgrow (by simp only [World.size_alloc]; omega) (own_gt hf5)
          have hK5 := Lib.hid ((hK.out.alloc _).by hgrow (fun e => hne e.symm))
          clear hgrow hnn hf5 hK hne
          have ho5 := Lib.hid hown'
          clear hown'
          go_wp2_with fail
          go_roundw
          case rel =>
            refine ⟨r + 1, by omega, by go_num, ?_, hK5.out, hB5⟩
            rw [hf.out]
            show w5.ownsRow _ _ _ _ _ _
            rw [cellsI_app, List.length_append]
            exact ho5.out
          case measure => simp [intOf]; omega
      · obtain rfl : r = 7 := by omega
        go_wp2_with fail
        go_ret
        exact ⟨_, rfl, ho.out, hB⟩
theorem any_step {α : Type} (xs : List α) (p : α → Bool) (k : Nat) (h : k < xs.length) : (xs.take (k + 1)).any p = ((xs.take k).any p || p xs[k]) := by
  rw [List.take_succ_eq_append_getElem h, List.any_append]
  simp
theorem implIs_any (ds : List Tup) (about : Int) (nm : ByteArray) (other : Int) (v : Value) (w : World) (h : SlT w v ds) (hstr : ∀ d ∈ ds, Str d) : Calls Try.prog 17 #[v, .int .i64 about, .string nm, .int .i64 other] w fun e w' => e = .returned (.bool (isRel ds about nm other)) ∧ Below w.heap.size w w' := by
  have H := Lib.hid h
  have HSt := Lib.hid hstr
  clear h hstr
  have hR := relT_len ds about nm
  have hI : isRel ds about nm other = (relT ds about nm).any (fun n => n == other) := rfl
  have HC := fun wx h => implRel_any ds about nm v wx h HSt.out
  rw [hI]
  clear hI
  generalize relT ds about nm = R at *
  go_enter Try.func17, Try.ntmps17
  go_wp2_with fail
  refine (HC _ H.out).mono ?_
  rintro e w1 ⟨u, rfl, o1, b1⟩
  clear HC
  have O1 := Lib.hid (own_sl o1)
  obtain ⟨ua, uc, rfl, hu1, hu2⟩ := SlF.shape (own_sl o1)
  clear o1
  go_wp2_with fail
  go_loop [16] (fun i => ∃ k : Nat, k ≤ R.length ∧ i = .int .i64 k ∧ Hid ((R.take k).any (fun n => n == other) = false)) (fun i => R.length - (intOf i).toNat)
  case atStart => exact ⟨0, Nat.zero_le _, rfl, by simp [Hid]⟩
  case round =>
    obtain ⟨k, hk, rfl, ha⟩ := hrel
    by_cases hlt : k < R.length
    · obtain ⟨g, off, cap', hv, _, _, c0⟩ := SlI.cell O1.out k hlt
      simp only [Value.slice.injEq] at hv
      obtain ⟨rfl, -, rfl⟩ := hv
      have hs := Lib.hid (any_step R (fun n => n == other) k hlt)
      have hx := Lib.hid (List.getElem_mem hlt)
      generalize R[k] = x at c0 hs hx
      cases hq : x == other
      · have hf := Lib.hid (hs.out.trans (show _ = false from by simp [ha.out, hq]))
        clear hs
        go_wp2_with fail
        go_round
        case rel => exact ⟨k + 1, by omega, by go_num, hf.out⟩
        case measure => simp [intOf]; omega
      · have hf := Lib.hid (show R.any (fun n => n == other) = true from List.any_eq_true.2 ⟨x, hx.out, hq⟩)
        clear hs
        go_wp2_with fail
        go_ret
        exact ⟨by rw [hf.out]; rfl, b1⟩
    · have hf := Lib.hid (show R.any (fun n => n == other) = false by rw [← ha.out, List.take_of_length_le (by omega)])
      go_wp2_with fail
      go_ret
      exact ⟨by rw [hf.out]; rfl, b1⟩
theorem specIs_any (ds : List Tup) (about : Int) (nm : ByteArray) (other : Int) (v : Value) (w : World) (h : SlT w v ds) (hstr : ∀ d ∈ ds, Str d) : Calls Try.prog 16 #[v, .int .i64 about, .string nm, .int .i64 other] w fun e w' => e = .returned (.bool (isRel ds about nm other)) ∧ Below w.heap.size w w' := by
  have H := Lib.hid h
  have HSt := Lib.hid hstr
  clear h hstr
  have hR := relT_len ds about nm
  have hI : isRel ds about nm other = (relT ds about nm).any (fun n => n == other) := rfl
  have HC := fun wx h => specRel_any ds about nm v wx h HSt.out
  rw [hI]
  clear hI
  generalize relT ds about nm = R at *
  go_enter Try.func16, Try.ntmps16
  go_wp2_with fail
  refine (HC _ H.out).mono ?_
  rintro e w1 ⟨u, rfl, o1, b1⟩
  clear HC
  have O1 := Lib.hid (own_sl o1)
  obtain ⟨ua, uc, rfl, hu1, hu2⟩ := SlF.shape (own_sl o1)
  clear o1
  go_wp2_with fail
  go_loop [10] (fun i => ∃ k : Nat, k ≤ R.length ∧ i = .int .i64 k ∧ Hid ((R.take k).any (fun n => n == other) = false)) (fun i => R.length - (intOf i).toNat)
  case atStart => exact ⟨0, Nat.zero_le _, rfl, by simp [Hid]⟩
  case round =>
    obtain ⟨k, hk, rfl, ha⟩ := hrel
    by_cases hlt : k < R.length
    · obtain ⟨g, off, cap', hv, _, _, c0⟩ := SlI.cell O1.out k hlt
      simp only [Value.slice.injEq] at hv
      obtain ⟨rfl, -, rfl⟩ := hv
      have hs := Lib.hid (any_step R (fun n => n == other) k hlt)
      have hx := Lib.hid (List.getElem_mem hlt)
      generalize R[k] = x at c0 hs hx
      cases hq : x == other
      · have hf := Lib.hid (hs.out.trans (show _ = false from by simp [ha.out, hq]))
        clear hs
        go_wp2_with fail
        go_round
        case rel => exact ⟨k + 1, by omega, by go_num, hf.out⟩
        case measure => simp [intOf]; omega
      · have hf := Lib.hid (show R.any (fun n => n == other) = true from List.any_eq_true.2 ⟨x, hx.out, hq⟩)
        clear hs
        go_wp2_with fail
        go_ret
        exact ⟨by rw [hf.out]; rfl, b1⟩
    · have hf := Lib.hid (show R.any (fun n => n == other) = false by rw [← ha.out, List.take_of_length_le (by omega)])
      go_wp2_with fail
      go_ret
      exact ⟨by rw [hf.out]; rfl, b1⟩
end Go.Proofs.Ytfeaclnbkmaeeaa
