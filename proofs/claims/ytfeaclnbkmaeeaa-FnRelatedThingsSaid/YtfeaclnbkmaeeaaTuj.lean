/-
  The law on related things, walked. Condition: the bytes can be read.
-/
import Derived.Test.YtfeaclnbkmaeeaaTuq
import Derived.Test.YtfeaclnbkmaeeaaTuy
import Derived.Test.YtfeaclnbkmaeeaaTup
set_option linter.unusedSimpArgs false
set_option linter.unusedVariables false
namespace Go.Proofs.Ytfeaclnbkmaeeaa
open Go.RowKit
theorem rel_more2 (ds es : List Tup) (about : Int) (nm : ByteArray) (hv : tValid (ds ++ es) = true) (k : Nat) (h : k < (bitsTo (relB ds about nm) 7).length) : isRel (ds ++ es) about nm (bitsTo (relB ds about nm) 7)[k] = true := by
  have e := relT_bits ds about nm
  have := rel_more ds es about nm hv k (by rw [e]; exact h)
  simpa only [e] using this
theorem tuStr3 {ds : List Tup} (h : ∀ d ∈ ds, Str d) : ∀ d ∈ ds ++ [⟨1, ⟨#[98]⟩, 3, ⟨#[97]⟩⟩], Str d := fun d hd => by
  rcases List.mem_append.1 hd with h1 | h1
  · exact h d h1
  · simp at h1
    subst h1
    exact ⟨by unfold maxLen; decide, by unfold maxLen; decide⟩
set_option maxRecDepth 100000 in
set_option maxHeartbeats 6400000 in
theorem relatedThings_walk (a : Option Addr) (len cap : Nat) (w : World) (h : Bytes w a len cap) : Calls Try.prog 8 #[.slice a len cap] w fun e w' => e = .returned (.bool true) ∧ Below w.heap.size w w' := by
  have h1 := h.1
  have h2 := h.2.1
  unfold maxLen at h2
  have H := Lib.hid h
  clear h
  have hmk0 : ∀ w : World, (Instr.buildSlice 25 0 #[]).run Try.prog w = .ok (.slice (some ⟨w.heap.size, 0, none⟩) 0 0) (w.alloc (.cells #[] 32)) := fun w => by kernel_rfl
  by_cases hl : 1048576 < len
  · go_enter Try.func8, Try.ntmps8
    go_wp2_with fail
    go_ret
    exact ⟨rfl, Below.refl _ _⟩
  · go_enter Try.func8, Try.ntmps8
    go_wp2_with fail
    refine (drawRelatedThings_any a len cap _ H.out).mono ?_
    rintro e w1 ⟨v, ds, about, nm, rfl, hv, hlen, hbd, hq, ho, b1⟩
    obtain ⟨g, c, rfl, hg, hn, hc, _⟩ := own_ad ho hv
    have HS1 := Lib.hid (show SlT w1 (.slice (some ⟨g, 0, none⟩) ds.length c) ds from own_sl ho)
    have HO1 := Lib.hid ho
    have HT := Lib.hid (tuStr hbd)
    clear ho hv hbd
    unfold maxLen at hc
    have hm := fun hv => rel_more2 ds [⟨1, ⟨#[98]⟩, 3, ⟨#[97]⟩⟩] about nm hv
    have CS := fun vx wx h => specRel_any ds about nm vx wx h HT.out
    have CI := fun vx wx h => implRel_any ds about nm vx wx h HT.out
    have hr := isRel_bit ds about nm
    have CQ := Lib.hid (fun other vx wx h => implIs_any ds about nm other vx wx h HT.out)
    have hrb := relT_bits ds about nm
    rw [hrb] at CS CI
    clear hrb
    generalize relB ds about nm = B at hm CS CI hr
    have HM := Lib.hid hm
    have HR := Lib.hid hr
    clear hm hr
    go_wp2_with fail
    refine (CI _ _ HS1.out).mono ?_
    rintro e w2 ⟨u1, rfl, o2, b2⟩
    have HX2 := Lib.hid (show SlI w2 u1 (bitsTo B 7) from own_sl o2)
    obtain ⟨xa, xc, rfl, hx1, hx2⟩ := SlF.shape (own_sl o2)
    clear o2
    go_wp2_with fail
    refine (CS _ _ (SlF.below HS1.out b2)).mono ?_
    rintro e w3 ⟨u2, rfl, o3, b3⟩
    have HY3 := Lib.hid (show SlI w3 u2 (bitsTo B 7) from own_sl o3)
    obtain ⟨ya, yc, rfl, _, _⟩ := SlF.shape (own_sl o3)
    clear o3
    go_wp2_with fail
    refine (sameInts_any _ _ _ _ _ (SlI.below HX2.out b3) HY3.out).mono ?_
    rintro e w4 ⟨rfl, b4⟩
    have hsame : decide (bitsTo B 7 = bitsTo B 7) = true := by simp
    rw [hsame]
    clear hsame
    have HS4 := Lib.hid (SlF.below (SlF.below (SlF.below HS1.out b2) b3) b4)
    have HO4 := Lib.hid (own_below (own_below (own_below HO1.out b2) b3) b4)
    have HX4 := Lib.hid (SlI.below (SlI.below HX2.out b3) b4)
    have hB4 := Below.via b4 (Below.via b3 (Below.via b2 b1))
    clear CS CI b2 b3 b4 HS1 HX2 HY3 HO1
    unfold maxLen at hx2
    have hL7 := bitsTo_len B 7
    go_wp2_with fail
    go_loopw [7, 8] (fun at' i wr => ∃ k : Nat, k ≤ 7 ∧ i = .int .i64 k ∧ at' = .int .i64 (bitsTo B k).length ∧ Below w4.heap.size w4 wr) (fun _ i _ => 7 - (intOf i).toNat)
    case atStart => exact ⟨0, by omega, rfl, rfl, Below.refl _ _⟩
    case round =>
      obtain ⟨k, hk, rfl, rfl, hB⟩ := hrel
      by_cases hlt : k < 7
      · have hlti : (k : Int) < 7 := by omega
        obtain ⟨n1, n2, n3⟩ := bits_next B k 7 hlt
        have hr := HR.out k hlt
        have CK := fun wx h => CQ.out k (.slice (some ⟨g, 0, none⟩) ds.length c) wx h
        rw [hr] at CK
        clear hr
        have hqk := bitsTo_len B k
        have N3 := Lib.hid n3
        clear n3
        by_cases hq7 : (bitsTo B k).length < (bitsTo B 7).length
        · have hqi : ((bitsTo B k).length : Int) < ((bitsTo B 7).length : Int) := by omega
          obtain ⟨gx, ox, cx, hvv, _, _, c0⟩ := SlI.cell (SlI.below HX4.out hB) (bitsTo B k).length hq7
          simp only [Value.slice.injEq] at hvv
          obtain ⟨rfl, -, rfl⟩ := hvv
          have hek := n1 hq7
          clear n1 n2
          generalize (bitsTo B 7)[(bitsTo B k).length] = x at c0 hek
          cases hb : B.testBit k
          all_goals
            rw [hb] at hek CK N3
            clear hb
            go_wp2_with fail
            refine (CK _ (SlF.below HS4.out hB)).mono ?_
            rintro e w5 ⟨rfl, b5⟩
            have hB5 := Below.via b5 hB
            go_wp2_with fail
            go_roundw
            case rel => exact ⟨k + 1, by omega, by go_num, by rw [N3.out]; go_num, hB5⟩
            case measure => simp [intOf]; omega
        · have hb : B.testBit k = false := by
            cases hb : B.testBit k
            · rfl
            · exact absurd (n2 hb) hq7
          rw [hb] at CK N3
          clear hb n1 n2
          have hqi : ¬ ((bitsTo B k).length : Int) < ((bitsTo B 7).length : Int) := by omega
          go_wp2_with fail
          refine (CK _ (SlF.below HS4.out hB)).mono ?_
          rintro e w5 ⟨rfl, b5⟩
          have hB5 := Below.via b5 hB
          go_wp2_with fail
          go_roundw
          case rel => exact ⟨k + 1, by omega, by go_num, by rw [N3.out]; go_num, hB5⟩
          case measure => simp [intOf]; omega
      · obtain rfl : k = 7 := by omega
        have HS5 := Lib.hid (SlF.below HS4.out hB)
        have ha3 := own_alloc (own_below HO4.out hB) (.cells #[] 32)
        have HX5 := Lib.hid (SlI.below HX4.out hB)
        obtain ⟨g', c', hgc, _, _, _, hcell⟩ := own_ad ha3 (by simp)
        simp only [Value.slice.injEq, Option.some.injEq, Addr.mk.injEq, true_and, and_true] at hgc
        obtain ⟨rfl, rfl⟩ := hgc
        have hcell := Lib.hid hcell
        clear ha3
        obtain ⟨w5, hw5⟩ : ∃ w5, w5 = wr := ⟨_, rfl⟩
        subst hw5
        go_wp2_with (at_builtin; refine Hid.out ?_); refine Lib.hid ?_
        refine wpList_app (s := .tmp 58) (x := .tmp 59) rfl 25 32 (.agg #[.int .i64 0, .string ⟨#[]⟩, .int .i64 0, .string ⟨#[]⟩]) 4 48 rfl Try.underlying25 infoT rfl (by decide) (by decide) w5.heap.size _ 0 [] rfl (own_made w5 _ _ _ (Nat.le_refl _)) ⟨g, 0, none⟩ ds.length c (cellsT ds) rfl (flat_length encT 4 (fun _ => rfl) ds) hcell.out ?_ (by omega) (by simp) ?_
        · intro u hu
          obtain ⟨d, _, hd⟩ := List.mem_flatMap.mp hu
          simp [encT] at hd
          rcases hd with rfl | rfl | rfl | rfl <;> rfl
        intro v6 w6 ho6 hg6 hn6
        have b6 : Below w5.heap.size w5 w6 := Below.grown (below_al0 _ _) hg6 (by simp only [World.size_alloc]; omega) (own_gt (own_made w5 _ 32 4 (Nat.le_refl _)))
        simp only [Nat.zero_add, List.nil_append] at ho6
        clear hg6 hn6
        have ho6' := Lib.hid ho6
        have hz6 := b6.size
        go_wp2_with (at_builtin; refine Hid.out ?_); refine Lib.hid ?_
        refine wpList_app (s := .tmp 60) (x := .tmp 62) rfl 25 32 (.agg #[.int .i64 0, .string ⟨#[]⟩, .int .i64 0, .string ⟨#[]⟩]) 4 48 rfl Try.underlying25 infoT rfl (by decide) (by decide) w5.heap.size _ ds.length (cellsT ds) rfl (own_alloc ho6'.out _) ⟨w6.heap.size, 0, none⟩ 1 1 (encT ⟨1, ⟨#[98]⟩, 3, ⟨#[97]⟩⟩) rfl rfl (news_bk Bk.new) (fun u hu => List.all_eq_true.mp (show List.all (encT ⟨1, ⟨#[98]⟩, 3, ⟨#[97]⟩⟩) Value.oneCell' = true from rfl) u hu) (by omega) (by simp only [World.size_alloc]; omega) ?_
        intro v7 w7 ho7 hg7 hn7
        have b7 : Below w5.heap.size w5 w7 := Below.grown (Below.al b6 _) hg7 (by simp only [World.size_alloc]; omega) (own_gt ho6'.out)
        clear hg7 hn7
        have HM7 : Hid (SlT w7 v7 (ds ++ [⟨1, ⟨#[98]⟩, 3, ⟨#[97]⟩⟩])) := by
          have h5 := own_sl ho7
          unfold SlT
          rw [appCellsT]
          simpa [cellsT, encT, Hid] using h5
        have HX7 := Lib.hid (SlI.below HX5.out b7)
        have hB7 := Below.via b7 (Below.via hB hB4)
        have HT2 := Lib.hid (tuStr3 HT.out)
        have CM := Lib.hid (fun other wx h => implIs_any (ds ++ [⟨1, ⟨#[98]⟩, 3, ⟨#[97]⟩⟩]) about nm other v7 wx h HT2.out)
        have CV := Lib.hid (fun wx h => implTValid_any (ds ++ [⟨1, ⟨#[98]⟩, 3, ⟨#[97]⟩⟩]) v7 wx h HT2.out)
        clear ho6 ho6' ho7 b6 b7 hz6 hcell HS5 HX5 HO4 HS4 HX4 CQ hB
        have heq : (((bitsTo B 7).length : Int) == ((bitsTo B 7).length : Int)) = true := by simp
        cases hval : tValid (ds ++ [⟨1, ⟨#[98]⟩, 3, ⟨#[97]⟩⟩])
        · have HVA := Lib.hid hval
          clear hval
          by_cases hl0 : 0 < (bitsTo B 7).length
          all_goals
            go_wp2_with fail
            go_loopw [11] (fun i wr => i = .int .i64 0 ∧ wr = w7) (fun _ _ => 0)
            case atStart => exact ⟨rfl, rfl⟩
            case round =>
              obtain ⟨rfl, rfl⟩ := hrel
              go_wp2_with fail
              first
                | (refine (CV.out _ HM7.out).mono ?_
                   rintro e w8 ⟨rfl, b8⟩
                   rw [HVA.out]
                   go_wp2_with ((go_at_call 15; refine (alive_any _).mono ?_; rintro e w' ⟨rfl, rfl⟩))
                   go_ret
                   exact ⟨rfl, Below.via b8 hB7⟩)
                | (refine (alive_any _).mono ?_
                   rintro e w8 ⟨rfl, rfl⟩
                   go_wp2_with fail
                   go_ret
                   exact ⟨rfl, hB7⟩)
        · have HVA := Lib.hid hval
          have HMM := Lib.hid (HM.out hval)
          clear hval
          go_wp2_with fail
          go_loopw [11] (fun i wr => ∃ k : Nat, k ≤ (bitsTo B 7).length ∧ i = .int .i64 k ∧ Below w7.heap.size w7 wr) (fun i _ => (bitsTo B 7).length - (intOf i).toNat)
          case atStart => exact ⟨0, Nat.zero_le _, rfl, Below.refl _ _⟩
          case round =>
            obtain ⟨k, hk, rfl, hB⟩ := hrel
            by_cases hlt : k < (bitsTo B 7).length
            · go_wp2_with fail
              refine (CV.out _ (SlF.below HM7.out hB)).mono ?_
              rintro e w8 ⟨rfl, b8⟩
              rw [HVA.out]
              have hB8 := Below.via b8 hB
              obtain ⟨gx, ox, cx, hvv, _, _, c0⟩ := SlI.cell (SlI.below HX7.out hB8) k hlt
              simp only [Value.slice.injEq] at hvv
              obtain ⟨rfl, -, rfl⟩ := hvv
              have hmm := HMM.out k hlt
              generalize (bitsTo B 7)[k] = x at c0 hmm
              have CK := fun wx h => CM.out x wx h
              rw [hmm] at CK
              clear hmm
              go_wp2_with fail
              refine (CK _ (SlF.below HM7.out hB8)).mono ?_
              rintro e w9 ⟨rfl, b9⟩
              have hB9 := Below.via b9 hB8
              go_wp2_with fail
              go_roundw
              case rel => exact ⟨k + 1, by omega, by go_num, hB9⟩
              case measure => simp [intOf]; omega
            · go_wp2_with ((go_at_call 15; refine (alive_any _).mono ?_; rintro e w' ⟨rfl, rfl⟩))
              go_ret
              exact ⟨rfl, Below.via hB hB7⟩
end Go.Proofs.Ytfeaclnbkmaeeaa
