/-
  Rules are drawn. Condition: the reader is whole.
-/
import Derived.Test.YtfghgpdhcpcoiaaJw
import Derived.Test.YtfghgpdhcpcoiaaJap
set_option linter.unusedSimpArgs false
set_option linter.unusedVariables false
namespace Go.Proofs.Ytfghgpdhcpcoiaa
open Go.RowKit
/-- Rules are drawn. -/
def ApS (b : Nat) (M : Int) (w : World) (e : Ending) (w' : World) : Prop :=
  ∃ (v : Value) (ds : List Mv), e = .returned v ∧ v ≠ .slice none 0 0 ∧ ds.length ≤ 4 ∧ (∀ i (h : i < ds.length), ds[i].xs.length ≤ 16) ∧ OwnM 62 w' w.heap.size w'.heap.size v ds ∧ Reads b M (M + 60) w w'
set_option maxHeartbeats 12800000 in
theorem l20Apart_any (b : Nat) (many n M : Int) (w : World) (h : Rd w b M) (hM : M ≤ 1099511627776 - 80) (hn : 0 ≤ n) (hn2 : n ≤ 1099511627776) (hm0 : 0 ≤ many) (hm1 : many ≤ 12) :
    Calls Try.prog 65 #[.pointer (some ⟨b, 0, none⟩), .int .i64 many, .int .i64 n] w (ApS b M w) := by
  have hlt := h.lt
  have P0 := Reads.refl h
  have P1 := Reads.al P0 (.cells #[] 62)
  have O1 := Lib.hid (OwnM.made (T := 62) (w := w) (lo := w.heap.size) rfl (Nat.le_refl _))
  have h0 := fun (ds : List Mv) (hd : ds = []) => hd
  clear h0
  go_enter Try.func65, Try.ntmps65
  go_wp2_with fail
  refine (pick_any b 4 _ _ P1.rd (by omega) (by omega)).mono ?_
  rintro e w1 ⟨x1, rfl, lo1, hi1, r1⟩
  have P2 := Reads.trans P1 r1
  have O2 := Lib.hid (OwnM.rd O1.out r1 hlt)
  have z1 := r1.size
  simp only [World.size_alloc] at z1
  obtain ⟨c0, rfl⟩ : ∃ c : Nat, x1 = c := ⟨x1.toNat, by omega⟩
  clear O1 P0 P1 r1
  go_wp2_with fail
  go_loopw [7, 8] (fun v i wr => ∃ (c : Nat) (ds : List Mv), c ≤ 3 ∧ i = .int .i64 c ∧ ds.length + c ≤ 3 ∧ Hid (v ≠ .slice none 0 0) ∧ Hid (∀ i (h : i < ds.length), ds[i].xs.length ≤ 16) ∧ Hid (OwnM 62 wr w.heap.size wr.heap.size v ds) ∧ Reads b M (M + 1 + 16 * (3 - c)) w wr) (fun _ i _ => (intOf i).toNat)
  case atStart => exact ⟨c0, [], by omega, rfl, by simp; omega, by simp [Hid], by intro i hi; simp at hi, O2.out.up (by omega), P2.mono (by omega)⟩
  case round =>
    obtain ⟨c, ds, hc3, rfl, hlen, hvn, hxs, ho, hR⟩ := hrel
    obtain ⟨wo, rfl⟩ : ∃ wo : World, wo = wr := ⟨_, rfl⟩
    obtain ⟨v, rfl⟩ : ∃ v : Value, v = u7 := ⟨_, rfl⟩
    by_cases hcp : 0 < c
    · have zr := hR.size
      have hlw : w.heap.size < wo.heap.size ∨ w.heap.size = wo.heap.size := by omega
      clear hlw
      have OI := Lib.hid (ho.out.al (.cells #[] 3))
      have OA := Lib.hid (OI.out.al (.cells #[.slice (some ⟨wo.heap.size, 0, none⟩) 0 0, .int .i64 0] 62))
      have UA := Lib.hid (own_alloc (own_made_b (W := wo) (g := wo.heap.size) (lo := wo.heap.size) (t := 3) (k := 1) rfl (Nat.le_refl _)) (.cells #[.slice (some ⟨wo.heap.size, 0, none⟩) 0 0, .int .i64 0] 62))
      have KA := bk_atb (W := wo.alloc (.cells #[] 3)) (vs := #[.slice (some ⟨wo.heap.size, 0, none⟩) 0 0, .int .i64 0]) (t := 62) (g := wo.heap.size + 1) (by simp)
      have PA := Reads.al (Reads.al hR (.cells #[] 3)) (.cells #[.slice (some ⟨wo.heap.size, 0, none⟩) 0 0, .int .i64 0] 62)
      clear OI
      go_wp2_with fail
      go_loopw [10] (fun i wx => ∃ (j : Nat) (xs : List Int) (ua : Option Addr) (uc : Nat), (j : Int) ≤ many ∧ xs.length ≤ j ∧ i = .int .i64 j ∧ Bk wx (wo.heap.size + 1) #[.slice ua xs.length uc, .int .i64 0] 62 ∧ Hid (wx.ownsRow wo.heap.size 3 1 (.slice ua xs.length uc) xs.length (cellsI xs)) ∧ Hid (∀ j, Value.ownBlock (.slice ua xs.length uc) = some j → j ≠ wo.heap.size + 1) ∧ Hid (OwnM 62 wx w.heap.size wo.heap.size v ds) ∧ Reads b M (M + 1 + 16 * (3 - c) + j) w wx) (fun i _ => many.toNat - (intOf i).toNat)
      case atStart => exact ⟨0, [], _, 0, by omega, Nat.le_refl _, rfl, KA, UA.out, fun j hj => by simp [Value.ownBlock] at hj; omega, OA.out, PA.mono (by omega)⟩
      case round =>
        clear OA UA KA PA
        obtain ⟨j, xs, ua, uc, hjm, hxj, rfl, kb, hu, hune, hO, hP⟩ := hrel
        have xb := kb.cell
        have fb := kb.free
        have yb := kb.lt
        by_cases hjl : (j : Int) < many
        · go_wp2_with fail
          refine (pick_any b 2 _ _ hP.rd (by omega) (by omega)).mono ?_
          rintro e w2 ⟨x2, rfl, lo2, hi2, r2⟩
          have z2 := r2.size
          have kb2 := kb.rdn r2 (by omega)
          have hu2 := Lib.hid (own_rd hu.out r2 (by omega))
          have hO2 := Lib.hid (hO.out.rd r2 hlt)
          have hP2 := Reads.trans hP r2
          clear kb xb fb hu hO hP r2
          have xb := kb2.cell
          have fb := kb2.free
          have yb2 := kb2.lt
          rcases (show x2 = 0 ∨ x2 = 1 by omega) with rfl | rfl
          · go_wp2_with (at_builtin; refine Hid.out ?_); refine Lib.hid ?_
            refine wpList_appS (s := .tmp 29) (x := .tmp 31) rfl 32 3 (.int .i64 0) 1 8 rfl Try.underlying32 infoI rfl (by decide) (by decide) wo.heap.size (.slice ua xs.length uc) xs.length (cellsI xs) (by rfl) (own_alloc hu2.out _) (.slice (some ⟨w2.heap.size, 0, none⟩) 1 1) 1 [.int .i64 j] (by rfl) (slF_bk (k := 1) (n := 1) (cs := [.int .i64 j]) Bk.new rfl (by omega)) (one_int _) (by omega) (by simp; omega) ?_
            intro v3 w3 own3 g3 hloc3 hnn3
            obtain ⟨va, vc, rfl, _, _⟩ := SlF.shape (own_sl own3)
            have hg : ∀ i, Value.ownBlock (.slice ua xs.length uc) = some i → wo.heap.size ≤ i := own_gt hu2.out
            have kb3 := Bk.by (kb2.alloc _) g3 (fun e => hune.out _ e.symm rfl)
            have O3 := Lib.hid ((hO2.out.al _).gby g3 hg)
            have P3 := Reads.app g3 (Reads.al hP2 _) hlt (fun i hi => by have := hg i hi; have := hP2.size; omega)
            have z3 := g3.size
            simp only [World.size_alloc] at z3
            have N3 : ∀ i, Value.ownBlock (.slice va (xs.length + 1) vc) = some i → i ≠ wo.heap.size + 1 := fun i hi => by
              rcases hloc3 with e | e
              · rw [e] at hi; exact hune.out i hi
              · rw [e] at hi; simp at hi; omega
            have U3 := Lib.hid (own_more own3)
            have N3h := Lib.hid N3
            clear own3 g3 hloc3 hnn3 kb2 xb fb hu2 hO2 hP2 hg N3
            have xb := kb3.cell
            have fb := kb3.free
            go_wp2_with fail
            go_roundw
            case rel =>
              refine ⟨j + 1, xs ++ [(j : Int)], va, vc, by omega, by simp; omega, by go_num, ?_, ?_, ?_, ?_, ?_⟩
              · rw [List.length_append]; exact kb3.same 0 _
              · refine Lib.hid ?_
                have e : (.slice va (xs ++ [(j : Int)]).length vc : Value) = .slice va (xs.length + 1) vc := by simp
                rw [e]
                exact own_setne U3.out N3h.out _ _
              · have e : (.slice va (xs ++ [(j : Int)]).length vc : Value) = .slice va (xs.length + 1) vc := by simp
                rw [e]
                exact N3h
              · exact Lib.hid (O3.out.set (by omega) _ _)
              · exact (Reads.set P3 hlt (by have := hR.size; omega) _ _).mono (by omega)
            case measure => simp only [intOf]; omega
          · go_wp2_with fail
            go_roundw
            case rel => exact ⟨j + 1, xs, ua, uc, by omega, by omega, by go_num, kb2, hu2, hune, hO2, hP2.mono (by omega)⟩
            case measure => simp only [intOf]; omega
        · have hjf : decide ((j : Int) < many) = false := by simp; omega
          have hc1 : ((c - 1 : Nat) : Int) = c - 1 := by omega
          obtain ⟨us, hus, hown, hvS, hin⟩ := hO.out
          have HI := Lib.hid hin
          have HV := Lib.hid hvS
          have HOW := Lib.hid hown
          clear hin hvS hown hO
          by_cases hxl : 1 < xs.length
          · have hxd : decide ((1 : Int) < (xs.length : Int)) = true := by simp; omega
            go_wp2_with fail
            refine (pick_any b (xs.length - 1) _ _ hP.rd (by omega) (by omega)).mono ?_
            rintro e w2 ⟨x2, rfl, lo2, hi2, r2⟩
            have z2 := r2.size
            have kb2 := kb.rdn r2 (by omega)
            have hP2 := Reads.trans hP r2
            have yb2 := kb2.lt
            have hu2 := Lib.hid (own_rd hu.out r2 (by omega))
            have how2 := Lib.hid (own_rd HOW.out r2 hlt)
            have hin2 := Lib.hid (fun i h h2 => (⟨own_rd (HI.out i h h2).1 r2 hlt, (HI.out i h h2).2⟩ : w2.ownsRow w.heap.size 3 1 us[i] ds[i].xs.length (cellsI ds[i].xs) ∧ ∀ j, us[i].ownBlock = some j → j < wo.heap.size ∧ v.ownBlock ≠ some j))
            clear xb fb
            have xb := kb2.cell
            have fb := kb2.free
            have KS : Bk (w2.setCell ⟨wo.heap.size + 1, 1, none⟩ (.int .i64 (1 + x2))) (wo.heap.size + 1) #[.slice ua xs.length uc, .int .i64 (1 + x2)] 62 := kb2.same 1 _
            have hvne : ∀ j, v.ownBlock = some j → j ≠ wo.heap.size + 1 := fun j hj => by have := HV.out j hj; omega
            go_wp2_with (at_builtin; refine Hid.out ?_); refine Lib.hid ?_
            refine wpList_appS (s := .tmp 46) (x := .tmp 48) rfl 55 62 (.agg #[.slice none 0 0, .int .i64 0]) 2 32 rfl Try.underlying55 infoAp rfl (by decide) (by decide) w.heap.size v ds.length (cellsM us ds) (by rfl) (own_alloc (own_setne how2.out hvne _ _) _) (.slice (some ⟨w2.heap.size, 0, none⟩) 1 1) 1 [.slice ua xs.length uc, .int .i64 (1 + x2)] (by rfl) (slF_bk (k := 2) (n := 1) (cs := [.slice ua xs.length uc, .int .i64 (1 + x2)]) (bk_atb (by simp)) rfl (by omega)) (by intro u hu; simp at hu; rcases hu with rfl | rfl <;> rfl) (by omega) (by have := hP2.size; simp; omega) ?_
            intro v3 w3 own3 g3 hloc3 hnn3
            have O3 := Lib.hid (OwnM.push (w := (w2.setCell ⟨wo.heap.size + 1, 1, none⟩ (.int .i64 (1 + x2))).alloc (.cells #[.slice ua xs.length uc, .int .i64 (1 + x2)] 62)) (T := 62) (lo := w.heap.size) (S := wo.heap.size) (ds := ds) (us := us) (u := .slice ua xs.length uc) (xs := xs) (n := 1 + x2) hus HV.out
              (fun i h h2 => ⟨own_alloc (own_setne (hin2.out i h h2).1 (fun j hj => by have := ((hin2.out i h h2).2 j hj).1; omega) _ _) _, (hin2.out i h h2).2⟩)
              (own_lo (own_alloc (own_setne hu2.out hune.out _ _) _) (by have := hR.size; omega)) (own_gt hu2.out) g3 (by simp; omega) (by simpa using hloc3) own3)
            have P3 := Reads.app g3 (Reads.al (Reads.set hP2 hlt (show w.heap.size ≤ wo.heap.size + 1 by have := hR.size; omega) 1 (.int .i64 (1 + x2))) (.cells #[.slice ua xs.length uc, .int .i64 (1 + x2)] 62)) hlt (fun j hj => (own_gt how2.out j hj))
            have NN := Lib.hid (hnn3 hvn.out)
            clear own3 g3 hloc3 hnn3 kb2 xb fb hu2 how2 hin2 HI HV HOW hP2 KS hvne
            go_wp2_with fail
            refine ⟨⟨c - 1, ds ++ [⟨xs, 1 + x2⟩], by omega, by rw [hc1], by simp; omega, NN, ?_, O3, P3.mono (by omega)⟩, by simp only [intOf]; omega⟩
            intro i hi
            by_cases hil : i < ds.length
            · rw [List.getElem_append_left hil]; exact hxs.out i hil
            · have : i = ds.length := by simp at hi; omega
              subst this
              rw [List.getElem_append_right (Nat.le_refl _)]
              simp
              omega
          · have hxd : decide ((1 : Int) < (xs.length : Int)) = false := by simp; omega
            have O4 := Lib.hid ((show OwnM 62 wr w.heap.size wo.heap.size v ds from ⟨us, hus, HOW.out, HV.out, HI.out⟩).up (show wo.heap.size ≤ wr.heap.size by omega))
            go_wp2_with fail
            refine ⟨⟨c - 1, ds, by omega, by rw [hc1], by omega, hvn, hxs, O4, hP.mono (by omega)⟩, by simp only [intOf]; omega⟩
    · obtain rfl : c = 0 := by omega
      have zr := hR.size
      have hc0 : decide ((0 : Int) < 0) = false := rfl
      go_wp2_with fail
      refine (odd_any b n _ _ hR.rd (by omega) (by omega) (by omega)).mono ?_
      rintro e w2 ⟨y, rfl, r2⟩
      have z2 := r2.size
      have ho2 := Lib.hid (OwnM.up (OwnM.rd ho.out r2 hlt) z2)
      have hR2 := Reads.trans hR r2
      clear ho hR r2
      cases y
      · go_wp2_with fail
        go_ret
        exact ⟨_, ds, rfl, hvn.out, by omega, fun i hi => hxs.out i hi, ho2.out, hR2.mono (by omega)⟩
      · have k1 := Bk.new (w := w2) (vs := #[.int .i64 0, .int .i64 1]) (t := 3)
        obtain ⟨W1, hW1⟩ : ∃ W1, W1 = w2.alloc (.cells #[.int .i64 0, .int .i64 1] 3) := ⟨_, rfl⟩
        have s1 : W1.heap.size = w2.heap.size + 1 := by rw [hW1]; simp
        have k2 := bk_atb (W := W1) (vs := #[.int .i64 1, .int .i64 0]) (t := 3) s1
        obtain ⟨W2, hW2⟩ : ∃ W2, W2 = W1.alloc (.cells #[.int .i64 1, .int .i64 0] 3) := ⟨_, rfl⟩
        have s2 : W2.heap.size = w2.heap.size + 1 + 1 := by rw [hW2]; simp [s1]
        have k3 := bk_atb (W := W2) (vs := #[.int .i64 0, .int .i64 many]) (t := 3) s2
        obtain ⟨W3, hW3⟩ : ∃ W3, W3 = W2.alloc (.cells #[.int .i64 0, .int .i64 many] 3) := ⟨_, rfl⟩
        have s3 : W3.heap.size = w2.heap.size + 1 + 1 + 1 := by rw [hW3]; simp [s2]
        have k4 := bk_atb (W := W3) (vs := #[.slice none 0 0, .int .i64 0, .slice (some ⟨w2.heap.size, 0, none⟩) 2 2, .int .i64 2, .slice (some ⟨w2.heap.size + 1, 0, none⟩) 2 2, .int .i64 1, .slice (some ⟨w2.heap.size + 1 + 1, 0, none⟩) 2 2, .int .i64 1]) (t := 62) s3
        obtain ⟨W4, hW4⟩ : ∃ W4, W4 = W3.alloc (.cells #[.slice none 0 0, .int .i64 0, .slice (some ⟨w2.heap.size, 0, none⟩) 2 2, .int .i64 2, .slice (some ⟨w2.heap.size + 1, 0, none⟩) 2 2, .int .i64 1, .slice (some ⟨w2.heap.size + 1 + 1, 0, none⟩) 2 2, .int .i64 1] 62) := ⟨_, rfl⟩
        have s4 : W4.heap.size = w2.heap.size + 1 + 1 + 1 + 1 := by rw [hW4]; simp [s3]
        rw [← hW1] at k1
        rw [← hW2] at k2
        rw [← hW3] at k3
        rw [← hW4] at k4
        have B1 : Below w2.heap.size w2 W1 := hW1 ▸ below_al w2 _
        have B2 : Below W1.heap.size W1 W2 := hW2 ▸ below_al W1 _
        have B3 : Below W2.heap.size W2 W3 := hW3 ▸ below_al W2 _
        have B4 : Below W3.heap.size W3 W4 := hW4 ▸ below_al W3 _
        have q1 := ((k1.below B2).below B3).below B4
        have q2 := (k2.below B3).below B4
        have q3 := k3.below B4
        have ho4 := Lib.hid ((((ho2.out.below B1).below B2).below B3).below B4)
        have hR4 := (((hR2.below B1).below B2).below B3).below B4
        have e4 : W4 = (((w2.alloc (.cells #[.int .i64 0, .int .i64 1] 3)).alloc (.cells #[.int .i64 1, .int .i64 0] 3)).alloc (.cells #[.int .i64 0, .int .i64 many] 3)).alloc (.cells #[.slice none 0 0, .int .i64 0, .slice (some ⟨w2.heap.size, 0, none⟩) 2 2, .int .i64 2, .slice (some ⟨w2.heap.size + 1, 0, none⟩) 2 2, .int .i64 1, .slice (some ⟨w2.heap.size + 1 + 1, 0, none⟩) 2 2, .int .i64 1] 62) := by rw [hW4, hW3, hW2, hW1]
        have E4 := Lib.hid e4
        clear k1 k2 k3 B1 B2 B3 B4 hW1 hW2 hW3 hW4 s1 s2 s3 e4 ho2 hR2
        go_wp2_with fail
        rw [← E4.out]
        refine (pick_any b 4 _ _ hR4.rd (by omega) (by omega)).mono ?_
        rintro e w3 ⟨x3, rfl, lo3, hi3, r3⟩
        have z3 := r3.size
        rw [s4] at z3
        have p1 := q1.rdn r3 (by omega)
        have p2 := q2.rdn r3 (by omega)
        have p3 := q3.rdn r3 (by omega)
        have p4 := k4.rdn r3 (by omega)
        have ho5 := Lib.hid (ho4.out.rd r3 hlt)
        have hR5 := hR4.trans r3
        have x4 := p4.cell
        clear q1 q2 q3 k4 ho4 hR4 r3 p4 s4 E4
        obtain ⟨us, hus, hown, hvS, hin⟩ := ho5.out
        have HI := Lib.hid hin
        have HV := Lib.hid hvS
        have HOW := Lib.hid hown
        clear hin hvS hown ho5
        have hzw := hR5.size
        rcases (show x3 = 0 ∨ x3 = 1 ∨ x3 = 2 ∨ x3 = 3 by omega) with rfl | rfl | rfl | rfl
        · have UO : Hid (w3.ownsRow w.heap.size 3 1 (.slice none 0 0) ([] : List Int).length (cellsI [])) := Lib.hid (World.ownsRow_nil _ _ _ _)
          go_wp2_with (at_builtin; refine Hid.out ?_); refine Lib.hid ?_
          refine wpList_appS (s := .tmp 53) (x := .tmp 67) rfl 55 62 (.agg #[.slice none 0 0, .int .i64 0]) 2 32 rfl Try.underlying55 infoAp rfl (by decide) (by decide) w.heap.size v ds.length (cellsM us ds) (by rfl) (own_alloc HOW.out _) (.slice (some ⟨w3.heap.size, 0, none⟩) 1 1) 1 [.slice none 0 0, .int .i64 0] (by rfl) (slF_bk (k := 2) (n := 1) (cs := [.slice none 0 0, .int .i64 0]) (bk_atb rfl) rfl (by omega)) (by intro u hu; simp at hu; rcases hu with rfl | rfl <;> rfl) (by omega) (by simp; omega) ?_
          intro v3 w4 own3 g3 hloc3 hnn3
          have O3 := Lib.hid (OwnM.push (w := w3.alloc (.cells #[.slice none 0 0, .int .i64 0] 62)) (T := 62) (lo := w.heap.size) (S := w2.heap.size) (ds := ds) (us := us) (u := .slice none 0 0) (xs := []) (n := 0) hus HV.out
            (fun i h h2 => ⟨own_alloc (HI.out i h h2).1 _, (HI.out i h h2).2⟩) (own_alloc UO.out _) (fun j hj => by simp [Value.ownBlock] at hj) g3 (by simp; omega) (by simpa using hloc3) own3)
          have P3 := Reads.app g3 (Reads.al hR5 (.cells #[.slice none 0 0, .int .i64 0] 62)) hlt (fun j hj => (own_gt HOW.out j hj))
          have NN := Lib.hid (hnn3 hvn.out)
          clear own3 g3 hloc3 hnn3 x4 HI HV HOW hR5
          go_wp2_with fail
          go_ret
          refine ⟨v3, ds ++ [⟨[], 0⟩], rfl, NN.out, by simp; omega, fun i hi => ?_, O3.out, P3.mono (by omega)⟩
          by_cases hil : i < ds.length
          · rw [List.getElem_append_left hil]; exact hxs.out i hil
          · have : i = ds.length := by simp at hi; omega
            subst this
            rw [List.getElem_append_right (Nat.le_refl _)]
            simp
        · have UO : Hid (w3.ownsRow w.heap.size 3 1 (.slice (some ⟨w2.heap.size, 0, none⟩) 2 2) ([0, 1] : List Int).length (cellsI [0, 1])) := Lib.hid (own_of_bk p1 (by omega) (by unfold maxLen; omega) rfl rfl (fun j hj => by simp [cellsI, encI]))
          go_wp2_with (at_builtin; refine Hid.out ?_); refine Lib.hid ?_
          refine wpList_appS (s := .tmp 53) (x := .tmp 67) rfl 55 62 (.agg #[.slice none 0 0, .int .i64 0]) 2 32 rfl Try.underlying55 infoAp rfl (by decide) (by decide) w.heap.size v ds.length (cellsM us ds) (by rfl) (own_alloc HOW.out _) (.slice (some ⟨w3.heap.size, 0, none⟩) 1 1) 1 [.slice (some ⟨w2.heap.size, 0, none⟩) 2 2, .int .i64 2] (by rfl) (slF_bk (k := 2) (n := 1) (cs := [.slice (some ⟨w2.heap.size, 0, none⟩) 2 2, .int .i64 2]) (bk_atb rfl) rfl (by omega)) (by intro u hu; simp at hu; rcases hu with rfl | rfl <;> rfl) (by omega) (by simp; omega) ?_
          intro v3 w4 own3 g3 hloc3 hnn3
          have O3 := Lib.hid (OwnM.push (w := w3.alloc (.cells #[.slice (some ⟨w2.heap.size, 0, none⟩) 2 2, .int .i64 2] 62)) (T := 62) (lo := w.heap.size) (S := w2.heap.size) (ds := ds) (us := us) (u := .slice (some ⟨w2.heap.size, 0, none⟩) 2 2) (xs := [0, 1]) (n := 2) hus HV.out
            (fun i h h2 => ⟨own_alloc (HI.out i h h2).1 _, (HI.out i h h2).2⟩) (own_alloc UO.out _) (fun j hj => by simp [Value.ownBlock] at hj; omega) g3 (by simp; omega) (by simpa using hloc3) own3)
          have P3 := Reads.app g3 (Reads.al hR5 (.cells #[.slice (some ⟨w2.heap.size, 0, none⟩) 2 2, .int .i64 2] 62)) hlt (fun j hj => (own_gt HOW.out j hj))
          have NN := Lib.hid (hnn3 hvn.out)
          clear own3 g3 hloc3 hnn3 x4 HI HV HOW hR5
          go_wp2_with fail
          go_ret
          refine ⟨v3, ds ++ [⟨[0, 1], 2⟩], rfl, NN.out, by simp; omega, fun i hi => ?_, O3.out, P3.mono (by omega)⟩
          by_cases hil : i < ds.length
          · rw [List.getElem_append_left hil]; exact hxs.out i hil
          · have : i = ds.length := by simp at hi; omega
            subst this
            rw [List.getElem_append_right (Nat.le_refl _)]
            simp
        · have UO : Hid (w3.ownsRow w.heap.size 3 1 (.slice (some ⟨w2.heap.size + 1, 0, none⟩) 2 2) ([1, 0] : List Int).length (cellsI [1, 0])) := Lib.hid (own_of_bk p2 (by omega) (by unfold maxLen; omega) rfl rfl (fun j hj => by simp [cellsI, encI]))
          go_wp2_with (at_builtin; refine Hid.out ?_); refine Lib.hid ?_
          refine wpList_appS (s := .tmp 53) (x := .tmp 67) rfl 55 62 (.agg #[.slice none 0 0, .int .i64 0]) 2 32 rfl Try.underlying55 infoAp rfl (by decide) (by decide) w.heap.size v ds.length (cellsM us ds) (by rfl) (own_alloc HOW.out _) (.slice (some ⟨w3.heap.size, 0, none⟩) 1 1) 1 [.slice (some ⟨w2.heap.size + 1, 0, none⟩) 2 2, .int .i64 1] (by rfl) (slF_bk (k := 2) (n := 1) (cs := [.slice (some ⟨w2.heap.size + 1, 0, none⟩) 2 2, .int .i64 1]) (bk_atb rfl) rfl (by omega)) (by intro u hu; simp at hu; rcases hu with rfl | rfl <;> rfl) (by omega) (by simp; omega) ?_
          intro v3 w4 own3 g3 hloc3 hnn3
          have O3 := Lib.hid (OwnM.push (w := w3.alloc (.cells #[.slice (some ⟨w2.heap.size + 1, 0, none⟩) 2 2, .int .i64 1] 62)) (T := 62) (lo := w.heap.size) (S := w2.heap.size) (ds := ds) (us := us) (u := .slice (some ⟨w2.heap.size + 1, 0, none⟩) 2 2) (xs := [1, 0]) (n := 1) hus HV.out
            (fun i h h2 => ⟨own_alloc (HI.out i h h2).1 _, (HI.out i h h2).2⟩) (own_alloc UO.out _) (fun j hj => by simp [Value.ownBlock] at hj; omega) g3 (by simp; omega) (by simpa using hloc3) own3)
          have P3 := Reads.app g3 (Reads.al hR5 (.cells #[.slice (some ⟨w2.heap.size + 1, 0, none⟩) 2 2, .int .i64 1] 62)) hlt (fun j hj => (own_gt HOW.out j hj))
          have NN := Lib.hid (hnn3 hvn.out)
          clear own3 g3 hloc3 hnn3 x4 HI HV HOW hR5
          go_wp2_with fail
          go_ret
          refine ⟨v3, ds ++ [⟨[1, 0], 1⟩], rfl, NN.out, by simp; omega, fun i hi => ?_, O3.out, P3.mono (by omega)⟩
          by_cases hil : i < ds.length
          · rw [List.getElem_append_left hil]; exact hxs.out i hil
          · have : i = ds.length := by simp at hi; omega
            subst this
            rw [List.getElem_append_right (Nat.le_refl _)]
            simp
        · have UO : Hid (w3.ownsRow w.heap.size 3 1 (.slice (some ⟨w2.heap.size + 1 + 1, 0, none⟩) 2 2) ([0, many] : List Int).length (cellsI [0, many])) := Lib.hid (own_of_bk p3 (by omega) (by unfold maxLen; omega) rfl rfl (fun j hj => by simp [cellsI, encI]))
          go_wp2_with (at_builtin; refine Hid.out ?_); refine Lib.hid ?_
          refine wpList_appS (s := .tmp 53) (x := .tmp 67) rfl 55 62 (.agg #[.slice none 0 0, .int .i64 0]) 2 32 rfl Try.underlying55 infoAp rfl (by decide) (by decide) w.heap.size v ds.length (cellsM us ds) (by rfl) (own_alloc HOW.out _) (.slice (some ⟨w3.heap.size, 0, none⟩) 1 1) 1 [.slice (some ⟨w2.heap.size + 1 + 1, 0, none⟩) 2 2, .int .i64 1] (by rfl) (slF_bk (k := 2) (n := 1) (cs := [.slice (some ⟨w2.heap.size + 1 + 1, 0, none⟩) 2 2, .int .i64 1]) (bk_atb rfl) rfl (by omega)) (by intro u hu; simp at hu; rcases hu with rfl | rfl <;> rfl) (by omega) (by simp; omega) ?_
          intro v3 w4 own3 g3 hloc3 hnn3
          have O3 := Lib.hid (OwnM.push (w := w3.alloc (.cells #[.slice (some ⟨w2.heap.size + 1 + 1, 0, none⟩) 2 2, .int .i64 1] 62)) (T := 62) (lo := w.heap.size) (S := w2.heap.size) (ds := ds) (us := us) (u := .slice (some ⟨w2.heap.size + 1 + 1, 0, none⟩) 2 2) (xs := [0, many]) (n := 1) hus HV.out
            (fun i h h2 => ⟨own_alloc (HI.out i h h2).1 _, (HI.out i h h2).2⟩) (own_alloc UO.out _) (fun j hj => by simp [Value.ownBlock] at hj; omega) g3 (by simp; omega) (by simpa using hloc3) own3)
          have P3 := Reads.app g3 (Reads.al hR5 (.cells #[.slice (some ⟨w2.heap.size + 1 + 1, 0, none⟩) 2 2, .int .i64 1] 62)) hlt (fun j hj => (own_gt HOW.out j hj))
          have NN := Lib.hid (hnn3 hvn.out)
          clear own3 g3 hloc3 hnn3 x4 HI HV HOW hR5
          go_wp2_with fail
          go_ret
          refine ⟨v3, ds ++ [⟨[0, many], 1⟩], rfl, NN.out, by simp; omega, fun i hi => ?_, O3.out, P3.mono (by omega)⟩
          by_cases hil : i < ds.length
          · rw [List.getElem_append_left hil]; exact hxs.out i hil
          · have : i = ds.length := by simp at hi; omega
            subst this
            rw [List.getElem_append_right (Nat.le_refl _)]
            simp
end Go.Proofs.Ytfghgpdhcpcoiaa
