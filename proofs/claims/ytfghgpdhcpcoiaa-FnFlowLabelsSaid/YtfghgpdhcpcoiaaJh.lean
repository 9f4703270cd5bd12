/-
  Moves are drawn. Condition: the reader is whole.
-/
import Derived.Test.YtfghgpdhcpcoiaaJw
import Derived.Test.YtfghgpdhcpcoiaaJmo
import Derived.Deep.RegionLaw
set_option linter.unusedSimpArgs false
set_option linter.unusedVariables false
namespace Go.Proofs.Ytfghgpdhcpcoiaa
open Go.RowKit
/-- What a pick among four moves yields. -/
def tabU (m : Nat) (p1 p2 : Value) : Value := if m = 2 then p1 else if m = 3 then p2 else .slice none 0 0
def tabN (m : Nat) (many : Int) : Int := if m = 0 then many else if m = 1 then -1 else 0
theorem tab_at (m : Nat) (h : m < 4) (many : Int) (p1 p2 : Value) : (#[.slice none 0 0, .int .i64 many, .slice none 0 0, .int .i64 (-1), p1, .int .i64 0, p2, .int .i64 0] : Array Value)[m * 2]? = some (tabU m p1 p2) ∧ (#[.slice none 0 0, .int .i64 many, .slice none 0 0, .int .i64 (-1), p1, .int .i64 0, p2, .int .i64 0] : Array Value)[m * 2 + 1]? = some (.int .i64 (tabN m many)) := by
  rcases (show m = 0 ∨ m = 1 ∨ m = 2 ∨ m = 3 by omega) with rfl | rfl | rfl | rfl <;> exact ⟨rfl, rfl⟩
theorem tab_at0 (m : Nat) (h : m < 4) (many : Int) : ∀ p1 p2 : Value, (#[.slice none 0 0, .int .i64 many, .slice none 0 0, .int .i64 (-1), p1, .int .i64 0, p2, .int .i64 0] : Array Value)[m * 2]? = some (tabU m p1 p2) := fun p1 p2 => (tab_at m h many p1 p2).1
theorem tab_at1 (m : Nat) (h : m < 4) (many : Int) : ∀ p1 p2 : Value, (#[.slice none 0 0, .int .i64 many, .slice none 0 0, .int .i64 (-1), p1, .int .i64 0, p2, .int .i64 0] : Array Value)[m * 2 + 1]? = some (.int .i64 (tabN m many)) := fun p1 p2 => (tab_at m h many p1 p2).2
theorem tab_one (m : Nat) (many : Int) (a b : Nat) : ∀ u ∈ [tabU m (.slice (some ⟨a, 0, none⟩) 1 1) (.slice (some ⟨b, 0, none⟩) 7 7), .int .i64 (tabN m many)], u.oneCell' = true := by
  intro u hu
  simp only [List.mem_cons, List.not_mem_nil, or_false] at hu
  rcases hu with rfl | rfl
  · unfold tabU; split
    · rfl
    · split <;> rfl
  · rfl
/-- Moves are drawn. -/
def MoS (b : Nat) (M : Int) (w : World) (e : Ending) (w' : World) : Prop :=
  ∃ (v : Value) (ds : List Mv), e = .returned v ∧ v ≠ .slice none 0 0 ∧ ds.length ≤ 6 ∧ (∀ i (h : i < ds.length), ds[i].xs.length ≤ 16) ∧ OwnM 34 w' w.heap.size w'.heap.size v ds ∧ Reads b M (M + 60) w w'
theorem moPush {T : Nat} {W0 w5 : World} {lo S : Nat} {v v5 : Value} {ds : List Mv} {us : List Value} {m g1 g2 : Nat} {many : Int} (h1 : us.length = ds.length) (hv : ∀ j, v.ownBlock = some j → j < S)
    (h4 : ∀ i (h : i < ds.length) (h2 : i < us.length), W0.ownsRow lo 3 1 us[i] ds[i].xs.length (cellsI ds[i].xs) ∧ ∀ j, us[i].ownBlock = some j → j < S ∧ v.ownBlock ≠ some j)
    (hm4 : m < 4) (g : W0.grownBy w5 v.ownBlock) (hloc : v5.ownBlock = v.ownBlock ∨ v5.ownBlock = some W0.heap.size)
    (h2 : w5.ownsRow lo T 2 v5 (ds.length + 1) (cellsM us ds ++ [tabU m (.slice (some ⟨g1, 0, none⟩) 1 1) (.slice (some ⟨g2, 0, none⟩) 7 7), .int .i64 (tabN m many)]))
    (hK1 : Bk W0 g1 #[.int .i64 many] 3) (hK2 : Bk W0 g2 #[.int .i64 0, .int .i64 0, .int .i64 0, .int .i64 0, .int .i64 0, .int .i64 0, .int .i64 0] 3)
    (hS : S ≤ W0.heap.size) (hg1 : S ≤ g1) (hg2 : S ≤ g2) (hlo : lo ≤ S) : ∃ d : Mv, d.xs.length ≤ 16 ∧ OwnM T w5 lo w5.heap.size v5 (ds ++ [d]) := by
  rcases (show m = 0 ∨ m = 1 ∨ m = 2 ∨ m = 3 by omega) with rfl | rfl | rfl | rfl
  · exact ⟨⟨[], many⟩, by simp, OwnM.push h1 hv h4 (u := .slice none 0 0) (World.ownsRow_nil _ _ _ _) (fun j hj => by simp [Value.ownBlock] at hj) g hS hloc h2⟩
  · exact ⟨⟨[], -1⟩, by simp, OwnM.push h1 hv h4 (u := .slice none 0 0) (World.ownsRow_nil _ _ _ _) (fun j hj => by simp [Value.ownBlock] at hj) g hS hloc h2⟩
  · exact ⟨⟨[many], 0⟩, by simp, OwnM.push h1 hv h4 (u := .slice (some ⟨g1, 0, none⟩) 1 1) (own_of_bk hK1 (by omega) (by unfold maxLen; omega) rfl rfl (fun j hj => by simp [cellsI, encI])) (fun j hj => by simp [Value.ownBlock] at hj; omega) g hS hloc h2⟩
  · exact ⟨⟨[0, 0, 0, 0, 0, 0, 0], 0⟩, by simp, OwnM.push h1 hv h4 (u := .slice (some ⟨g2, 0, none⟩) 7 7) (own_of_bk hK2 (by omega) (by unfold maxLen; omega) rfl rfl (fun j hj => by simp [cellsI, encI])) (fun j hj => by simp [Value.ownBlock] at hj; omega) g hS hloc h2⟩
set_option maxHeartbeats 12800000 in
theorem l20Moves_any (b : Nat) (many n M : Int) (w : World) (h : Rd w b M) (hM : M ≤ 1099511627776 - 80) (hn : 0 ≤ n) (hn2 : n ≤ 1099511627776) (hm0 : 0 ≤ many) (hm1 : many ≤ 12) :
    Calls Try.prog 47 #[.pointer (some ⟨b, 0, none⟩), .int .i64 many, .int .i64 n] w (MoS b M w) := by
  have hlt := h.lt
  have P0 := Reads.refl h
  have P1 := Reads.al P0 (.cells #[] 34)
  have O1 := Lib.hid (OwnM.made (T := 34) (w := w) (lo := w.heap.size) rfl (Nat.le_refl _))
  go_enter Try.func47, Try.ntmps47
  go_wp2_with fail
  refine (pick_any b 6 _ _ P1.rd (by omega) (by omega)).mono ?_
  rintro e w1 ⟨x1, rfl, lo1, hi1, r1⟩
  have P2 := Reads.trans P1 r1
  have O2 := Lib.hid (OwnM.rd O1.out r1 hlt)
  have z1 := r1.size
  simp only [World.size_alloc] at z1
  obtain ⟨c0, rfl⟩ : ∃ c : Nat, x1 = c := ⟨x1.toNat, by omega⟩
  clear O1 P0 P1 r1
  go_wp2_with fail
  go_loopw [7, 8] (fun v i wr => ∃ (c : Nat) (ds : List Mv), c ≤ 5 ∧ i = .int .i64 c ∧ ds.length + c ≤ 5 ∧ Hid (v ≠ .slice none 0 0) ∧ Hid (∀ i (h : i < ds.length), ds[i].xs.length ≤ 16) ∧ Hid (OwnM 34 wr w.heap.size wr.heap.size v ds) ∧ Reads b M (M + 1 + 8 * (5 - c)) w wr) (fun _ i _ => (intOf i).toNat)
  case atStart => exact ⟨c0, [], by omega, rfl, by simp; omega, by simp [Hid], by intro i hi; simp at hi, O2.out.up (by omega), P2.mono (by omega)⟩
  case round =>
    clear O2 P2
    obtain ⟨c, ds, hc3, rfl, hlen, hvn, hxs, ho, hR⟩ := hrel
    obtain ⟨wo, rfl⟩ : ∃ wo : World, wo = wr := ⟨_, rfl⟩
    obtain ⟨v, rfl⟩ : ∃ v : Value, v = u7 := ⟨_, rfl⟩
    have zr := hR.size
    by_cases hcp : 0 < c ∧ 0 < many
    · obtain ⟨hcp, hmp⟩ := hcp
      have hcd : decide ((0 : Int) < (c : Int)) = true := by simp; omega
      have hmd : decide (0 < many) = true := by simpa using hmp
      have OI := Lib.hid (ho.out.al (.cells #[] 3))
      have UI := Lib.hid (own_made_b (W := wo) (g := wo.heap.size) (lo := wo.heap.size) (t := 3) (k := 1) rfl (Nat.le_refl _))
      have PI := Reads.al hR (.cells #[] 3)
      go_wp2_with fail
      refine (pick_any b many _ _ PI.rd (by omega) (by omega)).mono ?_
      rintro e w2 ⟨y1, rfl, lo2, hi2, r2⟩
      have z2 := r2.size
      simp only [World.size_alloc] at z2
      have O3 := Lib.hid ((OI.out.rd r2 hlt).al (.cells #[.slice (some ⟨wo.heap.size, 0, none⟩) 0 0, .int .i64 y1] 34))
      have U3 := Lib.hid (own_alloc (own_rd UI.out r2 (by omega)) (.cells #[.slice (some ⟨wo.heap.size, 0, none⟩) 0 0, .int .i64 y1] 34))
      have K3 := Bk.new (w := w2) (vs := #[.slice (some ⟨wo.heap.size, 0, none⟩) 0 0, .int .i64 y1]) (t := 34)
      have P3 := Reads.al (PI.trans r2) (.cells #[.slice (some ⟨wo.heap.size, 0, none⟩) 0 0, .int .i64 y1] 34)
      clear OI UI PI r2
      go_wp2_with fail
      refine (pick_any b 3 _ _ P3.rd (by omega) (by omega)).mono ?_
      rintro e w3 ⟨y2, rfl, lo3, hi3, r3⟩
      have z3 := r3.size
      simp only [World.size_alloc] at z3
      have O4 := Lib.hid (O3.out.rd r3 hlt)
      have U4 := Lib.hid (own_rd U3.out r3 (by omega))
      have K4 := K3.rdn r3 (by omega)
      have P4 := P3.trans r3
      obtain ⟨j0, rfl⟩ : ∃ c : Nat, y2 = c := ⟨y2.toNat, by omega⟩
      clear O3 U3 K3 P3 r3
      go_wp2_with fail
      go_loopw [10] (fun i wx => ∃ (j : Nat) (xs : List Int) (ua : Option Addr) (uc : Nat), j ≤ 2 ∧ xs.length + j ≤ 2 ∧ i = .int .i64 j ∧ Bk wx w2.heap.size #[.slice ua xs.length uc, .int .i64 y1] 34 ∧ Hid (wx.ownsRow wo.heap.size 3 1 (.slice ua xs.length uc) xs.length (cellsI xs)) ∧ Hid (∀ j, Value.ownBlock (.slice ua xs.length uc) = some j → j ≠ w2.heap.size) ∧ Hid (OwnM 34 wx w.heap.size wo.heap.size v ds) ∧ Reads b M (M + 1 + 8 * (5 - c) + 4 - j) w wx) (fun i _ => (intOf i).toNat)
      case atStart => exact ⟨j0, [], _, 0, by omega, by simp; omega, rfl, K4, U4.out, fun j hj => by simp [Value.ownBlock] at hj; omega, O4.out, P4.mono (by omega)⟩
      case round =>
        clear O4 U4 K4 P4
        obtain ⟨j, xs, ua, uc, hj2, hxj, rfl, kb, hu, hune, hO, hP⟩ := hrel
        have xb := kb.cell
        have fb := kb.free
        have yb := kb.lt
        by_cases hjl : 0 < j
        · have hPD := Reads.dr hP
          have hUD : Hid (wr.drew.ownsRow wo.heap.size 3 1 (.slice ua xs.length uc) xs.length (cellsI xs)) := hu
          have hb1 : b < wo.heap.size := by omega
          have hbn : w2.heap.size ≠ b := by omega
          have hc1 : ((j - 1 : Nat) : Int) = j - 1 := by omega
          go_wp2_with fail
          go_region_law
            (first | (go_simp; go_at_call 46; (with_reducible refine (pick_any b many (M + 1 + 8 * (5 - c) + 4 - j) _ hPD.rd (by omega) (by omega)).mono ?_); rintro e w4 ⟨x4, rfl, lo4, hi4, r4⟩; have k4 := Bk.rdn (Bk.drew kb) r4 hbn; have q4 := k4.cell; have f4 := k4.free; have y4 := k4.lt) | (refine step_appS (by rfl) (.tmp 34) (.tmp 38) 32 3 (.int .i64 0) 1 8 (by rfl) Try.underlying32 infoI rfl (by decide) (by decide) wo.heap.size (.slice ua xs.length uc) xs.length (cellsI xs) (by rfl) (own_alloc (own_rd hUD.out r4 hb1) _) (.slice (some ⟨w4.heap.size, 0, none⟩) 1 1) 1 [.int .i64 x4] (by rfl) (slF_bk (k := 1) (n := 1) (cs := [.int .i64 x4]) (bk_atb (by simp)) rfl (by omega)) (one_int _) (by omega) (by have := r4.size; have := hP.size; simp at *; omega) ?_; intro v5 w5 own5 g5 hloc5 hnn5; have k5 := Bk.by (k4.alloc _) g5 (fun e => hune.out _ e.symm rfl); obtain ⟨va, vc, rfl, _, _⟩ := SlF.shape (own_sl own5); have q5 := k5.cell; have f5 := k5.free))
          all_goals
            have hg : ∀ i, Value.ownBlock (.slice ua xs.length uc) = some i → wo.heap.size ≤ i := own_gt hu.out
            have O6 := Lib.hid (((OwnM.rd (show OwnM 34 wr.drew w.heap.size wo.heap.size v ds from hO.out) r4 hlt).al (.cells #[.int .i64 x4] 3)).gby g5 hg)
            have P6 := Reads.app g5 (Reads.al (hPD.trans r4) (.cells #[.int .i64 x4] 3)) hlt (fun i hi => by have := hg i hi; omega)
            have z5 := g5.size
            simp only [World.size_alloc] at z5
            have N6 : ∀ i, Value.ownBlock (.slice va (xs.length + 1) vc) = some i → i ≠ w2.heap.size := fun i hi => by
              rcases hloc5 with e | e
              · rw [e] at hi; exact hune.out i hi
              · rw [e] at hi; simp at hi; omega
            have U6 := Lib.hid (own_more own5)
            have N6h := Lib.hid N6
            clear own5 g5 hloc5 hnn5 q4 f4 q5 f5 xb fb hg N6
            go_wp2_with fail
            go_roundw
            case rel =>
              refine ⟨j - 1, xs ++ [x4], va, vc, by omega, by simp; omega, by rw [hc1], ?_, ?_, ?_, ?_, ?_⟩
              · rw [List.length_append]; exact k5.same 0 _
              · refine Lib.hid ?_
                have e : (.slice va (xs ++ [x4]).length vc : Value) = .slice va (xs.length + 1) vc := by simp
                rw [e]
                exact own_setne U6.out N6h.out _ _
              · have e : (.slice va (xs ++ [x4]).length vc : Value) = .slice va (xs.length + 1) vc := by simp
                rw [e]
                exact N6h
              · exact Lib.hid (O6.out.set (by omega) _ _)
              · exact (Reads.set P6 hlt (by omega) _ _).mono (by omega)
            case measure => simp only [intOf]; omega
        · have hjf : decide ((0 : Int) < (j : Int)) = false := by simp; omega
          have hc1 : ((c - 1 : Nat) : Int) = c - 1 := by omega
          obtain ⟨us, hus, hown, hvS, hin⟩ := hO.out
          have HI := Lib.hid hin
          have HV := Lib.hid hvS
          have HOW := Lib.hid hown
          clear hin hvS hown hO
          go_wp2_with (at_builtin; refine Hid.out ?_); refine Lib.hid ?_
          refine wpList_appS (s := .tmp 41) (x := .tmp 43) rfl 25 34 (.agg #[.slice none 0 0, .int .i64 0]) 2 32 rfl Try.underlying25 infoMo rfl (by decide) (by decide) w.heap.size v ds.length (cellsM us ds) (by rfl) (own_alloc HOW.out _) (.slice (some ⟨wr.heap.size, 0, none⟩) 1 1) 1 [.slice ua xs.length uc, .int .i64 y1] (by rfl) (slF_bk (k := 2) (n := 1) (cs := [.slice ua xs.length uc, .int .i64 y1]) (bk_atb rfl) rfl (by omega)) (by intro u hu; simp at hu; rcases hu with rfl | rfl <;> rfl) (by omega) (by have := hP.size; simp; omega) ?_
          intro v3 w5 own3 g3 hloc3 hnn3
          have O3 := Lib.hid (OwnM.push (w := wr.alloc (.cells #[.slice ua xs.length uc, .int .i64 y1] 34)) (T := 34) (lo := w.heap.size) (S := wo.heap.size) (ds := ds) (us := us) (u := .slice ua xs.length uc) (xs := xs) (n := y1) hus HV.out
            (fun i h h2 => ⟨own_alloc (HI.out i h h2).1 _, (HI.out i h h2).2⟩)
            (own_lo (own_alloc hu.out _) (by omega)) (own_gt hu.out) g3 (by simp; omega) (by simpa using hloc3) own3)
          have P3 := Reads.app g3 (Reads.al hP (.cells #[.slice ua xs.length uc, .int .i64 y1] 34)) hlt (fun j hj => (own_gt HOW.out j hj))
          have NN := Lib.hid (hnn3 hvn.out)
          clear own3 g3 hloc3 hnn3 xb fb hu HI HV HOW hP
          go_wp2_with fail
          refine ⟨⟨c - 1, ds ++ [⟨xs, y1⟩], by omega, by rw [hc1], by simp; omega, NN, ?_, O3, P3.mono (by omega)⟩, by simp only [intOf]; omega⟩
          intro i hi
          by_cases hil : i < ds.length
          · rw [List.getElem_append_left hil]; exact hxs.out i hil
          · have : i = ds.length := by simp at hi; omega
            subst this
            rw [List.getElem_append_right (Nat.le_refl _)]
            simp
            omega
    · have hcm : c = 0 ∨ (0 < c ∧ decide (0 < many) = false) := by
        by_cases h : 0 < c
        · right
          refine ⟨h, by simp; omega⟩
        · left
          omega
      have hmk7 : ∀ w : World, (Instr.makeSlice 32 (.int .i64 7) (.int .i64 7)).run Try.prog w = .ok (.slice (some ⟨w.heap.size, 0, none⟩) 7 7) (w.alloc (.cells #[.int .i64 0, .int .i64 0, .int .i64 0, .int .i64 0, .int .i64 0, .int .i64 0, .int .i64 0] 3)) := fun w => by kernel_rfl
      clear hcp
      rcases hcm with rfl | ⟨hcd, hmd⟩
      · go_wp2_with fail
        refine (odd_any b n _ _ hR.rd (by omega) (by omega) (by omega)).mono ?_
        rintro e w2 ⟨y, rfl, r2⟩
        have z2 := r2.size
        have ho2 := Lib.hid (OwnM.up (OwnM.rd ho.out r2 hlt) z2)
        have P2 := Reads.mono (M2 := M + 50) (Reads.trans hR r2) (by omega)
        clear ho hR r2
        cases y
        · go_wp2_with fail
          go_ret
          exact ⟨_, ds, rfl, hvn.out, by omega, fun i hi => hxs.out i hi, ho2.out, P2.mono (by omega)⟩
        · obtain ⟨us, hus, hown, hvS, hin⟩ := ho2.out
          have HI := Lib.hid hin
          have HV := Lib.hid hvS
          have HOW := Lib.hid hown
          have hzw := P2.size
          clear hin hvS hown ho2
          have PD0 := Reads.dr P2
          have PD1 := fun o => Reads.dr (Reads.al P2 o)
          have PD2 := fun o o' => Reads.dr (Reads.al (Reads.al P2 o) o')
          have PD3 := fun o o' o'' => Reads.dr (Reads.al (Reads.al (Reads.al P2 o) o') o'')
          have OD0 := Lib.hid (own_drew HOW.out)
          have OD1 := Lib.hid (fun o => own_drew (own_alloc HOW.out o))
          have OD2 := Lib.hid (fun o o' => own_drew (own_alloc (own_alloc HOW.out o) o'))
          have OD3 := Lib.hid (fun o o' o'' => own_drew (own_alloc (own_alloc (own_alloc HOW.out o) o') o''))
          have KX1 := Bk.drew (bk_atb (W := (w2.alloc (.cells #[.int .i64 many] 3)).alloc (.cells #[.int .i64 0, .int .i64 0, .int .i64 0, .int .i64 0, .int .i64 0, .int .i64 0, .int .i64 0] 3)) (vs := #[.slice none 0 0, .int .i64 many, .slice none 0 0, .int .i64 (-1), .slice (some ⟨w2.heap.size, 0, none⟩) 1 1, .int .i64 0, .slice (some ⟨w2.heap.size + 1, 0, none⟩) 7 7, .int .i64 0]) (t := 34) (g := w2.heap.size + 1 + 1) (by simp))
          have KX2 := Bk.drew (bk_atb (W := (w2.alloc (.cells #[.int .i64 0, .int .i64 0, .int .i64 0, .int .i64 0, .int .i64 0, .int .i64 0, .int .i64 0] 3)).alloc (.cells #[.int .i64 many] 3)) (vs := #[.slice none 0 0, .int .i64 many, .slice none 0 0, .int .i64 (-1), .slice (some ⟨w2.heap.size + 1, 0, none⟩) 1 1, .int .i64 0, .slice (some ⟨w2.heap.size, 0, none⟩) 7 7, .int .i64 0]) (t := 34) (g := w2.heap.size + 1 + 1) (by simp))
          have hne3 : w2.heap.size + 1 + 1 ≠ b := by omega
          go_wp2_with fail
          go_region_law
            (first | (go_simp; go_at_call 46; (with_reducible refine (pick_any b 4 (M + 50) _ ?_ (by omega) (by omega)).mono ?_); (first | (with_reducible exact PD0.rd) | (with_reducible exact (PD1 _).rd) | (with_reducible exact (PD2 _ _).rd) | (with_reducible exact (PD3 _ _ _).rd)); rintro e w3 ⟨x3, rfl, lo3, hi3, r3⟩; have z3 := r3.size; (try simp only [World.size_alloc, World.size_drew] at z3); obtain ⟨m, rfl⟩ : ∃ m : Nat, x3 = m := ⟨x3.toNat, by omega⟩; have hm4 : m < 4 := (by omega); have tt := tab_at0 m hm4 many; have tn := tab_at1 m hm4 many; have how3 : Hid (w3.ownsRow w.heap.size 34 2 v ds.length (cellsM us ds)) := (by first | exact Lib.hid (own_rd OD0.out r3 hlt) | exact Lib.hid (own_rd (OD1.out _) r3 hlt) | exact Lib.hid (own_rd (OD2.out _ _) r3 hlt) | exact Lib.hid (own_rd (OD3.out _ _ _) r3 hlt)); (try first | (have k3 := Bk.rdn KX1 r3 hne3; have q3 := k3.cell) | (have k3 := Bk.rdn KX2 r3 hne3; have q3 := k3.cell))) | (refine step_appS (by rfl) (.tmp 48) (.tmp 62) 25 34 (.agg #[.slice none 0 0, .int .i64 0]) 2 32 (by rfl) Try.underlying25 infoMo rfl (by decide) (by decide) w.heap.size v ds.length (cellsM us ds) (by rfl) ?_ _ 1 [tabU m _ _, .int .i64 (tabN m many)] (by rfl) (slF_bk (k := 2) (n := 1) (bk_atb (by simp)) rfl (by omega)) (tab_one _ _ _ _) (by omega) (by simp; omega) ?_; (first | exact own_alloc how3.out _ | exact own_alloc (own_alloc how3.out _) _ | exact own_alloc (own_alloc (own_alloc how3.out _) _) _ | exact own_alloc (own_alloc (own_alloc (own_alloc how3.out _) _) _) _); intro v5 w5 own5 g5 hloc5 hnn5))
          all_goals
            clear PD0 PD1 PD2 PD3 OD0 OD1 OD2 OD3 KX1 KX2 tt tn
            have NN := Lib.hid (hnn5 hvn.out)
            have P6 : Reads b M (M + 60) w w5 := by
              refine Reads.mono (M' := M + 50 + 1) (Reads.app g5 ?_ hlt (fun j hj => own_gt HOW.out j hj)) (by omega)
              (repeat' first | (with_reducible exact P2) | (with_reducible refine Reads.via (by assumption) ?_) | (with_reducible refine Reads.grow (by assumption) ?_) | (with_reducible refine Reads.al ?_ _) | (with_reducible refine Reads.dr ?_) | (with_reducible refine Reads.set ?_ hlt ?_ _ _) | omega | (simp only [World.size_alloc, World.size_drew]; omega))
            obtain ⟨d, hd16, O6⟩ : ∃ d : Mv, d.xs.length ≤ 16 ∧ OwnM 34 w5 w.heap.size w5.heap.size v5 (ds ++ [d]) := by
              refine moPush (S := w2.heap.size) hus HV.out ?_ hm4 g5 hloc5 own5 ?_ ?_ ?_ ?_ ?_ hzw
              · intro i h h2
                refine ⟨?_, (HI.out i h h2).2⟩
                (repeat' first | (with_reducible exact (HI.out i h h2).1) | (with_reducible refine own_below ?_ (by assumption)) | (with_reducible refine own_rd ?_ (by assumption) ?_) | (with_reducible refine own_alloc ?_ _) | (with_reducible refine own_drew ?_) | (with_reducible refine own_setne ?_ ?_ _ _) | omega | (simp only [World.size_alloc, World.size_drew]; omega))
              · (repeat' first | (with_reducible assumption) | (with_reducible exact bk_atb (by simp)) | (with_reducible exact Bk.new) | (with_reducible refine Bk.drew ?_) | (with_reducible refine Bk.below ?_ (by assumption)) | (with_reducible refine Bk.rdn ?_ (by assumption) ?_) | (with_reducible refine Bk.alloc ?_ _) | omega | (simp only [World.size_alloc, World.size_drew]; omega))
              · (repeat' first | (with_reducible assumption) | (with_reducible exact bk_atb (by simp)) | (with_reducible exact Bk.new) | (with_reducible refine Bk.drew ?_) | (with_reducible refine Bk.below ?_ (by assumption)) | (with_reducible refine Bk.rdn ?_ (by assumption) ?_) | (with_reducible refine Bk.alloc ?_ _) | omega | (simp only [World.size_alloc, World.size_drew]; omega))
              · (try simp only [World.size_alloc, World.size_drew]); omega
              · (try simp only [World.size_alloc, World.size_drew]); omega
              · (try simp only [World.size_alloc, World.size_drew]); omega
            have HO6 := Lib.hid O6
            clear own5 g5 hloc5 hnn5 O6
            go_wp2_with fail
            go_ret
            refine ⟨v5, ds ++ [d], rfl, NN.out, by simp; omega, fun i hi => ?_, HO6.out, P6⟩
            by_cases hil : i < ds.length
            · rw [List.getElem_append_left hil]; exact hxs.out i hil
            · have : i = ds.length := by simp at hi; omega
              subst this
              rw [List.getElem_append_right (Nat.le_refl _)]
              simpa using hd16
      · go_wp2_with fail
        refine (odd_any b n _ _ hR.rd (by omega) (by omega) (by omega)).mono ?_
        rintro e w2 ⟨y, rfl, r2⟩
        have z2 := r2.size
        have ho2 := Lib.hid (OwnM.up (OwnM.rd ho.out r2 hlt) z2)
        have P2 := Reads.mono (M2 := M + 50) (Reads.trans hR r2) (by omega)
        clear ho hR r2
        cases y
        · go_wp2_with fail
          go_ret
          exact ⟨_, ds, rfl, hvn.out, by omega, fun i hi => hxs.out i hi, ho2.out, P2.mono (by omega)⟩
        · obtain ⟨us, hus, hown, hvS, hin⟩ := ho2.out
          have HI := Lib.hid hin
          have HV := Lib.hid hvS
          have HOW := Lib.hid hown
          have hzw := P2.size
          clear hin hvS hown ho2
          have PD0 := Reads.dr P2
          have PD1 := fun o => Reads.dr (Reads.al P2 o)
          have PD2 := fun o o' => Reads.dr (Reads.al (Reads.al P2 o) o')
          have PD3 := fun o o' o'' => Reads.dr (Reads.al (Reads.al (Reads.al P2 o) o') o'')
          have OD0 := Lib.hid (own_drew HOW.out)
          have OD1 := Lib.hid (fun o => own_drew (own_alloc HOW.out o))
          have OD2 := Lib.hid (fun o o' => own_drew (own_alloc (own_alloc HOW.out o) o'))
          have OD3 := Lib.hid (fun o o' o'' => own_drew (own_alloc (own_alloc (own_alloc HOW.out o) o') o''))
          have KX1 := Bk.drew (bk_atb (W := (w2.alloc (.cells #[.int .i64 many] 3)).alloc (.cells #[.int .i64 0, .int .i64 0, .int .i64 0, .int .i64 0, .int .i64 0, .int .i64 0, .int .i64 0] 3)) (vs := #[.slice none 0 0, .int .i64 many, .slice none 0 0, .int .i64 (-1), .slice (some ⟨w2.heap.size, 0, none⟩) 1 1, .int .i64 0, .slice (some ⟨w2.heap.size + 1, 0, none⟩) 7 7, .int .i64 0]) (t := 34) (g := w2.heap.size + 1 + 1) (by simp))
          have KX2 := Bk.drew (bk_atb (W := (w2.alloc (.cells #[.int .i64 0, .int .i64 0, .int .i64 0, .int .i64 0, .int .i64 0, .int .i64 0, .int .i64 0] 3)).alloc (.cells #[.int .i64 many] 3)) (vs := #[.slice none 0 0, .int .i64 many, .slice none 0 0, .int .i64 (-1), .slice (some ⟨w2.heap.size + 1, 0, none⟩) 1 1, .int .i64 0, .slice (some ⟨w2.heap.size, 0, none⟩) 7 7, .int .i64 0]) (t := 34) (g := w2.heap.size + 1 + 1) (by simp))
          have hne3 : w2.heap.size + 1 + 1 ≠ b := by omega
          go_wp2_with fail
          go_region_law
            (first | (go_simp; go_at_call 46; (with_reducible refine (pick_any b 4 (M + 50) _ ?_ (by omega) (by omega)).mono ?_); (first | (with_reducible exact PD0.rd) | (with_reducible exact (PD1 _).rd) | (with_reducible exact (PD2 _ _).rd) | (with_reducible exact (PD3 _ _ _).rd)); rintro e w3 ⟨x3, rfl, lo3, hi3, r3⟩; have z3 := r3.size; (try simp only [World.size_alloc, World.size_drew] at z3); obtain ⟨m, rfl⟩ : ∃ m : Nat, x3 = m := ⟨x3.toNat, by omega⟩; have hm4 : m < 4 := (by omega); have tt := tab_at0 m hm4 many; have tn := tab_at1 m hm4 many; have how3 : Hid (w3.ownsRow w.heap.size 34 2 v ds.length (cellsM us ds)) := (by first | exact Lib.hid (own_rd OD0.out r3 hlt) | exact Lib.hid (own_rd (OD1.out _) r3 hlt) | exact Lib.hid (own_rd (OD2.out _ _) r3 hlt) | exact Lib.hid (own_rd (OD3.out _ _ _) r3 hlt)); (try first | (have k3 := Bk.rdn KX1 r3 hne3; have q3 := k3.cell) | (have k3 := Bk.rdn KX2 r3 hne3; have q3 := k3.cell))) | (refine step_appS (by rfl) (.tmp 48) (.tmp 62) 25 34 (.agg #[.slice none 0 0, .int .i64 0]) 2 32 (by rfl) Try.underlying25 infoMo rfl (by decide) (by decide) w.heap.size v ds.length (cellsM us ds) (by rfl) ?_ _ 1 [tabU m _ _, .int .i64 (tabN m many)] (by rfl) (slF_bk (k := 2) (n := 1) (bk_atb (by simp)) rfl (by omega)) (tab_one _ _ _ _) (by omega) (by simp; omega) ?_; (first | exact own_alloc how3.out _ | exact own_alloc (own_alloc how3.out _) _ | exact own_alloc (own_alloc (own_alloc how3.out _) _) _ | exact own_alloc (own_alloc (own_alloc (own_alloc how3.out _) _) _) _); intro v5 w5 own5 g5 hloc5 hnn5))
          all_goals
            clear PD0 PD1 PD2 PD3 OD0 OD1 OD2 OD3 KX1 KX2 tt tn
            have NN := Lib.hid (hnn5 hvn.out)
            have P6 : Reads b M (M + 60) w w5 := by
              refine Reads.mono (M' := M + 50 + 1) (Reads.app g5 ?_ hlt (fun j hj => own_gt HOW.out j hj)) (by omega)
              (repeat' first | (with_reducible exact P2) | (with_reducible refine Reads.via (by assumption) ?_) | (with_reducible refine Reads.grow (by assumption) ?_) | (with_reducible refine Reads.al ?_ _) | (with_reducible refine Reads.dr ?_) | (with_reducible refine Reads.set ?_ hlt ?_ _ _) | omega | (simp only [World.size_alloc, World.size_drew]; omega))
            obtain ⟨d, hd16, O6⟩ : ∃ d : Mv, d.xs.length ≤ 16 ∧ OwnM 34 w5 w.heap.size w5.heap.size v5 (ds ++ [d]) := by
              refine moPush (S := w2.heap.size) hus HV.out ?_ hm4 g5 hloc5 own5 ?_ ?_ ?_ ?_ ?_ hzw
              · intro i h h2
                refine ⟨?_, (HI.out i h h2).2⟩
                (repeat' first | (with_reducible exact (HI.out i h h2).1) | (with_reducible refine own_below ?_ (by assumption)) | (with_reducible refine own_rd ?_ (by assumption) ?_) | (with_reducible refine own_alloc ?_ _) | (with_reducible refine own_drew ?_) | (with_reducible refine own_setne ?_ ?_ _ _) | omega | (simp only [World.size_alloc, World.size_drew]; omega))
              · (repeat' first | (with_reducible assumption) | (with_reducible exact bk_atb (by simp)) | (with_reducible exact Bk.new) | (with_reducible refine Bk.drew ?_) | (with_reducible refine Bk.below ?_ (by assumption)) | (with_reducible refine Bk.rdn ?_ (by assumption) ?_) | (with_reducible refine Bk.alloc ?_ _) | omega | (simp only [World.size_alloc, World.size_drew]; omega))
              · (repeat' first | (with_reducible assumption) | (with_reducible exact bk_atb (by simp)) | (with_reducible exact Bk.new) | (with_reducible refine Bk.drew ?_) | (with_reducible refine Bk.below ?_ (by assumption)) | (with_reducible refine Bk.rdn ?_ (by assumption) ?_) | (with_reducible refine Bk.alloc ?_ _) | omega | (simp only [World.size_alloc, World.size_drew]; omega))
              · (try simp only [World.size_alloc, World.size_drew]); omega
              · (try simp only [World.size_alloc, World.size_drew]); omega
              · (try simp only [World.size_alloc, World.size_drew]); omega
            have HO6 := Lib.hid O6
            clear own5 g5 hloc5 hnn5 O6
            go_wp2_with fail
            go_ret
            refine ⟨v5, ds ++ [d], rfl, NN.out, by simp; omega, fun i hi => ?_, HO6.out, P6⟩
            by_cases hil : i < ds.length
            · rw [List.getElem_append_left hil]; exact hxs.out i hil
            · have : i = ds.length := by simp at hi; omega
              subst this
              rw [List.getElem_append_right (Nat.le_refl _)]
              simpa using hd16
end Go.Proofs.Ytfghgpdhcpcoiaa
