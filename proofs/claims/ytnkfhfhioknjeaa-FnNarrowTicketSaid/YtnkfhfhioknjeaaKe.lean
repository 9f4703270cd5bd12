/-
  Tickets: copied, compared, marked. No condition.
-/
import Derived.Test.YtnkfhfhioknjeaaKm
set_option linter.unusedSimpArgs false
set_option linter.unusedVariables false
namespace Go.Proofs.Ytnkfhfhioknjeaa
open Go.RowKit
/-- A ticket's copy: its row is the call's own. -/
def NewTk (t : Tk) (w : World) (e : Ending) (w' : World) : Prop :=
  ∃ v, e = .returned (.agg #[.int .i64 t.who, v, .int .i64 t.til, .int .i64 t.sl]) ∧ w'.ownsRow w.heap.size 3 1 v t.acts.length (cellsI t.acts) ∧ Below w.heap.size w w'
theorem own_set2 {w : World} {lo e k : Nat} {v : Value} {n : Nat} {cs : List Value} (h : w.ownsRow lo e k v n cs) {g : Nat} (hg : g < lo) (o : Nat) (u : Value) : (w.setCell ⟨g, o, none⟩ u).ownsRow lo e k v n cs :=
  h.kept (row := some g) ⟨rfl, rfl, rfl, by simp, fun k _ hk => heap_setCell_other w ⟨g, o, none⟩ k u (fun e => hk (by simp [e]))⟩ (by
    cases hv : v.ownBlock with
    | none => exact .inl rfl
    | some j => right; intro he; have := own_gt h j hv; simp at he; omega)
set_option maxHeartbeats 1600000 in
theorem toTk_any (t : Tk) (v : Value) (w : World) (h : SlI w v t.acts) (hlen : t.acts.length ≤ 4194304) : Calls Try.prog 13 #[.agg #[.int .i64 t.who, v, .int .i64 t.til, .int .i64 t.sl]] w (NewTk t w) := by
  obtain ⟨a, cap, rfl, h1, h2⟩ := SlF.shape h
  unfold maxLen at h2
  have H := Lib.hid h
  clear h
  obtain ⟨k1, k2, k3⟩ := Bk.init3 (w := w) (vs := #[.int .i64 t.who, .slice a t.acts.length cap, .int .i64 t.til, .int .i64 t.sl]) (t := 24) (us := #[.int .i64 0, .slice none 0 0, .int .i64 0, .int .i64 0]) (s := 27) (rs := #[.int .i64 t.who, .slice none 0 0, .int .i64 0, .int .i64 0]) (r := 27); have x1 := k1.cell; have x2 := k2.cell; have x3 := k3.cell; have f3 := k3.free
  have hB0 : Below w.heap.size w (((w.alloc (.cells #[.int .i64 t.who, .slice a t.acts.length cap, .int .i64 t.til, .int .i64 t.sl] 24)).alloc (.cells #[.int .i64 0, .slice none 0 0, .int .i64 0, .int .i64 0] 27)).alloc (.cells #[.int .i64 t.who, .slice none 0 0, .int .i64 0, .int .i64 0] 27)) := Below.al (Below.al (Below.al (Below.refl _ _) _) _) _
  have HL := Lib.hid (SlI.below H.out hB0)
  go_enter Try.func13, Try.ntmps13
  go_wp2_with fail
  refine (toIntS_any t.acts _ _ HL.out hlen).mono ?_
  rintro e w1 ⟨u, rfl, o1, hb⟩
  obtain ⟨ua, uc, rfl, _, _⟩ := SlF.shape (own_sl o1)
  have O1 : Hid (w1.ownsRow (w.heap.size + 1 + 1 + 1) 3 1 (.slice ua t.acts.length uc) t.acts.length (cellsI t.acts)) := by simpa [Hid] using o1
  have hB1 : Below w.heap.size w w1 := Below.via hb hB0
  clear o1
  replace k1 := k1.below hb; replace k2 := k2.below hb; replace k3 := k3.below hb; clear x1 x2 x3 f3; have x1 := k1.cell; have x2 := k2.cell; have x3 := k3.cell; have f3 := k3.free
  have f2 := k2.free
  clear hb
  go_wp2_with fail
  (try simp only [Exit.inBlock, Exit.then]); refine bodyPost_ret (by simp [results, Try.results13, go_sem, x2]; try rfl) rfl ?_
  refine ⟨_, rfl, own_lo (lo := w.heap.size + 1 + 1 + 1) ?_ (by omega), ?_⟩
  · (repeat (with_reducible refine own_set2 ?_ (by omega) _ _))
    exact O1.out
  · (repeat' first | (with_reducible exact Below.refl _ _) | (with_reducible refine Below.rd (by assumption) ?_ ?_) | (with_reducible refine Below.via (by assumption) ?_) | (with_reducible refine Below.al ?_ _) | (with_reducible refine Below.dn ?_ _) | (with_reducible refine Below.dr ?_) | (with_reducible refine Below.setCell ?_ ?_ _) | (dsimp only; omega) | (simp only [World.size_alloc, World.size_drew]; omega) | (simp; done) | omega)
def eqTk (t u : Tk) : Bool := (((t.who == u.who) && decide (t.acts = u.acts)) && (t.til == u.til)) && (t.sl == u.sl)
theorem eqTk_refl (t : Tk) : eqTk t t = true := by simp [eqTk]
set_option maxHeartbeats 1600000 in
theorem eqTk_any (t u : Tk) (v v2 : Value) (w : World) (h : SlI w v t.acts) (h' : SlI w v2 u.acts) : Calls Try.prog 15 #[.agg #[.int .i64 t.who, v, .int .i64 t.til, .int .i64 t.sl], .agg #[.int .i64 u.who, v2, .int .i64 u.til, .int .i64 u.sl]] w fun e w' => e = .returned (.bool (eqTk t u)) ∧ Below w.heap.size w w' := by
  obtain ⟨a, cap, rfl, h1, h2⟩ := SlF.shape h
  obtain ⟨a2, cap2, rfl, h3, h4⟩ := SlF.shape h'
  unfold maxLen at h2 h4
  have H := Lib.hid h
  have H' := Lib.hid h'
  clear h h'
  obtain ⟨k1, k2⟩ := Bk.init2 (w := w) (vs := #[.int .i64 t.who, .slice a t.acts.length cap, .int .i64 t.til, .int .i64 t.sl]) (t := 27) (us := #[.int .i64 u.who, .slice a2 u.acts.length cap2, .int .i64 u.til, .int .i64 u.sl]) (s := 27); have x1 := k1.cell; have x2 := k2.cell
  have hB0 : Below w.heap.size w ((w.alloc (.cells #[.int .i64 t.who, .slice a t.acts.length cap, .int .i64 t.til, .int .i64 t.sl] 27)).alloc (.cells #[.int .i64 u.who, .slice a2 u.acts.length cap2, .int .i64 u.til, .int .i64 u.sl] 27)) := Below.al (Below.al (Below.refl _ _) _) _
  have HL := Lib.hid (SlI.below H.out hB0)
  have HL' := Lib.hid (SlI.below H'.out hB0)
  have hE := Lib.hid (show eqTk t u = ((((t.who == u.who) && decide (t.acts = u.acts)) && (t.til == u.til)) && (t.sl == u.sl)) from rfl)
  have HC := fun wx h h' => eqIntS_any t.acts u.acts (.slice a t.acts.length cap) (.slice a2 u.acts.length cap2) wx h h'
  generalize decide (t.acts = u.acts) = q at hE HC
  generalize eqTk t u = R at hE
  cases p1 : t.who == u.who
  · have hf := Lib.hid (hE.out.trans (by rw [p1]; rfl) : R = false)
    have n1 : (t.who != u.who) = true := by show (!(t.who == u.who)) = true; rw [p1]; rfl
    clear HC
    go_enter Try.func15, Try.ntmps15
    go_wp2_with fail
    go_ret
    exact ⟨by rw [hf.out]; rfl, by (repeat' first | (with_reducible exact Below.refl _ _) | (with_reducible refine Below.rd (by assumption) ?_ ?_) | (with_reducible refine Below.via (by assumption) ?_) | (with_reducible refine Below.al ?_ _) | (with_reducible refine Below.dn ?_ _) | (with_reducible refine Below.dr ?_) | (with_reducible refine Below.setCell ?_ ?_ _) | (dsimp only; omega) | (simp only [World.size_alloc, World.size_drew]; omega) | (simp; done) | omega)⟩
  · have n1 : (t.who != u.who) = false := by show (!(t.who == u.who)) = false; rw [p1]; rfl
    cases q
    · have hf := Lib.hid (hE.out.trans (by rw [p1]; rfl) : R = false)
      go_enter Try.func15, Try.ntmps15
      go_wp2_with fail
      refine (HC _ HL.out HL'.out).mono ?_
      rintro e w1 ⟨rfl, hb⟩
      replace k1 := k1.below hb; replace k2 := k2.below hb; clear x1 x2; have x1 := k1.cell; have x2 := k2.cell
      go_wp2_with fail
      go_ret
      exact ⟨by rw [hf.out]; rfl, Below.via hb hB0⟩
    · cases p2 : t.til == u.til
      · have hf := Lib.hid (hE.out.trans (by rw [p1, p2]; rfl) : R = false)
        have n2 : (t.til != u.til) = true := by show (!(t.til == u.til)) = true; rw [p2]; rfl
        go_enter Try.func15, Try.ntmps15
        go_wp2_with fail
        refine (HC _ HL.out HL'.out).mono ?_
        rintro e w1 ⟨rfl, hb⟩
        replace k1 := k1.below hb; replace k2 := k2.below hb; clear x1 x2; have x1 := k1.cell; have x2 := k2.cell
        go_wp2_with fail
        go_ret
        exact ⟨by rw [hf.out]; rfl, Below.via hb hB0⟩
      · have n2 : (t.til != u.til) = false := by show (!(t.til == u.til)) = false; rw [p2]; rfl
        cases p3 : t.sl == u.sl
        · have hf := Lib.hid (hE.out.trans (by rw [p1, p2, p3]; rfl) : R = false)
          have n3 : (t.sl != u.sl) = true := by show (!(t.sl == u.sl)) = true; rw [p3]; rfl
          go_enter Try.func15, Try.ntmps15
          go_wp2_with fail
          refine (HC _ HL.out HL'.out).mono ?_
          rintro e w1 ⟨rfl, hb⟩
          replace k1 := k1.below hb; replace k2 := k2.below hb; clear x1 x2; have x1 := k1.cell; have x2 := k2.cell
          go_wp2_with fail
          go_ret
          exact ⟨by rw [hf.out]; rfl, Below.via hb hB0⟩
        · have hf := Lib.hid (hE.out.trans (by rw [p1, p2, p3]; rfl) : R = true)
          have n3 : (t.sl != u.sl) = false := by show (!(t.sl == u.sl)) = false; rw [p3]; rfl
          go_enter Try.func15, Try.ntmps15
          go_wp2_with fail
          refine (HC _ HL.out HL'.out).mono ?_
          rintro e w1 ⟨rfl, hb⟩
          replace k1 := k1.below hb; replace k2 := k2.below hb; clear x1 x2; have x1 := k1.cell; have x2 := k2.cell
          go_wp2_with fail
          go_ret
          exact ⟨by rw [hf.out]; rfl, Below.via hb hB0⟩
set_option maxHeartbeats 1600000 in
theorem sameTk_any (t u : Tk) (v v2 : Value) (w : World) (h : SlI w v t.acts) (h' : SlI w v2 u.acts) : Calls Try.prog 24 #[.agg #[.int .i64 t.who, v, .int .i64 t.til, .int .i64 t.sl], .agg #[.int .i64 u.who, v2, .int .i64 u.til, .int .i64 u.sl]] w fun e w' => e = .returned (.bool (eqTk t u)) ∧ Below w.heap.size w w' := by
  obtain ⟨a, cap, rfl, h1, h2⟩ := SlF.shape h
  obtain ⟨a2, cap2, rfl, h3, h4⟩ := SlF.shape h'
  unfold maxLen at h2 h4
  have H := Lib.hid h
  have H' := Lib.hid h'
  clear h h'
  obtain ⟨k1, k2⟩ := Bk.init2 (w := w) (vs := #[.int .i64 t.who, .slice a t.acts.length cap, .int .i64 t.til, .int .i64 t.sl]) (t := 27) (us := #[.int .i64 u.who, .slice a2 u.acts.length cap2, .int .i64 u.til, .int .i64 u.sl]) (s := 27); have x1 := k1.cell; have x2 := k2.cell
  have hB0 : Below w.heap.size w ((w.alloc (.cells #[.int .i64 t.who, .slice a t.acts.length cap, .int .i64 t.til, .int .i64 t.sl] 27)).alloc (.cells #[.int .i64 u.who, .slice a2 u.acts.length cap2, .int .i64 u.til, .int .i64 u.sl] 27)) := Below.al (Below.al (Below.refl _ _) _) _
  have HL := Lib.hid (SlI.below H.out hB0)
  have HL' := Lib.hid (SlI.below H'.out hB0)
  have hE := Lib.hid (show eqTk t u = ((((t.who == u.who) && decide (t.acts = u.acts)) && (t.til == u.til)) && (t.sl == u.sl)) from rfl)
  have HC := fun wx h h' => sameInts_any t.acts u.acts (.slice a t.acts.length cap) (.slice a2 u.acts.length cap2) wx h h'
  generalize decide (t.acts = u.acts) = q at hE HC
  generalize eqTk t u = R at hE
  cases p1 : t.who == u.who
  · have hf := Lib.hid (hE.out.trans (by rw [p1]; rfl) : R = false)
    clear HC
    go_enter Try.func24, Try.ntmps24
    go_wp2_with fail
    go_ret
    exact ⟨by rw [hf.out]; rfl, by (repeat' first | (with_reducible exact Below.refl _ _) | (with_reducible refine Below.rd (by assumption) ?_ ?_) | (with_reducible refine Below.via (by assumption) ?_) | (with_reducible refine Below.al ?_ _) | (with_reducible refine Below.dn ?_ _) | (with_reducible refine Below.dr ?_) | (with_reducible refine Below.setCell ?_ ?_ _) | (dsimp only; omega) | (simp only [World.size_alloc, World.size_drew]; omega) | (simp; done) | omega)⟩
  · cases p2 : t.til == u.til
    · have hf := Lib.hid (hE.out.trans (by rw [p2]; simp) : R = false)
      clear HC
      go_enter Try.func24, Try.ntmps24
      go_wp2_with fail
      go_ret
      exact ⟨by rw [hf.out]; rfl, by (repeat' first | (with_reducible exact Below.refl _ _) | (with_reducible refine Below.rd (by assumption) ?_ ?_) | (with_reducible refine Below.via (by assumption) ?_) | (with_reducible refine Below.al ?_ _) | (with_reducible refine Below.dn ?_ _) | (with_reducible refine Below.dr ?_) | (with_reducible refine Below.setCell ?_ ?_ _) | (dsimp only; omega) | (simp only [World.size_alloc, World.size_drew]; omega) | (simp; done) | omega)⟩
    · cases p3 : t.sl == u.sl
      · have hf := Lib.hid (hE.out.trans (by rw [p3]; simp) : R = false)
        clear HC
        go_enter Try.func24, Try.ntmps24
        go_wp2_with fail
        go_ret
        exact ⟨by rw [hf.out]; rfl, by (repeat' first | (with_reducible exact Below.refl _ _) | (with_reducible refine Below.rd (by assumption) ?_ ?_) | (with_reducible refine Below.via (by assumption) ?_) | (with_reducible refine Below.al ?_ _) | (with_reducible refine Below.dn ?_ _) | (with_reducible refine Below.dr ?_) | (with_reducible refine Below.setCell ?_ ?_ _) | (dsimp only; omega) | (simp only [World.size_alloc, World.size_drew]; omega) | (simp; done) | omega)⟩
      · have hf := Lib.hid (hE.out.trans (by rw [p1, p2, p3]; simp) : R = q)
        go_enter Try.func24, Try.ntmps24
        go_wp2_with fail
        refine (HC _ HL.out HL'.out).mono ?_
        rintro e w1 ⟨rfl, hb⟩
        replace k1 := k1.below hb; replace k2 := k2.below hb; clear x1 x2; have x1 := k1.cell; have x2 := k2.cell
        go_wp2_with fail
        go_ret
        exact ⟨by rw [hf.out]; rfl, Below.via hb hB0⟩
theorem szIntS_any (ns : List Int) (left : Int) (v : Value) (w : World) (h : SlI w v ns) (h0 : 0 ≤ left) (h1 : left ≤ 1048576) : Calls Try.prog 30 #[v, .int .i64 left] w fun e w' => e = .returned (.int .i64 (if left < ns.length then -1 else left - ns.length)) ∧ w = w' := by
  obtain ⟨a, cap, rfl, h2, h3⟩ := SlF.shape h
  clear h
  unfold maxLen at h3
  by_cases hl : left < ns.length
  all_goals
    go_enter Try.func30, Try.ntmps30
    go_wp2_with fail
    go_ret
    exact ⟨by simp [hl]; try omega, rfl⟩
theorem szTk_any (t : Tk) (left : Int) (v : Value) (w : World) (h : SlI w v t.acts) (h0 : 0 ≤ left) (h1 : left ≤ 1048576) : Calls Try.prog 11 #[.agg #[.int .i64 t.who, v, .int .i64 t.til, .int .i64 t.sl], .int .i64 left] w fun e w' => e = .returned (.int .i64 (if left < t.acts.length then -1 else left - t.acts.length)) ∧ Below w.heap.size w w' := by
  obtain ⟨a, cap, rfl, h2, h3⟩ := SlF.shape h
  unfold maxLen at h3
  have HL := Lib.hid (SlI.below h (Below.al (Below.refl _ _) (.cells #[.int .i64 t.who, .slice a t.acts.length cap, .int .i64 t.til, .int .i64 t.sl] 24)))
  clear h
  by_cases hl : left < t.acts.length
  · have hs := fun wx h => szIntS_any t.acts left (.slice a t.acts.length cap) wx h h0 h1
    rw [if_pos hl] at hs ⊢
    go_enter Try.func11, Try.ntmps11
    go_wp2_with fail
    refine (hs _ HL.out).mono ?_
    rintro e w1 ⟨rfl, rfl⟩
    go_wp2_with fail
    go_ret
    exact ⟨rfl, by (repeat' first | (with_reducible exact Below.refl _ _) | (with_reducible refine Below.rd (by assumption) ?_ ?_) | (with_reducible refine Below.via (by assumption) ?_) | (with_reducible refine Below.al ?_ _) | (with_reducible refine Below.dn ?_ _) | (with_reducible refine Below.dr ?_) | (with_reducible refine Below.setCell ?_ ?_ _) | (dsimp only; omega) | (simp only [World.size_alloc, World.size_drew]; omega) | (simp; done) | omega)⟩
  · have hs := fun wx h => szIntS_any t.acts left (.slice a t.acts.length cap) wx h h0 h1
    rw [if_neg hl] at hs ⊢
    have hn : decide (left - (t.acts.length : Int) < 0) = false := by simp; omega
    go_enter Try.func11, Try.ntmps11
    go_wp2_with fail
    refine (hs _ HL.out).mono ?_
    rintro e w1 ⟨rfl, rfl⟩
    go_wp2_with fail
    go_ret
    exact ⟨rfl, by (repeat' first | (with_reducible exact Below.refl _ _) | (with_reducible refine Below.rd (by assumption) ?_ ?_) | (with_reducible refine Below.via (by assumption) ?_) | (with_reducible refine Below.al ?_ _) | (with_reducible refine Below.dn ?_ _) | (with_reducible refine Below.dr ?_) | (with_reducible refine Below.setCell ?_ ?_ _) | (dsimp only; omega) | (simp only [World.size_alloc, World.size_drew]; omega) | (simp; done) | omega)⟩
theorem grownBy_of_al (w : World) (o : Obj) (r : Option Nat) : w.grownBy (w.alloc o) r := ⟨rfl, rfl, rfl, by simp, fun k hk _ => by rw [heap_alloc_old _ _ hk]⟩
theorem markTk_any (t : Tk) (v : Value) (lo : Nat) (k0 : Int) (w : World) (h : w.ownsRow lo 3 1 v t.acts.length (cellsI t.acts)) (hk0 : -1 ≤ k0) (hk1 : k0 ≤ 1099511627776) (hlen : t.acts.length ≤ 16777216) : Calls Try.prog 21 #[.agg #[.int .i64 t.who, v, .int .i64 t.til, .int .i64 t.sl], .int .i64 k0] w (MarkI lo v t.acts.length k0 w) := by
  have HO := Lib.hid (own_alloc h (.cells #[.int .i64 t.who, v, .int .i64 t.til, .int .i64 t.sl] 27))
  obtain ⟨a, cap, rfl, h2, h3⟩ := SlF.shape (own_sl h)
  clear h
  go_enter Try.func21, Try.ntmps21
  go_wp2_with fail
  refine (markIntS_any t.acts _ lo k0 _ HO.out hk0 hk1 hlen).mono ?_
  rintro e w1 ⟨rfl, o1, g1⟩
  have O1 := Lib.hid o1
  have G1 := Lib.hid (grownBy_trans2 (grownBy_of_al w _ _) g1)
  clear o1 g1
  go_wp2_with fail
  go_ret
  exact ⟨rfl, O1.out, G1.out⟩
theorem heldTk_any (t : Tk) (n : Nat) (v : Value) (k0 : Int) (w : World) (h : SlI w v (upFrom k0 n)) (hk0 : -1 ≤ k0) (hk1 : k0 ≤ 1099511627776) (hlen : n ≤ 16777216) (hkn : 0 ≤ k0 + n) : Calls Try.prog 22 #[.agg #[.int .i64 t.who, v, .int .i64 t.til, .int .i64 t.sl], .int .i64 k0] w fun e w' => e = .returned (.int .i64 (k0 + n)) ∧ Below w.heap.size w w' := by
  have HL := Lib.hid (SlI.below h (Below.al (Below.refl _ _) (.cells #[.int .i64 t.who, v, .int .i64 t.til, .int .i64 t.sl] 27)))
  obtain ⟨a, cap, rfl, h2, h3⟩ := SlF.shape h
  clear h
  have hn : decide (k0 + (n : Int) < 0) = false := by simp; omega
  go_enter Try.func22, Try.ntmps22
  go_wp2_with fail
  refine (heldIntS_any n _ k0 _ HL.out hk0 hk1 hlen).mono ?_
  rintro e w1 ⟨rfl, rfl⟩
  go_wp2_with fail
  go_ret
  exact ⟨rfl, by (repeat' first | (with_reducible exact Below.refl _ _) | (with_reducible refine Below.rd (by assumption) ?_ ?_) | (with_reducible refine Below.via (by assumption) ?_) | (with_reducible refine Below.al ?_ _) | (with_reducible refine Below.dn ?_ _) | (with_reducible refine Below.dr ?_) | (with_reducible refine Below.setCell ?_ ?_ _) | (dsimp only; omega) | (simp only [World.size_alloc, World.size_drew]; omega) | (simp; done) | omega)⟩
end Go.Proofs.Ytnkfhfhioknjeaa
