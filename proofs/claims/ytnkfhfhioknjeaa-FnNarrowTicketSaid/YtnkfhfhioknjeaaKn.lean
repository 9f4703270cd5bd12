/-
  Tickets narrowed: the program's way and the reference's. No condition.
-/
import Derived.Test.YtnkfhfhioknjeaaKm
set_option linter.unusedSimpArgs false
set_option linter.unusedVariables false
namespace Go.Proofs.Ytnkfhfhioknjeaa
open Go.RowKit
theorem news_sl {w : World} {g off n : Nat} {ns : List Int} (hc : ∀ j, j < n * 1 → w.cell? ⟨g, off + j, none⟩ = (cellsI ns)[j]?) (hn : ns.length = n) : ∀ j u, (cellsI ns)[j]? = some u → w.cell? ((⟨g, off, none⟩ : Addr).add j) = some u := fun j u hu => by
  have hj : j < (cellsI ns).length := by
    rcases Nat.lt_or_ge j (cellsI ns).length with h | h
    · exact h
    · rw [List.getElem?_eq_none h] at hu; simp at hu
  rw [cellsI_len] at hj
  rw [addr_add, hc j (by omega), hu]
theorem news_of {w : World} {g off n cap : Nat} {ns : List Int} (h : SlI w (.slice (some ⟨g, off, none⟩) n cap) ns) (h0 : 0 < ns.length) : ∀ j u, (cellsI ns)[j]? = some u → w.cell? ((⟨g, off, none⟩ : Addr).add j) = some u := by
  obtain ⟨g', off', cap', hv, _, _, hc⟩ := SlF.at h h0
  simp only [Value.slice.injEq, Option.some.injEq, Addr.mk.injEq, true_and, and_true] at hv
  obtain ⟨⟨rfl, rfl⟩, hn, rfl⟩ := hv
  exact news_sl hc rfl
theorem own_made_at {W : World} {g lo t k : Nat} (hg : W.heap.size = g) (hl : lo ≤ g) : (W.alloc (.cells #[] t)).ownsRow lo t k (.slice (some ⟨g, 0, none⟩) 0 0) 0 [] := by subst hg; exact own_made _ _ _ _ hl
theorem own_more {w : World} {lo t : Nat} {v : Value} {ns : List Int} {x : Int} (h : w.ownsRow lo t 1 v (ns.length + 1) (cellsI ns ++ [.int .i64 x])) : w.ownsRow lo t 1 v (ns ++ [x]).length (cellsI (ns ++ [x])) := by
  rw [cellsI_app, List.length_append]
  exact h
theorem cellsI_one (ns : List Int) : ∀ u ∈ cellsI ns, u.oneCell' = true := fun u hu => by
  rw [cellsI_eq] at hu
  obtain ⟨n, _, rfl⟩ := List.mem_map.mp hu
  rfl
theorem own_set {w : World} {lo e k : Nat} {v : Value} {n : Nat} {cs : List Value} (h : w.ownsRow lo e k v n cs) {g : Nat} (hg : g < lo) (o : Nat) (u : Value) : (w.setCell ⟨g, o, none⟩ u).ownsRow lo e k v n cs :=
  h.kept (row := some g) ⟨rfl, rfl, rfl, by simp, fun k _ hk => heap_setCell_other w ⟨g, o, none⟩ k u (fun e => hk (by simp [e]))⟩ (by
    cases hv : v.ownBlock with
    | none => exact .inl rfl
    | some j => right; intro he; have := own_gt h j hv; simp at he; omega)
theorem Bk.app {w w' : World} {b lo : Nat} {vs : Array Value} {t : TypeId} {r : Option Nat} (h : Bk w b vs t) (g : w.grownBy w' r) (hr : ∀ j, r = some j → lo ≤ j) (hb : b < lo) : Bk w' b vs t := h.by g (fun e => by have := hr b e.symm; omega)
theorem cloneInts_any (ns : List Int) (v : Value) (w : World) (h : SlI w v ns) (h0 : 0 < ns.length) (hl : ns.length ≤ 4194304) : Calls Try.prog 43 #[v] w (NewI ns w) := by
  obtain ⟨g, off, cap, rfl, h1, h2, hc⟩ := SlF.at h h0
  have HC := Lib.hid (news_sl hc rfl)
  unfold maxLen at h2
  clear h hc
  go_enter Try.func43, Try.ntmps43
  go_wp2_with (at_builtin; refine Hid.out ?_); refine Lib.hid ?_
  refine wpList_app (s := .const (.slice none 0 0)) (x := .tmp 3) rfl 22 3 (.int .i64 0) 1 8 rfl Try.underlying22 infoI rfl (by decide) (by decide) w.heap.size (.slice none 0 0) 0 [] rfl (World.ownsRow_nil _ _ _ _) ⟨g, off, none⟩ ns.length cap (cellsI ns) rfl (by rw [cellsI_len, Nat.mul_one]) HC.out (cellsI_one ns) (by omega) (Nat.le_refl _) ?_
  intro v' w1 hown hgrow _
  have ho := Lib.hid hown
  have hB : Below w.heap.size w w1 := Below.grown (Below.refl _ _) hgrow (Nat.le_refl _) (fun j hj => by cases hj)
  clear hown hgrow
  go_wp2_with fail
  go_ret
  refine ⟨v', rfl, ?_, hB⟩
  have := ho.out
  rw [Nat.zero_add, List.nil_append] at this
  exact this
def narrowT (t : Tk) (a : Int) : Tk × Bool := if inR (t.acts.length : Int) 1 4 && inR t.sl 0 1000002 && inR a 0 15 then (⟨t.who, t.acts ++ [a], t.til, mixN t.sl a⟩, true) else (tk0, false)
theorem narrow_bad (t : Tk) (a : Int) (h : (inR (t.acts.length : Int) 1 4 && inR t.sl 0 1000002 && inR a 0 15) = false) : narrowT t a = (tk0, false) := by rw [narrowT, h]; rfl
theorem narrow_ok (t : Tk) (a : Int) (h : (inR (t.acts.length : Int) 1 4 && inR t.sl 0 1000002 && inR a 0 15) = true) : narrowT t a = (⟨t.who, t.acts ++ [a], t.til, mixN t.sl a⟩, true) := by rw [narrowT, h]; rfl
set_option maxHeartbeats 3200000 in
theorem implNarrow_any (t : Tk) (act : Int) (v : Value) (w : World) (h : SlI w v t.acts) : Calls Try.prog 18 #[.agg #[.int .i64 t.who, v, .int .i64 t.til, .int .i64 t.sl], .int .i64 act] w (NewT (narrowT t act) w) := by
  obtain ⟨a, cap, rfl, h1, h2⟩ := SlF.shape h
  unfold maxLen at h2
  have H := Lib.hid h
  clear h
  obtain ⟨k1, k2⟩ := Bk.init2 (w := w) (vs := #[.int .i64 t.who, .slice a t.acts.length cap, .int .i64 t.til, .int .i64 t.sl]) (t := 27) (us := #[.int .i64 0, .slice none 0 0, .int .i64 0, .int .i64 0]) (s := 27); have x1 := k1.cell; have x2 := k2.cell
  have f2 := k2.free
  have hB0 : Below w.heap.size w ((w.alloc (.cells #[.int .i64 t.who, .slice a t.acts.length cap, .int .i64 t.til, .int .i64 t.sl] 27)).alloc (.cells #[.int .i64 0, .slice none 0 0, .int .i64 0, .int .i64 0] 27)) := Below.al (Below.al (Below.refl _ _) _) _
  cases p1 : inR (t.acts.length : Int) 1 4
  · have hf := Lib.hid (narrow_bad t act (by simp [p1]))
    go_enter Try.func18, Try.ntmps18
    go_wp2_with ((go_at_call 34; refine (in_any _ _ _ _).mono ?_; rintro e w' ⟨rfl, rfl⟩))
    (try simp only [Exit.inBlock, Exit.then]); refine bodyPost_ret (by simp [results, Try.results18, go_sem, x2]; try rfl) rfl ?_
    rw [hf.out]
    refine ⟨_, rfl, World.ownsRow_nil _ _ _ _, ?_⟩
    (repeat' first | (with_reducible exact Below.refl _ _) | (with_reducible refine Below.rd (by assumption) ?_ ?_) | (with_reducible refine Below.via (by assumption) ?_) | (with_reducible refine Below.al ?_ _) | (with_reducible refine Below.dn ?_ _) | (with_reducible refine Below.dr ?_) | (with_reducible refine Below.setCell ?_ ?_ _) | (dsimp only; omega) | (simp only [World.size_alloc, World.size_drew]; omega) | (simp; done) | omega)
  · cases p2 : inR t.sl 0 1000002
    · have hf := Lib.hid (narrow_bad t act (by simp [p1, p2]))
      go_enter Try.func18, Try.ntmps18
      go_wp2_with ((go_at_call 34; refine (in_any _ _ _ _).mono ?_; rintro e w' ⟨rfl, rfl⟩))
      (try simp only [Exit.inBlock, Exit.then]); refine bodyPost_ret (by simp [results, Try.results18, go_sem, x2]; try rfl) rfl ?_
      rw [hf.out]
      refine ⟨_, rfl, World.ownsRow_nil _ _ _ _, ?_⟩
      (repeat' first | (with_reducible exact Below.refl _ _) | (with_reducible refine Below.rd (by assumption) ?_ ?_) | (with_reducible refine Below.via (by assumption) ?_) | (with_reducible refine Below.al ?_ _) | (with_reducible refine Below.dn ?_ _) | (with_reducible refine Below.dr ?_) | (with_reducible refine Below.setCell ?_ ?_ _) | (dsimp only; omega) | (simp only [World.size_alloc, World.size_drew]; omega) | (simp; done) | omega)
    · cases p3 : inR act 0 15
      · have hf := Lib.hid (narrow_bad t act (by simp [p1, p2, p3]))
        go_enter Try.func18, Try.ntmps18
        go_wp2_with ((go_at_call 34; refine (in_any _ _ _ _).mono ?_; rintro e w' ⟨rfl, rfl⟩))
        (try simp only [Exit.inBlock, Exit.then]); refine bodyPost_ret (by simp [results, Try.results18, go_sem, x2]; try rfl) rfl ?_
        rw [hf.out]
        refine ⟨_, rfl, World.ownsRow_nil _ _ _ _, ?_⟩
        (repeat' first | (with_reducible exact Below.refl _ _) | (with_reducible refine Below.rd (by assumption) ?_ ?_) | (with_reducible refine Below.via (by assumption) ?_) | (with_reducible refine Below.al ?_ _) | (with_reducible refine Below.dn ?_ _) | (with_reducible refine Below.dr ?_) | (with_reducible refine Below.setCell ?_ ?_ _) | (dsimp only; omega) | (simp only [World.size_alloc, World.size_drew]; omega) | (simp; done) | omega)
      · have hf := Lib.hid (narrow_ok t act (by simp [p1, p2, p3]))
        obtain ⟨a0, a9⟩ := (inR_iff _ _ _).mp p1
        obtain ⟨s0, s9⟩ := (inR_iff _ _ _).mp p2
        obtain ⟨n0, n9⟩ := (inR_iff _ _ _).mp p3
        have n8 : act ≤ 1000 := by omega
        have HL := Lib.hid (SlI.below H.out hB0)
        obtain ⟨g, off, cap', hv, _, _, hc⟩ := SlF.at HL.out (by omega)
        simp only [Value.slice.injEq] at hv
        obtain ⟨rfl, -, rfl⟩ := hv
        clear hc
        go_enter Try.func18, Try.ntmps18
        go_wp2_with (first | (go_at_call 34; refine (in_any _ _ _ _).mono ?_; rintro e w' ⟨rfl, rfl⟩) | (at_builtin; refine Hid.out ?_))
        go_wp2_with fail
        refine (cloneInts_any t.acts _ _ HL.out (by omega) (by omega)).mono ?_
        rintro e w1 ⟨u, rfl, o1, b1⟩
        have O1 : Hid (w1.ownsRow (w.heap.size + 1 + 1) 3 1 u t.acts.length (cellsI t.acts)) := by simpa [Hid] using o1
        have g1 := Lib.hid (own_gt o1)
        have z1 := b1.size
        simp only [World.size_alloc] at z1
        have k1' := k1.below b1
        have k2' := k2.below b1
        have hB1 : Below w.heap.size w w1 := Below.via b1 hB0
        clear o1 x1 x2 k1 k2 f2
        have x1 := k1'.cell
        go_wp2_with (at_builtin; refine Hid.out ?_); refine Lib.hid ?_
        refine wpList_app (s := .tmp 25) (x := .tmp 27) rfl 22 3 (.int .i64 0) 1 8 rfl Try.underlying22 infoI rfl (by decide) (by decide) (w.heap.size + 1 + 1) _ t.acts.length (cellsI t.acts) rfl (own_alloc O1.out _) ⟨w1.heap.size, 0, none⟩ 1 1 [.int .i64 act] rfl rfl (news_bk Bk.new) (by intro u hu; simp at hu; subst hu; rfl) (by omega) (by simp; omega) ?_
        intro v2 w2 hown hgrow _
        obtain ⟨va, vc, rfl, _, _⟩ := SlF.shape (own_sl hown)
        have O2 := Lib.hid hown
        have hg1 : ∀ j, Value.ownBlock u = some j → w.heap.size + 1 + 1 ≤ j := fun j hj => by have := g1.out j hj; simpa using this
        have k1 := Bk.app (Bk.alloc k1' _) hgrow hg1 (by omega)
        have k2 := Bk.app (Bk.alloc k2' _) hgrow hg1 (by omega)
        have hB2 : Below w.heap.size w w2 := Below.grown (Below.al hB1 _) hgrow (by simp; omega) (fun j hj => by have := hg1 j hj; omega)
        clear hown hgrow x1 k1' k2' hg1
        have x1 := k1.cell
        have x2 := k2.cell
        have f1 := k1.free
        have f2 := k2.free
        have z2 := k2.lt
        have z3 := k1.lt
        have n1 : w.heap.size ≠ w2.heap.size := by omega
        have n2 : w.heap.size + 1 ≠ w2.heap.size := by omega
        go_wp2_with fail
        with_reducible refine (sealNext_any t.sl [act] _ _ ?_ s0 s9 ?_).mono ?_
        · refine slI_one (t := 3) ?_
          with_reducible exact bk_at (by simp)
        · intro n hn
          simp at hn
          omega
        rintro e w3 ⟨rfl, hw⟩
        have k1n : Bk w3 w.heap.size #[.int .i64 t.who, .slice va (t.acts.length + 1) vc, .int .i64 t.til, .int .i64 t.sl] 27 := hw ▸ (k1.same 1 _).alloc _
        have k2n : Bk w3 (w.heap.size + 1) #[.int .i64 0, .slice none 0 0, .int .i64 0, .int .i64 0] 27 := hw ▸ (k2.far _ (by simp) _).alloc _
        have O3 : Hid (w3.ownsRow (w.heap.size + 1 + 1) 3 1 (.slice va (t.acts.length + 1) vc) (t.acts.length + 1) (cellsI t.acts ++ [.int .i64 act])) := hw ▸ own_alloc (own_set O2.out (by omega) _ _) _
        have hB3 : Below w.heap.size w w3 := hw ▸ Below.al (hB2.setCell (Nat.le_refl _) _) _
        have ef := Lib.hid (show sealFold t.sl [act] = mixN t.sl act from rfl)
        clear hw k1 k2 x1 x2 f1 f2 z2 z3 n1 n2 O2 hB2
        have x1 := k1n.cell
        have x2 := k2n.cell
        have f1 := k1n.free
        have f2 := k2n.free
        go_wp2_with fail
        (try simp only [Exit.inBlock, Exit.then]); refine bodyPost_ret (by simp [results, Try.results18, go_sem, x2]; try rfl) rfl ?_
        rw [hf.out]
        refine ⟨_, rfl, own_lo (own_more (ns := t.acts) (x := act) ?_) (show w.heap.size ≤ w.heap.size + 1 + 1 from by omega), ?_⟩
        · (iterate 5 (with_reducible refine own_set ?_ (by omega) _ _))
          exact O3.out
        · (repeat' first | (with_reducible exact Below.refl _ _) | (with_reducible refine Below.rd (by assumption) ?_ ?_) | (with_reducible refine Below.via (by assumption) ?_) | (with_reducible refine Below.al ?_ _) | (with_reducible refine Below.dn ?_ _) | (with_reducible refine Below.dr ?_) | (with_reducible refine Below.setCell ?_ ?_ _) | (dsimp only; omega) | (simp only [World.size_alloc, World.size_drew]; omega) | (simp; done) | omega)
set_option maxHeartbeats 3200000 in
theorem specNarrow_any (t : Tk) (act : Int) (v : Value) (w : World) (h : SlI w v t.acts) : Calls Try.prog 26 #[.agg #[.int .i64 t.who, v, .int .i64 t.til, .int .i64 t.sl], .int .i64 act] w (NewT (narrowT t act) w) := by
  obtain ⟨a, cap, rfl, h1, h2⟩ := SlF.shape h
  unfold maxLen at h2
  have H := Lib.hid h
  clear h
  obtain ⟨k1, k2⟩ := Bk.init2 (w := w) (vs := #[.int .i64 t.who, .slice a t.acts.length cap, .int .i64 t.til, .int .i64 t.sl]) (t := 27) (us := #[.int .i64 0, .slice none 0 0, .int .i64 0, .int .i64 0]) (s := 27); have x1 := k1.cell; have x2 := k2.cell
  have f2 := k2.free
  have hB0 : Below w.heap.size w ((w.alloc (.cells #[.int .i64 t.who, .slice a t.acts.length cap, .int .i64 t.til, .int .i64 t.sl] 27)).alloc (.cells #[.int .i64 0, .slice none 0 0, .int .i64 0, .int .i64 0] 27)) := Below.al (Below.al (Below.refl _ _) _) _
  cases p1 : inR (t.acts.length : Int) 1 4
  · have hf := Lib.hid (narrow_bad t act (by simp [p1]))
    go_enter Try.func26, Try.ntmps26
    go_wp2_with ((go_at_call 31; refine (l1In_any _ _ _ _).mono ?_; rintro e w' ⟨rfl, rfl⟩))
    (try simp only [Exit.inBlock, Exit.then]); refine bodyPost_ret (by simp [results, Try.results26, go_sem, x2]; try rfl) rfl ?_
    rw [hf.out]
    refine ⟨_, rfl, World.ownsRow_nil _ _ _ _, ?_⟩
    (repeat' first | (with_reducible exact Below.refl _ _) | (with_reducible refine Below.rd (by assumption) ?_ ?_) | (with_reducible refine Below.via (by assumption) ?_) | (with_reducible refine Below.al ?_ _) | (with_reducible refine Below.dn ?_ _) | (with_reducible refine Below.dr ?_) | (with_reducible refine Below.setCell ?_ ?_ _) | (dsimp only; omega) | (simp only [World.size_alloc, World.size_drew]; omega) | (simp; done) | omega)
  · cases p3 : inR act 0 15
    · have hf := Lib.hid (narrow_bad t act (by simp [p1, p3]))
      go_enter Try.func26, Try.ntmps26
      go_wp2_with ((go_at_call 31; refine (l1In_any _ _ _ _).mono ?_; rintro e w' ⟨rfl, rfl⟩))
      (try simp only [Exit.inBlock, Exit.then]); refine bodyPost_ret (by simp [results, Try.results26, go_sem, x2]; try rfl) rfl ?_
      rw [hf.out]
      refine ⟨_, rfl, World.ownsRow_nil _ _ _ _, ?_⟩
      (repeat' first | (with_reducible exact Below.refl _ _) | (with_reducible refine Below.rd (by assumption) ?_ ?_) | (with_reducible refine Below.via (by assumption) ?_) | (with_reducible refine Below.al ?_ _) | (with_reducible refine Below.dn ?_ _) | (with_reducible refine Below.dr ?_) | (with_reducible refine Below.setCell ?_ ?_ _) | (dsimp only; omega) | (simp only [World.size_alloc, World.size_drew]; omega) | (simp; done) | omega)
    · cases p2 : inR t.sl 0 1000002
      · have hf := Lib.hid (narrow_bad t act (by simp [p1, p3, p2]))
        go_enter Try.func26, Try.ntmps26
        go_wp2_with ((go_at_call 31; refine (l1In_any _ _ _ _).mono ?_; rintro e w' ⟨rfl, rfl⟩))
        (try simp only [Exit.inBlock, Exit.then]); refine bodyPost_ret (by simp [results, Try.results26, go_sem, x2]; try rfl) rfl ?_
        rw [hf.out]
        refine ⟨_, rfl, World.ownsRow_nil _ _ _ _, ?_⟩
        (repeat' first | (with_reducible exact Below.refl _ _) | (with_reducible refine Below.rd (by assumption) ?_ ?_) | (with_reducible refine Below.via (by assumption) ?_) | (with_reducible refine Below.al ?_ _) | (with_reducible refine Below.dn ?_ _) | (with_reducible refine Below.dr ?_) | (with_reducible refine Below.setCell ?_ ?_ _) | (dsimp only; omega) | (simp only [World.size_alloc, World.size_drew]; omega) | (simp; done) | omega)
      · have hf := Lib.hid (narrow_ok t act (by simp [p1, p3, p2]))
        obtain ⟨a0, a9⟩ := (inR_iff _ _ _).mp p1
        obtain ⟨s0, s9⟩ := (inR_iff _ _ _).mp p2
        obtain ⟨n0, n9⟩ := (inR_iff _ _ _).mp p3
        have n8 : act ≤ 1000 := by omega
        have HL := Lib.hid (SlI.below H.out hB0)
        obtain ⟨g, off, cap', hv, _, _, hc⟩ := SlF.at HL.out (by omega)
        simp only [Value.slice.injEq] at hv
        obtain ⟨rfl, -, rfl⟩ := hv
        clear hc
        go_enter Try.func26, Try.ntmps26
        go_wp2_with (first | (go_at_call 31; refine (l1In_any _ _ _ _).mono ?_; rintro e w' ⟨rfl, rfl⟩) | (at_builtin; refine Hid.out ?_))
        refine Lib.hid ?_
        have HN := fun (wx : World) (hb : Below w.heap.size w wx) => news_of (H.out.below hb) (by omega)
        have k3 := Bk.new (w := (w.alloc (.cells #[.int .i64 t.who, .slice (some ⟨g, off, none⟩) t.acts.length cap, .int .i64 t.til, .int .i64 t.sl] 27)).alloc (.cells #[.int .i64 0, .slice none 0 0, .int .i64 0, .int .i64 0] 27)) (vs := #[.int .i64 t.who, .slice (some ⟨g, off, none⟩) t.acts.length cap, .int .i64 t.til, .int .i64 t.sl]) (t := 27)
        simp only [World.size_alloc] at k3
        have k1' := (k1.alloc (.cells #[.int .i64 t.who, .slice (some ⟨g, off, none⟩) t.acts.length cap, .int .i64 t.til, .int .i64 t.sl] 27))
        have k2' := (k2.alloc (.cells #[.int .i64 t.who, .slice (some ⟨g, off, none⟩) t.acts.length cap, .int .i64 t.til, .int .i64 t.sl] 27))
        have hB1 := Below.al hB0 (.cells #[.int .i64 t.who, .slice (some ⟨g, off, none⟩) t.acts.length cap, .int .i64 t.til, .int .i64 t.sl] 27)
        refine wpList_app (s := .tmp 25) (x := .tmp 27) rfl 22 3 (.int .i64 0) 1 8 rfl Try.underlying22 infoI rfl (by decide) (by decide) (w.heap.size + 1 + 1 + 1) (.slice (some ⟨w.heap.size + 1 + 1 + 1, 0, none⟩) 0 0) 0 [] rfl (own_made_at (by simp) (Nat.le_refl _)) ⟨g, off, none⟩ t.acts.length cap (cellsI t.acts) rfl (by rw [cellsI_len, Nat.mul_one]) (HN _ (Below.al hB1 _)) (cellsI_one _) (by omega) (by simp) ?_
        intro v1 w1 hown hgrow _
        obtain ⟨ua, uc, rfl, _, _⟩ := SlF.shape (own_sl hown)
        have O1 : Hid (w1.ownsRow (w.heap.size + 1 + 1 + 1) 3 1 (.slice ua t.acts.length uc) t.acts.length (cellsI t.acts)) := by simpa [Hid] using hown
        have hg0 : ∀ j, Value.ownBlock (.slice (some ⟨w.heap.size + 1 + 1 + 1, 0, none⟩) 0 0) = some j → w.heap.size + 1 + 1 + 1 ≤ j := fun j hj => by simp [Value.ownBlock] at hj; omega
        have k1q := Bk.app (Bk.alloc k1' _) hgrow hg0 (by omega)
        have k2q := Bk.app (Bk.alloc k2' _) hgrow hg0 (by omega)
        have k3q := Bk.app (Bk.alloc k3 _) hgrow hg0 (by omega)
        have hB2 : Below w.heap.size w w1 := Below.grown (Below.al hB1 _) hgrow (by simp; omega) (fun j hj => by have := hg0 j hj; omega)
        have z1 := hgrow.size
        simp only [World.size_alloc] at z1
        clear hown hgrow x1 x2 k1 k2 k3 k1' k2' f2 hg0
        go_wp2_with (at_builtin; refine Hid.out ?_); refine Lib.hid ?_
        refine wpList_app (s := .tmp 28) (x := .tmp 30) rfl 22 3 (.int .i64 0) 1 8 rfl Try.underlying22 infoI rfl (by decide) (by decide) (w.heap.size + 1 + 1 + 1) (.slice ua t.acts.length uc) t.acts.length (cellsI t.acts) rfl (own_alloc O1.out _) ⟨w1.heap.size, 0, none⟩ 1 1 [.int .i64 act] rfl rfl (news_bk Bk.new) (by intro u hu; simp at hu; subst hu; rfl) (by omega) (by simp; omega) ?_
        intro v2 w2 hown hgrow _
        obtain ⟨va, vc, rfl, _, _⟩ := SlF.shape (own_sl hown)
        have O2 := Lib.hid hown
        have hg1 : ∀ j, Value.ownBlock (.slice ua t.acts.length uc) = some j → w.heap.size + 1 + 1 + 1 ≤ j := own_gt O1.out
        have k1 := Bk.app (Bk.alloc k1q _) hgrow hg1 (by omega)
        have k2 := Bk.app (Bk.alloc k2q _) hgrow hg1 (by omega)
        have k3 := Bk.app (Bk.alloc k3q _) hgrow hg1 (by omega)
        have hB3 : Below w.heap.size w w2 := Below.grown (Below.al hB2 _) hgrow (by simp; omega) (fun j hj => by have := hg1 j hj; omega)
        clear hown hgrow k1q k2q k3q hg1
        have x1 := k1.cell
        have x2 := k2.cell
        have x3 := k3.cell
        have f2 := k2.free
        have f3 := k3.free
        have z2 := hB3.size
        go_wp2_with ((go_at_call 32; refine (mix_any t.sl act _ s0 s9 n0 n8).mono ?_; rintro e w' ⟨rfl, rfl⟩))
        (try simp only [Exit.inBlock, Exit.then]); refine bodyPost_ret (by simp [results, Try.results26, go_sem, x2]; try rfl) rfl ?_
        rw [hf.out]
        refine ⟨_, rfl, own_lo (own_more (ns := t.acts) (x := act) ?_) (show w.heap.size ≤ w.heap.size + 1 + 1 + 1 from by omega), ?_⟩
        · (iterate 6 (with_reducible refine own_set ?_ (by omega) _ _))
          exact O2.out
        (repeat' first | (with_reducible exact Below.refl _ _) | (with_reducible refine Below.rd (by assumption) ?_ ?_) | (with_reducible refine Below.via (by assumption) ?_) | (with_reducible refine Below.al ?_ _) | (with_reducible refine Below.dn ?_ _) | (with_reducible refine Below.dr ?_) | (with_reducible refine Below.setCell ?_ ?_ _) | (dsimp only; omega) | (simp only [World.size_alloc, World.size_drew]; omega) | (simp; done) | omega)
end Go.Proofs.Ytnkfhfhioknjeaa
