/-
  Grants: a struct of 4 cells; copies, comparisons, sizes. No condition.
-/
import Derived.Test.YtlcjkehpdlgdoaaA
import Derived.Test.YtlcjkehpdlgdoaaU
import Derived.Test.YtlcjkehpdlgdoaaQ
import Derived.Test.YtlcjkehpdlgdoaaN
set_option linter.unusedSimpArgs false
set_option linter.unusedVariables false
namespace Go.Proofs.Ytlcjkehpdlgdoaa
open Go.RowKit
structure Gra where
  f0 : Int
  f1 : Int
  f2 : Int
  f3 : Int
def encG (d : Gra) : List Value := [.int .i64 d.f0, .int .i64 d.f1, .int .i64 d.f2, .int .i64 d.f3]
theorem encG_len (d : Gra) : (encG d).length = 4 := rfl
def cellsG (ds : List Gra) : List Value := ds.flatMap encG
theorem cellsG_len (ds : List Gra) : (cellsG ds).length = ds.length * 4 := flat_length encG 4 encG_len ds
theorem cellsG_get (ds : List Gra) (i : Nat) (hi : i < ds.length) (j : Nat) (hj : j < 4) : (cellsG ds)[i * 4 + j]? = (encG ds[i])[j]? := flat_get encG 4 encG_len ds i hi j hj
def SlG (w : World) (v : Value) (ds : List Gra) : Prop := SlF w v 4 ds.length (cellsG ds)
theorem SlG.below {w w' : World} {v : Value} {ds : List Gra} (h : SlG w v ds) (hb : Below w.heap.size w w') : SlG w' v ds := SlF.below h hb
/-- The cells of element i. -/
theorem SlG.cells {w : World} {v : Value} {ds : List Gra} (h : SlG w v ds) (i : Nat) (hi : i < ds.length) :
    ∃ g off cap, v = .slice (some ⟨g, off, none⟩) ds.length cap ∧ ds.length ≤ cap ∧ cap ≤ maxLen ∧ w.cell? ⟨g, off + i * 4, none⟩ = some (.int .i64 ds[i].f0) ∧ w.cell? ⟨g, off + i * 4 + 1, none⟩ = some (.int .i64 ds[i].f1) ∧ w.cell? ⟨g, off + i * 4 + 2, none⟩ = some (.int .i64 ds[i].f2) ∧ w.cell? ⟨g, off + i * 4 + 3, none⟩ = some (.int .i64 ds[i].f3) := by
  obtain ⟨g, off, cap, hv, h1, h2, hc⟩ := SlF.at h (by omega)
  refine ⟨g, off, cap, hv, h1, h2, ?_, ?_, ?_, ?_⟩
  · rw [hc (i * 4) (by omega)]; exact cellsG_get ds i hi 0 (by omega)
  · rw [Nat.add_assoc, hc (i * 4 + 1) (by omega)]; exact cellsG_get ds i hi 1 (by omega)
  · rw [Nat.add_assoc, hc (i * 4 + 2) (by omega)]; exact cellsG_get ds i hi 2 (by omega)
  · rw [Nat.add_assoc, hc (i * 4 + 3) (by omega)]; exact cellsG_get ds i hi 3 (by omega)
theorem toG_any (d : Gra) (w : World) : Calls Try.prog 47 #[.agg #[.int .i64 d.f0, .int .i64 d.f1, .int .i64 d.f2, .int .i64 d.f3]] w fun e w' => e = .returned (.agg #[.int .i64 d.f0, .int .i64 d.f1, .int .i64 d.f2, .int .i64 d.f3]) ∧ Below w.heap.size w w' := by
  go_enter Try.func47, Try.ntmps47
  go_wp2_with fail
  go_returns
  refine ⟨rfl, ?_⟩
  (repeat' first | (with_reducible exact Below.refl _ _) | (with_reducible refine Below.rd (by assumption) ?_ ?_) | (with_reducible refine Below.via (by assumption) ?_) | (with_reducible refine Below.al ?_ _) | (with_reducible refine Below.dn ?_ _) | (with_reducible refine Below.dr ?_) | (with_reducible refine Below.setCell ?_ ?_ _) | (dsimp only; omega) | (simp only [World.size_alloc, World.size_drew]; omega) | (simp; done) | omega)
def eqG (d e : Gra) : Bool := (d.f0 == e.f0) && (d.f1 == e.f1) && (d.f2 == e.f2) && (d.f3 == e.f3)
theorem eqG_any (d e : Gra) (w : World) : Calls Try.prog 51 #[.agg #[.int .i64 d.f0, .int .i64 d.f1, .int .i64 d.f2, .int .i64 d.f3], .agg #[.int .i64 e.f0, .int .i64 e.f1, .int .i64 e.f2, .int .i64 e.f3]] w fun en w' => en = .returned (.bool (eqG d e)) ∧ Below w.heap.size w w' := by
  cases h0 : d.f0 == e.f0
  · have n0 : (d.f0 != e.f0) = true := by show (!(d.f0 == e.f0)) = true; rw [h0]; rfl
    go_enter Try.func51, Try.ntmps51
    go_wp2_with fail
    go_ret
    refine ⟨by simp [eqG, h0], ?_⟩
    (repeat' first | (with_reducible exact Below.refl _ _) | (with_reducible refine Below.rd (by assumption) ?_ ?_) | (with_reducible refine Below.via (by assumption) ?_) | (with_reducible refine Below.al ?_ _) | (with_reducible refine Below.dn ?_ _) | (with_reducible refine Below.dr ?_) | (with_reducible refine Below.setCell ?_ ?_ _) | (dsimp only; omega) | (simp only [World.size_alloc, World.size_drew]; omega) | (simp; done) | omega)
  · have n0 : (d.f0 != e.f0) = false := by show (!(d.f0 == e.f0)) = false; rw [h0]; rfl
    cases h1 : d.f1 == e.f1
    · have n1 : (d.f1 != e.f1) = true := by show (!(d.f1 == e.f1)) = true; rw [h1]; rfl
      go_enter Try.func51, Try.ntmps51
      go_wp2_with fail
      go_ret
      refine ⟨by simp [eqG, h0, h1], ?_⟩
      (repeat' first | (with_reducible exact Below.refl _ _) | (with_reducible refine Below.rd (by assumption) ?_ ?_) | (with_reducible refine Below.via (by assumption) ?_) | (with_reducible refine Below.al ?_ _) | (with_reducible refine Below.dn ?_ _) | (with_reducible refine Below.dr ?_) | (with_reducible refine Below.setCell ?_ ?_ _) | (dsimp only; omega) | (simp only [World.size_alloc, World.size_drew]; omega) | (simp; done) | omega)
    · have n1 : (d.f1 != e.f1) = false := by show (!(d.f1 == e.f1)) = false; rw [h1]; rfl
      cases h2 : d.f2 == e.f2
      · have n2 : (d.f2 != e.f2) = true := by show (!(d.f2 == e.f2)) = true; rw [h2]; rfl
        go_enter Try.func51, Try.ntmps51
        go_wp2_with fail
        go_ret
        refine ⟨by simp [eqG, h0, h1, h2], ?_⟩
        (repeat' first | (with_reducible exact Below.refl _ _) | (with_reducible refine Below.rd (by assumption) ?_ ?_) | (with_reducible refine Below.via (by assumption) ?_) | (with_reducible refine Below.al ?_ _) | (with_reducible refine Below.dn ?_ _) | (with_reducible refine Below.dr ?_) | (with_reducible refine Below.setCell ?_ ?_ _) | (dsimp only; omega) | (simp only [World.size_alloc, World.size_drew]; omega) | (simp; done) | omega)
      · have n2 : (d.f2 != e.f2) = false := by show (!(d.f2 == e.f2)) = false; rw [h2]; rfl
        cases h3 : d.f3 == e.f3
        · have n3 : (d.f3 != e.f3) = true := by show (!(d.f3 == e.f3)) = true; rw [h3]; rfl
          go_enter Try.func51, Try.ntmps51
          go_wp2_with fail
          go_ret
          refine ⟨by simp [eqG, h0, h1, h2, h3], ?_⟩
          (repeat' first | (with_reducible exact Below.refl _ _) | (with_reducible refine Below.rd (by assumption) ?_ ?_) | (with_reducible refine Below.via (by assumption) ?_) | (with_reducible refine Below.al ?_ _) | (with_reducible refine Below.dn ?_ _) | (with_reducible refine Below.dr ?_) | (with_reducible refine Below.setCell ?_ ?_ _) | (dsimp only; omega) | (simp only [World.size_alloc, World.size_drew]; omega) | (simp; done) | omega)
        · have n3 : (d.f3 != e.f3) = false := by show (!(d.f3 == e.f3)) = false; rw [h3]; rfl
          go_enter Try.func51, Try.ntmps51
          go_wp2_with fail
          go_ret
          refine ⟨by simp [eqG, h0, h1, h2, h3], ?_⟩
          (repeat' first | (with_reducible exact Below.refl _ _) | (with_reducible refine Below.rd (by assumption) ?_ ?_) | (with_reducible refine Below.via (by assumption) ?_) | (with_reducible refine Below.al ?_ _) | (with_reducible refine Below.dn ?_ _) | (with_reducible refine Below.dr ?_) | (with_reducible refine Below.setCell ?_ ?_ _) | (dsimp only; omega) | (simp only [World.size_alloc, World.size_drew]; omega) | (simp; done) | omega)
theorem szGS_any (ds : List Gra) (left : Int) (v : Value) (w : World) (h : SlG w v ds) (h0 : 0 ≤ left) (h1 : left ≤ 1048576) : Calls Try.prog 14 #[v, .int .i64 left] w fun e w' => e = .returned (.int .i64 (if left < ds.length then -1 else left - ds.length)) ∧ w = w' := by
  obtain ⟨a, cap, rfl, h2, h3⟩ := SlF.shape h
  clear h
  unfold maxLen at h3
  by_cases hl : left < ds.length
  all_goals
    go_enter Try.func14, Try.ntmps14
    go_wp2_with fail
    go_ret
    exact ⟨by simp [hl]; try omega, rfl⟩
/-- One element more is written. -/
theorem fillG (ds : List Gra) (A : Array Value) (k : Nat) (d : Gra) (hk : k < ds.length) (hd : ds[k] = d) (hs : A.size = ds.length * 4) (hc : ∀ j, j < k * 4 → A[j]? = (cellsG ds)[j]?) :
    (((((A.setIfInBounds (k * 4) (.int .i64 d.f0)).setIfInBounds (k * 4 + 1) (.int .i64 d.f1)).setIfInBounds (k * 4 + 2) (.int .i64 d.f2)).setIfInBounds (k * 4 + 3) (.int .i64 d.f3))).size = ds.length * 4 ∧ ∀ j, j < (k + 1) * 4 → (((((A.setIfInBounds (k * 4) (.int .i64 d.f0)).setIfInBounds (k * 4 + 1) (.int .i64 d.f1)).setIfInBounds (k * 4 + 2) (.int .i64 d.f2)).setIfInBounds (k * 4 + 3) (.int .i64 d.f3)))[j]? = (cellsG ds)[j]? := by
  refine ⟨by simp [hs], fun j hj => ?_⟩
  by_cases hlt : j < k * 4
  · rw [← hc j hlt]
    simp only [Array.getElem?_setIfInBounds]
    repeat rw [if_neg (by omega)]
  · obtain ⟨i, hi, rfl⟩ : ∃ i, i < 4 ∧ j = k * 4 + i := ⟨j - k * 4, by omega, by omega⟩
    rw [cellsG_get ds k hk i hi, hd]
    simp only [Array.getElem?_setIfInBounds, Array.size_setIfInBounds]
    rcases (show i = 0 ∨ i = 1 ∨ i = 2 ∨ i = 3 by omega) with rfl | rfl | rfl | rfl
    all_goals simp [encG]; try omega
/-- What is made of a slice: the same elements in new memory. -/
def NewG (ds : List Gra) (w : World) (e : Ending) (w' : World) : Prop := ∃ v, e = .returned v ∧ w'.ownsRow w.heap.size 33 4 v ds.length (cellsG ds) ∧ Below w.heap.size w w'
theorem infoG : (Try.prog.info? 33).map (fun i => (i.zero, i.size, i.bytes)) = some (some (.agg #[.int .i64 0, .int .i64 0, .int .i64 0, .int .i64 0]), 4, 32) := by kernel_rfl
theorem toGS_any (ds : List Gra) (v : Value) (w : World) (h : SlG w v ds) (hlen : ds.length ≤ 1048576) : Calls Try.prog 16 #[v] w (NewG ds w) := by
  obtain ⟨a, cap, rfl, h1, h2⟩ := SlF.shape h
  unfold maxLen at h2
  have H := Lib.hid h
  clear h
  obtain ⟨i0, hi, hz0, hz1, hz2⟩ := info_parts infoG
  have hmk : ∀ w : World, (Instr.makeSlice 25 (.int .i64 ds.length) (.int .i64 ds.length)).run Try.prog w = .ok (.slice (some ⟨w.heap.size, 0, none⟩) ds.length ds.length) (w.alloc (.cells (madeCells #[.int .i64 0, .int .i64 0, .int .i64 0, .int .i64 0] (ds.length * 4)) 33)) := fun w => by
    have := run_make (P := Try.prog) w 25 33 i0 _ Try.underlying25 hi hz0 .i64 .i64 ds.length ds.length (by omega) (Int.le_refl _) (by rw [hz2]; omega) (by omega)
    rw [hz1] at this
    simpa [Value.cells] using this
  have hZs : (madeCells #[.int .i64 0, .int .i64 0, .int .i64 0, .int .i64 0] (ds.length * 4)).size = ds.length * 4 := size_madeCells _ _
  generalize madeCells #[.int .i64 0, .int .i64 0, .int .i64 0, .int .i64 0] (ds.length * 4) = Z at hmk hZs
  have HZ := Lib.hid hZs
  clear hZs hi hz0 hz1 hz2
  go_enter Try.func16, Try.ntmps16
  go_wp2_with fail
  clear hmk
  go_loopw [4] (fun i wr => ∃ (k : Nat) (A : Array Value), k ≤ ds.length ∧ i = .int .i64 k ∧ Hid (A.size = ds.length * 4) ∧ Hid (∀ j, j < k * 4 → A[j]? = (cellsG ds)[j]?) ∧ Bk wr w.heap.size A 33 ∧ Below w.heap.size w wr) (fun i _ => ds.length - (intOf i).toNat)
  case atStart => exact ⟨0, Z, Nat.zero_le _, rfl, HZ, by intro j hj; omega, Bk.new, (Below.refl _ _).alloc (Nat.le_refl _) _⟩
  case round =>
    obtain ⟨k, A, hk, rfl, hs, hc, kb, hB⟩ := hrel
    by_cases hlt : k < ds.length
    · obtain ⟨g, off, cap', hv, _, _, c0, c1, c2, c3⟩ := (H.out.below hB).cells k hlt
      simp only [Value.slice.injEq] at hv
      obtain ⟨rfl, -, rfl⟩ := hv
      have hf := Lib.hid (fun d hd => fillG ds A k d hlt hd hs.out hc.out)
      generalize ds[k] = d at c0 c1 c2 c3 hf
      have hsz := hs.out
      have hzw := hB.size
      obtain ⟨z0, e0⟩ : ∃ z, A[k * 4]? = some z := ⟨_, Array.getElem?_eq_getElem (by omega)⟩
      obtain ⟨z1, e1⟩ : ∃ z, A[k * 4 + 1]? = some z := ⟨_, Array.getElem?_eq_getElem (by omega)⟩
      obtain ⟨z2, e2⟩ : ∃ z, A[k * 4 + 2]? = some z := ⟨_, Array.getElem?_eq_getElem (by omega)⟩
      obtain ⟨z3, e3⟩ : ∃ z, A[k * 4 + 3]? = some z := ⟨_, Array.getElem?_eq_getElem (by omega)⟩
      clear hsz
      go_wp2_with fail
      refine (toG_any d wr).mono ?_
      rintro e w2 ⟨rfl, hb⟩
      have kb' := kb.below hb
      have xb := kb'.cell
      have fb := kb'.free
      go_wp2_with fail
      go_roundw
      case rel =>
        refine ⟨k + 1, _, by omega, by go_num, (hf.out d rfl).1, (hf.out d rfl).2, ((((kb'.same (k * 4) _).same (k * 4 + 1) _).same (k * 4 + 2) _).same (k * 4 + 3) _), ?_⟩
        have hBB := hB.trans (hb.mono hB.size)
        exact ((((hBB.setCell (Nat.le_refl _) _).setCell (Nat.le_refl _) _).setCell (Nat.le_refl _) _).setCell (Nat.le_refl _) _)
      case measure => simp [intOf]; omega
    · have hke : k = ds.length := by omega
      subst hke
      go_wp2_with fail
      go_ret
      exact ⟨_, rfl, own_of_bk kb (Nat.le_refl _) (by unfold maxLen; omega) hs.out (cellsG_len ds) hc.out, hB⟩
def eqGs (ds es : List Gra) : Bool := decide (ds.length = es.length) && (List.range ds.length).all fun i => match ds[i]?, es[i]? with | some d, some e => eqG d e | _, _ => true
theorem eqGs_lens (ds es : List Gra) (h : ¬ ds.length = es.length) : eqGs ds es = false := by simp [eqGs, h]
theorem eqGs_bad (ds es : List Gra) (k : Nat) (h1 : k < ds.length) (h2 : k < es.length) (h : eqG ds[k] es[k] = false) : eqGs ds es = false := by
  have : ((List.range ds.length).all fun i => match ds[i]?, es[i]? with | some d, some e => eqG d e | _, _ => true) = false := by
    rw [List.all_eq_false]
    exact ⟨k, by simpa using h1, by simp [h1, h2, h]⟩
  simp [eqGs, this]
theorem eqGs_end (ds es : List Gra) (hl : ds.length = es.length) (h : ∀ i (h1 : i < ds.length) (h2 : i < es.length), eqG ds[i] es[i] = true) : eqGs ds es = true := by
  simp only [eqGs, hl, decide_true, Bool.true_and]
  rw [List.all_eq_true]
  intro i hi
  have hi' : i < es.length := by simpa using hi
  have h1 : i < ds.length := by omega
  simp [h1, hi', h i h1 hi']
theorem eqG_refl (d : Gra) : eqG d d = true := by simp [eqG]
theorem eqGs_refl (ds : List Gra) : eqGs ds ds = true := eqGs_end ds ds rfl (fun i h1 h2 => eqG_refl _)
set_option maxHeartbeats 800000 in
theorem eqGS_any (ds es : List Gra) (v u : Value) (w : World) (h : SlG w v ds) (h' : SlG w u es) : Calls Try.prog 18 #[v, u] w fun e w' => e = .returned (.bool (eqGs ds es)) ∧ Below w.heap.size w w' := by
  obtain ⟨a, cap, rfl, h1, h2⟩ := SlF.shape h
  obtain ⟨b, cap2, rfl, h3, h4⟩ := SlF.shape h'
  unfold maxLen at h2 h4
  have H := Lib.hid h
  have H' := Lib.hid h'
  clear h h'
  by_cases hl : ds.length = es.length
  · have hn : ((ds.length : Int) != (es.length : Int)) = false := by rw [hl]; simp
    have HL := Lib.hid hl
    clear hl
    go_enter Try.func18, Try.ntmps18
    go_wp2_with fail
    go_loopw [5] (fun i wr => ∃ k : Nat, k ≤ ds.length ∧ i = .int .i64 k ∧ Hid (∀ i (h1 : i < ds.length) (h2 : i < es.length), i < k → eqG ds[i] es[i] = true) ∧ Below w.heap.size w wr) (fun i _ => ds.length - (intOf i).toNat)
    case atStart => exact ⟨0, Nat.zero_le _, rfl, by intro i _ _ hi; omega, Below.refl _ _⟩
    case round =>
      obtain ⟨k, hk, rfl, ha, hB⟩ := hrel
      by_cases hlt : k < ds.length
      · have hlt2 : k < es.length := by have := HL.out; omega
        obtain ⟨g, off, cap', hv, _, _, c0, c1, c2, c3⟩ := (H.out.below hB).cells k hlt
        simp only [Value.slice.injEq] at hv
        obtain ⟨rfl, -, rfl⟩ := hv
        obtain ⟨g2, off2, cap2', hv, _, _, b0, b1, b2, b3⟩ := (H'.out.below hB).cells k hlt2
        simp only [Value.slice.injEq] at hv
        obtain ⟨rfl, -, rfl⟩ := hv
        have hs := Lib.hid (fun (hp : eqG ds[k] es[k] = true) => (show ∀ i (h1 : i < ds.length) (h2 : i < es.length), i < k + 1 → eqG ds[i] es[i] = true from fun i h1 h2 hi => by
          rcases Nat.lt_succ_iff_lt_or_eq.1 hi with hi | rfl
          · exact ha.out i h1 h2 hi
          · exact hp))
        have hb := Lib.hid (fun hp => eqGs_bad ds es k hlt hlt2 hp)
        generalize ds[k] = d at c0 c1 c2 c3 hs hb
        generalize es[k] = e at b0 b1 b2 b3 hs hb
        have lc0 := fun (wx : World) (h : Below wr.heap.size wr wx) => (h.cell (World.block_lt_of_cell? wr _ c0)).trans c0
        have lb0 := fun (wx : World) (h : Below wr.heap.size wr wx) => (h.cell (World.block_lt_of_cell? wr _ b0)).trans b0
        have lc1 := fun (wx : World) (h : Below wr.heap.size wr wx) => (h.cell (World.block_lt_of_cell? wr _ c1)).trans c1
        have lb1 := fun (wx : World) (h : Below wr.heap.size wr wx) => (h.cell (World.block_lt_of_cell? wr _ b1)).trans b1
        have lc2 := fun (wx : World) (h : Below wr.heap.size wr wx) => (h.cell (World.block_lt_of_cell? wr _ c2)).trans c2
        have lb2 := fun (wx : World) (h : Below wr.heap.size wr wx) => (h.cell (World.block_lt_of_cell? wr _ b2)).trans b2
        have lc3 := fun (wx : World) (h : Below wr.heap.size wr wx) => (h.cell (World.block_lt_of_cell? wr _ c3)).trans c3
        have lb3 := fun (wx : World) (h : Below wr.heap.size wr wx) => (h.cell (World.block_lt_of_cell? wr _ b3)).trans b3
        clear c0 b0 c1 b1 c2 b2 c3 b3
        cases hq : eqG d e
        · have hf := Lib.hid (hb.out hq)
          clear hs hb
          go_wp2_with fail
          refine wp_region_cls (C := Below wr.heap.size wr) (by kernel_rfl) (by kernel_rfl) (Below.refl _ _).drew ?_; (repeat ((first | (refine q_step ?_ (by rfl) (fun wx hx => ?_) ?_; rotate_left; (focus (go_simp; first | done | (with_reducible rfl) | first | (go_at_call 51; with_reducible refine (eqG_any d e _).mono ?_; rintro e w' ⟨rfl, hb⟩; refine ⟨?_, Below.via hb hx⟩; with_reducible rfl)))) | (refine BigFrame.wpQuiet_skip (by rfl) ?_)); (try simp only [Act.put, List.setIfInBounds_toArray, List.set_cons_zero, List.set_cons_succ]))); refine wpQuiet_nil ?_; intro wq hq
          go_wp2_with fail
          go_ret
          exact ⟨by rw [hf.out]; rfl, hB.trans (hq.mono hB.size)⟩
        · have hf := Lib.hid (hs.out hq)
          clear hs hb
          go_wp2_with fail
          refine wp_region_cls (C := Below wr.heap.size wr) (by kernel_rfl) (by kernel_rfl) (Below.refl _ _).drew ?_; (repeat ((first | (refine q_step ?_ (by rfl) (fun wx hx => ?_) ?_; rotate_left; (focus (go_simp; first | done | (with_reducible rfl) | first | (go_at_call 51; with_reducible refine (eqG_any d e _).mono ?_; rintro e w' ⟨rfl, hb⟩; refine ⟨?_, Below.via hb hx⟩; with_reducible rfl)))) | (refine BigFrame.wpQuiet_skip (by rfl) ?_)); (try simp only [Act.put, List.setIfInBounds_toArray, List.set_cons_zero, List.set_cons_succ]))); refine wpQuiet_nil ?_; intro wq hq
          go_wp2_with fail
          go_roundw
          case rel => exact ⟨k + 1, by omega, by go_num, hf.out, hB.trans (hq.mono hB.size)⟩
          case measure => simp [intOf]; omega
      · have hf := Lib.hid (eqGs_end ds es HL.out (fun i h1 h2 => ha.out i h1 h2 (by omega)))
        go_wp2_with fail
        go_ret
        exact ⟨by rw [hf.out]; rfl, hB⟩
  · have hn : ((ds.length : Int) != (es.length : Int)) = true := by simp; omega
    have hf := Lib.hid (eqGs_lens ds es hl)
    clear hl
    go_enter Try.func18, Try.ntmps18
    go_wp2_with fail
    go_ret
    exact ⟨by rw [hf.out]; rfl, Below.refl _ _⟩
end Go.Proofs.Ytlcjkehpdlgdoaa
