/-
  Labels: a struct of 2 cells; copies, comparisons, sizes. No condition.
-/
import Derived.Test.YtfghgpdhcpcoiaaA
import Derived.Test.YtfghgpdhcpcoiaaU
import Derived.Test.YtfghgpdhcpcoiaaQ
import Derived.Test.YtfghgpdhcpcoiaaN
set_option linter.unusedSimpArgs false
set_option linter.unusedVariables false
namespace Go.Proofs.Ytfghgpdhcpcoiaa
open Go.RowKit
structure Lab where
  f0 : Int
  f1 : Int
def encB (d : Lab) : List Value := [.int .i64 d.f0, .int .i64 d.f1]
theorem encB_len (d : Lab) : (encB d).length = 2 := rfl
def cellsB (ds : List Lab) : List Value := ds.flatMap encB
theorem cellsB_len (ds : List Lab) : (cellsB ds).length = ds.length * 2 := flat_length encB 2 encB_len ds
theorem cellsB_get (ds : List Lab) (i : Nat) (hi : i < ds.length) (j : Nat) (hj : j < 2) : (cellsB ds)[i * 2 + j]? = (encB ds[i])[j]? := flat_get encB 2 encB_len ds i hi j hj
def SlB (w : World) (v : Value) (ds : List Lab) : Prop := SlF w v 2 ds.length (cellsB ds)
theorem SlB.below {w w' : World} {v : Value} {ds : List Lab} (h : SlB w v ds) (hb : Below w.heap.size w w') : SlB w' v ds := SlF.below h hb
/-- The cells of element i. -/
theorem SlB.cells {w : World} {v : Value} {ds : List Lab} (h : SlB w v ds) (i : Nat) (hi : i < ds.length) :
    ∃ g off cap, v = .slice (some ⟨g, off, none⟩) ds.length cap ∧ ds.length ≤ cap ∧ cap ≤ maxLen ∧ w.cell? ⟨g, off + i * 2, none⟩ = some (.int .i64 ds[i].f0) ∧ w.cell? ⟨g, off + i * 2 + 1, none⟩ = some (.int .i64 ds[i].f1) := by
  obtain ⟨g, off, cap, hv, h1, h2, hc⟩ := SlF.at h (by omega)
  refine ⟨g, off, cap, hv, h1, h2, ?_, ?_⟩
  · rw [hc (i * 2) (by omega)]; exact cellsB_get ds i hi 0 (by omega)
  · rw [Nat.add_assoc, hc (i * 2 + 1) (by omega)]; exact cellsB_get ds i hi 1 (by omega)
theorem toB_any (d : Lab) (w : World) : Calls Try.prog 51 #[.agg #[.int .i64 d.f0, .int .i64 d.f1]] w fun e w' => e = .returned (.agg #[.int .i64 d.f0, .int .i64 d.f1]) ∧ Below w.heap.size w w' := by
  go_enter Try.func51, Try.ntmps51
  go_wp2_with fail
  go_returns
  refine ⟨rfl, ?_⟩
  (repeat' first | (with_reducible exact Below.refl _ _) | (with_reducible refine Below.rd (by assumption) ?_ ?_) | (with_reducible refine Below.via (by assumption) ?_) | (with_reducible refine Below.al ?_ _) | (with_reducible refine Below.dn ?_ _) | (with_reducible refine Below.dr ?_) | (with_reducible refine Below.setCell ?_ ?_ _) | (dsimp only; omega) | (simp only [World.size_alloc, World.size_drew]; omega) | (simp; done) | omega)
def eqB (d e : Lab) : Bool := (d.f0 == e.f0) && (d.f1 == e.f1)
theorem eqB_any (d e : Lab) (w : World) : Calls Try.prog 55 #[.agg #[.int .i64 d.f0, .int .i64 d.f1], .agg #[.int .i64 e.f0, .int .i64 e.f1]] w fun en w' => en = .returned (.bool (eqB d e)) ∧ Below w.heap.size w w' := by
  cases h0 : d.f0 == e.f0
  · have n0 : (d.f0 != e.f0) = true := by show (!(d.f0 == e.f0)) = true; rw [h0]; rfl
    go_enter Try.func55, Try.ntmps55
    go_wp2_with fail
    go_ret
    refine ⟨by simp [eqB, h0], ?_⟩
    (repeat' first | (with_reducible exact Below.refl _ _) | (with_reducible refine Below.rd (by assumption) ?_ ?_) | (with_reducible refine Below.via (by assumption) ?_) | (with_reducible refine Below.al ?_ _) | (with_reducible refine Below.dn ?_ _) | (with_reducible refine Below.dr ?_) | (with_reducible refine Below.setCell ?_ ?_ _) | (dsimp only; omega) | (simp only [World.size_alloc, World.size_drew]; omega) | (simp; done) | omega)
  · have n0 : (d.f0 != e.f0) = false := by show (!(d.f0 == e.f0)) = false; rw [h0]; rfl
    cases h1 : d.f1 == e.f1
    · have n1 : (d.f1 != e.f1) = true := by show (!(d.f1 == e.f1)) = true; rw [h1]; rfl
      go_enter Try.func55, Try.ntmps55
      go_wp2_with fail
      go_ret
      refine ⟨by simp [eqB, h0, h1], ?_⟩
      (repeat' first | (with_reducible exact Below.refl _ _) | (with_reducible refine Below.rd (by assumption) ?_ ?_) | (with_reducible refine Below.via (by assumption) ?_) | (with_reducible refine Below.al ?_ _) | (with_reducible refine Below.dn ?_ _) | (with_reducible refine Below.dr ?_) | (with_reducible refine Below.setCell ?_ ?_ _) | (dsimp only; omega) | (simp only [World.size_alloc, World.size_drew]; omega) | (simp; done) | omega)
    · have n1 : (d.f1 != e.f1) = false := by show (!(d.f1 == e.f1)) = false; rw [h1]; rfl
      go_enter Try.func55, Try.ntmps55
      go_wp2_with fail
      go_ret
      refine ⟨by simp [eqB, h0, h1], ?_⟩
      (repeat' first | (with_reducible exact Below.refl _ _) | (with_reducible refine Below.rd (by assumption) ?_ ?_) | (with_reducible refine Below.via (by assumption) ?_) | (with_reducible refine Below.al ?_ _) | (with_reducible refine Below.dn ?_ _) | (with_reducible refine Below.dr ?_) | (with_reducible refine Below.setCell ?_ ?_ _) | (dsimp only; omega) | (simp only [World.size_alloc, World.size_drew]; omega) | (simp; done) | omega)
theorem szBS_any (ds : List Lab) (left : Int) (v : Value) (w : World) (h : SlB w v ds) (h0 : 0 ≤ left) (h1 : left ≤ 1048576) : Calls Try.prog 18 #[v, .int .i64 left] w fun e w' => e = .returned (.int .i64 (if left < ds.length then -1 else left - ds.length)) ∧ w = w' := by
  obtain ⟨a, cap, rfl, h2, h3⟩ := SlF.shape h
  clear h
  unfold maxLen at h3
  by_cases hl : left < ds.length
  all_goals
    go_enter Try.func18, Try.ntmps18
    go_wp2_with fail
    go_ret
    exact ⟨by simp [hl]; try omega, rfl⟩
/-- One element more is written. -/
theorem fillB (ds : List Lab) (A : Array Value) (k : Nat) (d : Lab) (hk : k < ds.length) (hd : ds[k] = d) (hs : A.size = ds.length * 2) (hc : ∀ j, j < k * 2 → A[j]? = (cellsB ds)[j]?) :
    (((A.setIfInBounds (k * 2) (.int .i64 d.f0)).setIfInBounds (k * 2 + 1) (.int .i64 d.f1))).size = ds.length * 2 ∧ ∀ j, j < (k + 1) * 2 → (((A.setIfInBounds (k * 2) (.int .i64 d.f0)).setIfInBounds (k * 2 + 1) (.int .i64 d.f1)))[j]? = (cellsB ds)[j]? := by
  refine ⟨by simp [hs], fun j hj => ?_⟩
  by_cases hlt : j < k * 2
  · rw [← hc j hlt]
    simp only [Array.getElem?_setIfInBounds]
    repeat rw [if_neg (by omega)]
  · obtain ⟨i, hi, rfl⟩ : ∃ i, i < 2 ∧ j = k * 2 + i := ⟨j - k * 2, by omega, by omega⟩
    rw [cellsB_get ds k hk i hi, hd]
    simp only [Array.getElem?_setIfInBounds, Array.size_setIfInBounds]
    rcases (show i = 0 ∨ i = 1 by omega) with rfl | rfl
    all_goals simp [encB]; try omega
/-- What is made of a slice: the same elements in new memory. -/
def NewB (ds : List Lab) (w : World) (e : Ending) (w' : World) : Prop := ∃ v, e = .returned v ∧ w'.ownsRow w.heap.size 49 2 v ds.length (cellsB ds) ∧ Below w.heap.size w w'
theorem infoB : (Try.prog.info? 49).map (fun i => (i.zero, i.size, i.bytes)) = some (some (.agg #[.int .i64 0, .int .i64 0]), 2, 16) := by kernel_rfl
theorem toBS_any (ds : List Lab) (v : Value) (w : World) (h : SlB w v ds) (hlen : ds.length ≤ 1048576) : Calls Try.prog 20 #[v] w (NewB ds w) := by
  obtain ⟨a, cap, rfl, h1, h2⟩ := SlF.shape h
  unfold maxLen at h2
  have H := Lib.hid h
  clear h
  obtain ⟨i0, hi, hz0, hz1, hz2⟩ := info_parts infoB
  have hmk : ∀ w : World, (Instr.makeSlice 39 (.int .i64 ds.length) (.int .i64 ds.length)).run Try.prog w = .ok (.slice (some ⟨w.heap.size, 0, none⟩) ds.length ds.length) (w.alloc (.cells (madeCells #[.int .i64 0, .int .i64 0] (ds.length * 2)) 49)) := fun w => by
    have := run_make (P := Try.prog) w 39 49 i0 _ Try.underlying39 hi hz0 .i64 .i64 ds.length ds.length (by omega) (Int.le_refl _) (by rw [hz2]; omega) (by omega)
    rw [hz1] at this
    simpa [Value.cells] using this
  have hZs : (madeCells #[.int .i64 0, .int .i64 0] (ds.length * 2)).size = ds.length * 2 := size_madeCells _ _
  generalize madeCells #[.int .i64 0, .int .i64 0] (ds.length * 2) = Z at hmk hZs
  have HZ := Lib.hid hZs
  clear hZs hi hz0 hz1 hz2
  go_enter Try.func20, Try.ntmps20
  go_wp2_with fail
  clear hmk
  go_loopw [4] (fun i wr => ∃ (k : Nat) (A : Array Value), k ≤ ds.length ∧ i = .int .i64 k ∧ Hid (A.size = ds.length * 2) ∧ Hid (∀ j, j < k * 2 → A[j]? = (cellsB ds)[j]?) ∧ Bk wr w.heap.size A 49 ∧ Below w.heap.size w wr) (fun i _ => ds.length - (intOf i).toNat)
  case atStart => exact ⟨0, Z, Nat.zero_le _, rfl, HZ, by intro j hj; omega, Bk.new, (Below.refl _ _).alloc (Nat.le_refl _) _⟩
  case round =>
    obtain ⟨k, A, hk, rfl, hs, hc, kb, hB⟩ := hrel
    by_cases hlt : k < ds.length
    · obtain ⟨g, off, cap', hv, _, _, c0, c1⟩ := (H.out.below hB).cells k hlt
      simp only [Value.slice.injEq] at hv
      obtain ⟨rfl, -, rfl⟩ := hv
      have hf := Lib.hid (fun d hd => fillB ds A k d hlt hd hs.out hc.out)
      generalize ds[k] = d at c0 c1 hf
      have hsz := hs.out
      have hzw := hB.size
      obtain ⟨z0, e0⟩ : ∃ z, A[k * 2]? = some z := ⟨_, Array.getElem?_eq_getElem (by omega)⟩
      obtain ⟨z1, e1⟩ : ∃ z, A[k * 2 + 1]? = some z := ⟨_, Array.getElem?_eq_getElem (by omega)⟩
      clear hsz
      go_wp2_with fail
      refine (toB_any d wr).mono ?_
      rintro e w2 ⟨rfl, hb⟩
      have kb' := kb.below hb
      have xb := kb'.cell
      have fb := kb'.free
      go_wp2_with fail
      go_roundw
      case rel =>
        refine ⟨k + 1, _, by omega, by go_num, (hf.out d rfl).1, (hf.out d rfl).2, ((kb'.same (k * 2) _).same (k * 2 + 1) _), ?_⟩
        have hBB := hB.trans (hb.mono hB.size)
        exact ((hBB.setCell (Nat.le_refl _) _).setCell (Nat.le_refl _) _)
      case measure => simp [intOf]; omega
    · have hke : k = ds.length := by omega
      subst hke
      go_wp2_with fail
      go_ret
      exact ⟨_, rfl, own_of_bk kb (Nat.le_refl _) (by unfold maxLen; omega) hs.out (cellsB_len ds) hc.out, hB⟩
def eqBs (ds es : List Lab) : Bool := decide (ds.length = es.length) && (List.range ds.length).all fun i => match ds[i]?, es[i]? with | some d, some e => eqB d e | _, _ => true
theorem eqBs_lens (ds es : List Lab) (h : ¬ ds.length = es.length) : eqBs ds es = false := by simp [eqBs, h]
theorem eqBs_bad (ds es : List Lab) (k : Nat) (h1 : k < ds.length) (h2 : k < es.length) (h : eqB ds[k] es[k] = false) : eqBs ds es = false := by
  have : ((List.range ds.length).all fun i => match ds[i]?, es[i]? with | some d, some e => eqB d e | _, _ => true) = false := by
    rw [List.all_eq_false]
    exact ⟨k, by simpa using h1, by simp [h1, h2, h]⟩
  simp [eqBs, this]
theorem eqBs_end (ds es : List Lab) (hl : ds.length = es.length) (h : ∀ i (h1 : i < ds.length) (h2 : i < es.length), eqB ds[i] es[i] = true) : eqBs ds es = true := by
  simp only [eqBs, hl, decide_true, Bool.true_and]
  rw [List.all_eq_true]
  intro i hi
  have hi' : i < es.length := by simpa using hi
  have h1 : i < ds.length := by omega
  simp [h1, hi', h i h1 hi']
theorem eqB_refl (d : Lab) : eqB d d = true := by simp [eqB]
theorem eqBs_refl (ds : List Lab) : eqBs ds ds = true := eqBs_end ds ds rfl (fun i h1 h2 => eqB_refl _)
set_option maxHeartbeats 800000 in
theorem eqBS_any (ds es : List Lab) (v u : Value) (w : World) (h : SlB w v ds) (h' : SlB w u es) : Calls Try.prog 22 #[v, u] w fun e w' => e = .returned (.bool (eqBs ds es)) ∧ Below w.heap.size w w' := by
  obtain ⟨a, cap, rfl, h1, h2⟩ := SlF.shape h
  obtain ⟨b, cap2, rfl, h3, h4⟩ := SlF.shape h'
  unfold maxLen at h2 h4
  have H := Lib.hid h
  have H' := Lib.hid h'
  clear h h'
  by_cases hl : ds.length = es.length
  · have hn : ((ds.length : Int) != (es.length : Int)) = false := by rw [hl]; simp
    have HL := Lib.hid hl
    clear hl
    go_enter Try.func22, Try.ntmps22
    go_wp2_with fail
    go_loopw [5] (fun i wr => ∃ k : Nat, k ≤ ds.length ∧ i = .int .i64 k ∧ Hid (∀ i (h1 : i < ds.length) (h2 : i < es.length), i < k → eqB ds[i] es[i] = true) ∧ Below w.heap.size w wr) (fun i _ => ds.length - (intOf i).toNat)
    case atStart => exact ⟨0, Nat.zero_le _, rfl, by intro i _ _ hi; omega, Below.refl _ _⟩
    case round =>
      obtain ⟨k, hk, rfl, ha, hB⟩ := hrel
      by_cases hlt : k < ds.length
      · have hlt2 : k < es.length := by have := HL.out; omega
        obtain ⟨g, off, cap', hv, _, _, c0, c1⟩ := (H.out.below hB).cells k hlt
        simp only [Value.slice.injEq] at hv
        obtain ⟨rfl, -, rfl⟩ := hv
        obtain ⟨g2, off2, cap2', hv, _, _, b0, b1⟩ := (H'.out.below hB).cells k hlt2
        simp only [Value.slice.injEq] at hv
        obtain ⟨rfl, -, rfl⟩ := hv
        have hs := Lib.hid (fun (hp : eqB ds[k] es[k] = true) => (show ∀ i (h1 : i < ds.length) (h2 : i < es.length), i < k + 1 → eqB ds[i] es[i] = true from fun i h1 h2 hi => by
          rcases Nat.lt_succ_iff_lt_or_eq.1 hi with hi | rfl
          · exact ha.out i h1 h2 hi
          · exact hp))
        have hb := Lib.hid (fun hp => eqBs_bad ds es k hlt hlt2 hp)
        generalize ds[k] = d at c0 c1 hs hb
        generalize es[k] = e at b0 b1 hs hb
        have lc0 := fun (wx : World) (h : Below wr.heap.size wr wx) => (h.cell (World.block_lt_of_cell? wr _ c0)).trans c0
        have lb0 := fun (wx : World) (h : Below wr.heap.size wr wx) => (h.cell (World.block_lt_of_cell? wr _ b0)).trans b0
        have lc1 := fun (wx : World) (h : Below wr.heap.size wr wx) => (h.cell (World.block_lt_of_cell? wr _ c1)).trans c1
        have lb1 := fun (wx : World) (h : Below wr.heap.size wr wx) => (h.cell (World.block_lt_of_cell? wr _ b1)).trans b1
        clear c0 b0 c1 b1
        cases hq : eqB d e
        · have hf := Lib.hid (hb.out hq)
          clear hs hb
          go_wp2_with fail
          refine wp_region_cls (C := Below wr.heap.size wr) (by kernel_rfl) (by kernel_rfl) (Below.refl _ _).drew ?_; (repeat ((first | (refine q_step ?_ (by rfl) (fun wx hx => ?_) ?_; rotate_left; (focus (go_simp; first | done | (with_reducible rfl) | first | (go_at_call 55; with_reducible refine (eqB_any d e _).mono ?_; rintro e w' ⟨rfl, hb⟩; refine ⟨?_, Below.via hb hx⟩; with_reducible rfl)))) | (refine BigFrame.wpQuiet_skip (by rfl) ?_)); (try simp only [Act.put, List.setIfInBounds_toArray, List.set_cons_zero, List.set_cons_succ]))); refine wpQuiet_nil ?_; intro wq hq
          go_wp2_with fail
          go_ret
          exact ⟨by rw [hf.out]; rfl, hB.trans (hq.mono hB.size)⟩
        · have hf := Lib.hid (hs.out hq)
          clear hs hb
          go_wp2_with fail
          refine wp_region_cls (C := Below wr.heap.size wr) (by kernel_rfl) (by kernel_rfl) (Below.refl _ _).drew ?_; (repeat ((first | (refine q_step ?_ (by rfl) (fun wx hx => ?_) ?_; rotate_left; (focus (go_simp; first | done | (with_reducible rfl) | first | (go_at_call 55; with_reducible refine (eqB_any d e _).mono ?_; rintro e w' ⟨rfl, hb⟩; refine ⟨?_, Below.via hb hx⟩; with_reducible rfl)))) | (refine BigFrame.wpQuiet_skip (by rfl) ?_)); (try simp only [Act.put, List.setIfInBounds_toArray, List.set_cons_zero, List.set_cons_succ]))); refine wpQuiet_nil ?_; intro wq hq
          go_wp2_with fail
          go_roundw
          case rel => exact ⟨k + 1, by omega, by go_num, hf.out, hB.trans (hq.mono hB.size)⟩
          case measure => simp [intOf]; omega
      · have hf := Lib.hid (eqBs_end ds es HL.out (fun i h1 h2 => ha.out i h1 h2 (by omega)))
        go_wp2_with fail
        go_ret
        exact ⟨by rw [hf.out]; rfl, hB⟩
  · have hn : ((ds.length : Int) != (es.length : Int)) = true := by simp; omega
    have hf := Lib.hid (eqBs_lens ds es hl)
    clear hl
    go_enter Try.func22, Try.ntmps22
    go_wp2_with fail
    go_ret
    exact ⟨by rw [hf.out]; rfl, Below.refl _ _⟩
end Go.Proofs.Ytfghgpdhcpcoiaa
