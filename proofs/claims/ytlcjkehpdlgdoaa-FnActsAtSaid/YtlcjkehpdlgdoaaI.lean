/-
  Rows of numbers: copied, compared, marked, held. No condition.
-/
import Derived.Test.YtlcjkehpdlgdoaaA
import Derived.Test.YtlcjkehpdlgdoaaOi
import Derived.Test.YtlcjkehpdlgdoaaQ
import Derived.Test.YtlcjkehpdlgdoaaUa
set_option linter.unusedSimpArgs false
set_option linter.unusedVariables false
namespace Go.Proofs.Ytlcjkehpdlgdoaa
open Go.RowKit
/-- What is made of a slice: the same numbers in new memory. -/
def NewI (ns : List Int) (w : World) (e : Ending) (w' : World) : Prop := ∃ v, e = .returned v ∧ w'.ownsRow w.heap.size 3 1 v ns.length (cellsI ns) ∧ Below w.heap.size w w'
theorem infoI : (Try.prog.info? 3).map (fun i => (i.zero, i.size, i.bytes)) = some (some (.int .i64 0), 1, 8) := by kernel_rfl
theorem fillI (ns : List Int) (A : Array Value) (k : Nat) (d : Int) (hk : k < ns.length) (hd : ns[k] = d) (hs : A.size = ns.length) (hc : ∀ j, j < k → A[j]? = (cellsI ns)[j]?) :
    (A.setIfInBounds k (.int .i64 d)).size = ns.length ∧ ∀ j, j < k + 1 → (A.setIfInBounds k (.int .i64 d))[j]? = (cellsI ns)[j]? := by
  refine ⟨by simp [hs], fun j hj => ?_⟩
  by_cases hlt : j < k
  · rw [← hc j hlt]
    simp only [Array.getElem?_setIfInBounds]
    rw [if_neg (by omega)]
  · have : j = k := by omega
    subst this
    rw [cellsI_get ns j hk, hd]
    simp only [Array.getElem?_setIfInBounds]
    simp; omega
theorem toIntS_any (ns : List Int) (v : Value) (w : World) (h : SlI w v ns) (hlen : ns.length ≤ 4194304) : Calls Try.prog 73 #[v] w (NewI ns w) := by
  obtain ⟨a, cap, rfl, h1, h2⟩ := SlF.shape h
  unfold maxLen at h2
  have H := Lib.hid h
  clear h
  obtain ⟨i0, hi, hz0, hz1, hz2⟩ := info_parts infoI
  have hmk : ∀ w : World, (Instr.makeSlice 36 (.int .i64 ns.length) (.int .i64 ns.length)).run Try.prog w = .ok (.slice (some ⟨w.heap.size, 0, none⟩) ns.length ns.length) (w.alloc (.cells (madeCells #[.int .i64 0] (ns.length * 1)) 3)) := fun w => by
    have := run_make (P := Try.prog) w 36 3 i0 _ Try.underlying36 hi hz0 .i64 .i64 ns.length ns.length (by omega) (Int.le_refl _) (by rw [hz2]; omega) (by omega)
    rw [hz1] at this
    simpa [Value.cells] using this
  have hZs : (madeCells #[.int .i64 0] (ns.length * 1)).size = ns.length := by rw [size_madeCells, Nat.mul_one]
  generalize madeCells #[.int .i64 0] (ns.length * 1) = Z at hmk hZs
  have HZ := Lib.hid hZs
  clear hZs hi hz0 hz1 hz2
  go_enter Try.func73, Try.ntmps73
  go_wp2_with fail
  clear hmk
  go_loopw [4] (fun i wr => ∃ (k : Nat) (A : Array Value), k ≤ ns.length ∧ i = .int .i64 k ∧ Hid (A.size = ns.length) ∧ Hid (∀ j, j < k → A[j]? = (cellsI ns)[j]?) ∧ Bk wr w.heap.size A 3 ∧ Below w.heap.size w wr) (fun i _ => ns.length - (intOf i).toNat)
  case atStart => exact ⟨0, Z, Nat.zero_le _, rfl, HZ, by intro j hj; omega, Bk.new, (Below.refl _ _).alloc (Nat.le_refl _) _⟩
  case round =>
    obtain ⟨k, A, hk, rfl, hs, hc, kb, hB⟩ := hrel
    by_cases hlt : k < ns.length
    · obtain ⟨g, off, cap', hv, _, _, c0⟩ := (H.out.below hB).cell k hlt
      simp only [Value.slice.injEq] at hv
      obtain ⟨rfl, -, rfl⟩ := hv
      have hf := Lib.hid (fun d hd => fillI ns A k d hlt hd hs.out hc.out)
      generalize ns[k] = d at c0 hf
      have hsz := hs.out
      have hzw := hB.size
      obtain ⟨z0, e0⟩ : ∃ z, A[k]? = some z := ⟨_, Array.getElem?_eq_getElem (by omega)⟩
      clear hsz
      have xb := kb.cell
      have fb := kb.free
      go_wp2_with fail
      go_roundw
      case rel =>
        refine ⟨k + 1, _, by omega, by go_num, (hf.out d rfl).1, (hf.out d rfl).2, kb.same k _, ?_⟩
        exact (hB.setCell (Nat.le_refl _) _)
      case measure => simp [intOf]; omega
    · have hke : k = ns.length := by omega
      subst hke
      go_wp2_with fail
      go_ret
      exact ⟨_, rfl, own_of_bk kb (Nat.le_refl _) (by unfold maxLen; omega) (by rw [hs.out, Nat.mul_one]) (by rw [cellsI_len, Nat.mul_one]) (fun j hj => hc.out j (by omega)), hB⟩
theorem eqIntS_any (ns ms : List Int) (v u : Value) (w : World) (h : SlI w v ns) (h' : SlI w u ms) : Calls Try.prog 23 #[v, u] w fun e w' => e = .returned (.bool (decide (ns = ms))) ∧ Below w.heap.size w w' := by
  obtain ⟨a, cap, rfl, h1, h2⟩ := SlF.shape h
  obtain ⟨b, cap2, rfl, h3, h4⟩ := SlF.shape h'
  unfold maxLen at h2 h4
  have H := Lib.hid h
  have H' := Lib.hid h'
  clear h h'
  by_cases hl : ns.length = ms.length
  · have hn : ((ns.length : Int) != (ms.length : Int)) = false := by rw [hl]; simp
    have HL := Lib.hid hl
    clear hl
    go_enter Try.func23, Try.ntmps23
    go_wp2_with fail
    go_loopw [5] (fun i wr => ∃ k : Nat, k ≤ ns.length ∧ i = .int .i64 k ∧ Hid (∀ i (h1 : i < ns.length) (h2 : i < ms.length), i < k → ns[i] = ms[i]) ∧ Below w.heap.size w wr) (fun i _ => ns.length - (intOf i).toNat)
    case atStart => exact ⟨0, Nat.zero_le _, rfl, by intro i _ _ hi; omega, Below.refl _ _⟩
    case round =>
      obtain ⟨k, hk, rfl, ha, hB⟩ := hrel
      by_cases hlt : k < ns.length
      · have hlt2 : k < ms.length := by have := HL.out; omega
        obtain ⟨g, off, cap', hv, _, _, c0⟩ := (H.out.below hB).cell k hlt
        simp only [Value.slice.injEq] at hv
        obtain ⟨rfl, -, rfl⟩ := hv
        obtain ⟨g2, off2, cap2', hv, _, _, b0⟩ := (H'.out.below hB).cell k hlt2
        simp only [Value.slice.injEq] at hv
        obtain ⟨rfl, -, rfl⟩ := hv
        have hs := Lib.hid (fun (hp : ns[k] = ms[k]) => (show ∀ i (h1 : i < ns.length) (h2 : i < ms.length), i < k + 1 → ns[i] = ms[i] from fun i h1 h2 hi => by
          rcases Nat.lt_succ_iff_lt_or_eq.1 hi with hi | rfl
          · exact ha.out i h1 h2 hi
          · exact hp))
        have hb := Lib.hid (fun (hp : ¬ ns[k] = ms[k]) => (show decide (ns = ms) = false from by
          rw [decide_eq_false_iff_not]
          rintro rfl
          exact hp rfl))
        generalize ns[k] = d at c0 hs hb
        generalize ms[k] = e at b0 hs hb
        have lc0 := fun (wx : World) (h : Below wr.heap.size wr wx) => (h.cell (World.block_lt_of_cell? wr _ c0)).trans c0
        have lb0 := fun (wx : World) (h : Below wr.heap.size wr wx) => (h.cell (World.block_lt_of_cell? wr _ b0)).trans b0
        clear c0 b0
        by_cases hq : d = e
        · have hf := Lib.hid (hs.out hq)
          have hd : (d != e) = false := by simp [hq]
          clear hs hb hq
          go_wp2_with fail
          refine wp_region_cls (C := Below wr.heap.size wr) (by kernel_rfl) (by kernel_rfl) (Below.refl _ _).drew ?_; (repeat ((first | (refine q_step ?_ (by rfl) (fun wx hx => ?_) ?_; rotate_left; (focus (go_simp; first | done | (with_reducible rfl) | fail))) | (refine BigFrame.wpQuiet_skip (by rfl) ?_)); (try simp only [Act.put, List.setIfInBounds_toArray, List.set_cons_zero, List.set_cons_succ]))); refine wpQuiet_nil ?_; intro wq hq
          go_wp2_with fail
          go_roundw
          case rel => exact ⟨k + 1, by omega, by go_num, hf.out, Below.via (by assumption) hB⟩
          case measure => simp [intOf]; omega
        · have hf := Lib.hid (hb.out hq)
          have hd : (d != e) = true := by simp [hq]
          clear hs hb hq
          go_wp2_with fail
          refine wp_region_cls (C := Below wr.heap.size wr) (by kernel_rfl) (by kernel_rfl) (Below.refl _ _).drew ?_; (repeat ((first | (refine q_step ?_ (by rfl) (fun wx hx => ?_) ?_; rotate_left; (focus (go_simp; first | done | (with_reducible rfl) | fail))) | (refine BigFrame.wpQuiet_skip (by rfl) ?_)); (try simp only [Act.put, List.setIfInBounds_toArray, List.set_cons_zero, List.set_cons_succ]))); refine wpQuiet_nil ?_; intro wq hq
          go_wp2_with fail
          go_ret
          exact ⟨by rw [hf.out]; rfl, Below.via (by assumption) hB⟩
      · have hf : decide (ns = ms) = true := by
          rw [decide_eq_true_eq]
          exact List.ext_getElem HL.out (fun i h1 h2 => ha.out i h1 h2 (by omega))
        have HF := Lib.hid hf
        clear hf
        go_wp2_with fail
        go_ret
        exact ⟨by rw [HF.out]; rfl, hB⟩
  · have hn : ((ns.length : Int) != (ms.length : Int)) = true := by simp; omega
    have hf : decide (ns = ms) = false := by
      rw [decide_eq_false_iff_not]
      rintro rfl
      exact hl rfl
    have HF := Lib.hid hf
    clear hf
    go_enter Try.func23, Try.ntmps23
    go_wp2_with fail
    go_ret
    exact ⟨by rw [HF.out]; rfl, Below.refl _ _⟩
theorem sameInts_any (ns ms : List Int) (v u : Value) (w : World) (h : SlI w v ns) (h' : SlI w u ms) : Calls Try.prog 28 #[v, u] w fun e w' => e = .returned (.bool (decide (ns = ms))) ∧ Below w.heap.size w w' := by
  obtain ⟨a, cap, rfl, h1, h2⟩ := SlF.shape h
  obtain ⟨b, cap2, rfl, h3, h4⟩ := SlF.shape h'
  unfold maxLen at h2 h4
  have H := Lib.hid h
  have H' := Lib.hid h'
  clear h h'
  by_cases hl : ns.length = ms.length
  · have hn : ((ns.length : Int) != (ms.length : Int)) = false := by rw [hl]; simp
    have HL := Lib.hid hl
    clear hl
    go_enter Try.func28, Try.ntmps28
    go_wp2_with fail
    go_loopw [5] (fun i wr => ∃ k : Nat, k ≤ ns.length ∧ i = .int .i64 k ∧ Hid (∀ i (h1 : i < ns.length) (h2 : i < ms.length), i < k → ns[i] = ms[i]) ∧ Below w.heap.size w wr) (fun i _ => ns.length - (intOf i).toNat)
    case atStart => exact ⟨0, Nat.zero_le _, rfl, by intro i _ _ hi; omega, Below.refl _ _⟩
    case round =>
      obtain ⟨k, hk, rfl, ha, hB⟩ := hrel
      by_cases hlt : k < ns.length
      · have hlt2 : k < ms.length := by have := HL.out; omega
        obtain ⟨g, off, cap', hv, _, _, c0⟩ := (H.out.below hB).cell k hlt
        simp only [Value.slice.injEq] at hv
        obtain ⟨rfl, -, rfl⟩ := hv
        obtain ⟨g2, off2, cap2', hv, _, _, b0⟩ := (H'.out.below hB).cell k hlt2
        simp only [Value.slice.injEq] at hv
        obtain ⟨rfl, -, rfl⟩ := hv
        have hs := Lib.hid (fun (hp : ns[k] = ms[k]) => (show ∀ i (h1 : i < ns.length) (h2 : i < ms.length), i < k + 1 → ns[i] = ms[i] from fun i h1 h2 hi => by
          rcases Nat.lt_succ_iff_lt_or_eq.1 hi with hi | rfl
          · exact ha.out i h1 h2 hi
          · exact hp))
        have hb := Lib.hid (fun (hp : ¬ ns[k] = ms[k]) => (show decide (ns = ms) = false from by
          rw [decide_eq_false_iff_not]
          rintro rfl
          exact hp rfl))
        generalize ns[k] = d at c0 hs hb
        generalize ms[k] = e at b0 hs hb
        have lc0 := fun (wx : World) (h : Below wr.heap.size wr wx) => (h.cell (World.block_lt_of_cell? wr _ c0)).trans c0
        have lb0 := fun (wx : World) (h : Below wr.heap.size wr wx) => (h.cell (World.block_lt_of_cell? wr _ b0)).trans b0
        clear c0 b0
        by_cases hq : d = e
        · have hf := Lib.hid (hs.out hq)
          have hd : (d != e) = false := by simp [hq]
          clear hs hb hq
          go_wp2_with fail
          refine wp_region_cls (C := Below wr.heap.size wr) (by kernel_rfl) (by kernel_rfl) (Below.refl _ _).drew ?_; (repeat ((first | (refine q_step ?_ (by rfl) (fun wx hx => ?_) ?_; rotate_left; (focus (go_simp; first | done | (with_reducible rfl) | fail))) | (refine BigFrame.wpQuiet_skip (by rfl) ?_)); (try simp only [Act.put, List.setIfInBounds_toArray, List.set_cons_zero, List.set_cons_succ]))); refine wpQuiet_nil ?_; intro wq hq
          go_wp2_with fail
          go_roundw
          case rel => exact ⟨k + 1, by omega, by go_num, hf.out, Below.via (by assumption) hB⟩
          case measure => simp [intOf]; omega
        · have hf := Lib.hid (hb.out hq)
          have hd : (d != e) = true := by simp [hq]
          clear hs hb hq
          go_wp2_with fail
          refine wp_region_cls (C := Below wr.heap.size wr) (by kernel_rfl) (by kernel_rfl) (Below.refl _ _).drew ?_; (repeat ((first | (refine q_step ?_ (by rfl) (fun wx hx => ?_) ?_; rotate_left; (focus (go_simp; first | done | (with_reducible rfl) | fail))) | (refine BigFrame.wpQuiet_skip (by rfl) ?_)); (try simp only [Act.put, List.setIfInBounds_toArray, List.set_cons_zero, List.set_cons_succ]))); refine wpQuiet_nil ?_; intro wq hq
          go_wp2_with fail
          go_ret
          exact ⟨by rw [hf.out]; rfl, Below.via (by assumption) hB⟩
      · have hf : decide (ns = ms) = true := by
          rw [decide_eq_true_eq]
          exact List.ext_getElem HL.out (fun i h1 h2 => ha.out i h1 h2 (by omega))
        have HF := Lib.hid hf
        clear hf
        go_wp2_with fail
        go_ret
        exact ⟨by rw [HF.out]; rfl, hB⟩
  · have hn : ((ns.length : Int) != (ms.length : Int)) = true := by simp; omega
    have hf : decide (ns = ms) = false := by
      rw [decide_eq_false_iff_not]
      rintro rfl
      exact hl rfl
    have HF := Lib.hid hf
    clear hf
    go_enter Try.func28, Try.ntmps28
    go_wp2_with fail
    go_ret
    exact ⟨by rw [HF.out]; rfl, Below.refl _ _⟩
theorem grownBy_trans2 {w w1 w2 : World} {row : Option Nat} (h : w.grownBy w1 row) (k : w1.grownBy w2 row) : w.grownBy w2 row :=
  ⟨k.os.trans h.os, k.tape.trans h.tape, k.output.trans h.output, Nat.le_trans h.size k.size, fun i hi hr => (k.block i (Nat.lt_of_lt_of_le hi h.size) hr).trans (h.block i hi hr)⟩
theorem own_gby {w w' : World} {row : Option Nat} {lo e k : Nat} {v : Value} {n : Nat} {cs : List Value} (h : w.ownsRow lo e k v n cs) (g : w.grownBy w' row) (hne : ∀ j, v.ownBlock = some j → row = some j → False) : w'.ownsRow lo e k v n cs :=
  h.kept g (by
    cases hv : v.ownBlock with
    | none => exact .inl rfl
    | some j => exact .inr (fun he => hne j hv he.symm))
/-- The numbers from k on. -/
def upFrom (k : Int) (n : Nat) : List Int := (List.range n).map (fun (i : Nat) => k + (i : Int))
theorem upFrom_len (k : Int) (n : Nat) : (upFrom k n).length = n := by simp [upFrom]
theorem upFrom_get (k : Int) (n : Nat) (i : Nat) (hi : i < (upFrom k n).length) : (upFrom k n)[i] = k + (i : Int) := by simp [upFrom]
theorem slI_up {w : World} {v : Value} {k : Int} {n : Nat} (h : SlF w v 1 n (cellsI (upFrom k n))) : SlI w v (upFrom k n) := by
  unfold SlI
  rw [upFrom_len]
  exact h
/-- A row that has been marked: its own block alone has turned. -/
def MarkI (lo : Nat) (v : Value) (n : Nat) (k : Int) (w : World) (e : Ending) (w' : World) : Prop :=
  e = .returned (.int .i64 (k + n)) ∧ w'.ownsRow lo 3 1 v n (cellsI (upFrom k n)) ∧ w.grownBy w' v.ownBlock
theorem markIntS_any (ns : List Int) (v : Value) (lo : Nat) (k0 : Int) (w : World) (h : w.ownsRow lo 3 1 v ns.length (cellsI ns)) (hk0 : -1 ≤ k0) (hk1 : k0 ≤ 1099511627776) (hlen : ns.length ≤ 16777216) : Calls Try.prog 25 #[v, .int .i64 k0] w (MarkI lo v ns.length k0 w) := by
  have hsl := own_sl h
  obtain ⟨a, cap, rfl, h1, h2⟩ := SlF.shape hsl
  unfold maxLen at h2
  have H := Lib.hid h
  clear h hsl
  go_enter Try.func25, Try.ntmps25
  go_wp2_with fail
  go_loopw [1, 5] (fun m i wr => ∃ (k : Nat), k ≤ ns.length ∧ i = .int .i64 k ∧ m = .int .i64 (k0 + k) ∧ (∃ cs : List Value, Hid (∀ j, j < k → cs[j]? = (cellsI (upFrom k0 ns.length))[j]?) ∧ Hid (wr.ownsRow lo 3 1 (.slice a ns.length cap) ns.length cs)) ∧ Hid (w.grownBy wr (Value.slice a ns.length cap).ownBlock)) (fun _ i _ => ns.length - (intOf i).toNat)
  case atStart => exact ⟨0, Nat.zero_le _, rfl, by simp, ⟨_, by intro j hj; omega, H⟩, World.grownBy.refl _ _⟩
  case round =>
    obtain ⟨k, hk, rfl, rfl, ⟨cs, hc, ho⟩, hg⟩ := hrel
    by_cases hlt : k < ns.length
    · obtain ⟨g, off, cap', hv, _, _, hcell⟩ := SlF.at (own_sl ho.out) (by omega)
      simp only [Value.slice.injEq] at hv
      obtain ⟨rfl, -, rfl⟩ := hv
      have hoff : off = 0 := by
        obtain ⟨g', cap', e', _⟩ := own_ad ho.out (by simp)
        simp at e'
        exact e'.1.2
      subst hoff
      have hst := Lib.hid (World.ownsRow.stored ho.out k (.int .i64 (k0 + k)))
      have hfr := World.ownsRow.frozenAt ho.out k
      have hcl := hcell k (by omega)
      have hcsl : cs.length = ns.length := by have := ho.out.1; omega
      obtain ⟨z, hz⟩ : ∃ z, cs[k]? = some z := ⟨_, List.getElem?_eq_getElem (by omega)⟩
      rw [hz] at hcl
      simp only [Nat.zero_add] at hcl
      clear hcell
      go_wp2_with fail
      go_roundw
      case rel =>
        refine ⟨k + 1, by omega, by go_num, by go_num, ⟨cs.set k (.int .i64 (k0 + k)), ?_, hst.out.1⟩, grownBy_trans2 hg.out hst.out.2⟩
        intro j hj
        rw [List.getElem?_set]
        by_cases hjk : k = j
        · subst hjk
          rw [if_pos rfl, if_pos (by omega), cellsI_get _ k (by rw [upFrom_len]; exact hlt), upFrom_get]
        · rw [if_neg hjk]
          exact hc.out j (by omega)
      case measure => simp [intOf]; omega
    · have hke : k = ns.length := by omega
      subst hke
      go_wp2_with fail
      go_ret
      refine ⟨rfl, ?_, hg.out⟩
      have hcs : cs = cellsI (upFrom k0 ns.length) := List.ext_getElem? fun j => by
        by_cases hj : j < ns.length
        · exact hc.out j hj
        · rw [List.getElem?_eq_none (by have := ho.out.1; omega), List.getElem?_eq_none (by rw [cellsI_len, upFrom_len]; omega)]
      rw [← hcs]
      exact ho.out
theorem heldIntS_any (n : Nat) (v : Value) (k0 : Int) (w : World) (h : SlI w v (upFrom k0 n)) (hk0 : -1 ≤ k0) (hk1 : k0 ≤ 1099511627776) (hlen : n ≤ 16777216) : Calls Try.prog 26 #[v, .int .i64 k0] w fun e w' => e = .returned (.int .i64 (k0 + n)) ∧ w = w' := by
  have hul := upFrom_len k0 n
  obtain ⟨a, cap, rfl, h1, h2⟩ := SlF.shape h
  unfold maxLen at h2
  have H := Lib.hid h
  clear h
  rw [hul]
  go_enter Try.func26, Try.ntmps26
  go_wp2_with fail
  go_loop [1, 5] (fun m i => ∃ (k : Nat), k ≤ n ∧ i = .int .i64 k ∧ m = .int .i64 (k0 + k)) (fun _ i => n - (intOf i).toNat)
  case atStart => exact ⟨0, Nat.zero_le _, rfl, by simp⟩
  case round =>
    obtain ⟨k, hk, rfl, rfl⟩ := hrel
    by_cases hlt : k < n
    · obtain ⟨g, off, cap', hv, _, _, c0⟩ := H.out.cell k (by omega)
      simp only [Value.slice.injEq] at hv
      obtain ⟨rfl, -, rfl⟩ := hv
      rw [upFrom_get] at c0
      have hne : (k0 + (k : Int) != k0 + (k : Int)) = false := by simp
      go_wp2_with fail
      go_round
      case rel => exact ⟨k + 1, by omega, by go_num, by go_num⟩
      case measure => simp [intOf]; omega
    · have hke : k = n := by omega
      subst hke
      go_wp2_with fail
      go_ret
      exact ⟨rfl, rfl⟩
end Go.Proofs.Ytlcjkehpdlgdoaa
