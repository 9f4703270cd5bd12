/-
  Roles that a role has: the reference's way. No condition.
-/
import Derived.Test.YtlcjkehpdlgdoaaRlr
import Derived.Test.YtlcjkehpdlgdoaaRls
set_option linter.unusedSimpArgs false
set_option linter.unusedVariables false
namespace Go.Proofs.Ytlcjkehpdlgdoaa
open Go.RowKit
/-- Truths: the bits of a set below N. -/
def bo (T N : Nat) : Array Value := ((List.range N).map fun i => Value.bool (T.testBit i)).toArray
theorem bo_size (T N : Nat) : (bo T N).size = N := by simp [bo]
theorem bo_get (T N i : Nat) (h : i < N) : (bo T N)[i]? = some (.bool (T.testBit i)) := by simp [bo, h]
theorem bo_set (T N r : Nat) (hr : r < N) : (bo T N).setIfInBounds r (.bool true) = bo (T ||| 1 <<< r) N := by
  apply Array.ext_getElem?
  intro i
  simp only [Array.getElem?_setIfInBounds, bo_size]
  by_cases hi : i < N
  · rw [bo_get T N i hi, bo_get _ N i hi, Nat.testBit_or, Nat.one_shiftLeft, Nat.testBit_two_pow]
    by_cases hir : r = i
    · subst hir
      simp [hr]
    · rw [if_neg hir, decide_eq_false hir, Bool.or_false]
  · rw [if_neg (by omega), Array.getElem?_eq_none (by rw [bo_size]; omega), Array.getElem?_eq_none (by rw [bo_size]; omega)]
theorem bo_zero (N : Nat) : madeCells #[.bool false] (N * 1) = bo 0 N := by
  apply Array.ext'
  rw [toList_madeCells_one]
  simp only [bo, Nat.mul_one, Nat.zero_testBit]
  exact List.ext_getElem (by simp) fun i h1 h2 => by simp
theorem infoBo : (Try.prog.info? 4).map (fun i => (i.zero, i.size, i.bytes)) = some (some (.bool false), 1, 1) := by kernel_rfl
def ReachR (S N : Nat) (w : World) (e : Ending) (w' : World) : Prop := ∃ g, e = .returned (.slice (some ⟨g, 0, none⟩) N N) ∧ w.heap.size ≤ g ∧ Bk w' g (bo S N) 4 ∧ Below w.heap.size w w'
set_option maxRecDepth 100000 in
set_option maxHeartbeats 12800000 in
theorem reachR_any (ds : List Rl) (n : Nat) (v : Value) (w : World) (h : SlRl w v ds) (hin : RlIn ds) (h8 : ds.length ≤ 8) (hn : n < ds.length) : Calls Try.prog 60 #[v, .int .i64 n] w (ReachR (setR ds n) ds.length w) := by
  obtain ⟨a, cap, rfl, h1, h2⟩ := SlRl.shape h
  unfold maxLen at h2
  have H := Lib.hid h
  clear h
  obtain ⟨i0, hi, hz0, hz1, hz2⟩ := info_parts infoBo
  have hmk : ∀ w : World, (Instr.makeSlice 76 (.int .i64 ds.length) (.int .i64 ds.length)).run Try.prog w = .ok (.slice (some ⟨w.heap.size, 0, none⟩) ds.length ds.length) (w.alloc (.cells (bo 0 ds.length) 4)) := fun w => by
    have := run_make (P := Try.prog) w 76 4 i0 _ Try.underlying76 hi hz0 .i64 .i64 ds.length ds.length (by omega) (Int.le_refl _) (by rw [hz2]; omega) (by omega)
    rw [hz1] at this
    rw [← bo_zero]
    simpa [Value.cells] using this
  clear hi hz0 hz1 hz2
  have HEND := Lib.hid (gs_end ds hin n hn)
  have HIN := Lib.hid hin
  have K0 := Bk.new (w := w) (vs := bo 0 ds.length) (t := 4)
  have x0 := K0.cell
  have f0 := K0.free
  have e0 := bo_get 0 ds.length n hn
  have hn2 : (n : Int) < (ds.length : Int) := by omega
  clear hin K0
  go_enter Try.func60, Try.ntmps60
  go_wp2_with fail
  clear hmk x0 f0 e0
  go_loopw [6] (fun i wr => ∃ p : Nat, p ≤ ds.length ∧ i = .int .i64 p ∧ Hid (Bk wr w.heap.size (bo (gsIt ds (1 <<< n) p) ds.length) 4) ∧ Hid (Below w.heap.size w wr)) (fun i _ => ds.length - (intOf i).toNat)
  case atStart =>
    refine ⟨0, Nat.zero_le _, rfl, ?_, ?_⟩
    · rw [bo_set 0 ds.length n hn, Nat.zero_or]
      exact Bk.new
    · exact Below.al (Below.refl w.heap.size w) _
  case round =>
    obtain ⟨p, hp, rfl, hK, hB⟩ := hrel
    by_cases hpl : p < ds.length
    · have hpl2 : (p : Int) < (ds.length : Int) := by omega
      have hnx : Hid (gsIt ds (1 <<< n) (p + 1) = gsTo ds (gsIt ds (1 <<< n) p) ds.length) := Lib.hid rfl
      generalize gsIt ds (1 <<< n) p = O at hK hnx
      go_wp2_with fail
      go_loopw [7] (fun i wx => ∃ k : Nat, k ≤ ds.length ∧ i = .int .i64 k ∧ Hid (Bk wx w.heap.size (bo (gsTo ds O k) ds.length) 4) ∧ Hid (Below w.heap.size w wx)) (fun i _ => ds.length - (intOf i).toNat)
      case atStart => exact ⟨0, Nat.zero_le _, rfl, hK.out, hB.out⟩
      case round =>
        clear hK hB
        obtain ⟨k, hk, rfl, hK, hB⟩ := hrel
        by_cases hlt : k < ds.length
        · have hlt2 : (k : Int) < (ds.length : Int) := by omega
          have hro := rowOf_eq ds k hlt
          have hst : Hid (gsTo ds O (k + 1) = if (gsTo ds O k).testBit k then addRow (rowOf ds k) (gsTo ds O k) else gsTo ds O k) := Lib.hid rfl
          have hii := HIN.out k
          rw [hro] at hst hii
          have HII := Lib.hid hii
          clear hro hii
          generalize gsTo ds O k = P at hK hst
          have hbg := bo_get P ds.length k hlt
          cases hb : P.testBit k
          · rw [hb] at hst hbg
            rw [if_neg (by simp)] at hst
            obtain ⟨g, off, cap', xa, xc, hv, _, _, c0, c1, c2, hx, hx1, hx2, hnm⟩ := (H.out.below hB.out).cells k hlt
            simp only [Value.slice.injEq] at hv
            obtain ⟨rfl, -, rfl⟩ := hv
            have xb := hK.out.cell
            clear hb hx
            generalize ds[k] = d at c0 c1 c2 HII hst hx1 hnm
            by_cases hl0 : 0 < d.xs.length
            all_goals
              go_wp2_with fail
              go_loopw [8] (fun i wy => i = .int .i64 0 ∧ wy = wr) (fun _ _ => 0)
              case atStart => exact ⟨rfl, rfl⟩
              case round =>
                obtain ⟨rfl, rfl⟩ := hrel
                go_wp2_with fail
                go_roundw
                case rel => exact ⟨k + 1, by omega, by go_num, by rw [hst.out]; exact hK, hB⟩
                case measure => simp [intOf]; omega
          · rw [hb] at hst
            rw [if_pos rfl] at hst
            have HPB := Lib.hid (show ∀ j, (addRow (ds[k].xs.take j) P).testBit k = true from fun j => by rw [addRow_bit, hb, Bool.true_or])
            clear hb hbg
            go_wp2_with fail
            go_loopw [8] (fun i wy => ∃ j : Nat, j ≤ ds[k].xs.length ∧ i = .int .i64 j ∧ Hid (Bk wy w.heap.size (bo (addRow (ds[k].xs.take j) P) ds.length) 4) ∧ Hid (Below w.heap.size w wy)) (fun i _ => ds[k].xs.length - (intOf i).toNat)
            case atStart => exact ⟨0, Nat.zero_le _, rfl, hK.out, hB.out⟩
            case round =>
              clear hK hB
              obtain ⟨j, hj, rfl, hK, hB⟩ := hrel
              obtain ⟨g, off, cap', xa, xc, hv, _, _, c0, c1, c2, hx, hx1, hx2, hnm⟩ := (H.out.below hB.out).cells k hlt
              simp only [Value.slice.injEq] at hv
              obtain ⟨rfl, -, rfl⟩ := hv
              have HX := Lib.hid hx
              clear hx
              unfold maxLen at hx2
              have xb := hK.out.cell
              have fb := hK.out.free
              have hbg := bo_get (addRow (ds[k].xs.take j) P) ds.length k hlt
              rw [HPB.out j] at hbg
              by_cases hjl : j < ds[k].xs.length
              · have hjl2 : (j : Int) < (ds[k].xs.length : Int) := by omega
                obtain ⟨gx, ox, cx, hvx, _, _, x0⟩ := SlI.cell HX.out j hjl
                simp only [Value.slice.injEq] at hvx
                obtain ⟨rfl, -, rfl⟩ := hvx
                have has := Lib.hid (addRow_step ds[k].xs P j hjl)
                have hxi := HII.out (ds[k].xs[j]'hjl) (List.getElem_mem hjl)
                generalize ds[k].xs[j]'hjl = x at x0 has hxi
                obtain ⟨r, rfl⟩ : ∃ r : Nat, x = (r : Int) := ⟨x.toNat, by omega⟩
                rw [Int.toNat_natCast] at has
                have hrl : r < ds.length := by omega
                have hrl2 : (r : Int) < (ds.length : Int) := by omega
                have hbr := bo_get (addRow (ds[k].xs.take j) P) ds.length r hrl
                have KS := Lib.hid (show Bk (wr.setCell ⟨w.heap.size, r, none⟩ (.bool true)) w.heap.size (bo (addRow (ds[k].xs.take (j + 1)) P) ds.length) 4 by
                  have := hK.out.same r (.bool true)
                  rw [bo_set _ _ r hrl, ← has.out] at this
                  exact this)
                have BS := Lib.hid (hB.out.setCell (p := ⟨w.heap.size, r, none⟩) (Nat.le_refl _) (.bool true))
                clear has hxi hK
                go_wp2_with fail
                go_roundw
                case rel => exact ⟨j + 1, by omega, by go_num, KS, BS⟩
                case measure => simp [intOf]; omega
              · obtain rfl : j = ds[k].xs.length := by omega
                have hfull := Lib.hid (show addRow (ds[k].xs.take ds[k].xs.length) P = gsTo ds O (k + 1) by rw [List.take_of_length_le (Nat.le_refl _)]; exact hst.out.symm)
                rw [hfull.out] at hK
                clear hbg xb
                go_wp2_with fail
                go_roundw
                case rel => exact ⟨k + 1, by omega, by go_num, hK, hB⟩
                case measure => simp [intOf]; omega
        · obtain rfl : k = ds.length := by omega
          rw [← hnx.out] at hK
          have hlt2 : ¬ ((ds.length : Nat) : Int) < (ds.length : Int) := by omega
          go_wp2_with fail
          go_roundw
          case rel => exact ⟨p + 1, by omega, by go_num, hK, hB⟩
          case measure => simp [intOf]; omega
    · obtain rfl : p = ds.length := by omega
      rw [HEND.out] at hK
      have hlt2 : ¬ ((ds.length : Nat) : Int) < (ds.length : Int) := by omega
      go_wp2_with fail
      go_ret
      exact ⟨w.heap.size, rfl, Nat.le_refl _, hK.out, hB.out⟩
set_option maxRecDepth 100000 in
set_option maxHeartbeats 6400000 in
theorem specRolesWith_any (ds : List Rl) (n : Int) (v : Value) (w : World) (h : SlRl w v ds) (hlen : ds.length ≤ 1048576) : Calls Try.prog 35 #[v, .int .i64 n] w (NewI (withR ds n) w) := by
  obtain ⟨a, cap, rfl, h1, h2⟩ := SlRl.shape h
  unfold maxLen at h2
  have hmk0 : ∀ w : World, (Instr.buildSlice 36 0 #[]).run Try.prog w = .ok (.slice (some ⟨w.heap.size, 0, none⟩) 0 0) (w.alloc (.cells #[] 3)) := fun w => by kernel_rfl
  have hA0 := Below.al (Below.refl w.heap.size w) (.cells #[] 3)
  have O0 := Lib.hid (own_made w w.heap.size 3 1 (Nat.le_refl _))
  have H := Lib.hid (SlRl.below h hA0)
  clear h
  have CV := fun wx h => specRValid_any ds (.slice a ds.length cap) wx h hlen
  cases hv : rValid ds
  · have e : withR ds n = [] := by simp [withR, hv]
    rw [e]
    rw [hv] at CV
    clear e hv
    go_enter Try.func35, Try.ntmps35
    go_wp2_with fail
    refine (CV _ H.out).mono ?_
    rintro e w1 ⟨rfl, b1⟩
    have hB1 := Below.via b1 hA0
    have O1 := Lib.hid (own_below O0.out b1)
    go_wp2_with fail
    go_ret
    exact ⟨_, rfl, O1.out, hB1⟩
  · rw [hv] at CV
    have CI := fun wx => l1In_any n 0 ((ds.length : Int) - 1) wx
    cases hi : inR n 0 ((ds.length : Int) - 1)
    · have e : withR ds n = [] := by simp [withR, hi]
      rw [e]
      rw [hi] at CI
      clear e hv hi
      go_enter Try.func35, Try.ntmps35
      go_wp2_with fail
      refine (CV _ H.out).mono ?_
      rintro e w1 ⟨rfl, b1⟩
      have hB1 := Below.via b1 hA0
      have O1 := Lib.hid (own_below O0.out b1)
      go_wp2_with ((go_at_call 46; refine (CI _).mono ?_; rintro e w' ⟨rfl, rfl⟩))
      go_ret
      exact ⟨_, rfl, O1.out, hB1⟩
    · have e : withR ds n = bitsTo (setR ds n.toNat) ds.length := by simp [withR, hv, hi]
      rw [e]
      rw [hi] at CI
      rw [inR_iff] at hi
      obtain ⟨h8, hin, _⟩ := rValid_in hv
      obtain ⟨m, rfl⟩ : ∃ m : Nat, n = (m : Int) := ⟨n.toNat, by omega⟩
      rw [Int.toNat_natCast]
      have CR := Lib.hid (fun wx h => reachR_any ds m (.slice a ds.length cap) wx h hin h8 (by omega))
      generalize setR ds m = S at CR
      clear e hv hi hin
      go_enter Try.func35, Try.ntmps35
      go_wp2_with fail
      refine (CV _ H.out).mono ?_
      rintro e w1 ⟨rfl, b1⟩
      have hB1 := Below.via b1 hA0
      have O1 := Lib.hid (own_below O0.out b1)
      go_wp2_with ((go_at_call 46; refine (CI _).mono ?_; rintro e w' ⟨rfl, rfl⟩))
      refine (CR.out _ (SlRl.below H.out b1)).mono ?_
      rintro e w2 ⟨g, rfl, hg, hK, b2⟩
      have hB2 := Below.via b2 hB1
      have O2 := Lib.hid (own_below O1.out b2)
      have hgo : w.heap.size < g := by have := b1.size; simp only [World.size_alloc] at this; omega
      have K2 := Lib.hid hK
      have hgw := hK.lt
      clear hK
      go_wp2_with fail
      go_loopw [5, 7] (fun q i wr => ∃ k : Nat, k ≤ ds.length ∧ i = .int .i64 k ∧ Hid (wr.ownsRow w.heap.size 3 1 q (bitsTo S k).length (cellsI (bitsTo S k))) ∧ Hid (∀ j, Value.ownBlock q = some j → j ≠ g) ∧ Hid (Bk wr g (bo S ds.length) 4) ∧ Below w.heap.size w wr) (fun _ i _ => ds.length - (intOf i).toNat)
      case atStart => exact ⟨0, Nat.zero_le _, rfl, O2.out, fun j hj => by have e := Option.some.inj hj; have e2 : w.heap.size = j := e; omega, K2.out, hB2⟩
      case round =>
        clear hB2 O2 K2
        obtain ⟨k, hk, rfl, hO, hne, hK, hB⟩ := hrel
        obtain ⟨vo, rfl⟩ : ∃ vo : Value, vo = u5 := ⟨_, rfl⟩
        have hbl := bitsTo_len S k
        have hz := hB.size
        by_cases hlt : k < ds.length
        · have hlt2 : (k : Int) < (ds.length : Int) := by omega
          have xb := hK.out.cell
          have hbg := bo_get S ds.length k hlt
          cases hb : S.testBit k
          · rw [hb] at hbg
            have hst := Lib.hid (bitsTo_off S k hb)
            clear hb
            go_wp2_with fail
            go_roundw
            case rel => exact ⟨k + 1, by omega, by go_num, by rw [hst.out]; exact hO, hne, hK, hB⟩
            case measure => simp [intOf]; omega
          · rw [hb] at hbg
            have hst := Lib.hid (bitsTo_on S k hb)
            have hgl := hK.out.lt
            clear hb
            go_wp2_with (at_builtin; refine Hid.out ?_); refine Lib.hid ?_
            refine wpList_appS (s := .tmp 34) (x := .tmp 36) rfl 36 3 (.int .i64 0) 1 8 rfl Try.underlying36 infoI rfl (by decide) (by decide) w.heap.size vo (bitsTo S k).length (cellsI (bitsTo S k)) (by rfl) (own_alloc hO.out _) (.slice (some ⟨wr.heap.size, 0, none⟩) 1 1) 1 [.int .i64 k] (by rfl) (slF_bk (k := 1) (n := 1) (cs := [.int .i64 k]) (bk_atb rfl) rfl (by omega)) (one_int _) (by omega) (by simp only [World.size_alloc]; omega) ?_
            intro v8 w8 o8 g8 l8 _
            have b8 : Below w.heap.size w w8 := Below.grown (Below.al hB _) g8 (by simp only [World.size_alloc]; omega) (own_gt hO.out)
            have O8 := Lib.hid (show w8.ownsRow w.heap.size 3 1 v8 (bitsTo S (k + 1)).length (cellsI (bitsTo S (k + 1))) by rw [hst.out, cellsI_app, List.length_append]; exact o8)
            have N8 := Lib.hid (show ∀ j, Value.ownBlock v8 = some j → j ≠ g from fun j h1 => by
              rcases l8 with e | e
              · exact hne.out j (e ▸ h1)
              · rw [e] at h1
                have q2 := Option.some.inj h1
                simp only [World.size_alloc] at q2
                omega)
            have K8 := Lib.hid ((hK.out.alloc (.cells #[.int .i64 k] 3)).by g8 (fun e => hne.out g e.symm rfl))
            clear o8 g8 l8
            go_wp2_with fail
            go_roundw
            case rel => first | exact ⟨k + 1, by omega, by go_num, O8, N8, K8, b8⟩ | ((repeat apply Exists.intro); exact ⟨⟨k + 1, by omega, by go_num, O8, N8, K8, b8⟩, rfl⟩)
            case measure => simp [intOf]; omega
        · obtain rfl : k = ds.length := by omega
          have hlt2 : ¬ ((ds.length : Nat) : Int) < (ds.length : Int) := by omega
          go_wp2_with fail
          go_ret
          exact ⟨vo, rfl, hO.out, hB⟩
end Go.Proofs.Ytlcjkehpdlgdoaa
