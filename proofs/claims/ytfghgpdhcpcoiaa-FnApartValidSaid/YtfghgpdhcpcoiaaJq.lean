/-
  Valid rules: the program's and the reference's look. No condition.
-/
import Derived.Test.YtfghgpdhcpcoiaaJap
import Derived.IntWalk
set_option linter.unusedSimpArgs false
set_option linter.unusedVariables false
namespace Go.Proofs.Ytfghgpdhcpcoiaa
open Go.RowKit
/-- Numbers ascend from lo to hi. -/
def asc : List Int → Int → Int → Bool
  | [], _, _ => true
  | n :: ns, lo, hi => inR n lo hi && asc ns (wrap64 (n + 1)) hi
theorem asc_cons (xs : List Int) (k : Nat) (h : k < xs.length) (lo hi : Int) : asc (xs.drop k) lo hi = (inR xs[k] lo hi && asc (xs.drop (k + 1)) (wrap64 (xs[k] + 1)) hi) := by
  rw [List.drop_eq_getElem_cons h]
  rfl
theorem l1Quiet (n lo hi : Int) (w : World) : Calls Try.prog 39 #[.int .i64 n, .int .i64 lo, .int .i64 hi] w fun e w' => e = .returned (.bool (inR n lo hi)) ∧ w' = w := (l1In_any n lo hi w).mono fun e w' h => ⟨h.1, h.2.symm⟩
theorem ascends_any (xs : List Int) (lo hi : Int) (v : Value) (w : World) (h : SlI w v xs) : Calls Try.prog 63 #[v, .int .i64 lo, .int .i64 hi] w fun e w' => e = .returned (.bool (asc xs lo hi)) ∧ w = w' := by
  obtain ⟨a, cap, rfl, h1, h2⟩ := SlF.shape h
  unfold maxLen at h2
  have H := Lib.hid h
  clear h
  obtain ⟨R, hR⟩ : ∃ R, asc xs lo hi = R := ⟨_, rfl⟩
  rw [hR]
  have HR := Lib.hid hR
  clear hR
  go_enter Try.func63, Try.ntmps63
  go_wp2_with fail
  go_loop [1, 11] (fun l i => ∃ (k : Nat) (m : Int), k ≤ xs.length ∧ i = .int .i64 k ∧ l = .int .i64 m ∧ Hid (asc (xs.drop k) m hi = R)) (fun _ i => xs.length - (intOf i).toNat)
  case atStart => exact ⟨0, lo, Nat.zero_le _, rfl, rfl, HR⟩
  case round =>
    obtain ⟨k, m, hk, rfl, rfl, ha⟩ := hrel
    by_cases hlt : k < xs.length
    · obtain ⟨g, off, cap', hv, _, _, c0⟩ := H.out.cell k hlt
      simp only [Value.slice.injEq] at hv
      obtain ⟨rfl, -, rfl⟩ := hv
      have hs := Lib.hid ((asc_cons xs k hlt m hi).symm.trans ha.out)
      generalize xs[k] = n at c0 hs
      cases p : inR n m hi
      · have hf := Lib.hid (show R = false from by have := hs.out; rw [p] at this; exact this.symm)
        clear hs
        go_wp2_with ((go_at_call 41; refine (in_any _ _ _ _).mono ?_; rintro e w' ⟨rfl, rfl⟩))
        go_ret
        exact ⟨by rw [hf.out]; rfl, rfl⟩
      · have hf := Lib.hid (show asc (xs.drop (k + 1)) (wrap64 (n + 1)) hi = R from by have := hs.out; rw [p] at this; exact this)
        clear hs
        go_wp2_with ((go_at_call 41; refine (in_any _ _ _ _).mono ?_; rintro e w' ⟨rfl, rfl⟩))
        go_round
        case rel => exact ⟨k + 1, _, by omega, by go_num, rfl, hf.out⟩
        case measure => simp [intOf]; omega
    · have hf := Lib.hid (show R = true from by have := ha.out; rw [List.drop_eq_nil_of_le (by omega)] at this; exact this.symm)
      go_wp2_with fail
      go_ret
      exact ⟨by rw [hf.out]; rfl, rfl⟩
def apOkI (hi : Int) (d : Mv) : Bool := asc d.xs 0 hi && inR d.n 1 (d.xs.length - 1)
def apValidI (many : Int) (ds : List Mv) : Bool := ds.all (apOkI (wrap64 (many - 1))) && (inR many 1 8 && decide (ds.length ≤ 5))
set_option maxHeartbeats 1600000 in
theorem implApValid_any (many : Int) (ds : List Mv) (v : Value) (w : World) (h : SlM w v ds) : Calls Try.prog 35 #[.int .i64 many, v] w fun e w' => e = .returned (.bool (apValidI many ds)) ∧ Below w.heap.size w w' := by
  obtain ⟨a, cap, rfl, h1, h2⟩ := SlM.shape h
  unfold maxLen at h2
  have H := Lib.hid h
  clear h
  have hgv : apValidI many ds = (ds.all (apOkI (wrap64 (many - 1))) && (inR many 1 8 && decide (ds.length ≤ 5))) := rfl
  generalize hq : apValidI many ds = q at hgv ⊢
  replace hgv := Lib.hid hgv
  clear hq
  go_enter Try.func35, Try.ntmps35
  go_wp2_with fail
  go_loopw [9] (fun i wr => ∃ k : Nat, k ≤ ds.length ∧ i = .int .i64 k ∧ Hid ((ds.take k).all (apOkI (wrap64 (many - 1))) = true) ∧ Below w.heap.size w wr) (fun i _ => ds.length - (intOf i).toNat)
  case atStart => exact ⟨0, Nat.zero_le _, rfl, by simp [Hid], Below.refl _ _⟩
  case round =>
    obtain ⟨k, hk, rfl, ha, hB⟩ := hrel
    by_cases hlt : k < ds.length
    · obtain ⟨g, off, cap', xa, xc, hv, _, _, c0, c1, hx, hdc, hxc⟩ := (H.out.below hB).cells k hlt
      simp only [Value.slice.injEq] at hv
      obtain ⟨rfl, -, rfl⟩ := hv
      unfold maxLen at hxc
      have hs := Lib.hid (fun hp => all_step ds (apOkI (wrap64 (many - 1))) k hlt ha.out hp)
      have hb := Lib.hid (fun hp => all_bad ds (apOkI (wrap64 (many - 1))) k hlt hp)
      generalize ds[k] = d at c0 c1 hx hs hb hdc
      have hxl : d.xs.length ≤ 9223372036854775807 := by omega
      have HX := Lib.hid (SlI.below hx (Below.al (Below.refl _ _) (.cells #[.slice xa d.xs.length xc, .int .i64 d.n] 62)))
      clear hx
      have hxa := fun o => Below.al hB o
      have hAS := fun m wx h => ascends_any d.xs 0 m (.slice xa d.xs.length xc) wx h
      cases p1 : asc d.xs 0 (wrap64 (many - 1))
      · have hf := Lib.hid (hb.out (by simp only [apOkI, p1]; rfl))
        clear hs hb
        go_wp2_with (first | (go_at_call 63; with_reducible refine (ascends_any d.xs 0 _ _ _ HX.out).mono ?_; rintro e w' ⟨rfl, rfl⟩) | (go_at_call 41; refine (in_any _ _ _ _).mono ?_; rintro e w' ⟨rfl, rfl⟩))
        go_ret
        exact ⟨by rw [hgv.out, hf.out]; rfl, hxa _⟩
      · cases p2 : inR d.n 1 (d.xs.length - 1)
        · have hf := Lib.hid (hb.out (by simp only [apOkI, p1, p2]; rfl))
          clear hs hb
          go_wp2_with (first | (go_at_call 63; with_reducible refine (ascends_any d.xs 0 _ _ _ HX.out).mono ?_; rintro e w' ⟨rfl, rfl⟩) | (go_at_call 41; refine (in_any _ _ _ _).mono ?_; rintro e w' ⟨rfl, rfl⟩))
          go_ret
          exact ⟨by rw [hgv.out, hf.out]; rfl, hxa _⟩
        · have hf := Lib.hid (hs.out (by simp only [apOkI, p1, p2]; rfl))
          clear hs hb
          go_wp2_with (first | (go_at_call 63; with_reducible refine (ascends_any d.xs 0 _ _ _ HX.out).mono ?_; rintro e w' ⟨rfl, rfl⟩) | (go_at_call 41; refine (in_any _ _ _ _).mono ?_; rintro e w' ⟨rfl, rfl⟩))
          go_roundw
          case rel => exact ⟨k + 1, by omega, by go_num, hf.out, hxa _⟩
          case measure => simp [intOf]; omega
    · have hf := Lib.hid (all_end ds (apOkI (wrap64 (many - 1))) k hlt ha.out)
      cases p3 : inR many 1 8
      · go_wp2_with ((go_at_call 41; refine (in_any _ _ _ _).mono ?_; rintro e w' ⟨rfl, rfl⟩))
        go_ret
        exact ⟨by rw [hgv.out, hf.out, p3]; rfl, hB⟩
      · go_wp2_with ((go_at_call 41; refine (in_any _ _ _ _).mono ?_; rintro e w' ⟨rfl, rfl⟩))
        go_ret
        exact ⟨by rw [hgv.out, hf.out, p3]; simp; try omega, hB⟩
def okAt (xs : List Int) (hi : Int) (j : Nat) : Bool := inR (xs.getD j 0) 0 hi && (decide (j = 0) || decide (xs.getD (j - 1) 0 < xs.getD j 0))
def apOkS (hi : Int) (d : Mv) : Bool := (List.range d.xs.length).all (okAt d.xs hi) && inR d.n 1 (d.xs.length - 1)
def apValidS (many : Int) (ds : List Mv) : Bool := ds.all (apOkS (wrap64 (many - 1))) && (inR many 1 8 && decide (ds.length ≤ 5))
theorem okAt_bad {d : Mv} {hi : Int} (j : Nat) (h : j < d.xs.length) (hp : okAt d.xs hi j = false) : apOkS hi d = false := by
  have : (List.range d.xs.length).all (okAt d.xs hi) = false := List.all_eq_false.2 ⟨j, by simpa using h, by simp [hp]⟩
  rw [apOkS, this]
  rfl
theorem okAt_all {d : Mv} {hi : Int} (h : ∀ i, i < d.xs.length → okAt d.xs hi i = true) : apOkS hi d = inR d.n 1 (d.xs.length - 1) := by
  have : (List.range d.xs.length).all (okAt d.xs hi) = true := List.all_eq_true.2 (fun i hi => h i (by simpa using hi))
  rw [apOkS, this]
  rfl
theorem getD_at (xs : List Int) (j : Nat) (h : j < xs.length) : xs.getD j 0 = xs[j] := by simp [h]
set_option maxHeartbeats 3200000 in
theorem specApValid_any (many : Int) (ds : List Mv) (v : Value) (w : World) (h : SlM w v ds) : Calls Try.prog 33 #[.int .i64 many, v] w fun e w' => e = .returned (.bool (apValidS many ds)) ∧ Below w.heap.size w w' := by
  obtain ⟨a, cap, rfl, h1, h2⟩ := SlM.shape h
  unfold maxLen at h2
  have H := Lib.hid h
  clear h
  have hgv : apValidS many ds = (ds.all (apOkS (wrap64 (many - 1))) && (inR many 1 8 && decide (ds.length ≤ 5))) := rfl
  generalize hq : apValidS many ds = q at hgv ⊢
  obtain ⟨hi, hhi⟩ : ∃ hi, wrap64 (many - 1) = hi := ⟨_, rfl⟩
  have hhi2 : IntKind.i64.wrap (many - 1) = hi := (IntWalk.i64_left _).trans hhi
  rw [hhi] at hgv
  replace hgv := Lib.hid hgv
  clear hq
  go_enter Try.func33, Try.ntmps33
  go_wp2_with fail
  go_loopw [5] (fun i wr => ∃ k : Nat, k ≤ ds.length ∧ i = .int .i64 k ∧ Hid ((ds.take k).all (apOkS hi) = true) ∧ Below w.heap.size w wr) (fun i _ => ds.length - (intOf i).toNat)
  case atStart => exact ⟨0, Nat.zero_le _, rfl, by simp [Hid], Below.refl _ _⟩
  case round =>
    obtain ⟨k, hk, rfl, ha, hB⟩ := hrel
    by_cases hlt : k < ds.length
    · have hs := Lib.hid (fun hp => all_step ds (apOkS hi) k hlt ha.out hp)
      have hb := Lib.hid (fun hp => all_bad ds (apOkS hi) k hlt hp)
      obtain ⟨d, hd⟩ : ∃ d, ds[k] = d := ⟨_, rfl⟩
      rw [hd] at hs hb
      have HD := Lib.hid hd
      clear hd
      go_wp2_with fail
      go_loopw [6] (fun i wx => ∃ j : Nat, j ≤ d.xs.length ∧ i = .int .i64 j ∧ Hid (∀ i, i < j → okAt d.xs hi i = true) ∧ Below w.heap.size w wx) (fun i _ => d.xs.length - (intOf i).toNat)
      case atStart => exact ⟨0, Nat.zero_le _, rfl, by intro i hi; omega, hB⟩
      case round =>
        obtain ⟨j, hj, rfl, hok, hBx⟩ := hrel
        obtain ⟨g, off, cap', xa, xc, hv, _, _, c0, c1, hx, hdc, hxc⟩ := (H.out.below hBx).cells k hlt
        simp only [Value.slice.injEq] at hv
        obtain ⟨rfl, -, rfl⟩ := hv
        unfold maxLen at hxc
        rw [HD.out] at c0 c1 hx hdc
        have hxl : d.xs.length ≤ 9223372036854775807 := by omega
        by_cases hlj : j < d.xs.length
        · obtain ⟨xg, xo, xcap, hv, _, _, cx⟩ := SlI.cell hx j hlj
          simp only [Value.slice.injEq] at hv
          obtain ⟨rfl, -, rfl⟩ := hv
          have hgx := Lib.hid (getD_at d.xs j hlj)
          obtain ⟨x, hxe⟩ : ∃ x, d.xs[j] = x := ⟨_, rfl⟩
          rw [hxe] at cx
          have HXE := Lib.hid hxe
          clear hxe
          have HX := Lib.hid hx
          clear hx
          cases p1 : inR x 0 hi
          · have hf := Lib.hid (hb.out (okAt_bad j hlj (by rw [okAt, hgx.out, HXE.out, p1]; rfl)))
            go_wp2_with fail
            go_quiet ((go_at_call 39; exact Calls.quiet_of_same (l1Quiet _ _ _ _)))
            go_wp2_with fail
            go_ret
            exact ⟨by rw [hgv.out, hf.out]; rfl, Below.dn hBx _⟩
          · by_cases hj0 : 0 < j
            · obtain ⟨xg2, xo2, xcap2, hv, _, _, cy⟩ := SlI.cell HX.out (j - 1) (by omega)
              simp only [Value.slice.injEq, Option.some.injEq, Addr.mk.injEq, true_and, and_true] at hv
              obtain ⟨⟨rfl, rfl⟩, rfl⟩ := hv
              have hgy := Lib.hid (getD_at d.xs (j - 1) (by omega))
              obtain ⟨y, hye⟩ : ∃ y, d.xs[j - 1] = y := ⟨_, rfl⟩
              rw [hye] at cy
              have HYE := Lib.hid hye
              clear hye
              have hjd : decide (0 < (j : Int)) = true := by simp; omega
              cases p2 : decide (x ≤ y)
              · have hf := Lib.hid (show okAt d.xs hi j = true from by
                  rw [okAt, hgx.out, hgy.out, HXE.out, HYE.out, p1]
                  have hp : ¬ x ≤ y := by simpa using p2
                  simp; omega)
                go_wp2_with fail
                go_quiet ((go_at_call 39; exact Calls.quiet_of_same (l1Quiet _ _ _ _)))
                go_wp2_with fail
                go_roundw
                case rel =>
                  refine ⟨j + 1, by omega, by go_num, ?_, Below.dn hBx _⟩
                  intro i hi2
                  rcases Nat.lt_succ_iff_lt_or_eq.1 hi2 with hi3 | rfl
                  · exact hok.out i hi3
                  · exact hf.out
                case measure => simp [intOf]; omega
              · have hf := Lib.hid (hb.out (okAt_bad j hlj (by
                  rw [okAt, hgx.out, hgy.out, HXE.out, HYE.out, p1]
                  have hp : x ≤ y := by simpa using p2
                  simp; omega)))
                go_wp2_with fail
                go_quiet ((go_at_call 39; exact Calls.quiet_of_same (l1Quiet _ _ _ _)))
                go_wp2_with fail
                go_ret
                exact ⟨by rw [hgv.out, hf.out]; rfl, Below.dn hBx _⟩
            · have hj00 : j = 0 := by omega
              have hf := Lib.hid (show okAt d.xs hi j = true from by rw [okAt, hgx.out, HXE.out, p1, hj00]; rfl)
              have hjd : decide (0 < (j : Int)) = false := by simp; omega
              clear hj00
              go_wp2_with fail
              go_quiet ((go_at_call 39; exact Calls.quiet_of_same (l1Quiet _ _ _ _)))
              go_wp2_with fail
              go_roundw
              case rel =>
                refine ⟨j + 1, by omega, by go_num, ?_, Below.dn hBx _⟩
                intro i hi2
                rcases Nat.lt_succ_iff_lt_or_eq.1 hi2 with hi3 | rfl
                · exact hok.out i hi3
                · exact hf.out
              case measure => simp [intOf]; omega
        · have hall := Lib.hid (okAt_all (fun i hi2 => hok.out i (by omega)))
          clear hx
          cases p2 : inR d.n 1 (d.xs.length - 1)
          · have hf := Lib.hid (hb.out (by rw [hall.out, p2]))
            go_wp2_with fail
            go_quiet ((go_at_call 39; exact Calls.quiet_of_same (l1Quiet _ _ _ _)))
            go_wp2_with fail
            go_ret
            exact ⟨by rw [hgv.out, hf.out]; rfl, Below.dn hBx _⟩
          · have hf := Lib.hid (hs.out (by rw [hall.out, p2]))
            go_wp2_with fail
            go_quiet ((go_at_call 39; exact Calls.quiet_of_same (l1Quiet _ _ _ _)))
            go_wp2_with fail
            go_roundw
            case rel => exact ⟨k + 1, by omega, by go_num, hf.out, Below.dn hBx _⟩
            case measure => simp [intOf]; omega
    · have hf := Lib.hid (all_end ds (apOkS hi) k hlt ha.out)
      cases p3 : inR many 1 8
      · go_wp2_with ((go_at_call 39; refine (l1In_any _ _ _ _).mono ?_; rintro e w' ⟨rfl, rfl⟩))
        go_ret
        exact ⟨by rw [hgv.out, hf.out, p3]; rfl, hB⟩
      · go_wp2_with ((go_at_call 39; refine (l1In_any _ _ _ _).mono ?_; rintro e w' ⟨rfl, rfl⟩))
        go_ret
        exact ⟨by rw [hgv.out, hf.out, p3]; simp; try omega, hB⟩
end Go.Proofs.Ytfghgpdhcpcoiaa
