/-
  Valid moves: the program's and the reference's look. No condition.
-/
import Derived.Test.YtfghgpdhcpcoiaaJmo
import Derived.Test.YtfghgpdhcpcoiaaCf
import Derived.IntWalk
set_option linter.unusedSimpArgs false
set_option linter.unusedVariables false
namespace Go.Proofs.Ytfghgpdhcpcoiaa
open Go.RowKit
theorem l1QuietM (n lo hi : Int) (w : World) : Calls Try.prog 39 #[.int .i64 n, .int .i64 lo, .int .i64 hi] w fun e w' => e = .returned (.bool (inR n lo hi)) ∧ w' = w := (l1In_any n lo hi w).mono fun e w' h => ⟨h.1, h.2.symm⟩
theorem moClos_any (n many : Int) (b : Nat) (w : World) (h : w.cell? ⟨b, 0, none⟩ = some (.int .i64 many)) : Calls Try.prog 43 #[.int .i64 n, .pointer (some ⟨b, 0, none⟩)] w fun e w' => e = .returned (.bool (!inR n 0 (wrap64 (many - 1)))) ∧ w = w' := by
  go_enter Try.func43, Try.ntmps43
  go_wp2_with ((go_at_call 41; refine (in_any _ _ _ _).mono ?_; rintro e w' ⟨rfl, rfl⟩))
  go_ret
  exact ⟨rfl, rfl⟩
def mvOkI (hi : Int) (d : Mv) : Bool := !decide (6 < (d.xs.length : Int)) && inR d.n 0 hi && !(d.xs.any (fun n => !inR n 0 hi))
def mvValidI (many : Int) (ds : List Mv) : Bool := ds.all (mvOkI (wrap64 (many - 1))) && (inR many 1 6 && decide (ds.length ≤ 12))
set_option maxHeartbeats 1600000 in
theorem implMvValid_any (many : Int) (ds : List Mv) (v : Value) (w : World) (h : SlM w v ds) : Calls Try.prog 14 #[.int .i64 many, v] w fun e w' => e = .returned (.bool (mvValidI many ds)) ∧ Below w.heap.size w w' := by
  obtain ⟨a, cap, rfl, h1, h2⟩ := SlM.shape h
  unfold maxLen at h2
  have H := Lib.hid h
  clear h
  have hgv : mvValidI many ds = (ds.all (mvOkI (wrap64 (many - 1))) && (inR many 1 6 && decide (ds.length ≤ 12))) := rfl
  generalize hq : mvValidI many ds = q at hgv ⊢
  replace hgv := Lib.hid hgv
  clear hq
  have hmf : ∀ (fn : Fn) (first cap : Array Value) (w : World), (Instr.makeFunc fn first cap).run Try.prog w = .ok (.func fn first cap) w := fun _ _ _ _ => rfl
  have KB := Lib.hid (Bk.new (w := w) (vs := #[.int .i64 many]) (t := 3))
  go_enter Try.func14, Try.ntmps14
  go_wp2_with fail
  go_loopw [9] (fun i wr => ∃ k : Nat, k ≤ ds.length ∧ i = .int .i64 k ∧ Hid ((ds.take k).all (mvOkI (wrap64 (many - 1))) = true) ∧ Bk wr w.heap.size #[.int .i64 many] 3 ∧ Below w.heap.size w wr) (fun i _ => ds.length - (intOf i).toNat)
  case atStart => exact ⟨0, Nat.zero_le _, rfl, by simp [Hid], KB.out, Below.al (Below.refl _ _) _⟩
  case round =>
    obtain ⟨k, hk, rfl, ha, kb, hB⟩ := hrel
    have xb := kb.cell
    have yb := kb.lt
    by_cases hlt : k < ds.length
    · obtain ⟨g, off, cap', xa, xc, hv, _, _, c0, c1, hx, hdc, hxc⟩ := (H.out.below hB).cells k hlt
      simp only [Value.slice.injEq] at hv
      obtain ⟨rfl, -, rfl⟩ := hv
      unfold maxLen at hxc
      have hs := Lib.hid (fun hp => all_step ds (mvOkI (wrap64 (many - 1))) k hlt ha.out hp)
      have hb := Lib.hid (fun hp => all_bad ds (mvOkI (wrap64 (many - 1))) k hlt hp)
      generalize ds[k] = d at c0 c1 hx hs hb hdc
      have hxl : d.xs.length ≤ 9223372036854775807 := by omega
      have HX := Lib.hid (SlI.below hx (Below.al (Below.refl _ _) (.cells #[.slice xa d.xs.length xc, .int .i64 d.n] 34)))
      clear hx
      have hxa := fun o => Below.al hB o
      have kn := kb.alloc (.cells #[.slice xa d.xs.length xc, .int .i64 d.n] 34)
      have HC := fun wx (hm : wx.cell? ⟨w.heap.size, 0, none⟩ = some (.int .i64 many)) (h : SlI wx (.slice xa d.xs.length xc) d.xs) => containsInts1_any (.pointer (some ⟨w.heap.size, 0, none⟩)) (fun n => !inR n 0 (wrap64 (many - 1))) d.xs (.slice xa d.xs.length xc) wx h (fun n _ => moClos_any n many w.heap.size wx hm)
      have HM := Lib.hid (show (wr.alloc (.cells #[.slice xa d.xs.length xc, .int .i64 d.n] 34)).cell? ⟨w.heap.size, 0, none⟩ = some (.int .i64 many) from (kn.cell 0).trans rfl)
      have hok : mvOkI (wrap64 (many - 1)) d = (!decide (6 < (d.xs.length : Int)) && inR d.n 0 (wrap64 (many - 1)) && !(d.xs.any (fun n => !inR n 0 (wrap64 (many - 1))))) := rfl
      generalize d.xs.any (fun n => !inR n 0 (wrap64 (many - 1))) = q3 at HC hok
      have HOK := Lib.hid hok
      clear hok kn
      cases p1 : decide (6 < (d.xs.length : Int))
      · cases p2 : inR d.n 0 (wrap64 (many - 1))
        · have hf := Lib.hid (hb.out (by rw [HOK.out]; simp [p1, p2]))
          clear hs hb
          go_wp2_with (first | (go_at_call 41; refine (in_any _ _ _ _).mono ?_; rintro e w' ⟨rfl, rfl⟩) | (go_at_call 42; with_reducible refine (HC _ HM.out HX.out).mono ?_; rintro e w' ⟨rfl, rfl⟩))
          go_ret
          exact ⟨by rw [hgv.out, hf.out]; rfl, hxa _⟩
        · cases q3
          · have hf := Lib.hid (hs.out (by rw [HOK.out]; simp [p1, p2]))
            clear hs hb
            go_wp2_with (first | (go_at_call 41; refine (in_any _ _ _ _).mono ?_; rintro e w' ⟨rfl, rfl⟩) | (go_at_call 42; with_reducible refine (HC _ HM.out HX.out).mono ?_; rintro e w' ⟨rfl, rfl⟩))
            go_roundw
            case rel => exact ⟨k + 1, by omega, by go_num, hf.out, kb.alloc _, hxa _⟩
            case measure => simp [intOf]; omega
          · have hf := Lib.hid (hb.out (by rw [HOK.out]; simp [p1, p2]))
            clear hs hb
            go_wp2_with (first | (go_at_call 41; refine (in_any _ _ _ _).mono ?_; rintro e w' ⟨rfl, rfl⟩) | (go_at_call 42; with_reducible refine (HC _ HM.out HX.out).mono ?_; rintro e w' ⟨rfl, rfl⟩))
            go_ret
            exact ⟨by rw [hgv.out, hf.out]; rfl, hxa _⟩
      · have hf := Lib.hid (hb.out (by rw [HOK.out]; simp [p1]))
        clear hs hb
        go_wp2_with (first | (go_at_call 41; refine (in_any _ _ _ _).mono ?_; rintro e w' ⟨rfl, rfl⟩) | (go_at_call 42; with_reducible refine (HC _ HM.out HX.out).mono ?_; rintro e w' ⟨rfl, rfl⟩))
        go_ret
        exact ⟨by rw [hgv.out, hf.out]; rfl, hxa _⟩
    · have hf := Lib.hid (all_end ds (mvOkI (wrap64 (many - 1))) k hlt ha.out)
      cases p3 : inR many 1 6
      · go_wp2_with ((go_at_call 41; refine (in_any _ _ _ _).mono ?_; rintro e w' ⟨rfl, rfl⟩))
        go_ret
        exact ⟨by rw [hgv.out, hf.out, p3]; rfl, hB⟩
      · go_wp2_with ((go_at_call 41; refine (in_any _ _ _ _).mono ?_; rintro e w' ⟨rfl, rfl⟩))
        go_ret
        exact ⟨by rw [hgv.out, hf.out, p3]; simp; try omega, hB⟩
def mvAt (hi : Int) (d : Mv) (n : Int) : Bool := inR n 0 hi && !decide (6 < (d.xs.length : Int))
def mvOkS (hi : Int) (d : Mv) : Bool := d.xs.all (mvAt hi d) && inR d.n 0 hi
theorem mvOk_eq (hi : Int) (d : Mv) : mvOkI hi d = mvOkS hi d := by
  unfold mvOkI mvOkS
  have hany : (!(d.xs.any (fun n => !inR n 0 hi))) = d.xs.all (fun n => inR n 0 hi) := by
    rw [List.not_any_eq_all_not]; simp
  rw [hany]
  by_cases hl : 6 < (d.xs.length : Int)
  · have : d.xs.all (mvAt hi d) = false := by
      rw [List.all_eq_false]
      exact ⟨d.xs[0]'(by omega), List.getElem_mem _, by simp [mvAt, hl]⟩
    rw [this]
    simp [hl]
  · have : d.xs.all (mvAt hi d) = d.xs.all (fun n => inR n 0 hi) := by
      congr 1
      funext n
      simp only [mvAt, decide_eq_false hl]
      simp
    rw [this, decide_eq_false hl]
    simp [Bool.and_comm]
def mvValidS (many : Int) (ds : List Mv) : Bool := ds.all (mvOkS (wrap64 (many - 1))) && (inR many 1 6 && decide (ds.length ≤ 12))
theorem mvValid_eq (many : Int) (ds : List Mv) : mvValidI many ds = mvValidS many ds := by
  unfold mvValidI mvValidS
  have : mvOkI (wrap64 (many - 1)) = mvOkS (wrap64 (many - 1)) := funext fun d => mvOk_eq _ d
  rw [this]
set_option maxHeartbeats 3200000 in
theorem specMvValid_any (many : Int) (ds : List Mv) (v : Value) (w : World) (h : SlM w v ds) : Calls Try.prog 12 #[.int .i64 many, v] w fun e w' => e = .returned (.bool (mvValidS many ds)) ∧ Below w.heap.size w w' := by
  obtain ⟨a, cap, rfl, h1, h2⟩ := SlM.shape h
  unfold maxLen at h2
  have H := Lib.hid h
  clear h
  have hgv : mvValidS many ds = (ds.all (mvOkS (wrap64 (many - 1))) && (inR many 1 6 && decide (ds.length ≤ 12))) := rfl
  generalize hq : mvValidS many ds = q at hgv ⊢
  obtain ⟨hi, hhi⟩ : ∃ hi, wrap64 (many - 1) = hi := ⟨_, rfl⟩
  have hhi2 : IntKind.i64.wrap (many - 1) = hi := (IntWalk.i64_left _).trans hhi
  rw [hhi] at hgv
  replace hgv := Lib.hid hgv
  clear hq
  go_enter Try.func12, Try.ntmps12
  go_wp2_with fail
  go_loopw [5] (fun i wr => ∃ k : Nat, k ≤ ds.length ∧ i = .int .i64 k ∧ Hid ((ds.take k).all (mvOkS hi) = true) ∧ Below w.heap.size w wr) (fun i _ => ds.length - (intOf i).toNat)
  case atStart => exact ⟨0, Nat.zero_le _, rfl, by simp [Hid], Below.refl _ _⟩
  case round =>
    obtain ⟨k, hk, rfl, ha, hB⟩ := hrel
    by_cases hlt : k < ds.length
    · have hs := Lib.hid (fun hp => all_step ds (mvOkS hi) k hlt ha.out hp)
      have hb := Lib.hid (fun hp => all_bad ds (mvOkS hi) k hlt hp)
      obtain ⟨d, hd⟩ : ∃ d, ds[k] = d := ⟨_, rfl⟩
      rw [hd] at hs hb
      have HD := Lib.hid hd
      clear hd
      go_wp2_with fail
      go_loopw [6] (fun i wx => ∃ j : Nat, j ≤ d.xs.length ∧ i = .int .i64 j ∧ Hid ((d.xs.take j).all (mvAt hi d) = true) ∧ Below w.heap.size w wx) (fun i _ => d.xs.length - (intOf i).toNat)
      case atStart => exact ⟨0, Nat.zero_le _, rfl, by simp [Hid], hB⟩
      case round =>
        obtain ⟨j, hj, rfl, hok, hBx⟩ := hrel
        obtain ⟨g, off, cap', xa, xc, hv, _, _, c0, c1, hx, hdc, hxc⟩ := (H.out.below hBx).cells k hlt
        simp only [Value.slice.injEq] at hv
        obtain ⟨rfl, -, rfl⟩ := hv
        unfold maxLen at hxc
        rw [HD.out] at c0 c1 hx hdc
        have hxl : d.xs.length ≤ 9223372036854775807 := by omega
        by_cases hlj : j < d.xs.length
        · obtain ⟨xg, xo, xcap, hv, _, _, cx⟩ := SlI.cell hx j hlj
          simp only [Value.slice.injEq] at hv
          obtain ⟨rfl, -, rfl⟩ := hv
          have hs2 := Lib.hid (fun hp => all_step d.xs (mvAt hi d) j hlj hok.out hp)
          have hb2 := Lib.hid (fun hp => all_bad d.xs (mvAt hi d) j hlj hp)
          generalize d.xs[j] = x at cx hs2 hb2
          clear hx
          cases p1 : inR x 0 hi
          · have hf := Lib.hid (hb.out (by rw [mvOkS, hb2.out (by rw [mvAt, p1]; rfl)]; rfl))
            go_wp2_with ((go_at_call 39; refine (l1In_any _ _ _ _).mono ?_; rintro e w' ⟨rfl, rfl⟩))
            go_ret
            exact ⟨by rw [hgv.out, hf.out]; rfl, hBx⟩
          · cases p2 : decide (6 < (d.xs.length : Int))
            · have hf := Lib.hid (hs2.out (by rw [mvAt, p1, p2]; rfl))
              go_wp2_with ((go_at_call 39; refine (l1In_any _ _ _ _).mono ?_; rintro e w' ⟨rfl, rfl⟩))
              go_roundw
              case rel => exact ⟨j + 1, by omega, by go_num, hf.out, hBx⟩
              case measure => simp [intOf]; omega
            · have hf := Lib.hid (hb.out (by rw [mvOkS, hb2.out (by rw [mvAt, p1, p2]; rfl)]; rfl))
              go_wp2_with ((go_at_call 39; refine (l1In_any _ _ _ _).mono ?_; rintro e w' ⟨rfl, rfl⟩))
              go_ret
              exact ⟨by rw [hgv.out, hf.out]; rfl, hBx⟩
        · have hall := Lib.hid (all_end d.xs (mvAt hi d) j hlj hok.out)
          clear hx
          cases p2 : inR d.n 0 hi
          · have hf := Lib.hid (hb.out (by rw [mvOkS, hall.out, p2]; rfl))
            go_wp2_with ((go_at_call 39; refine (l1In_any _ _ _ _).mono ?_; rintro e w' ⟨rfl, rfl⟩))
            go_ret
            exact ⟨by rw [hgv.out, hf.out]; rfl, hBx⟩
          · have hf := Lib.hid (hs.out (by rw [mvOkS, hall.out, p2]; rfl))
            go_wp2_with ((go_at_call 39; refine (l1In_any _ _ _ _).mono ?_; rintro e w' ⟨rfl, rfl⟩))
            go_roundw
            case rel => exact ⟨k + 1, by omega, by go_num, hf.out, hBx⟩
            case measure => simp [intOf]; omega
    · have hf := Lib.hid (all_end ds (mvOkS hi) k hlt ha.out)
      cases p3 : inR many 1 6
      · go_wp2_with ((go_at_call 39; refine (l1In_any _ _ _ _).mono ?_; rintro e w' ⟨rfl, rfl⟩))
        go_ret
        exact ⟨by rw [hgv.out, hf.out, p3]; rfl, hB⟩
      · go_wp2_with ((go_at_call 39; refine (l1In_any _ _ _ _).mono ?_; rintro e w' ⟨rfl, rfl⟩))
        go_ret
        exact ⟨by rw [hgv.out, hf.out, p3]; simp; try omega, hB⟩
end Go.Proofs.Ytfghgpdhcpcoiaa
