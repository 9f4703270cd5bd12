/-
  Seals of tickets: the program's and the reference's. No condition.
-/
import Derived.Test.YtnkfhfhioknjeaaK
set_option linter.unusedSimpArgs false
set_option linter.unusedVariables false
namespace Go.Proofs.Ytnkfhfhioknjeaa
open Go.RowKit
/-- A ticket that can be sealed. -/
def tkOk (key who until_ : Int) (acts : List Int) : Bool := inR key 0 99999 && inR who 0 6 && inR until_ 0 1000 && inR (acts.length : Int) 1 5 && acts.all actOk
def sealOf (key who until_ : Int) (acts : List Int) : Int := if tkOk key who until_ acts then sealFold (mixN (mixN key who) until_) acts else -1
theorem sealOf_bad (key who until_ : Int) (acts : List Int) (h : tkOk key who until_ acts = false) : sealOf key who until_ acts = -1 := by rw [sealOf, h]; rfl
theorem sealOf_ok (key who until_ : Int) (acts : List Int) (h : tkOk key who until_ acts = true) : sealOf key who until_ acts = sealFold (mixN (mixN key who) until_) acts := by rw [sealOf, h]; rfl
theorem act_bd {acts : List Int} (h : acts.all actOk = true) : ∀ n ∈ acts, 0 ≤ n ∧ n ≤ 1000 := fun n hn => by
  have := List.all_eq_true.mp h n hn
  simp only [actOk, inR_iff] at this
  omega
theorem slI_new {w : World} {b : Nat} {t : Nat} {ns : List Int} (h : Bk w b (cellsI ns).toArray t) (hl : ns.length ≤ 1000) : SlI w (.slice (some ⟨b, 0, none⟩) ns.length ns.length) ns := by
  refine ⟨by rw [cellsI_len, Nat.mul_one], some ⟨b, 0, none⟩, ns.length, rfl, Nat.le_refl _, by unfold maxLen; omega, .inr ⟨b, 0, rfl, fun j hj => ?_⟩⟩
  rw [h.cell]
  simp
theorem bk_at {W : World} {vs : Array Value} {t g : Nat} (hg : W.heap.size = g) : Bk (W.alloc (.cells vs t)) g vs t := by subst hg; exact Bk.new
theorem slI_two {w : World} {b : Nat} {t : Nat} {x y : Int} (h : Bk w b #[.int .i64 x, .int .i64 y] t) : SlI w (.slice (some ⟨b, 0, none⟩) 2 2) [x, y] := slI_new (ns := [x, y]) h (by simp)
theorem slI_one {w : World} {b : Nat} {t : Nat} {x : Int} (h : Bk w b #[.int .i64 x] t) : SlI w (.slice (some ⟨b, 0, none⟩) 1 1) [x] := slI_new (ns := [x]) h (by simp)

set_option maxHeartbeats 1600000 in
theorem implSeal_any (key who until_ sl : Int) (acts : List Int) (v : Value) (w : World) (h : SlI w v acts) : Calls Try.prog 14 #[.int .i64 key, .agg #[.int .i64 who, v, .int .i64 until_, .int .i64 sl]] w fun e w' => e = .returned (.int .i64 (sealOf key who until_ acts)) ∧ Below w.heap.size w w' := by
  obtain ⟨a, cap, rfl, h1, h2⟩ := SlF.shape h
  unfold maxLen at h2
  have H := Lib.hid h
  clear h
  cases p1 : inR key 0 99999
  · have hf := Lib.hid (sealOf_bad key who until_ acts (by simp only [tkOk, p1]; rfl))
    go_enter Try.func14, Try.ntmps14
    go_wp2_with (first | (go_at_call 34; refine (in_any _ _ _ _).mono ?_; rintro e w' ⟨rfl, rfl⟩) | (go_at_call 35; refine (isPersonT_any _ _).mono ?_; rintro e w' ⟨rfl, rfl⟩) | (go_at_call 36; refine (isTimeT_any _ _).mono ?_; rintro e w' ⟨rfl, rfl⟩) | (go_at_call 37; refine (actsValid_any acts _ _ (H.out.below (Below.al (Below.refl _ _) _))).mono ?_; rintro e w' ⟨rfl, rfl⟩))
    go_ret
    exact ⟨by rw [hf.out]; rfl, Below.al (Below.refl _ _) _⟩
  · cases p2 : inR who 0 6
    · have hf := Lib.hid (sealOf_bad key who until_ acts (by simp only [tkOk, p1, p2]; rfl))
      go_enter Try.func14, Try.ntmps14
      go_wp2_with (first | (go_at_call 34; refine (in_any _ _ _ _).mono ?_; rintro e w' ⟨rfl, rfl⟩) | (go_at_call 35; refine (isPersonT_any _ _).mono ?_; rintro e w' ⟨rfl, rfl⟩) | (go_at_call 36; refine (isTimeT_any _ _).mono ?_; rintro e w' ⟨rfl, rfl⟩) | (go_at_call 37; refine (actsValid_any acts _ _ (H.out.below (Below.al (Below.refl _ _) _))).mono ?_; rintro e w' ⟨rfl, rfl⟩))
      go_ret
      exact ⟨by rw [hf.out]; rfl, Below.al (Below.refl _ _) _⟩
    · cases p3 : inR until_ 0 1000
      · have hf := Lib.hid (sealOf_bad key who until_ acts (by simp only [tkOk, p1, p2, p3]; rfl))
        go_enter Try.func14, Try.ntmps14
        go_wp2_with (first | (go_at_call 34; refine (in_any _ _ _ _).mono ?_; rintro e w' ⟨rfl, rfl⟩) | (go_at_call 35; refine (isPersonT_any _ _).mono ?_; rintro e w' ⟨rfl, rfl⟩) | (go_at_call 36; refine (isTimeT_any _ _).mono ?_; rintro e w' ⟨rfl, rfl⟩) | (go_at_call 37; refine (actsValid_any acts _ _ (H.out.below (Below.al (Below.refl _ _) _))).mono ?_; rintro e w' ⟨rfl, rfl⟩))
        go_ret
        exact ⟨by rw [hf.out]; rfl, Below.al (Below.refl _ _) _⟩
      · cases p4 : inR (acts.length : Int) 1 5
        · have hf := Lib.hid (sealOf_bad key who until_ acts (by simp only [tkOk, p1, p2, p3, p4]; rfl))
          go_enter Try.func14, Try.ntmps14
          go_wp2_with (first | (go_at_call 34; refine (in_any _ _ _ _).mono ?_; rintro e w' ⟨rfl, rfl⟩) | (go_at_call 35; refine (isPersonT_any _ _).mono ?_; rintro e w' ⟨rfl, rfl⟩) | (go_at_call 36; refine (isTimeT_any _ _).mono ?_; rintro e w' ⟨rfl, rfl⟩) | (go_at_call 37; refine (actsValid_any acts _ _ (H.out.below (Below.al (Below.refl _ _) _))).mono ?_; rintro e w' ⟨rfl, rfl⟩))
          go_ret
          exact ⟨by rw [hf.out]; rfl, Below.al (Below.refl _ _) _⟩
        · cases p5 : acts.all actOk
          · have hf := Lib.hid (sealOf_bad key who until_ acts (by simp only [tkOk, p1, p2, p3, p4, p5]; rfl))
            go_enter Try.func14, Try.ntmps14
            go_wp2_with (first | (go_at_call 34; refine (in_any _ _ _ _).mono ?_; rintro e w' ⟨rfl, rfl⟩) | (go_at_call 35; refine (isPersonT_any _ _).mono ?_; rintro e w' ⟨rfl, rfl⟩) | (go_at_call 36; refine (isTimeT_any _ _).mono ?_; rintro e w' ⟨rfl, rfl⟩) | (go_at_call 37; refine (actsValid_any acts _ _ (H.out.below (Below.al (Below.refl _ _) _))).mono ?_; rintro e w' ⟨rfl, rfl⟩))
            go_ret
            exact ⟨by rw [hf.out]; rfl, Below.al (Below.refl _ _) _⟩
          · have hf := Lib.hid (sealOf_ok key who until_ acts (by simp only [tkOk, p1, p2, p3, p4, p5]; rfl))
            obtain ⟨k0, k9⟩ := (inR_iff _ _ _).mp p1
            obtain ⟨q0, q9⟩ := (inR_iff _ _ _).mp p2
            obtain ⟨u0, u9⟩ := (inR_iff _ _ _).mp p3
            have hA := Lib.hid (act_bd p5)
            have k1 := Bk.new (w := w) (vs := #[.int .i64 who, .slice a acts.length cap, .int .i64 until_, .int .i64 sl]) (t := 27)
            have x1 := k1.cell
            go_enter Try.func14, Try.ntmps14
            go_wp2_with (first | (go_at_call 34; refine (in_any _ _ _ _).mono ?_; rintro e w' ⟨rfl, rfl⟩) | (go_at_call 35; refine (isPersonT_any _ _).mono ?_; rintro e w' ⟨rfl, rfl⟩) | (go_at_call 36; refine (isTimeT_any _ _).mono ?_; rintro e w' ⟨rfl, rfl⟩) | (go_at_call 37; refine (actsValid_any acts _ _ (H.out.below (Below.al (Below.refl _ _) _))).mono ?_; rintro e w' ⟨rfl, rfl⟩))
            have m1 := mixN_bd key who
            have m2 := mixN_bd (mixN key who) until_
            have HQ := Lib.hid (show ∀ n ∈ [who, until_], 0 ≤ n ∧ n ≤ 1000 from by intro n hn; simp at hn; omega)
            have k8 : key ≤ 1000002 := by omega
            have g0 : 0 ≤ sealFold key [who, until_] := m2.1
            have g1 : sealFold key [who, until_] ≤ 1000002 := by have := m2.2; show mixN (mixN key who) until_ ≤ _; omega
            clear m1 m2
            go_region_held3 (fun w' => (∀ o, w'.cell? ⟨w.heap.size, o, none⟩ = (#[.int .i64 who, .slice a acts.length cap, .int .i64 until_, .int .i64 sl] : Array Value)[o]?) ∧ Below w.heap.size w w') (exact ⟨(Bk.below k1 (by (repeat' first | (with_reducible exact Below.refl _ _) | (with_reducible refine Below.rd (by assumption) ?_ ?_) | (with_reducible refine Below.via (by assumption) ?_) | (with_reducible refine Below.al ?_ _) | (with_reducible refine Below.dn ?_ _) | (with_reducible refine Below.dr ?_) | (with_reducible refine Below.setCell ?_ ?_ _) | (dsimp only; omega) | (simp only [World.size_alloc, World.size_drew]; omega) | (simp; done) | omega))).cell, by (repeat' first | (with_reducible exact Below.refl _ _) | (with_reducible refine Below.rd (by assumption) ?_ ?_) | (with_reducible refine Below.via (by assumption) ?_) | (with_reducible refine Below.al ?_ _) | (with_reducible refine Below.dn ?_ _) | (with_reducible refine Below.dr ?_) | (with_reducible refine Below.setCell ?_ ?_ _) | (dsimp only; omega) | (simp only [World.size_alloc, World.size_drew]; omega) | (simp; done) | omega)⟩)
              (first | (go_at_call 38; (with_reducible refine (sealNext_any key [who, until_] _ _ ?_ k0 k8 HQ.out).mono ?_); (refine slI_two (t := 3) ?_; first | exact Bk.drew (bk_at (by simp)) | exact bk_at (by simp)); rintro e w' ⟨rfl, rfl⟩) | (go_at_call 38; (with_reducible refine (sealNext_any _ acts _ _ ?_ g0 g1 hA.out).mono ?_); (refine H.out.below ?_; (repeat' first | (with_reducible exact Below.refl _ _) | (with_reducible refine Below.rd (by assumption) ?_ ?_) | (with_reducible refine Below.via (by assumption) ?_) | (with_reducible refine Below.al ?_ _) | (with_reducible refine Below.dn ?_ _) | (with_reducible refine Below.dr ?_) | (with_reducible refine Below.setCell ?_ ?_ _) | (dsimp only; omega) | (simp only [World.size_alloc, World.size_drew]; omega) | (simp; done) | omega)); rintro e w' ⟨rfl, rfl⟩))
            go_wp2_with fail
            go_ret
            exact ⟨by rw [hf.out]; rfl, by (repeat' first | (with_reducible exact Below.refl _ _) | (with_reducible refine Below.rd (by assumption) ?_ ?_) | (with_reducible refine Below.via (by assumption) ?_) | (with_reducible refine Below.al ?_ _) | (with_reducible refine Below.dn ?_ _) | (with_reducible refine Below.dr ?_) | (with_reducible refine Below.setCell ?_ ?_ _) | (dsimp only; omega) | (simp only [World.size_alloc, World.size_drew]; omega) | (simp; done) | omega)⟩
set_option maxHeartbeats 1600000 in
theorem specSeal_any (key who until_ sl : Int) (acts : List Int) (v : Value) (w : World) (h : SlI w v acts) : Calls Try.prog 12 #[.int .i64 key, .agg #[.int .i64 who, v, .int .i64 until_, .int .i64 sl]] w fun e w' => e = .returned (.int .i64 (sealOf key who until_ acts)) ∧ Below w.heap.size w w' := by
  obtain ⟨a, cap, rfl, h1, h2⟩ := SlF.shape h
  unfold maxLen at h2
  have H := Lib.hid h
  clear h
  cases p1 : inR key 0 99999
  · have hf := Lib.hid (sealOf_bad key who until_ acts (by simp only [tkOk, p1]; rfl))
    go_enter Try.func12, Try.ntmps12
    go_wp2_with ((go_at_call 31; refine (l1In_any _ _ _ _).mono ?_; rintro e w' ⟨rfl, rfl⟩))
    go_ret
    exact ⟨by rw [hf.out]; rfl, Below.al (Below.refl _ _) _⟩
  · cases p2 : inR who 0 6
    · have hf := Lib.hid (sealOf_bad key who until_ acts (by simp only [tkOk, p1, p2]; rfl))
      go_enter Try.func12, Try.ntmps12
      go_wp2_with ((go_at_call 31; refine (l1In_any _ _ _ _).mono ?_; rintro e w' ⟨rfl, rfl⟩))
      go_ret
      exact ⟨by rw [hf.out]; rfl, Below.al (Below.refl _ _) _⟩
    · cases p3 : inR until_ 0 1000
      · have hf := Lib.hid (sealOf_bad key who until_ acts (by simp only [tkOk, p1, p2, p3]; rfl))
        go_enter Try.func12, Try.ntmps12
        go_wp2_with ((go_at_call 31; refine (l1In_any _ _ _ _).mono ?_; rintro e w' ⟨rfl, rfl⟩))
        go_ret
        exact ⟨by rw [hf.out]; rfl, Below.al (Below.refl _ _) _⟩
      · cases p4 : inR (acts.length : Int) 1 5
        · have hf := Lib.hid (sealOf_bad key who until_ acts (by simp only [tkOk, p1, p2, p3, p4]; rfl))
          go_enter Try.func12, Try.ntmps12
          go_wp2_with ((go_at_call 31; refine (l1In_any _ _ _ _).mono ?_; rintro e w' ⟨rfl, rfl⟩))
          go_ret
          exact ⟨by rw [hf.out]; rfl, Below.al (Below.refl _ _) _⟩
        · have hok := Lib.hid (fun (h : acts.all actOk = true) => sealOf_ok key who until_ acts (by simp only [tkOk, p1, p2, p3, p4, h]; rfl))
          have hbad := Lib.hid (fun (h : acts.all actOk = false) => sealOf_bad key who until_ acts (by simp only [tkOk, p1, p2, p3, p4, h]; rfl))
          obtain ⟨k0, k9⟩ := (inR_iff _ _ _).mp p1
          obtain ⟨q0, q9⟩ := (inR_iff _ _ _).mp p2
          obtain ⟨u0, u9⟩ := (inR_iff _ _ _).mp p3
          obtain ⟨l0, l9⟩ := (inR_iff _ _ _).mp p4
          have k1 := Bk.new (w := w) (vs := #[.int .i64 who, .slice a acts.length cap, .int .i64 until_, .int .i64 sl]) (t := 27)
          have x1 := k1.cell
          go_enter Try.func12, Try.ntmps12
          go_wp2_with ((go_at_call 31; refine (l1In_any _ _ _ _).mono ?_; rintro e w' ⟨rfl, rfl⟩))
          have k8 : key ≤ 1000002 := by omega
          have q8 : who ≤ 1000 := by omega
          have m1 := mixN_bd key who
          have m10 : 0 ≤ mixN key who := m1.1
          have m11 : mixN key who ≤ 1000002 := by omega
          have m2 := mixN_bd (mixN key who) until_
          have m20 : 0 ≤ mixN (mixN key who) until_ := m2.1
          have m21 : mixN (mixN key who) until_ ≤ 1000002 := by omega
          clear m1 m2
          go_region_held3 (fun w' => (∀ o, w'.cell? ⟨w.heap.size, o, none⟩ = (#[.int .i64 who, .slice a acts.length cap, .int .i64 until_, .int .i64 sl] : Array Value)[o]?) ∧ Below w.heap.size w w') (exact ⟨(Bk.below k1 (by (repeat' first | (with_reducible exact Below.refl _ _) | (with_reducible refine Below.rd (by assumption) ?_ ?_) | (with_reducible refine Below.via (by assumption) ?_) | (with_reducible refine Below.al ?_ _) | (with_reducible refine Below.dn ?_ _) | (with_reducible refine Below.dr ?_) | (with_reducible refine Below.setCell ?_ ?_ _) | (dsimp only; omega) | (simp only [World.size_alloc, World.size_drew]; omega) | (simp; done) | omega))).cell, by (repeat' first | (with_reducible exact Below.refl _ _) | (with_reducible refine Below.rd (by assumption) ?_ ?_) | (with_reducible refine Below.via (by assumption) ?_) | (with_reducible refine Below.al ?_ _) | (with_reducible refine Below.dn ?_ _) | (with_reducible refine Below.dr ?_) | (with_reducible refine Below.setCell ?_ ?_ _) | (dsimp only; omega) | (simp only [World.size_alloc, World.size_drew]; omega) | (simp; done) | omega)⟩)
            (first | (go_at_call 32; (with_reducible refine (mix_any key who _ k0 k8 q0 q8).mono ?_); rintro e w' ⟨rfl, rfl⟩) | (go_at_call 32; (with_reducible refine (mix_any (mixN key who) until_ _ m10 m11 u0 u9).mono ?_); rintro e w' ⟨rfl, rfl⟩))
          generalize mixN (mixN key who) until_ = s0 at *
          go_wp2_with fail
          go_loop [5, 6] (fun t i => ∃ k : Nat, k ≤ acts.length ∧ i = .int .i64 k ∧ t = .int .i64 (sealFold s0 (acts.take k)) ∧ Hid ((acts.take k).all actOk = true)) (fun _ i => acts.length - (intOf i).toNat)
          case atStart => exact ⟨0, Nat.zero_le _, rfl, rfl, by simp [Hid]⟩
          case round =>
            obtain ⟨k, hk, rfl, rfl, ha⟩ := hrel
            by_cases hlt : k < acts.length
            · obtain ⟨g, off, cap', hv, _, _, c0⟩ := (H.out.below (show Below w.heap.size w _ from Below.dr (Below.al (Below.refl _ _) (.cells #[.int .i64 who, .slice a acts.length cap, .int .i64 until_, .int .i64 sl] 27)))).cell k hlt
              simp only [Value.slice.injEq] at hv
              obtain ⟨rfl, -, rfl⟩ := hv
              have hst := Lib.hid (sealFold_step s0 acts k hlt)
              have hb := sealFold_bd s0 (acts.take k) m20 m21
              have hs := Lib.hid (fun hp => all_step acts actOk k hlt ha.out hp)
              have hbd := Lib.hid (fun hp => all_bad acts actOk k hlt hp)
              generalize acts[k] = n at c0 hst hs hbd
              generalize sealFold s0 (acts.take k) = t at hst hb
              obtain ⟨hb0, hb1⟩ := hb
              cases p : inR n 0 15
              · have hf := Lib.hid (hbad.out (hbd.out p))
                clear hs hbd hok hbad
                go_wp2_with ((go_at_call 31; refine (l1In_any _ _ _ _).mono ?_; rintro e w' ⟨rfl, rfl⟩))
                go_ret
                exact ⟨by rw [hf.out]; rfl, by (repeat' first | (with_reducible exact Below.refl _ _) | (with_reducible refine Below.rd (by assumption) ?_ ?_) | (with_reducible refine Below.via (by assumption) ?_) | (with_reducible refine Below.al ?_ _) | (with_reducible refine Below.dn ?_ _) | (with_reducible refine Below.dr ?_) | (with_reducible refine Below.setCell ?_ ?_ _) | (dsimp only; omega) | (simp only [World.size_alloc, World.size_drew]; omega) | (simp; done) | omega)⟩
              · have hf := Lib.hid (hs.out p)
                obtain ⟨n0, n9⟩ := (inR_iff _ _ _).mp p
                have n8 : n ≤ 1000 := by omega
                clear hs hbd
                go_wp2_with (first | (go_at_call 31; refine (l1In_any _ _ _ _).mono ?_; rintro e w' ⟨rfl, rfl⟩) | (go_at_call 32; refine (mix_any t n _ hb0 hb1 n0 n8).mono ?_; rintro e w' ⟨rfl, rfl⟩))
                go_round
                case rel => exact ⟨k + 1, by omega, by go_num, by rw [hst.out], hf.out⟩
                case measure => simp [intOf]; omega
            · have ht : acts.take k = acts := List.take_of_length_le (by omega)
              have hf := Lib.hid (hok.out (by rw [← ht]; exact ha.out))
              rw [ht]
              clear ht
              go_wp2_with fail
              go_ret
              exact ⟨by rw [hf.out]; rfl, by (repeat' first | (with_reducible exact Below.refl _ _) | (with_reducible refine Below.rd (by assumption) ?_ ?_) | (with_reducible refine Below.via (by assumption) ?_) | (with_reducible refine Below.al ?_ _) | (with_reducible refine Below.dn ?_ _) | (with_reducible refine Below.dr ?_) | (with_reducible refine Below.setCell ?_ ?_ _) | (dsimp only; omega) | (simp only [World.size_alloc, World.size_drew]; omega) | (simp; done) | omega)⟩
end Go.Proofs.Ytnkfhfhioknjeaa
