/-
  The acts that someone has at a time: the program's way and the reference's. No condition.
-/
import Derived.Test.YtlcjkehpdlgdoaaRla
import Derived.Test.YtlcjkehpdlgdoaaGa
set_option linter.unusedSimpArgs false
set_option linter.unusedVariables false
namespace Go.Proofs.Ytlcjkehpdlgdoaa
open Go.RowKit
theorem wrap_small (s y : Nat) (h : s ≤ 15) (h2 : y ≤ 8) : wrap64 ((s : Int) + (y : Int)) = ((s + y : Nat) : Int) := by
  unfold wrap64
  omega
def aR (ds : List Rl) (x : Int) : Nat := (actsR ds x).toNat
theorem aR_lt (ds : List Rl) (x : Int) : aR ds x < 16 := by
  unfold aR actsR
  split
  · rw [Int.toNat_natCast]
    exact foldF_lt _ _ 0 (withR_in ds x).lt (by omega)
  · simp
theorem aR_eq (ds : List Rl) (x : Int) (hv : rValid ds = true) (h0 : 0 ≤ x) (h1 : x < ds.length) : actsR ds x = ((aR ds x : Nat) : Int) := by
  unfold aR actsR
  rw [if_pos (by rw [hv, Bool.true_and, inR_iff]; omega), Int.toNat_natCast]
/-- What ActsAt returns. -/
def actsAt (ds : List Rl) (gs : List Gra) (who now : Int) : Int := if rValid ds && gValid ds.length gs then ((orF (aR ds) (grantsAt ds.length gs who now) : Nat) : Int) else -1
theorem grantsAt_in (many : Int) (gs : List Gra) (who now : Int) : ∀ x ∈ grantsAt many gs who now, 0 ≤ x ∧ x < many := by
  unfold grantsAt
  split
  · intro x hx
    obtain ⟨r, hr, rfl⟩ := List.mem_map.1 hx
    have := (List.mem_filter.1 hr).1
    rw [List.mem_range] at this
    omega
  · intro x hx; cases hx
set_option maxRecDepth 100000 in
set_option maxHeartbeats 6400000 in
theorem implActsAt_any (ds : List Rl) (gs : List Gra) (who now : Int) (v u : Value) (w : World) (h : SlRl w v ds) (hg : SlG w u gs) (hlen : ds.length ≤ 1048576) : Calls Try.prog 44 #[v, u, .int .i64 who, .int .i64 now] w fun e w' => e = .returned (.int .i64 (actsAt ds gs who now)) ∧ Below w.heap.size w w' := by
  obtain ⟨a, cap, rfl, h1, h2⟩ := SlRl.shape h
  obtain ⟨a2, cap2, rfl, h3, h4⟩ := SlF.shape hg
  unfold maxLen at h2 h4
  have H := Lib.hid h
  have HG := Lib.hid hg
  clear h hg
  have CV := fun wx h => implRValid_any ds (.slice a ds.length cap) wx h hlen
  have CG := fun wx h => implGValid_any ds.length gs (.slice a2 gs.length cap2) wx h
  cases hv : rValid ds
  · have e : actsAt ds gs who now = -1 := by simp [actsAt, hv]
    rw [e]
    rw [hv] at CV
    clear e hv
    go_enter Try.func44, Try.ntmps44
    go_wp2_with fail
    refine (CV _ H.out).mono ?_
    rintro e w1 ⟨rfl, b1⟩
    go_wp2_with fail
    go_ret
    exact ⟨rfl, b1⟩
  · rw [hv] at CV
    cases hgv : gValid ds.length gs
    · have e : actsAt ds gs who now = -1 := by simp [actsAt, hgv]
      rw [e]
      rw [hgv] at CG
      clear e hv hgv
      go_enter Try.func44, Try.ntmps44
      go_wp2_with fail
      refine (CV _ H.out).mono ?_
      rintro e w1 ⟨rfl, b1⟩
      go_wp2_with fail
      refine (CG _ (SlF.below HG.out b1)).mono ?_
      rintro e w2 ⟨rfl, b2⟩
      have hB2 := Below.via b2 b1
      go_wp2_with fail
      go_ret
      exact ⟨rfl, hB2⟩
    · have e : actsAt ds gs who now = ((orF (aR ds) (grantsAt ds.length gs who now) : Nat) : Int) := by simp [actsAt, hv, hgv]
      rw [e]
      rw [hgv] at CG
      obtain ⟨_, hm8, _, hf⟩ := gValid_f1 ds.length gs hgv
      have hf7 : ∀ g ∈ gs, 0 ≤ g.f1 ∧ g.f1 ≤ 7 := fun g hg => by have := hf g hg; omega
      have HE := Lib.hid (grantsAt_bits ds.length gs who now hgv)
      have hsl := setAt_lt gs who now hf7
      have CS := Lib.hid (fun wx h => rolesAt_any gs who now (.slice a2 gs.length cap2) wx h hf7)
      have HIN := Lib.hid (grantsAt_in ds.length gs who now)
      have CA := Lib.hid (fun x (h0 : 0 ≤ x) (h1 : x < (ds.length : Int)) wx h => aR_eq ds x hv h0 h1 ▸ implRoleActs_any ds x (.slice a ds.length cap) wx h hlen)
      have HLT := Lib.hid (aR_lt ds)
      have hLl := grantsAt_len ds.length gs who now
      clear e hv hgv hf hf7
      generalize setAt gs who now = S at HE CS hsl
      generalize grantsAt ds.length gs who now = L at HE HIN hLl ⊢
      generalize aR ds = fa at CA HLT ⊢
      go_enter Try.func44, Try.ntmps44
      go_wp2_with fail
      refine (CV _ H.out).mono ?_
      rintro e w1 ⟨rfl, b1⟩
      go_wp2_with fail
      refine (CG _ (SlF.below HG.out b1)).mono ?_
      rintro e w2 ⟨rfl, b2⟩
      have hB2 := Below.via b2 b1
      go_wp2_with fail
      refine (CS.out _ (SlF.below HG.out hB2)).mono ?_
      rintro e w3 ⟨rfl, b3⟩
      have hB3 := Below.via b3 hB2
      go_wp2_with fail
      refine (members_any S _ (by omega)).mono ?_
      rintro e w4 ⟨vx, rfl, ox, b4⟩
      have hB4 := Below.via b4 hB3
      rw [HE.out] at ox
      have HX := Lib.hid (show SlI w4 vx L from own_sl ox)
      obtain ⟨xa, xc, rfl, hc1, hc2⟩ := SlF.shape (own_sl ox)
      unfold maxLen at hc2
      have HD := Lib.hid (SlRl.below H.out hB4)
      clear ox HE CS CG CV b1 b2 b3 b4 hB2 hB3
      go_wp2_with fail
      go_loopw [9, 28] (fun s i wr => ∃ k : Nat, k ≤ L.length ∧ i = .int .i64 k ∧ s = .int .i64 (orF fa (L.take k) : Nat) ∧ Hid (Below w4.heap.size w4 wr) ∧ Below w.heap.size w wr) (fun _ i _ => L.length - (intOf i).toNat)
      case atStart => exact ⟨0, Nat.zero_le _, rfl, rfl, Below.refl _ _, hB4⟩
      case round =>
        obtain ⟨k, hk, rfl, rfl, hBo, hB⟩ := hrel
        by_cases hlt : k < L.length
        · have hlt2 : (k : Int) < (L.length : Int) := by omega
          obtain ⟨gx, ox, cx, hvx, _, _, x0⟩ := SlI.cell (SlI.below HX.out hBo.out) k hlt
          simp only [Value.slice.injEq] at hvx
          obtain ⟨rfl, -, rfl⟩ := hvx
          have hst := Lib.hid (orF_step fa L k hlt)
          have hol := orF_lt fa L (fun x _ => HLT.out x) k
          have hxi := HIN.out (L[k]'hlt) (List.getElem_mem hlt)
          generalize L[k]'hlt = x at x0 hst hxi
          have hxl := HLT.out x
          have CX := CA.out x hxi.1 hxi.2 wr (SlRl.below HD.out hBo.out)
          generalize fa x = y at hst hxl CX
          generalize orF fa (L.take k) = T at hst hol
          have hbor := bits_or_nat T y (by omega) (by omega)
          go_wp2_with fail
          refine CX.mono ?_
          rintro e w5 ⟨rfl, b5⟩
          have hB5 := Below.via b5 hB
          have hBo5 := Lib.hid (Below.via b5 hBo.out)
          go_wp2_with fail
          go_roundw
          case rel => exact ⟨k + 1, by omega, by go_num, by rw [hst.out], hBo5, hB5⟩
          case measure => simp [intOf]; omega
        · have hf := Lib.hid (show orF fa (L.take k) = orF fa L by rw [List.take_of_length_le (by omega)])
          go_wp2_with fail
          go_ret
          exact ⟨by rw [← hf.out]; rfl, hB⟩
set_option maxRecDepth 100000 in
set_option maxHeartbeats 6400000 in
theorem specActsAt_any (ds : List Rl) (gs : List Gra) (who now : Int) (v u : Value) (w : World) (h : SlRl w v ds) (hg : SlG w u gs) (hlen : ds.length ≤ 1048576) : Calls Try.prog 43 #[v, u, .int .i64 who, .int .i64 now] w fun e w' => e = .returned (.int .i64 (actsAt ds gs who now)) ∧ Below w.heap.size w w' := by
  obtain ⟨a, cap, rfl, h1, h2⟩ := SlRl.shape h
  obtain ⟨a2, cap2, rfl, h3, h4⟩ := SlF.shape hg
  unfold maxLen at h2 h4
  have H := Lib.hid h
  have HG := Lib.hid hg
  clear h hg
  have CV := fun wx h => specRValid_any ds (.slice a ds.length cap) wx h hlen
  have CG := fun wx h => specGValid_any ds.length gs (.slice a2 gs.length cap2) wx h
  cases hv : rValid ds
  · have e : actsAt ds gs who now = -1 := by simp [actsAt, hv]
    rw [e]
    rw [hv] at CV
    clear e hv
    go_enter Try.func43, Try.ntmps43
    go_wp2_with fail
    refine (CV _ H.out).mono ?_
    rintro e w1 ⟨rfl, b1⟩
    go_wp2_with fail
    go_ret
    exact ⟨rfl, b1⟩
  · rw [hv] at CV
    cases hgv : gValid ds.length gs
    · have e : actsAt ds gs who now = -1 := by simp [actsAt, hgv]
      rw [e]
      rw [hgv] at CG
      clear e hv hgv
      go_enter Try.func43, Try.ntmps43
      go_wp2_with fail
      refine (CV _ H.out).mono ?_
      rintro e w1 ⟨rfl, b1⟩
      go_wp2_with fail
      refine (CG _ (SlF.below HG.out b1)).mono ?_
      rintro e w2 ⟨rfl, b2⟩
      have hB2 := Below.via b2 b1
      go_wp2_with fail
      go_ret
      exact ⟨rfl, hB2⟩
    · have e : actsAt ds gs who now = ((orF (aR ds) (grantsAt ds.length gs who now) : Nat) : Int) := by simp [actsAt, hv, hgv]
      rw [e]
      rw [hgv] at CG
      have CS := Lib.hid (fun wx h => specGrantsAt_any ds.length gs who now (.slice a2 gs.length cap2) wx h)
      have HIN := Lib.hid (grantsAt_in ds.length gs who now)
      have CA := Lib.hid (fun x (h0 : 0 ≤ x) (h1 : x < (ds.length : Int)) wx h => aR_eq ds x hv h0 h1 ▸ specRoleActs_any ds x (.slice a ds.length cap) wx h hlen)
      have HLT := Lib.hid (aR_lt ds)
      have hLl := grantsAt_len ds.length gs who now
      clear e hv hgv
      generalize grantsAt ds.length gs who now = L at CS HIN hLl ⊢
      generalize aR ds = fa at CA HLT ⊢
      have HSUM := Lib.hid (orF_sum fa L (fun x _ => HLT.out x))
      go_enter Try.func43, Try.ntmps43
      go_wp2_with fail
      refine (CV _ H.out).mono ?_
      rintro e w1 ⟨rfl, b1⟩
      go_wp2_with fail
      refine (CG _ (SlF.below HG.out b1)).mono ?_
      rintro e w2 ⟨rfl, b2⟩
      have hB2 := Below.via b2 b1
      go_wp2_with fail
      refine (CS.out _ (SlF.below HG.out hB2)).mono ?_
      rintro e w4 ⟨vx, rfl, ox, b4⟩
      have hB4 := Below.via b4 hB2
      have HX := Lib.hid (show SlI w4 vx L from own_sl ox)
      obtain ⟨xa, xc, rfl, hc1, hc2⟩ := SlF.shape (own_sl ox)
      unfold maxLen at hc2
      have HD := Lib.hid (SlRl.below H.out hB4)
      clear ox CS CG CV b1 b2 b4 hB2
      go_wp2_with fail
      go_loopw [9, 11] (fun s i wr => ∃ b : Nat, b ≤ 4 ∧ i = .int .i64 b ∧ s = .int .i64 (sumBits (anyF fa L) b : Nat) ∧ Hid (Below w4.heap.size w4 wr) ∧ Below w.heap.size w wr) (fun _ i _ => 4 - (intOf i).toNat)
      case atStart => exact ⟨0, Nat.zero_le _, rfl, rfl, Below.refl _ _, hB4⟩
      case round =>
        obtain ⟨b, hb4, rfl, rfl, hBo, hB⟩ := hrel
        by_cases hlb : b < 4
        · have hlb2 : (b : Int) ≤ 3 := by omega
          have hsum := sumBits_le (anyF fa L) b (by omega)
          have hss := Lib.hid (show sumBits (anyF fa L) (b + 1) = sumBits (anyF fa L) b + if anyF fa L b then 1 <<< b else 0 from rfl)
          generalize sumBits (anyF fa L) b = s at hsum hss
          go_wp2_with fail
          go_loopw [12, 13] (fun f i wr => ∃ j : Nat, j ≤ L.length ∧ i = .int .i64 j ∧ f = .bool (anyF fa (L.take j) b) ∧ Hid (Below w4.heap.size w4 wr) ∧ Below w.heap.size w wr) (fun _ i _ => L.length - (intOf i).toNat)
          case atStart => exact ⟨0, Nat.zero_le _, rfl, rfl, hBo.out, hB⟩
          case round =>
            clear hBo hB
            obtain ⟨j, hj, rfl, rfl, hBo, hB⟩ := hrel
            by_cases hlt : j < L.length
            · have hlt2 : (j : Int) < (L.length : Int) := by omega
              have hst := Lib.hid (anyF_step fa L b j hlt)
              cases hfd : anyF fa (L.take j) b
              · rw [hfd, Bool.false_or] at hst
                obtain ⟨gx, ox, cx, hvx, _, _, x0⟩ := SlI.cell (SlI.below HX.out hBo.out) j hlt
                simp only [Value.slice.injEq] at hvx
                obtain ⟨rfl, -, rfl⟩ := hvx
                have hxi := HIN.out (L[j]'hlt) (List.getElem_mem hlt)
                generalize L[j]'hlt = x at x0 hst hxi
                have hxl := HLT.out x
                have CX := CA.out x hxi.1 hxi.2 wr (SlRl.below HD.out hBo.out)
                generalize fa x = y at hst hxl CX
                have CL := fun wx => l12Act_any y b wx (by omega) (by omega)
                generalize y.testBit b = q at hst CL
                clear hfd
                go_wp2_with fail
                refine CX.mono ?_
                rintro e w5 ⟨rfl, b5⟩
                have hB5 := Below.via b5 hB
                have hBo5 := Lib.hid (Below.via b5 hBo.out)
                go_wp2_with ((go_at_call 66; refine (CL _).mono ?_; rintro e w' ⟨rfl, rfl⟩))
                go_roundw
                case rel => exact ⟨j + 1, by omega, by go_num, by rw [hst.out], hBo5, hB5⟩
                case measure => simp [intOf]; omega
              · rw [hfd, Bool.true_or] at hst
                clear hfd
                go_wp2_with fail
                go_roundw
                case rel => exact ⟨j + 1, by omega, by go_num, by rw [hst.out], hBo, hB⟩
                case measure => simp [intOf]; omega
            · have hf : anyF fa (L.take j) b = anyF fa L b := by rw [List.take_of_length_le (by omega)]
              rw [hf]
              clear hf
              cases hfd : anyF fa L b
              · rw [hfd, if_neg (by simp)] at hss
                clear hfd
                go_wp2_with fail
                go_roundw
                case rel => exact ⟨b + 1, by omega, by go_num, by rw [hss.out]; rfl, hBo, hB⟩
                case measure => simp [intOf]; omega
              · rw [hfd, if_pos rfl] at hss
                have hw := wrap64_pow b (by omega)
                have hp : (1 <<< b : Nat) ≤ 8 := by rcases (show b = 0 ∨ b = 1 ∨ b = 2 ∨ b = 3 by omega) with rfl | rfl | rfl | rfl <;> decide
                generalize (1 <<< b : Nat) = y at hss hp hw
                have HADD := Lib.hid (wrap_small s y hsum hp)
                clear hfd
                go_wp2_with fail
                go_roundw
                case rel => exact ⟨b + 1, by omega, by go_num, by rw [hss.out]; first | exact congrArg (Value.int .i64) HADD.out | go_num, hBo, hB⟩
                case measure => simp [intOf]; omega
        · obtain rfl : b = 4 := by omega
          rw [HSUM.out]
          go_wp2_with fail
          go_ret
          exact ⟨rfl, hB⟩
end Go.Proofs.Ytlcjkehpdlgdoaa
