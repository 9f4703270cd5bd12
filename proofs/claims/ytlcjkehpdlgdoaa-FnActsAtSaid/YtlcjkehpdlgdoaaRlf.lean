/-
  The law on acts at a time, walked. Condition: the bytes can be read.
-/
import Derived.Test.YtlcjkehpdlgdoaaRlm
import Derived.Test.YtlcjkehpdlgdoaaRld
import Derived.Test.YtlcjkehpdlgdoaaGt
set_option linter.unusedSimpArgs false
set_option linter.unusedVariables false
namespace Go.Proofs.Ytlcjkehpdlgdoaa
open Go.RowKit
/-- Roles, grants, someone and a time are drawn from bytes. -/
def DgA (w : World) (e : Ending) (w' : World) : Prop :=
  ∃ (v u : Value) (ds : List Rl) (gs : List Gra) (who now : Int), e = .returned (.tuple #[v, u, .int .i64 who, .int .i64 now]) ∧ SlRl w' v ds ∧ ds.length ≤ 6 ∧ SlG w' u gs ∧ gs.length ≤ 8 ∧ Below w.heap.size w w'
theorem drawActsAt_any (a : Option Addr) (len cap : Nat) (w : World) (h : Bytes w a len cap) : Calls Try.prog 45 #[.slice a len cap] w (DgA w) := by
  have H := Lib.hid h
  clear h
  go_enter Try.func45, Try.ntmps45
  go_wp2_with fail
  refine (open_any a len cap _ H.out).mono ?_
  rintro e w1 ⟨rfl, r1, h1⟩
  have zb := r1.lt
  have z1 := h1.size
  go_wp2_with fail
  refine (l20Roles_any _ 9 _ _ r1 (by omega) (by omega) (by omega)).mono ?_
  rintro e w2 ⟨v, ds, rfl, hv, hl6, ho, r2⟩
  have z2 := r2.size
  obtain ⟨va, vc, rfl, hc1, hc2⟩ := SlRl.shape ho.sl
  unfold maxLen at hc2
  go_wp2_with fail
  refine (l20Grants_any _ ds.length 9 _ _ r2.rd (by omega) (by omega) (by omega) (by omega) (by omega)).mono ?_
  rintro e w4 ⟨u, gs, rfl, hu, hgl, hog, r4⟩
  have ho4 := ho.rd r4 (by omega)
  go_wp2_with fail
  refine (pick_any _ 4 _ _ r4.rd (by omega) (by omega)).mono ?_
  rintro e w5 ⟨y, rfl, lo5, hi5, r5⟩
  have ho5 := ho4.rd r5 (by omega)
  have hog5 := ownG_rd hog r5 (by omega)
  go_wp2_with fail
  refine (pick_any _ 40 _ _ r5.rd (by omega) (by omega)).mono ?_
  rintro e w6 ⟨z, rfl, lo6, hi6, r6⟩
  have HS := Lib.hid (ho5.rd r6 (by omega)).sl
  have HG := Lib.hid (own_sl (ownG_rd hog5 r6 (by omega)))
  have hB := Below.rd r6 (Below.rd r5 (Below.rd r4 (Below.rd r2 h1 (Nat.le_refl _)) (Nat.le_refl _)) (Nat.le_refl _)) (Nat.le_refl _)
  clear ho ho4 ho5 hog hog5
  go_wp2_with fail
  (try simp only [Exit.inBlock, Exit.then]); refine bodyPost_ret (by simp [results, Try.results45, go_sem]; try rfl) rfl ?_
  exact ⟨_, u, ds, gs, y, z, rfl, HS.out, hl6, HG.out, hgl, hB⟩
theorem gValid_none (many : Int) (gs : List Gra) (h : gValid many gs = true) : gValid many [] = true := by
  unfold gValid at h ⊢
  simp only [Bool.and_eq_true] at h
  simp [h.2.1]
theorem actsAt_none (ds : List Rl) (gs : List Gra) (who now : Int) (hv : rValid ds = true) (hg : gValid ds.length gs = true) : actsAt ds [] who now = 0 := by
  unfold actsAt
  rw [hv, gValid_none _ _ hg]
  have e : grantsAt ds.length [] who now = [] := by simp [grantsAt]
  rw [e]
  rfl
set_option maxRecDepth 100000 in
set_option maxHeartbeats 12800000 in
theorem actsAt_walk (a : Option Addr) (len cap : Nat) (w : World) (h : Bytes w a len cap) : Calls Try.prog 13 #[.slice a len cap] w fun e w' => e = .returned (.bool true) ∧ Below w.heap.size w w' := by
  have h1 := h.1
  have h2 := h.2.1
  unfold maxLen at h2
  have H := Lib.hid h
  clear h
  by_cases hl : 1048576 < len
  · go_enter Try.func13, Try.ntmps13
    go_wp2_with fail
    go_ret
    exact ⟨rfl, Below.refl _ _⟩
  · go_enter Try.func13, Try.ntmps13
    go_wp2_with fail
    refine (drawActsAt_any a len cap _ H.out).mono ?_
    rintro e w1 ⟨v, u, ds, gs, who, now, rfl, hs, hl6, hg, hgl, b1⟩
    obtain ⟨va, vc, rfl, hc1, hc2⟩ := SlRl.shape hs
    obtain ⟨ga, gc, rfl, hc3, hc4⟩ := SlF.shape hg
    unfold maxLen at hc2 hc4
    have HS1 := Lib.hid hs
    have HG1 := Lib.hid (show SlG w1 (.slice ga gs.length gc) gs from hg)
    clear hs hg
    have CI := fun wx h hm => implActsAt_any ds gs who now (.slice va ds.length vc) (.slice ga gs.length gc) wx h hm (by omega)
    have CS := fun wx h hm => specActsAt_any ds gs who now (.slice va ds.length vc) (.slice ga gs.length gc) wx h hm (by omega)
    cases hok : rValid ds && gValid ds.length gs
    · have e : actsAt ds gs who now = -1 := by simp [actsAt, hok]
      rw [e] at CI CS
      clear e hok
      go_wp2_with fail
      refine (CI _ HS1.out HG1.out).mono ?_
      rintro e w2 ⟨rfl, b2⟩
      go_wp2_with fail
      refine (CS _ (SlRl.below HS1.out b2) (SlF.below HG1.out b2)).mono ?_
      rintro e w3 ⟨rfl, b3⟩
      have hB3 := Below.via b3 (Below.via b2 b1)
      go_wp2_with ((go_at_call 20; refine (alive_any _).mono ?_; rintro e w' ⟨rfl, rfl⟩))
      go_ret
      exact ⟨rfl, hB3⟩
    · have e : actsAt ds gs who now = ((orF (aR ds) (grantsAt ds.length gs who now) : Nat) : Int) := by unfold actsAt; rw [hok, if_pos rfl]
      rw [e] at CI CS
      rw [Bool.and_eq_true] at hok
      obtain ⟨hv, hgv⟩ := hok
      have CN := Lib.hid (fun wx h => actsAt_none ds gs who now hv hgv ▸ implActsAt_any ds [] who now (.slice va ds.length vc) (.slice none 0 0) wx h (SlF.nil _ _) (by omega))
      have CG := Lib.hid (fun wx h => implGrantsAt_any ds.length gs who now (.slice ga gs.length gc) wx h)
      have HIN := Lib.hid (grantsAt_in ds.length gs who now)
      have CA := Lib.hid (fun x (h0 : 0 ≤ x) (h1 : x < (ds.length : Int)) wx h => aR_eq ds x hv h0 h1 ▸ implRoleActs_any ds x (.slice va ds.length vc) wx h (by omega))
      have HLT := Lib.hid (aR_lt ds)
      have hLl := grantsAt_len ds.length gs who now
      clear e hv hgv
      generalize grantsAt ds.length gs who now = L at CI CS CG HIN hLl
      generalize aR ds = fa at CI CS CA HLT
      have hA : orF fa L < 16 := foldF_lt fa L 0 (fun x _ => HLT.out x) (by omega)
      obtain ⟨A, hAe⟩ : ∃ A, A = orF fa L := ⟨_, rfl⟩
      rw [← hAe] at CI CS hA
      have HAE := Lib.hid hAe
      clear hAe
      have hnn : (((A : Nat) : Int) != (A : Int)) = false := by simp
      go_wp2_with fail
      refine (CI _ HS1.out HG1.out).mono ?_
      rintro e w2 ⟨rfl, b2⟩
      go_wp2_with fail
      refine (CS _ (SlRl.below HS1.out b2) (SlF.below HG1.out b2)).mono ?_
      rintro e w3 ⟨rfl, b3⟩
      have b13 := Below.via b3 b2
      have hB3 := Below.via b13 b1
      go_wp2_with fail
      refine (CG.out _ (SlF.below HG1.out b13)).mono ?_
      rintro e w4 ⟨vx, rfl, ox, b4⟩
      have hB4 := Below.via b4 hB3
      have HS4 := Lib.hid (SlRl.below HS1.out (Below.via b4 b13))
      have HX := Lib.hid (show SlI w4 vx L from own_sl ox)
      obtain ⟨xa, xc, rfl, hx1, hx2⟩ := SlF.shape (own_sl ox)
      unfold maxLen at hx2
      clear ox CI CS CG HS1 HG1 b2 b3 b4 b13 hB3
      go_wp2_with fail
      go_loopw [8, 10] (fun s i wr => ∃ k : Nat, k ≤ L.length ∧ i = .int .i64 k ∧ s = .int .i64 (orF fa (L.take k) : Nat) ∧ Hid (Below w4.heap.size w4 wr) ∧ Below w.heap.size w wr) (fun _ i _ => L.length - (intOf i).toNat)
      case atStart => exact ⟨0, Nat.zero_le _, rfl, rfl, Below.refl _ _, hB4⟩
      case round =>
        clear hB4
        obtain ⟨k, hk, rfl, rfl, hBo, hB⟩ := hrel
        by_cases hlt : k < L.length
        · have hlt2 : (k : Int) < (L.length : Int) := by omega
          obtain ⟨gx, ox, cx, hvx, _, _, x0⟩ := SlI.cell (SlI.below HX.out hBo.out) k hlt
          simp only [Value.slice.injEq] at hvx
          obtain ⟨rfl, -, rfl⟩ := hvx
          have hst := Lib.hid (orF_step fa L k hlt)
          have hol := orF_lt fa L (fun x _ => HLT.out x) k
          have hxi := HIN.out (L[k]'hlt) (List.getElem_mem hlt)
          generalize L[k]'hlt = x at x0 hst hxi
          have hxl := HLT.out x
          have CX := CA.out x hxi.1 hxi.2 wr (SlRl.below HS4.out hBo.out)
          generalize fa x = y at hst hxl CX
          generalize orF fa (L.take k) = T at hst hol
          have hbor := bits_or_nat T y (by omega) (by omega)
          go_wp2_with fail
          refine CX.mono ?_
          rintro e w5 ⟨rfl, b5⟩
          have hB5 := Below.via b5 hB
          have hBo5 := Lib.hid (Below.via b5 hBo.out)
          go_wp2_with fail
          go_roundw
          case rel => exact ⟨k + 1, by omega, by go_num, by rw [hst.out], hBo5, hB5⟩
          case measure => simp [intOf]; omega
        · have hf : orF fa (L.take k) = A := by rw [List.take_of_length_le (by omega)]; exact HAE.out.symm
          rw [hf]
          clear hf
          have hee : (((A : Nat) : Int) == (A : Int)) = true := by simp
          have HSr := Lib.hid (SlRl.below HS4.out hBo.out)
          go_wp2_with fail
          refine (CN.out _ HSr.out).mono ?_
          rintro e w5 ⟨rfl, b5⟩
          have hB5 := Below.via b5 hB
          go_wp2_with fail
          go_ret
          exact ⟨rfl, hB5⟩
end Go.Proofs.Ytlcjkehpdlgdoaa
