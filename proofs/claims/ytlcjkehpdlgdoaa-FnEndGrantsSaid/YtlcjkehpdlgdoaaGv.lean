/-
  The law on ended grants, walked. Condition: the bytes can be read.
-/
import Derived.Test.YtlcjkehpdlgdoaaGt
import Derived.Test.YtlcjkehpdlgdoaaGe
import Derived.Test.YtlcjkehpdlgdoaaGs
set_option linter.unusedSimpArgs false
set_option linter.unusedVariables false
namespace Go.Proofs.Ytlcjkehpdlgdoaa
open Go.RowKit
/-- Grants, someone and a time are drawn from bytes. -/
def GraED (w : World) (e : Ending) (w' : World) : Prop :=
  ∃ (many who now : Int) (v : Value) (ds : List Gra), e = .returned (.tuple #[.int .i64 many, v, .int .i64 who, .int .i64 now]) ∧ v ≠ .slice none 0 0 ∧ 1 ≤ many ∧ many ≤ 5 ∧ -1 ≤ who ∧ who ≤ 3 ∧ 0 ≤ now ∧ now ≤ 39 ∧ ds.length ≤ 8 ∧ w'.ownsRow w.heap.size 33 4 v ds.length (cellsG ds) ∧ Below w.heap.size w w'
theorem drawEndGrants_any (a : Option Addr) (len cap : Nat) (w : World) (h : Bytes w a len cap) : Calls Try.prog 32 #[.slice a len cap] w (GraED w) := by
  have H := Lib.hid h
  clear h
  go_enter Try.func32, Try.ntmps32
  go_wp2_with fail
  refine (open_any a len cap _ H.out).mono ?_
  rintro e w1 ⟨rfl, r1, h1⟩
  have zb := r1.lt
  have z1 := h1.size
  go_wp2_with fail
  refine (pick_any _ 5 _ _ r1 (by omega) (by omega)).mono ?_
  rintro e w2 ⟨x, rfl, lo, hi, r2⟩
  have z2 := r2.size
  go_wp2_with fail
  refine (l20Grants_any _ _ 9 _ _ r2.rd (by omega) (by omega) (by omega) (by omega) (by omega)).mono ?_
  rintro e w4 ⟨v, ds, rfl, hv, hl, ho, r4⟩
  go_wp2_with fail
  refine (pick_any _ 4 _ _ r4.rd (by omega) (by omega)).mono ?_
  rintro e w5 ⟨y, rfl, lo5, hi5, r5⟩
  have ho5 := ownG_rd ho r5 (by omega)
  go_wp2_with fail
  refine (pick_any _ 40 _ _ r5.rd (by omega) (by omega)).mono ?_
  rintro e w6 ⟨z, rfl, lo6, hi6, r6⟩
  have ho6 := ownG_rd ho5 r6 (by omega)
  go_wp2_with fail
  (try simp only [Exit.inBlock, Exit.then]); refine bodyPost_ret (by simp [results, Try.results32, go_sem]; try rfl) rfl ?_
  refine ⟨_, _, z, v, ds, rfl, hv, by omega, by omega, by omega, by omega, by omega, by omega, hl, own_lo ho6 (by omega), ?_⟩
  (repeat' first | (with_reducible exact Below.refl _ _) | (with_reducible refine Below.rd (by assumption) ?_ ?_) | (with_reducible refine Below.via (by assumption) ?_) | (with_reducible refine Below.al ?_ _) | (with_reducible refine Below.dn ?_ _) | (with_reducible refine Below.dr ?_) | (with_reducible refine Below.setCell ?_ ?_ _) | (dsimp only; omega) | (simp only [World.size_alloc, World.size_drew]; omega) | (simp; done) | omega)
theorem endG_valid (m : Int) (who now : Int) (g x : Gra) (h : gOk m g = true) (hx : endG who now g = some x) : gOk m x = true := by
  simp only [gOk, Bool.and_eq_true, inR_iff] at h ⊢
  unfold endG at hx
  split at hx
  · split at hx
    · simp at hx
    · simp only [Option.some.injEq] at hx
      subst hx
      dsimp only
      omega
  · simp only [Option.some.injEq] at hx
    subst hx
    exact h
theorem endGrants_valid (many : Int) (ds : List Gra) (who now : Int) (h : gValid many ds = true) : gValid many (endGrants many ds who now) = true := by
  have hl := endGrants_len many ds who now
  have h2 := h
  simp only [gValid, Bool.and_eq_true, List.all_eq_true, decide_eq_true_eq] at h ⊢
  refine ⟨fun x hx => ?_, h.2.1, hl⟩
  rw [endGrants, if_pos h2] at hx
  obtain ⟨g, hg, hgx⟩ := List.mem_filterMap.mp hx
  exact endG_valid _ who now g x (h.1 g hg) hgx
theorem at_congr (many : Int) (ds es : List Gra) (s t s' t' : Int) (h1 : gValid many ds = true) (h2 : gValid many es = true) (h : ∀ r : Int, ds.any (onG s t r) = es.any (onG s' t' r)) : grantsAt many ds s t = grantsAt many es s' t' := by
  unfold grantsAt
  rw [if_pos h1, if_pos h2]
  congr 2
  funext r
  exact h r
theorem end_any (ds : List Gra) (who now s t s' t' r : Int) (h : ∀ g, (match endG who now g with | some x => onG s t r x | none => false) = onG s' t' r g) : (ds.filterMap (endG who now)).any (onG s t r) = ds.any (onG s' t' r) := by
  rw [List.any_filterMap]
  congr 1
  funext g
  have hg := h g
  revert hg
  cases endG who now g <;> exact id
theorem ended_at (many : Int) (ds : List Gra) (who now s t : Int) (h : gValid many ds = true) (hc : t = now - 1 ∨ (who ≠ -1 ∧ who ≠ s)) : grantsAt many (endGrants many ds who now) s t = grantsAt many ds s t := by
  refine at_congr many _ _ s t s t (endGrants_valid many ds who now h) h (fun r => ?_)
  rw [endGrants, if_pos h]
  refine end_any ds who now s t s t r (fun g => ?_)
  rw [Bool.eq_iff_iff]
  unfold endG
  split
  · rename_i x he
    split at he
    · split at he
      · simp at he
      · simp only [Option.some.injEq] at he
        subst he
        simp only [onG, Bool.and_eq_true, Bool.or_eq_true, beq_iff_eq, decide_eq_true_eq] at *
        omega
    · simp only [Option.some.injEq] at he
      subst he
      exact Iff.rfl
  · rename_i he
    split at he
    · split at he
      · simp only [onG, Bool.and_eq_true, Bool.or_eq_true, beq_iff_eq, decide_eq_true_eq, Bool.false_eq_true, false_iff] at *
        omega
      · simp at he
    · simp at he
theorem ended_none (many : Int) (ds : List Gra) (who now s : Int) (h : gValid many ds = true) (hc : who = -1 ∨ who = s) : grantsAt many (endGrants many ds who now) s now = [] := by
  unfold grantsAt
  rw [if_pos (endGrants_valid many ds who now h), List.map_eq_nil_iff, List.filter_eq_nil_iff]
  intro r _
  rw [Bool.not_eq_true, List.any_eq_false]
  intro x hx
  rw [endGrants, if_pos h] at hx
  obtain ⟨g, hg, he⟩ := List.mem_filterMap.mp hx
  unfold endG at he
  split at he
  · split at he
    · simp at he
    · simp only [Option.some.injEq] at he
      subst he
      simp only [onG, Bool.and_eq_true, Bool.or_eq_true, beq_iff_eq, decide_eq_true_eq] at *
      omega
  · simp only [Option.some.injEq] at he
    subst he
    simp only [onG, Bool.and_eq_true, Bool.or_eq_true, beq_iff_eq, decide_eq_true_eq] at *
    omega
set_option maxRecDepth 100000 in
set_option maxHeartbeats 6400000 in
theorem endGrants_walk (a : Option Addr) (len cap : Nat) (w : World) (h : Bytes w a len cap) : Calls Try.prog 8 #[.slice a len cap] w fun e w' => e = .returned (.bool true) ∧ Below w.heap.size w w' := by
  have h1 := h.1
  have h2 := h.2.1
  unfold maxLen at h2
  have H := Lib.hid h
  clear h
  by_cases hl : 1048576 < len
  · go_enter Try.func8, Try.ntmps8
    go_wp2_with fail
    go_ret
    exact ⟨rfl, Below.refl _ _⟩
  · go_enter Try.func8, Try.ntmps8
    go_wp2_with fail
    refine (drawEndGrants_any a len cap _ H.out).mono ?_
    rintro e w1 ⟨many, who, now, v, ds, rfl, hv, hm1, hm5, hw1, hw3, hn0, hn39, hlen, ho, b1⟩
    have Hs1 := Lib.hid (own_sl ho)
    clear ho hv
    obtain ⟨es, hes⟩ : ∃ es, es = endGrants many ds who now := ⟨_, rfl⟩
    have hle : es.length ≤ 12 := by rw [hes]; exact endGrants_len many ds who now
    have HE := Lib.hid hes
    go_wp2_with fail
    refine (implEndGrants_any many ds who now _ _ Hs1.out).mono ?_
    rintro e w2 ⟨u, rfl, o2, b2⟩
    rw [← hes] at o2
    have Hx2 := Lib.hid (own_sl o2)
    have Hs2 := Lib.hid (SlF.below Hs1.out b2)
    clear o2
    go_wp2_with fail
    refine (specEndGrants_any many ds who now _ _ Hs2.out).mono ?_
    rintro e w3 ⟨y, rfl, o3, b3⟩
    rw [← hes] at o3
    clear hes
    have Hy3 := Lib.hid (own_sl o3)
    have Hs3 := Lib.hid (SlF.below Hs2.out b3)
    have Hx3 := Lib.hid (SlF.below Hx2.out b3)
    clear o3
    go_wp2_with fail
    refine (sameGrants_any _ _ _ _ _ Hx3.out Hy3.out).mono ?_
    rintro e w4 ⟨rfl, b4⟩
    rw [eqGs_refl]
    have Hs4 := Lib.hid (SlF.below Hs3.out b4)
    have Hx4 := Lib.hid (SlF.below Hx3.out b4)
    have hB4 : Below w.heap.size w w4 := Below.via b4 (Below.via b3 (Below.via b2 b1))
    clear Hs1 Hs2 Hs3 Hx2 Hx3 Hy3
    go_wp2_with fail
    refine (implGValid_any many ds _ _ Hs4.out).mono ?_
    rintro e w5 ⟨rfl, b5⟩
    cases hv : gValid many ds
    · have h0 : es = [] := by have := HE.out; simp [endGrants, hv] at this; exact this
      subst h0
      obtain ⟨ua, uc, rfl, hu1, hu2⟩ := SlF.shape Hx4.out
      clear HE
      go_wp2_with ((go_at_call 20; refine (alive_any _).mono ?_; rintro e w' ⟨rfl, rfl⟩))
      go_ret
      exact ⟨rfl, Below.via b5 hB4⟩
    · have Hs5 := Lib.hid (SlF.below Hs4.out b5)
      have Hx5 := Lib.hid (SlF.below Hx4.out b5)
      have hB5 : Below w.heap.size w w5 := Below.via b5 hB4
      clear Hs4 Hx4
      have HE1 := Lib.hid (show gValid many es = true from by rw [HE.out]; exact endGrants_valid many ds who now hv)
      have HE2 := Lib.hid (show ∀ s, who = -1 ∨ who = s → grantsAt many es s now = [] from fun s hs => by rw [HE.out]; exact ended_none many ds who now s hv hs)
      have HE3 := Lib.hid (show ∀ s t, t = now - 1 ∨ (who ≠ -1 ∧ who ≠ s) → grantsAt many es s t = grantsAt many ds s t from fun s t hs => by rw [HE.out]; exact ended_at many ds who now s t hv hs)
      obtain ⟨ua, uc, rfl, hu1, hu2⟩ := SlF.shape Hx5.out
      obtain ⟨va, vc, rfl, hv1, hv2⟩ := SlF.shape Hs5.out
      unfold maxLen at hu2 hv2
      go_wp2_with fail
      go_loopw [8] (fun i wr => ∃ k : Nat, k ≤ 4 ∧ i = .int .i64 k ∧ Below w5.heap.size w5 wr) (fun i _ => 4 - (intOf i).toNat)
      case atStart => exact ⟨0, Nat.zero_le _, rfl, Below.refl _ _⟩
      case round =>
        obtain ⟨k, hk, rfl, hB⟩ := hrel
        by_cases hlt : k < 4
        · by_cases e1 : who = -1
          · subst e1
            have e2' : ((-1 : Int) == (k : Int)) = false := by simp <;> omega
            go_wp2_with fail
            refine (implGrantsAt_any many es k now _ _ (SlF.below Hx5.out hB)).mono ?_
            rintro e x1 ⟨u1, rfl, o1, c1⟩
            rw [HE2.out k (by simp)] at o1
            have B1 : Below w5.heap.size w5 x1 := Below.via c1 hB
            have O1 := Lib.hid (own_sl o1)
            clear o1
            obtain ⟨xa, xc, rfl, _, _⟩ := SlF.shape O1.out
            go_wp2_with fail
            refine (implGrantsAt_any many es k (now - 1) _ _ (SlF.below Hx5.out B1)).mono ?_
            rintro e x2 ⟨u2, rfl, o2, c2⟩
            rw [HE3.out k (now - 1) (by simp)] at o2
            have B2 : Below w5.heap.size w5 x2 := Below.via c2 B1
            have O2 := Lib.hid (own_sl o2)
            clear o2
            go_wp2_with fail
            refine (implGrantsAt_any many ds k (now - 1) _ _ (SlF.below Hs5.out B2)).mono ?_
            rintro e x3 ⟨u3, rfl, o3, c3⟩
            skip
            have B3 : Below w5.heap.size w5 x3 := Below.via c3 B2
            have O3 := Lib.hid (own_sl o3)
            clear o3
            go_wp2_with fail
            refine (sameInts_any _ _ _ _ _ (SlF.below O2.out c3) O3.out).mono ?_
            rintro e x4 ⟨rfl, c4⟩
            have B4 : Below w5.heap.size w5 x4 := Below.via c4 B3
            rw [decide_eq_true rfl]
            go_wp2_with fail
            go_roundw
            case rel => exact ⟨k + 1, by omega, by go_num, B4⟩
            case measure => simp [intOf]; omega
          · by_cases e2 : who = k
            · have e1' : (who == -1) = false := by simpa using e1
              have e2' : (who == (k : Int)) = true := by simpa using e2
              have E2 := Lib.hid e2
              clear e1 e2
              go_wp2_with fail
              refine (implGrantsAt_any many es k now _ _ (SlF.below Hx5.out hB)).mono ?_
              rintro e x1 ⟨u1, rfl, o1, c1⟩
              rw [HE2.out k (.inr E2.out)] at o1
              have B1 : Below w5.heap.size w5 x1 := Below.via c1 hB
              have O1 := Lib.hid (own_sl o1)
              clear o1
              obtain ⟨xa, xc, rfl, _, _⟩ := SlF.shape O1.out
              go_wp2_with fail
              refine (implGrantsAt_any many es k (now - 1) _ _ (SlF.below Hx5.out B1)).mono ?_
              rintro e x2 ⟨u2, rfl, o2, c2⟩
              rw [HE3.out k (now - 1) (by simp)] at o2
              have B2 : Below w5.heap.size w5 x2 := Below.via c2 B1
              have O2 := Lib.hid (own_sl o2)
              clear o2
              go_wp2_with fail
              refine (implGrantsAt_any many ds k (now - 1) _ _ (SlF.below Hs5.out B2)).mono ?_
              rintro e x3 ⟨u3, rfl, o3, c3⟩
              skip
              have B3 : Below w5.heap.size w5 x3 := Below.via c3 B2
              have O3 := Lib.hid (own_sl o3)
              clear o3
              go_wp2_with fail
              refine (sameInts_any _ _ _ _ _ (SlF.below O2.out c3) O3.out).mono ?_
              rintro e x4 ⟨rfl, c4⟩
              have B4 : Below w5.heap.size w5 x4 := Below.via c4 B3
              rw [decide_eq_true rfl]
              go_wp2_with fail
              go_roundw
              case rel => exact ⟨k + 1, by omega, by go_num, B4⟩
              case measure => simp [intOf]; omega
            · have e1' : (who == -1) = false := by simpa using e1
              have e2' : (who == (k : Int)) = false := by simpa using e2
              have E1 := Lib.hid e1
              have E2 := Lib.hid e2
              clear e1 e2
              go_wp2_with fail
              refine (implGrantsAt_any many es k (now - 1) _ _ (SlF.below Hx5.out hB)).mono ?_
              rintro e x1 ⟨u1, rfl, o1, c1⟩
              rw [HE3.out k (now - 1) (by simp)] at o1
              have B1 : Below w5.heap.size w5 x1 := Below.via c1 hB
              have O1 := Lib.hid (own_sl o1)
              clear o1
              go_wp2_with fail
              refine (implGrantsAt_any many ds k (now - 1) _ _ (SlF.below Hs5.out B1)).mono ?_
              rintro e x2 ⟨u2, rfl, o2, c2⟩
              skip
              have B2 : Below w5.heap.size w5 x2 := Below.via c2 B1
              have O2 := Lib.hid (own_sl o2)
              clear o2
              go_wp2_with fail
              refine (sameInts_any _ _ _ _ _ (SlF.below O1.out c2) O2.out).mono ?_
              rintro e x3 ⟨rfl, c3⟩
              have B3 : Below w5.heap.size w5 x3 := Below.via c3 B2
              rw [decide_eq_true rfl]
              go_wp2_with fail
              refine (implGrantsAt_any many es k now _ _ (SlF.below Hx5.out B3)).mono ?_
              rintro e x4 ⟨u4, rfl, o4, c4⟩
              rw [HE3.out k now (.inr ⟨E1.out, E2.out⟩)] at o4
              have B4 : Below w5.heap.size w5 x4 := Below.via c4 B3
              have O4 := Lib.hid (own_sl o4)
              clear o4
              go_wp2_with fail
              refine (implGrantsAt_any many ds k now _ _ (SlF.below Hs5.out B4)).mono ?_
              rintro e x5 ⟨u5, rfl, o5, c5⟩
              skip
              have B5 : Below w5.heap.size w5 x5 := Below.via c5 B4
              have O5 := Lib.hid (own_sl o5)
              clear o5
              go_wp2_with fail
              refine (sameInts_any _ _ _ _ _ (SlF.below O4.out c5) O5.out).mono ?_
              rintro e x6 ⟨rfl, c6⟩
              have B6 : Below w5.heap.size w5 x6 := Below.via c6 B5
              rw [decide_eq_true rfl]
              go_wp2_with fail
              go_roundw
              case rel => exact ⟨k + 1, by omega, by go_num, B6⟩
              case measure => simp [intOf]; omega
        · go_wp2_with fail
          refine (implGValid_any many es _ _ (SlF.below Hx5.out hB)).mono ?_
          rintro e w6 ⟨rfl, b6⟩
          rw [HE1.out]
          go_wp2_with fail
          go_ret
          exact ⟨rfl, Below.via b6 (Below.via hB hB5)⟩
end Go.Proofs.Ytlcjkehpdlgdoaa
