/-
  The law on granted roles, walked. Condition: the bytes can be read.
-/
import Derived.Test.YtlcjkehpdlgdoaaGt
import Derived.Test.YtlcjkehpdlgdoaaGa
set_option linter.unusedSimpArgs false
set_option linter.unusedVariables false
namespace Go.Proofs.Ytlcjkehpdlgdoaa
open Go.RowKit
/-- Grants, someone and a time are drawn from bytes. -/
def GraFD (w : World) (e : Ending) (w' : World) : Prop :=
  ∃ (many who now : Int) (v : Value) (ds : List Gra), e = .returned (.tuple #[.int .i64 many, v, .int .i64 who, .int .i64 now]) ∧ v ≠ .slice none 0 0 ∧ 1 ≤ many ∧ many ≤ 5 ∧ -1 ≤ who ∧ who ≤ 3 ∧ 0 ≤ now ∧ now ≤ 39 ∧ ds.length ≤ 8 ∧ w'.ownsRow w.heap.size 33 4 v ds.length (cellsG ds) ∧ Below w.heap.size w w'
theorem drawGrantsAt_any (a : Option Addr) (len cap : Nat) (w : World) (h : Bytes w a len cap) : Calls Try.prog 27 #[.slice a len cap] w (GraFD w) := by
  have H := Lib.hid h
  clear h
  go_enter Try.func27, Try.ntmps27
  go_wp2_with fail
  refine (open_any a len cap _ H.out).mono ?_
  rintro e w1 ⟨rfl, r1, h1⟩
  have zb := r1.lt
  have z1 := h1.size
  go_wp2_with fail
  refine (pick_any _ 5 _ _ r1 (by omega) (by omega)).mono ?_
  rintro e w2 ⟨x, rfl, lo, hi, r2⟩
  have z2 := r2.size
  go_wp2_with fail
  refine (l20Grants_any _ _ 9 _ _ r2.rd (by omega) (by omega) (by omega) (by omega) (by omega)).mono ?_
  rintro e w4 ⟨v, ds, rfl, hv, hl, ho, r4⟩
  go_wp2_with fail
  refine (pick_any _ 4 _ _ r4.rd (by omega) (by omega)).mono ?_
  rintro e w5 ⟨y, rfl, lo5, hi5, r5⟩
  have ho5 := ownG_rd ho r5 (by omega)
  go_wp2_with fail
  refine (pick_any _ 40 _ _ r5.rd (by omega) (by omega)).mono ?_
  rintro e w6 ⟨z, rfl, lo6, hi6, r6⟩
  have ho6 := ownG_rd ho5 r6 (by omega)
  go_wp2_with fail
  (try simp only [Exit.inBlock, Exit.then]); refine bodyPost_ret (by simp [results, Try.results27, go_sem]; try rfl) rfl ?_
  refine ⟨_, y, z, v, ds, rfl, hv, by omega, by omega, by omega, by omega, by omega, by omega, hl, own_lo ho6 (by omega), ?_⟩
  (repeat' first | (with_reducible exact Below.refl _ _) | (with_reducible refine Below.rd (by assumption) ?_ ?_) | (with_reducible refine Below.via (by assumption) ?_) | (with_reducible refine Below.al ?_ _) | (with_reducible refine Below.dn ?_ _) | (with_reducible refine Below.dr ?_) | (with_reducible refine Below.setCell ?_ ?_ _) | (dsimp only; omega) | (simp only [World.size_alloc, World.size_drew]; omega) | (simp; done) | omega)
theorem grantsAt_in (many : Int) (ds : List Gra) (who now : Int) (k : Nat) (h : k < (grantsAt many ds who now).length) : ds.any (onG who now (grantsAt many ds who now)[k]) = true := by
  have hm := List.getElem_mem h
  generalize (grantsAt many ds who now)[k] = x at hm ⊢
  unfold grantsAt at hm
  split at hm
  · obtain ⟨r, hr, rfl⟩ := List.mem_map.mp hm
    exact (List.mem_filter.mp hr).2
  · simp at hm
theorem grantsAt_up (many : Int) (ds : List Gra) (who now : Int) (k : Nat) (h : k < (grantsAt many ds who now).length) (hk : 0 < k) : (grantsAt many ds who now)[k - 1] < (grantsAt many ds who now)[k] := by
  have hs : (grantsAt many ds who now).Pairwise (· < ·) := by
    unfold grantsAt
    split
    · rw [List.pairwise_map]
      exact ((List.pairwise_lt_range).filter _).imp (fun h => by omega)
    · exact List.Pairwise.nil
  exact List.pairwise_iff_getElem.mp hs (k - 1) k (by omega) h (by omega)
set_option maxRecDepth 100000 in
set_option maxHeartbeats 6400000 in
theorem grantsAt_walk (a : Option Addr) (len cap : Nat) (w : World) (h : Bytes w a len cap) : Calls Try.prog 6 #[.slice a len cap] w fun e w' => e = .returned (.bool true) ∧ Below w.heap.size w w' := by
  have h1 := h.1
  have h2 := h.2.1
  unfold maxLen at h2
  have H := Lib.hid h
  clear h
  by_cases hl : 1048576 < len
  · go_enter Try.func6, Try.ntmps6
    go_wp2_with fail
    go_ret
    exact ⟨rfl, Below.refl _ _⟩
  · go_enter Try.func6, Try.ntmps6
    go_wp2_with fail
    refine (drawGrantsAt_any a len cap _ H.out).mono ?_
    rintro e w1 ⟨many, who, now, v, ds, rfl, hv, hm1, hm5, hw1, hw3, hn0, hn39, hlen, ho, b1⟩
    obtain ⟨g, c, rfl, hg, hn, hc, hcell⟩ := own_ad ho hv
    have Hs := Lib.hid (own_sl ho)
    clear hcell ho hv
    unfold maxLen at hc
    obtain ⟨L, hR⟩ : ∃ L, L = grantsAt many ds who now := ⟨_, rfl⟩
    have hL : L.length ≤ 8 := by rw [hR]; exact grantsAt_len many ds who now
    have hin := Lib.hid (show ∀ k (h : k < L.length), ds.any (onG who now L[k]) = true from by subst hR; exact grantsAt_in many ds who now)
    have hup := Lib.hid (show ∀ k (h : k < L.length), 0 < k → L[k - 1] < L[k] from by subst hR; exact grantsAt_up many ds who now)
    have HR := Lib.hid hR
    clear hR
    go_wp2_with fail
    refine (implGrantsAt_any many ds who now _ _ Hs.out).mono ?_
    rintro e w2 ⟨u, rfl, o2, b2⟩
    rw [← HR.out] at o2
    have hs2 := own_sl o2
    obtain ⟨ua, uc, rfl, hu1, hu2⟩ := SlF.shape hs2
    unfold maxLen at hu2
    have Hx2 := Lib.hid hs2
    clear hs2 o2
    have Hs2 := Lib.hid (SlF.below Hs.out b2)
    go_wp2_with fail
    refine (specGrantsAt_any many ds who now _ _ Hs2.out).mono ?_
    rintro e w3 ⟨y, rfl, o3, b3⟩
    rw [← HR.out] at o3
    have Hy3 := Lib.hid (own_sl o3)
    clear o3
    have Hs3 := Lib.hid (SlF.below Hs2.out b3)
    have Hx3 := Lib.hid (SlF.below Hx2.out b3)
    go_wp2_with fail
    refine (sameInts_any _ _ _ _ _ Hx3.out Hy3.out).mono ?_
    rintro e w4 ⟨rfl, b4⟩
    have Hs4 := Lib.hid (SlF.below Hs3.out b4)
    have Hx4 := Lib.hid (SlF.below Hx3.out b4)
    have hB4 : Below w.heap.size w w4 := Below.via b4 (Below.via b3 (Below.via b2 b1))
    clear Hs Hs2 Hs3 Hx2 Hx3 Hy3
    go_wp2_with fail
    go_loopw [8] (fun i wr => ∃ k : Nat, k ≤ L.length ∧ i = .int .i64 k ∧ Below w4.heap.size w4 wr) (fun i _ => L.length - (intOf i).toNat)
    case atStart => exact ⟨0, Nat.zero_le _, rfl, Below.refl _ _⟩
    case round =>
      obtain ⟨k, hk, rfl, hB⟩ := hrel
      by_cases hlt : k < L.length
      · obtain ⟨xg, xo, xc, hvv, _, _, cx⟩ := (SlI.below Hx4.out hB).cell k hlt
        simp only [Value.slice.injEq] at hvv
        obtain ⟨rfl, -, rfl⟩ := hvv
        have hik := Lib.hid (hin.out k hlt)
        have huk := Lib.hid (hup.out k hlt)
        obtain ⟨r, hr⟩ : ∃ r, L[k] = r := ⟨_, rfl⟩
        have Hr := Lib.hid hr
        rw [hr] at cx hik huk
        clear hr cx
        go_wp2_with fail
        go_loopw [9, 10] (fun f i wx => ∃ j : Nat, j ≤ ds.length ∧ i = .int .i64 j ∧ f = .bool ((ds.take j).any (onG who now r)) ∧ Below w4.heap.size w4 wx) (fun _ i _ => ds.length - (intOf i).toNat)
        case atStart => exact ⟨0, Nat.zero_le _, rfl, rfl, hB⟩
        case round =>
          obtain ⟨j, hj, rfl, rfl, hBx⟩ := hrel
          by_cases hlj : j < ds.length
          · obtain ⟨g3, off, cap', hvv, _, _, c0, c1, c2, c3⟩ := (SlG.below Hs4.out hBx).cells j hlj
            simp only [Value.slice.injEq, Option.some.injEq, Addr.mk.injEq, true_and, and_true] at hvv
            obtain ⟨⟨rfl, rfl⟩, rfl⟩ := hvv
            obtain ⟨xg2, xo2, xc2, hvv, _, _, cx⟩ := (SlI.below Hx4.out hBx).cell k hlt
            rw [Hr.out] at cx
            simp only [Value.slice.injEq, Option.some.injEq, Addr.mk.injEq, true_and, and_true] at hvv
            obtain ⟨⟨rfl, rfl⟩, rfl⟩ := hvv
            have hs := Lib.hid (any_step ds (onG who now r) j hlj)
            generalize ds[j] = d at c0 c1 c2 c3 hs
            simp only [Nat.zero_add] at c0 c1 c2 c3
            cases hf : (ds.take j).any (onG who now r)
            · cases p1 : d.f1 == r
              · have hf2 := Lib.hid (hs.out.trans (show _ = false from by rw [hf]; simp only [onG, p1]; simp))
                clear hs
                go_wp2_with fail
                go_quiet (fail)
                go_wp2_with fail
                go_roundw
                case rel => exact ⟨j + 1, by omega, by go_num, by rw [hf2.out], Below.dn hBx _⟩
                case measure => simp [intOf]; omega
              · cases p2 : d.f0 == who
                · have hf2 := Lib.hid (hs.out.trans (show _ = false from by rw [hf]; simp only [onG, p1, p2]; simp))
                  clear hs
                  go_wp2_with fail
                  go_quiet (fail)
                  go_wp2_with fail
                  go_roundw
                  case rel => exact ⟨j + 1, by omega, by go_num, by rw [hf2.out], Below.dn hBx _⟩
                  case measure => simp [intOf]; omega
                · cases p3 : decide (d.f2 ≤ now)
                  · have hf2 := Lib.hid (hs.out.trans (show _ = false from by rw [hf]; simp only [onG, p1, p2, p3]; simp))
                    clear hs
                    go_wp2_with fail
                    go_quiet (fail)
                    go_wp2_with fail
                    go_roundw
                    case rel => exact ⟨j + 1, by omega, by go_num, by rw [hf2.out], Below.dn hBx _⟩
                    case measure => simp [intOf]; omega
                  · cases p4 : decide (now < d.f3)
                    · have hf2 := Lib.hid (hs.out.trans (show _ = false from by rw [hf]; simp only [onG, p1, p2, p3, p4]; simp))
                      clear hs
                      go_wp2_with fail
                      go_quiet (fail)
                      go_wp2_with fail
                      go_roundw
                      case rel => exact ⟨j + 1, by omega, by go_num, by rw [hf2.out], Below.dn hBx _⟩
                      case measure => simp [intOf]; omega
                    · have hf2 := Lib.hid (hs.out.trans (show _ = true from by rw [hf]; simp only [onG, p1, p2, p3, p4]; simp))
                      clear hs
                      go_wp2_with fail
                      go_quiet (fail)
                      go_wp2_with fail
                      go_roundw
                      case rel => exact ⟨j + 1, by omega, by go_num, by rw [hf2.out], Below.dn hBx _⟩
                      case measure => simp [intOf]; omega
            · have hf2 := Lib.hid (hs.out.trans (show _ = true from by rw [hf]; rfl))
              clear hs
              go_wp2_with fail
              go_quiet (fail)
              go_wp2_with fail
              go_roundw
              case rel => exact ⟨j + 1, by omega, by go_num, by rw [hf2.out], Below.dn hBx _⟩
              case measure => simp [intOf]; omega
          · have hq : (ds.take j).any (onG who now r) = true := (any_end ds _ j hlj).trans hik.out
            obtain ⟨xg2, xo2, xc2, hvv, _, _, cx⟩ := (SlI.below Hx4.out hBx).cell k hlt
            rw [Hr.out] at cx
            simp only [Value.slice.injEq, Option.some.injEq, Addr.mk.injEq, true_and, and_true] at hvv
            obtain ⟨⟨rfl, rfl⟩, rfl⟩ := hvv
            by_cases hk0 : 0 < k
            · obtain ⟨xg2, xo2, xc2, hvv, _, _, cy⟩ := (SlI.below Hx4.out hBx).cell (k - 1) (by omega)
              simp only [Value.slice.injEq, Option.some.injEq, Addr.mk.injEq, true_and, and_true] at hvv
              obtain ⟨⟨rfl, rfl⟩, rfl⟩ := hvv
              have hlt2 := huk.out hk0
              generalize L[k - 1] = s at cy hlt2
              have hkd : decide (0 < (k : Int)) = true := by simp; omega
              have hls : decide (r ≤ s) = false := by simp; omega
              go_wp2_with fail
              go_quiet (fail)
              go_wp2_with fail
              go_roundw
              case rel => exact ⟨k + 1, by omega, by go_num, Below.dn hBx _⟩
              case measure => simp [intOf]; omega
            · have hkd : decide (0 < (k : Int)) = false := by simp; omega
              go_wp2_with fail
              go_quiet (fail)
              go_wp2_with fail
              go_roundw
              case rel => exact ⟨k + 1, by omega, by go_num, Below.dn hBx _⟩
              case measure => simp [intOf]; omega
      · go_wp2_with ((go_at_call 20; refine (alive_any _).mono ?_; rintro e w' ⟨rfl, rfl⟩))
        go_ret
        exact ⟨rfl, Below.via hB hB4⟩
end Go.Proofs.Ytlcjkehpdlgdoaa
