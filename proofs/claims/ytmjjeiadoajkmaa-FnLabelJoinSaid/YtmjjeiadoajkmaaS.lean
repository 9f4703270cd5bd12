/-
  The laws on joined and met labels, walked. Condition: the bytes can be read.
-/
import Derived.Test.YtmjjeiadoajkmaaR
import Derived.Deep.LoopGhost
set_option linter.unusedSimpArgs false
set_option linter.unusedVariables false
namespace Go.Proofs.Ytmjjeiadoajkmaa
open Go.RowKit

set_option maxRecDepth 100000 in
set_option maxHeartbeats 3200000 in
theorem labelJoin_walk (a : Option Addr) (len cap : Nat) (w : World) (h : Bytes w a len cap) : Calls Try.prog 9 #[.slice a len cap] w fun e w' => e = .returned (.bool true) ∧ Below w.heap.size w w' := by
  have h1 := h.1
  have h2 := h.2.1
  unfold maxLen at h2
  have H := Lib.hid h
  clear h
  have eL := eqlLabel
  have nL := neqLabel
  have gL := guardRunLabel
  have hc := fun p q r s wx => implBelow_any p q r s wx
  simp only [below_agree] at hc
  by_cases hl : 1048576 < len
  · clear hc eL nL gL
    go_enter Try.func9, Try.ntmps9
    go_wp2_with fail
    go_ret
    exact ⟨rfl, Below.refl _ _⟩
  · go_enter Try.func9, Try.ntmps9
    go_wp2_with fail
    refine (drawLabelJoin_any a len cap _ H.out).mono ?_
    rintro e w1 ⟨l, x, m, y, rfl, h1⟩
    obtain ⟨hs1, hs2⟩ := join_sym l x m y
    obtain ⟨k3, k4⟩ := Bk.init2 (w := w1) (vs := #[.int .i64 l, .int .i64 x]) (us := #[.int .i64 m, .int .i64 y]) (t := 25) (s := 25)
    go_wp2_with fail
    refine (implJoin_any _ _ _ _ _).mono ?_
    rintro e w2 ⟨rfl, h2⟩
    replace k3 := k3.below h2
    replace k4 := k4.below h2
    obtain ⟨wb, hwb⟩ : ∃ wb, wb = w2.alloc (.cells #[.int .i64 (join1 l x m y), .int .i64 (join2 l x m y)] 25) := ⟨_, rfl⟩
    have k5 := Bk.new (w := w2) (vs := #[.int .i64 (join1 l x m y), .int .i64 (join2 l x m y)]) (t := 25)
    replace k3 := k3.alloc (.cells #[.int .i64 (join1 l x m y), .int .i64 (join2 l x m y)] 25)
    replace k4 := k4.alloc (.cells #[.int .i64 (join1 l x m y), .int .i64 (join2 l x m y)] 25)
    have h3 := below_al w2 (.cells #[.int .i64 (join1 l x m y), .int .i64 (join2 l x m y)] 25)
    rw [← hwb] at k3 k4 k5 h3
    go_wp2_with fail
    rw [← hwb]
    clear hwb
    have l3 := fun wx (h : Below wb.heap.size wb wx) => (k3.below h).cell
    have l4 := fun wx (h : Below wb.heap.size wb wx) => (k4.below h).cell
    have l5 := fun wx (h : Below wb.heap.size wb wx) => (k5.below h).cell
    refine wp_region_cls (C := Below wb.heap.size wb) (by kernel_rfl) (by kernel_rfl) (Below.refl _ _).drew ?_; (repeat ((first | (refine q_step ?_ (by rfl) (fun wx hx => ?_) ?_; rotate_left; (focus (go_simp; first | done | (with_reducible rfl) | first | (go_at_call 19; with_reducible refine (specJoin_any _ _ _ _ _).mono ?_; rintro e w' ⟨rfl, hb⟩; refine ⟨?_, Below.via hb hx⟩; with_reducible rfl) | (go_at_call 20; with_reducible refine (implJoin_any _ _ _ _ _).mono ?_; rintro e w' ⟨rfl, hb⟩; refine ⟨?_, Below.via hb hx⟩; with_reducible rfl)))) | (refine BigFrame.wpQuiet_skip (by rfl) ?_)); (try simp only [Act.put, List.setIfInBounds_toArray, List.set_cons_zero, List.set_cons_succ]))); refine wpQuiet_nil ?_; intro wq hq
    clear hs1 hs2
    cases hv1 : labValid l x
    · obtain ⟨o1, o2⟩ := join_off l x m y (by rw [hv1]; rfl)
      go_wp2_with (first | (go_at_call 13; refine (implLabelValid_any _ _ _).mono ?_; rintro e w' ⟨rfl, hb⟩; replace hq := Below.via hb hq) | (go_at_call 22; refine (alive_any _).mono ?_; rintro e w' ⟨rfl, rfl⟩))
      go_ret
      refine ⟨rfl, ?_⟩
      clear l3 l4 l5
      (repeat' first | (with_reducible exact Below.refl _ _) | (with_reducible refine Below.rd (by assumption) ?_ ?_) | (with_reducible refine Below.via (by assumption) ?_) | (with_reducible refine Below.al ?_ _) | (with_reducible refine Below.dn ?_ _) | (with_reducible refine Below.dr ?_) | (with_reducible refine Below.setCell ?_ ?_ _) | (dsimp only; omega) | (simp only [World.size_alloc, World.size_drew]; omega) | (simp; done) | omega)
    · cases hv2 : labValid m y
      · obtain ⟨o1, o2⟩ := join_off l x m y (by rw [hv2]; simp)
        go_wp2_with (first | (go_at_call 13; refine (implLabelValid_any _ _ _).mono ?_; rintro e w' ⟨rfl, hb⟩; replace hq := Below.via hb hq) | (go_at_call 22; refine (alive_any _).mono ?_; rintro e w' ⟨rfl, rfl⟩))
        go_ret
        refine ⟨rfl, ?_⟩
        clear l3 l4 l5
        (repeat' first | (with_reducible exact Below.refl _ _) | (with_reducible refine Below.rd (by assumption) ?_ ?_) | (with_reducible refine Below.via (by assumption) ?_) | (with_reducible refine Below.al ?_ _) | (with_reducible refine Below.dn ?_ _) | (with_reducible refine Below.dr ?_) | (with_reducible refine Below.setCell ?_ ?_ _) | (dsimp only; omega) | (simp only [World.size_alloc, World.size_drew]; omega) | (simp; done) | omega)
      · have hp := join_above l x m y hv1 hv2
        have hp3 := Lib.hid hp.2.2
        have hpa := hp.1
        have hpb := hp.2.1
        clear hp
        go_wp2_with (first | (go_at_call 13; refine (implLabelValid_any _ _ _).mono ?_; rintro e w' ⟨rfl, hb⟩; replace hq := Below.via hb hq))
        go_loopw [6] (fun i wr => ∃ k : Nat, k ≤ 128 ∧ i = .int .i64 k ∧ Below wb.heap.size wb wr) (fun i _ => 128 - (intOf i).toNat)
        case atStart => exact ⟨0, by omega, rfl, hq⟩
        case round =>
          obtain ⟨k, hk, rfl, hB⟩ := hrel
          by_cases hlt : k < 128
          · have hxa := fun o => Below.al hB o
            have hc3 := Lib.hid (hp3.out (↑k / 32) (↑k % 32))
            cases b1 : sBel l x (↑k / 32) (↑k % 32)
            · go_wp2_with (first | (go_at_call 15; refine (hc _ _ _ _ _).mono ?_; rintro e w' ⟨rfl, hb⟩; (first | (replace hB := Below.via hb hB) | (replace hB := Below.via hb (Below.al hB _))); (first | (replace k7 := k7.below hb) | (have k7 := Bk.below Bk.new hb)); (try clear x7); have x7 := k7.cell))
              go_roundw
              case rel => exact ⟨k + 1, by omega, by go_num, hB⟩
              case measure => simp [intOf]; omega
            · cases b2 : sBel m y (↑k / 32) (↑k % 32)
              · go_wp2_with (first | (go_at_call 15; refine (hc _ _ _ _ _).mono ?_; rintro e w' ⟨rfl, hb⟩; (first | (replace hB := Below.via hb hB) | (replace hB := Below.via hb (Below.al hB _))); (first | (replace k7 := k7.below hb) | (have k7 := Bk.below Bk.new hb)); (try clear x7); have x7 := k7.cell))
                go_roundw
                case rel => exact ⟨k + 1, by omega, by go_num, hB⟩
                case measure => simp [intOf]; omega
              · have b3 := hc3.out b1 b2
                go_wp2_with (first | (go_at_call 15; refine (hc _ _ _ _ _).mono ?_; rintro e w' ⟨rfl, hb⟩; (first | (replace hB := Below.via hb hB) | (replace hB := Below.via hb (Below.al hB _))); (first | (replace k7 := k7.below hb) | (have k7 := Bk.below Bk.new hb)); (try clear x7); have x7 := k7.cell))
                go_roundw
                case rel => exact ⟨k + 1, by omega, by go_num, hB⟩
                case measure => simp [intOf]; omega
          · clear hp3
            go_wp2_with (first | (go_at_call 15; refine (hc _ _ _ _ _).mono ?_; rintro e w' ⟨rfl, hb⟩; replace hB := Below.via hb hB))
            go_ret
            refine ⟨rfl, ?_⟩
            clear l3 l4 l5
            (repeat' first | (with_reducible exact Below.refl _ _) | (with_reducible refine Below.rd (by assumption) ?_ ?_) | (with_reducible refine Below.via (by assumption) ?_) | (with_reducible refine Below.al ?_ _) | (with_reducible refine Below.dn ?_ _) | (with_reducible refine Below.dr ?_) | (with_reducible refine Below.setCell ?_ ?_ _) | (dsimp only; omega) | (simp only [World.size_alloc, World.size_drew]; omega) | (simp; done) | omega)

set_option maxRecDepth 100000 in
set_option maxHeartbeats 3200000 in
theorem labelMeet_walk (a : Option Addr) (len cap : Nat) (w : World) (h : Bytes w a len cap) : Calls Try.prog 10 #[.slice a len cap] w fun e w' => e = .returned (.bool true) ∧ Below w.heap.size w w' := by
  have h1 := h.1
  have h2 := h.2.1
  unfold maxLen at h2
  have H := Lib.hid h
  clear h
  have eL := eqlLabel
  have nL := neqLabel
  have gL := guardRunLabel
  have hc := fun p q r s wx => implBelow_any p q r s wx
  simp only [below_agree] at hc
  by_cases hl : 1048576 < len
  · clear hc eL nL gL
    go_enter Try.func10, Try.ntmps10
    go_wp2_with fail
    go_ret
    exact ⟨rfl, Below.refl _ _⟩
  · go_enter Try.func10, Try.ntmps10
    go_wp2_with fail
    refine (drawLabelMeet_any a len cap _ H.out).mono ?_
    rintro e w1 ⟨l, x, m, y, rfl, h1⟩
    obtain ⟨hs1, hs2⟩ := meet_sym l x m y
    obtain ⟨k3, k4⟩ := Bk.init2 (w := w1) (vs := #[.int .i64 l, .int .i64 x]) (us := #[.int .i64 m, .int .i64 y]) (t := 25) (s := 25)
    go_wp2_with fail
    refine (implMeet_any _ _ _ _ _).mono ?_
    rintro e w2 ⟨rfl, h2⟩
    replace k3 := k3.below h2
    replace k4 := k4.below h2
    obtain ⟨wb, hwb⟩ : ∃ wb, wb = w2.alloc (.cells #[.int .i64 (meet1 l x m y), .int .i64 (meet2 l x m y)] 25) := ⟨_, rfl⟩
    have k5 := Bk.new (w := w2) (vs := #[.int .i64 (meet1 l x m y), .int .i64 (meet2 l x m y)]) (t := 25)
    replace k3 := k3.alloc (.cells #[.int .i64 (meet1 l x m y), .int .i64 (meet2 l x m y)] 25)
    replace k4 := k4.alloc (.cells #[.int .i64 (meet1 l x m y), .int .i64 (meet2 l x m y)] 25)
    have h3 := below_al w2 (.cells #[.int .i64 (meet1 l x m y), .int .i64 (meet2 l x m y)] 25)
    rw [← hwb] at k3 k4 k5 h3
    go_wp2_with fail
    rw [← hwb]
    clear hwb
    have l3 := fun wx (h : Below wb.heap.size wb wx) => (k3.below h).cell
    have l4 := fun wx (h : Below wb.heap.size wb wx) => (k4.below h).cell
    have l5 := fun wx (h : Below wb.heap.size wb wx) => (k5.below h).cell
    refine wp_region_cls (C := Below wb.heap.size wb) (by kernel_rfl) (by kernel_rfl) (Below.refl _ _).drew ?_; (repeat ((first | (refine q_step ?_ (by rfl) (fun wx hx => ?_) ?_; rotate_left; (focus (go_simp; first | done | (with_reducible rfl) | first | (go_at_call 16; with_reducible refine (specMeet_any _ _ _ _ _).mono ?_; rintro e w' ⟨rfl, hb⟩; refine ⟨?_, Below.via hb hx⟩; with_reducible rfl) | (go_at_call 17; with_reducible refine (implMeet_any _ _ _ _ _).mono ?_; rintro e w' ⟨rfl, hb⟩; refine ⟨?_, Below.via hb hx⟩; with_reducible rfl)))) | (refine BigFrame.wpQuiet_skip (by rfl) ?_)); (try simp only [Act.put, List.setIfInBounds_toArray, List.set_cons_zero, List.set_cons_succ]))); refine wpQuiet_nil ?_; intro wq hq
    clear hs1 hs2
    cases hv1 : labValid l x
    · obtain ⟨o1, o2⟩ := meet_off l x m y (by rw [hv1]; rfl)
      go_wp2_with (first | (go_at_call 13; refine (implLabelValid_any _ _ _).mono ?_; rintro e w' ⟨rfl, hb⟩; replace hq := Below.via hb hq) | (go_at_call 22; refine (alive_any _).mono ?_; rintro e w' ⟨rfl, rfl⟩))
      go_ret
      refine ⟨rfl, ?_⟩
      clear l3 l4 l5
      (repeat' first | (with_reducible exact Below.refl _ _) | (with_reducible refine Below.rd (by assumption) ?_ ?_) | (with_reducible refine Below.via (by assumption) ?_) | (with_reducible refine Below.al ?_ _) | (with_reducible refine Below.dn ?_ _) | (with_reducible refine Below.dr ?_) | (with_reducible refine Below.setCell ?_ ?_ _) | (dsimp only; omega) | (simp only [World.size_alloc, World.size_drew]; omega) | (simp; done) | omega)
    · cases hv2 : labValid m y
      · obtain ⟨o1, o2⟩ := meet_off l x m y (by rw [hv2]; simp)
        go_wp2_with (first | (go_at_call 13; refine (implLabelValid_any _ _ _).mono ?_; rintro e w' ⟨rfl, hb⟩; replace hq := Below.via hb hq) | (go_at_call 22; refine (alive_any _).mono ?_; rintro e w' ⟨rfl, rfl⟩))
        go_ret
        refine ⟨rfl, ?_⟩
        clear l3 l4 l5
        (repeat' first | (with_reducible exact Below.refl _ _) | (with_reducible refine Below.rd (by assumption) ?_ ?_) | (with_reducible refine Below.via (by assumption) ?_) | (with_reducible refine Below.al ?_ _) | (with_reducible refine Below.dn ?_ _) | (with_reducible refine Below.dr ?_) | (with_reducible refine Below.setCell ?_ ?_ _) | (dsimp only; omega) | (simp only [World.size_alloc, World.size_drew]; omega) | (simp; done) | omega)
      · have hp := meet_below l x m y hv1 hv2
        have hp3 := Lib.hid hp.2.2.1
        have hpa := hp.1
        have hpb := hp.2.1
        have hpc := hp.2.2.2.1
        have hpd := hp.2.2.2.2
        clear hp
        go_wp2_with (first | (go_at_call 13; refine (implLabelValid_any _ _ _).mono ?_; rintro e w' ⟨rfl, hb⟩; replace hq := Below.via hb hq))
        go_loopw [6] (fun i wr => ∃ k : Nat, k ≤ 128 ∧ i = .int .i64 k ∧ Below wb.heap.size wb wr) (fun i _ => 128 - (intOf i).toNat)
        case atStart => exact ⟨0, by omega, rfl, hq⟩
        case round =>
          obtain ⟨k, hk, rfl, hB⟩ := hrel
          by_cases hlt : k < 128
          · have hxa := fun o => Below.al hB o
            have hc3 := Lib.hid (hp3.out (↑k / 32) (↑k % 32))
            cases b1 : sBel (↑k / 32) (↑k % 32) l x
            · go_wp2_with (first | (go_at_call 15; refine (hc _ _ _ _ _).mono ?_; rintro e w' ⟨rfl, hb⟩; (first | (replace hB := Below.via hb hB) | (replace hB := Below.via hb (Below.al hB _))); (first | (replace k7 := k7.below hb) | (have k7 := Bk.below Bk.new hb)); (try clear x7); have x7 := k7.cell))
              go_roundw
              case rel => exact ⟨k + 1, by omega, by go_num, hB⟩
              case measure => simp [intOf]; omega
            · cases b2 : sBel (↑k / 32) (↑k % 32) m y
              · go_wp2_with (first | (go_at_call 15; refine (hc _ _ _ _ _).mono ?_; rintro e w' ⟨rfl, hb⟩; (first | (replace hB := Below.via hb hB) | (replace hB := Below.via hb (Below.al hB _))); (first | (replace k7 := k7.below hb) | (have k7 := Bk.below Bk.new hb)); (try clear x7); have x7 := k7.cell))
                go_roundw
                case rel => exact ⟨k + 1, by omega, by go_num, hB⟩
                case measure => simp [intOf]; omega
              · have b3 := hc3.out b1 b2
                go_wp2_with (first | (go_at_call 15; refine (hc _ _ _ _ _).mono ?_; rintro e w' ⟨rfl, hb⟩; (first | (replace hB := Below.via hb hB) | (replace hB := Below.via hb (Below.al hB _))); (first | (replace k7 := k7.below hb) | (have k7 := Bk.below Bk.new hb)); (try clear x7); have x7 := k7.cell))
                go_roundw
                case rel => exact ⟨k + 1, by omega, by go_num, hB⟩
                case measure => simp [intOf]; omega
          · clear hp3
            go_wp2_with fail
            refine wp_region_cls (C := Below wb.heap.size wb) (by kernel_rfl) (by kernel_rfl) hB.drew ?_; (repeat ((first | (refine q_step ?_ (by rfl) (fun wx hx => ?_) ?_; rotate_left; (focus (go_simp; first | done | (with_reducible rfl) | first | (go_at_call 15; with_reducible refine (hc _ _ _ _ _).mono ?_; rintro e w' ⟨rfl, hb⟩; refine ⟨?_, Below.via hb hx⟩; with_reducible rfl) | (go_at_call 20; with_reducible refine (implJoin_any _ _ _ _ _).mono ?_; rintro e w' ⟨rfl, hb⟩; refine ⟨?_, Below.via hb hx⟩; with_reducible rfl)))) | (refine BigFrame.wpQuiet_skip (by rfl) ?_)); (try simp only [Act.put, List.setIfInBounds_toArray, List.set_cons_zero, List.set_cons_succ]))); refine wpQuiet_nil ?_; intro wq hq
            go_wp2_with fail
            go_ret
            refine ⟨rfl, ?_⟩
            clear l3 l4 l5
            (repeat' first | (with_reducible exact Below.refl _ _) | (with_reducible refine Below.rd (by assumption) ?_ ?_) | (with_reducible refine Below.via (by assumption) ?_) | (with_reducible refine Below.al ?_ _) | (with_reducible refine Below.dn ?_ _) | (with_reducible refine Below.dr ?_) | (with_reducible refine Below.setCell ?_ ?_ _) | (dsimp only; omega) | (simp only [World.size_alloc, World.size_drew]; omega) | (simp; done) | omega)
end Go.Proofs.Ytmjjeiadoajkmaa
