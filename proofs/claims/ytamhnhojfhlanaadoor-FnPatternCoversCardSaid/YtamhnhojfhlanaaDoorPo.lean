/-
  Patterns that cover others: the program's PatternCovers. Conditions: bytealg's MaxLen is a number. (slices.IndexFunc is walked here with a function value that makes memory.)
-/
import Derived.Test.YtamhnhojfhlanaaDoorPn
set_option linter.unusedSimpArgs false
set_option linter.unusedVariables false
namespace Go.Proofs.YtamhnhojfhlanaaDoor
open Go.RowKit Go.Lib
theorem enters38 : ∀ args w, (callFunc 38 args).run Tryd.prog w = .ok (.enter 38 args) w := enters_of Tryd.func38 (by kernel_rfl) rfl
theorem patternCovers1_any (s : ByteArray) (w : World) (hN : MaxN w) (hs : s.size ≤ 2097152) (bs : List ByteArray) (hx : Words s.data.toList bs) (h5 : bs.length ≤ 5) (v : Value) (ws : List ByteArray) (hr : RowS w v ws) (hl : ws.length ≤ 2097153) (b : Nat) (hb : w.cell? ⟨b, 0, none⟩ = some (.string s)) :
    Calls Tryd.prog 38 #[v, .pointer (some ⟨b, 0, none⟩)] w fun e w' => e = .returned (.bool (!covBy bs ws)) ∧ Below w.heap.size w w' := by
  have CC := Lib.hid (coveredBy_any s w hN hs bs hx h5 v ws hr hl)
  clear hr hx hN
  go_enter Tryd.func38, Tryd.ntmps38
  go_wp2_with fail
  refine CC.out.mono ?_
  rintro e w' ⟨rfl, b1⟩
  go_wp2_with fail
  go_ret
  exact ⟨rfl, b1⟩
theorem indexFunc_any {α : Type} (enc : α → Value) (p : α → Bool) (g : Nat) (lb : Array Value) (eg : ∀ args w, (callFunc g args).run Tryd.prog w = .ok (.enter g args) w) (b c : Nat) (zs : List α) (w : World)
    (hp : ∀ (W : World) (x : α), Below w.heap.size w W → Calls Tryd.prog g (#[enc x] ++ lb) W fun e w' => e = .returned (.bool (p x)) ∧ Below w.heap.size w w')
    (hbig : zs.length ≤ 1000) (hc : ∀ j (hj : j < zs.length), w.cell? ⟨b, j, none⟩ = some (enc zs[j])) (hcap : zs.length ≤ c) (hcap2 : c ≤ maxLen) :
    Calls Tryd.prog 45 #[.slice (some ⟨b, 0, none⟩) zs.length c, .func (.func g) #[] lb] w fun e w' => (∃ r : Int, e = .returned (.int .i64 r) ∧ decide (0 ≤ r) = zs.any p) ∧ Below w.heap.size w w' := by
  obtain ⟨n, hn⟩ : ∃ n, zs.length = n := ⟨_, rfl⟩
  have HN := Lib.hid hn
  have HC := Lib.hid hc
  have HP := Lib.hid hp
  unfold maxLen at hcap2
  rw [hn]
  rw [hn] at hbig hcap
  clear hn hc hp
  go_enter Tryd.func45, Tryd.ntmps45
  go_wp2_with fail
  go_loopw [5, 8] (fun _ i wr => ∃ k : Nat, k ≤ n ∧ i = .int .i64 k ∧ Hid (Below w.heap.size w wr) ∧ Hid ((zs.take k).any p = false)) (fun _ i _ => n - (intOf i).toNat)
  case atStart => exact ⟨0, Nat.zero_le _, rfl, Below.refl _ _, by simp [Hid]⟩
  case round =>
    obtain ⟨k, hk, rfl, hB, hA⟩ := hrel
    by_cases hlt : k < n
    · have hltz : (k : Int) < (n : Int) := by omega
      have hkz : k < zs.length := by have := HN.out; omega
      have h0 := HC.out k hkz
      have hcell := (hB.out.cell (World.block_lt_of_cell? _ _ h0)).trans h0
      have hcall := HP.out wr zs[k] hB.out
      have HS := Lib.hid (show (zs.take (k + 1)).any p = p zs[k] by
        rw [List.take_succ_eq_append_getElem hkz, List.any_append, hA.out]
        simp)
      have HY := Lib.hid (show p zs[k] = true → zs.any p = true from fun h => List.any_eq_true.2 ⟨_, List.getElem_mem hkz, h⟩)
      clear h0
      generalize zs[k] = y at hcell hcall HS HY
      cases hq : p y
      · rw [hq] at hcall HS
        clear hq HY
        go_wp2_with (go_at_fn g; refine hcall.mono ?_; rintro e w' ⟨rfl, b'⟩)
        have HB := Lib.hid b'
        go_roundw
        case rel => exact ⟨k + 1, by omega, by go_num, HB, HS⟩
        case measure => simp [intOf]; omega
      · rw [hq] at hcall
        have HZ := Lib.hid (HY.out hq)
        clear hq HY HS
        go_wp2_with (go_at_fn g; refine hcall.mono ?_; rintro e w' ⟨rfl, b'⟩)
        go_ret
        refine ⟨⟨_, rfl, ?_⟩, by assumption⟩
        rw [HZ.out]
        exact decide_eq_true (by omega)
    · have hltz : ¬ (k : Int) < (n : Int) := by omega
      have HZ := Lib.hid (show zs.any p = false by
        have := hA.out
        rwa [List.take_of_length_le (by have := HN.out; omega)] at this)
      go_wp2_with fail
      go_ret
      refine ⟨⟨_, rfl, ?_⟩, hB.out⟩
      rw [HZ.out]
      rfl
theorem containsFunc_any {α : Type} (enc : α → Value) (p : α → Bool) (g : Nat) (lb : Array Value) (eg : ∀ args w, (callFunc g args).run Tryd.prog w = .ok (.enter g args) w) (b c : Nat) (zs : List α) (w : World)
    (hp : ∀ (W : World) (x : α), Below w.heap.size w W → Calls Tryd.prog g (#[enc x] ++ lb) W fun e w' => e = .returned (.bool (p x)) ∧ Below w.heap.size w w')
    (hbig : zs.length ≤ 1000) (hc : ∀ j (hj : j < zs.length), w.cell? ⟨b, j, none⟩ = some (enc zs[j])) (hcap : zs.length ≤ c) (hcap2 : c ≤ maxLen) :
    Calls Tryd.prog 36 #[.slice (some ⟨b, 0, none⟩) zs.length c, .func (.func g) #[] lb] w fun e w' => e = .returned (.bool (zs.any p)) ∧ Below w.heap.size w w' := by
  have HI := Lib.hid (indexFunc_any enc p g lb eg b c zs w hp hbig hc hcap hcap2)
  clear hp hc
  go_enter Tryd.func36, Tryd.ntmps36
  go_wp2_with fail
  refine HI.out.mono ?_
  rintro e w' ⟨⟨r, rfl, hr⟩, b'⟩
  go_wp2_with fail
  go_ret
  exact ⟨by rw [← hr]; rfl, b'⟩
set_option maxHeartbeats 1600000 in
theorem implPatternCovers_any (s t : ByteArray) (w : World) (hN : MaxN w) (hs : s.size ≤ 2097152) (ht : t.size ≤ 2097152) (qs bs : List ByteArray) (hx : Words s.data.toList qs) (hy : Words t.data.toList bs) :
    Calls Tryd.prog 21 #[.string s, .string t] w fun e w' => e = .returned (.bool (patCov qs bs)) ∧ Below w.heap.size w w' := by
  have HN := Lib.hid (MaxN.below hN (below_al w (.cells #[.string s] 9)))
  have k0 := Bk.new (w := w) (vs := #[.string s]) (t := 9)
  have hB0 := below_al w (.cells #[.string s] 9)
  have x0 := k0.cell
  have CA := Lib.hid (fun wx (h : MaxN wx) => implPatternValid_any s wx h hs qs hx)
  have CB := Lib.hid (fun wx (h : MaxN wx) => implPatternValid_any t wx h ht bs hy)
  have CL := Lib.hid (fun h5 wx (h : MaxN wx) => lengths_any t wx h ht bs hy h5)
  have CC := Lib.hid (fun h5 wx (h : MaxN wx) v ws hr hl b hb => patternCovers1_any s wx h hs qs hx h5 v ws hr hl b hb)
  clear hN hx hy
  cases hp : patOk qs
  · rw [hp] at CA
    have HF := Lib.hid (show patCov qs bs = false by unfold patCov; rw [hp]; rfl)
    clear hp
    go_enter Tryd.func21, Tryd.ntmps21
    go_wp2_with fail
    refine (CA.out _ HN.out).mono ?_
    rintro e w1 ⟨rfl, b1⟩
    have hB1 := Below.via b1 hB0
    go_wp2_with fail
    go_ret
    exact ⟨by rw [HF.out]; rfl, hB1⟩
  · rw [hp] at CA
    cases hb : patOk bs
    · rw [hb] at CB
      have HF := Lib.hid (show patCov qs bs = false by unfold patCov; rw [hb, Bool.and_false]; rfl)
      clear hp hb
      go_enter Tryd.func21, Tryd.ntmps21
      go_wp2_with fail
      refine (CA.out _ HN.out).mono ?_
      rintro e w1 ⟨rfl, b1⟩
      have hB1 := Below.via b1 hB0
      go_wp2_with fail
      refine (CB.out _ (MaxN.below HN.out b1)).mono ?_
      rintro e w2 ⟨rfl, b2⟩
      have hB2 := Below.via b2 hB1
      go_wp2_with fail
      go_ret
      exact ⟨by rw [HF.out]; rfl, hB2⟩
    · rw [hb] at CB
      have HF := Lib.hid (show patCov qs bs = !((lens bs).any fun ws => !covBy qs ws) by unfold patCov; rw [hp, hb]; rfl)
      have hl1 := patOk_len hp
      have hl2 := patOk_len hb
      clear hp hb
      go_enter Tryd.func21, Tryd.ntmps21
      go_wp2_with fail
      refine (CA.out _ HN.out).mono ?_
      rintro e w1 ⟨rfl, b1⟩
      have hB1 := Below.via b1 hB0
      go_wp2_with fail
      refine (CB.out _ (MaxN.below HN.out b1)).mono ?_
      rintro e w2 ⟨rfl, b2⟩
      have hB2 := Below.via b2 hB1
      have N2 := Lib.hid (MaxN.below (MaxN.below HN.out b1) b2)
      go_wp2_with fail
      refine (CL.out hl2 _ N2.out).mono ?_
      rintro e w3 ⟨v, rfl, hR, b3⟩
      have hB3 := Below.via b3 hB2
      have N3 := Lib.hid (MaxN.below N2.out b3)
      have k3 := ((k0.below b1).below b2).below b3
      have hkb : w3.cell? ⟨w.heap.size, 0, none⟩ = some (.string s) := (k3.cell 0).trans rfl
      obtain ⟨g, cap, zs, rfl, hz, z1, z2, hc⟩ := rows_list hR (lens_le hl2)
      have hz5 : zs.length ≤ 1000 := by
        have : zs.length = (lens bs).length := by rw [← hz, List.length_map]
        rw [this]
        unfold lens
        split
        · split
          · simp
            omega
          · simp
        · simp
      have HC := Lib.hid (containsFunc_any (fun z : El w3 => z.1.1) (fun z => !covBy qs z.1.2) 38 #[.pointer (some ⟨w.heap.size, 0, none⟩)] enters38 g cap zs w3 (fun W x hb => (show Calls Tryd.prog 38 #[x.1.1, .pointer (some ⟨w.heap.size, 0, none⟩)] W _ from CC.out hl1 W (MaxN.below N3.out hb) x.1.1 x.1.2 (x.2.1.below hb) (by have := x.2.2; omega) w.heap.size ((hb.cell (World.block_lt_of_cell? _ _ hkb)).trans hkb)).mono (by rintro e w' ⟨rfl, b'⟩; exact ⟨rfl, hb.trans (b'.mono hb.size)⟩)) hz5 hc z1 z2)
      have HP := Lib.hid (show (zs.any fun z => !covBy qs z.1.2) = ((lens bs).any fun ws => !covBy qs ws) by
        rw [← hz, List.any_map]
        rfl)
      generalize (zs.any fun z => !covBy qs z.1.2) = ans at HC HP
      clear hc hz hR k3 hkb x0 k0
      go_wp2_with fail
      refine HC.out.mono ?_
      rintro e w4 ⟨rfl, b4⟩
      have hB4 := Below.via b4 hB3
      go_wp2_with fail
      go_ret
      exact ⟨by rw [HF.out, ← HP.out]; rfl, hB4⟩
end Go.Proofs.YtamhnhojfhlanaaDoor
