/-
  Paths at patterns: the program's coveredBy and PathFits. Conditions: bytealg's MaxLen is a number; the pattern has at most five words.
-/
import Derived.Test.YtamhnhojfhlanaaDoorPm
set_option linter.unusedSimpArgs false
set_option linter.unusedVariables false
namespace Go.Proofs.YtamhnhojfhlanaaDoor
open Go.RowKit Go.Lib
/-- A row of words that can be read in w. -/
def El (w : World) : Type := { p : Value × List ByteArray // RowS w p.1 p.2 ∧ p.2.length ≤ 5 }
theorem rows_list {w : World} {v : Value} {L : List (List ByteArray)} (h : RowsS w v L) (hl : ∀ x ∈ L, x.length ≤ 5) :
    ∃ (g cap : Nat) (zs : List (El w)), v = .slice (some ⟨g, 0, none⟩) zs.length cap ∧ zs.map (fun z => z.1.2) = L ∧ zs.length ≤ cap ∧ cap ≤ maxLen ∧ ∀ j (hj : j < zs.length), w.cell? ⟨g, j, none⟩ = some zs[j].1.1 := by
  obtain ⟨g, cap, rfl, h1, h2, h3⟩ := h
  obtain ⟨zs, hz, hp⟩ := list_of (α := El w) L.length (fun i z => w.cell? ⟨g, i, none⟩ = some z.1.1 ∧ L[i]? = some z.1.2) (fun i hi => by
    obtain ⟨u, q1, q2⟩ := h3 i hi
    exact ⟨⟨(u, L[i]), q2, hl _ (List.getElem_mem hi)⟩, q1, List.getElem?_eq_getElem hi⟩)
  refine ⟨g, cap, zs, by rw [hz], ?_, by omega, h2, fun j hj => (hp j hj).1⟩
  refine List.ext_getElem? fun i => ?_
  rw [List.getElem?_map]
  by_cases hi : i < zs.length
  · rw [List.getElem?_eq_getElem hi, (hp i hi).2]
    rfl
  · rw [List.getElem?_eq_none (by omega), List.getElem?_eq_none (by omega)]
    rfl
theorem lens_le {b : List ByteArray} (h : b.length ≤ 5) : ∀ x ∈ lens b, x.length ≤ 5 := by
  intro x hx
  unfold lens at hx
  split at hx
  · split at hx
    · obtain ⟨j, hj, rfl⟩ := List.mem_map.1 hx
      have := List.mem_range.1 hj
      simp
      omega
    · rw [List.mem_singleton.1 hx]
      exact h
  · rw [List.mem_singleton.1 hx]
    exact h
theorem lens_pos {b : List ByteArray} (h : b.length ≤ 5) : 0 < (lens b).length := by
  unfold lens
  split
  · split
    · simp
      omega
    · simp
  · simp
set_option maxHeartbeats 1600000 in
theorem coveredBy_any (s : ByteArray) (w : World) (hN : MaxN w) (hs : s.size ≤ 2097152) (bs : List ByteArray) (hx : Words s.data.toList bs) (h5 : bs.length ≤ 5) (v : Value) (ws : List ByteArray) (hr : RowS w v ws) (hl : ws.length ≤ 2097153) :
    Calls Tryd.prog 35 #[.string s, v] w fun e w' => e = .returned (.bool (covBy bs ws)) ∧ Below w.heap.size w w' := by
  obtain ⟨gw, cw, rfl, hr1, hr2, hr3, hr4⟩ := hr
  have HR := Lib.hid (show RowS w (.slice (some ⟨gw, 0, none⟩) ws.length cw) ws from ⟨gw, cw, rfl, hr1, hr2, hr3, hr4⟩)
  have HN := Lib.hid hN
  clear hr4 hN
  go_enter Tryd.func35, Tryd.ntmps35
  go_wp2_with fail
  refine (lengths_any s _ (MaxN.below HN.out (below_al _ _)) hs bs hx h5).mono ?_
  rintro e w2 ⟨v2, rfl, hR, b2⟩
  have hB := Lib.hid (Below.via b2 (below_al w (.cells #[.slice (some ⟨gw, 0, none⟩) ws.length cw] 30)))
  have KB := (Bk.new (w := w) (vs := #[.slice (some ⟨gw, 0, none⟩) ws.length cw]) (t := 30)).below b2
  obtain ⟨g, cap, zs, rfl, hz, z1, z2, hc⟩ := rows_list hR (lens_le h5)
  have hzl : zs.length = (lens bs).length := by rw [← hz, List.length_map]
  have hzp := lens_pos h5
  have hz5 : zs.length ≤ 9223372036854775807 := by unfold maxLen at z2; omega
  have : Inhabited (El w2) := ⟨zs[0]⟩
  have hkb : w2.cell? ⟨w.heap.size, 0, none⟩ = some (.slice (some ⟨gw, 0, none⟩) ws.length cw) := (KB.cell 0).trans rfl
  have HC := Lib.hid (Tryd.slices_ContainsFunc_f36 (fun z : El w2 => z.1.1) (fun z => cov z.1.2 ws) 43 #[.pointer (some ⟨w.heap.size, 0, none⟩)] enters43 g 0 zs.length cap zs w2 (fun W x hb => (show Calls Tryd.prog 43 #[x.1.1, .pointer (some ⟨w.heap.size, 0, none⟩)] W _ from coveredBy1_any x.1.2 ws x.1.1 _ w.heap.size W (x.2.1.below hb) ((HR.out.below hB.out).below hb) ((hb.cell (World.block_lt_of_cell? _ _ hkb)).trans hkb) (by have := x.2.2; omega) hl).mono (by rintro e w' ⟨rfl, rfl⟩; exact ⟨rfl, 0, rfl⟩)) (Nat.le_refl _) hz5 (fun j hj => by
    rw [Nat.zero_add, hc j hj, getElem!_pos zs j hj]))
  have HP := Lib.hid (show (zs.take zs.length).any (fun z => cov z.1.2 ws) = covBy bs ws by
    rw [List.take_length]
    unfold covBy
    rw [← hz, List.any_map]
    rfl)
  generalize (zs.take zs.length).any (fun z => cov z.1.2 ws) = ans at HC HP
  clear hc hz hR KB hkb b2 hzl hzp
  go_wp2_with fail
  refine HC.out.mono ?_
  rintro e w3 ⟨rfl, q, rfl⟩
  go_wp2_with fail
  go_ret
  exact ⟨by rw [← HP.out]; rfl, Below.dn hB.out q⟩
theorem pathOk_len {p : List ByteArray} (h : pathOk p = true) : p.length ≤ 5 := by
  unfold pathOk at h
  simp at h
  exact h.2
theorem implPathFits_any (s t : ByteArray) (w : World) (hN : MaxN w) (hs : s.size ≤ 2097152) (ht : t.size ≤ 2097152) (ps bs : List ByteArray) (hx : Words s.data.toList ps) (hy : Words t.data.toList bs) :
    Calls Tryd.prog 19 #[.string s, .string t] w fun e w' => e = .returned (.bool (fits ps bs)) ∧ Below w.heap.size w w' := by
  have HN := Lib.hid hN
  have CP := Lib.hid (fun wx (h : MaxN wx) => implPathValid_any s wx h hs ps hx)
  have CB := Lib.hid (fun wx (h : MaxN wx) => implPatternValid_any t wx h ht bs hy)
  have CS := Lib.hid (fun wx (h : MaxN wx) => split_any s wx h hs)
  have CC := Lib.hid (fun h5 wx (h : MaxN wx) v hr hl => coveredBy_any t wx h ht bs hy h5 v ps hr hl)
  have HX := Lib.hid hx
  clear hN hx hy
  cases hp : pathOk ps
  · rw [hp] at CP
    have HF := Lib.hid (show fits ps bs = false by unfold fits; rw [hp]; rfl)
    clear hp
    go_enter Tryd.func19, Tryd.ntmps19
    go_wp2_with fail
    refine (CP.out _ HN.out).mono ?_
    rintro e w1 ⟨rfl, b1⟩
    go_wp2_with fail
    go_ret
    exact ⟨by rw [HF.out]; rfl, b1⟩
  · rw [hp] at CP
    cases hb : patOk bs
    · rw [hb] at CB
      have HF := Lib.hid (show fits ps bs = false by unfold fits; rw [hb, Bool.and_false]; rfl)
      clear hp hb
      go_enter Tryd.func19, Tryd.ntmps19
      go_wp2_with fail
      refine (CP.out _ HN.out).mono ?_
      rintro e w1 ⟨rfl, b1⟩
      go_wp2_with fail
      refine (CB.out _ (MaxN.below HN.out b1)).mono ?_
      rintro e w2 ⟨rfl, b2⟩
      have hB2 := Below.via b2 b1
      go_wp2_with fail
      go_ret
      exact ⟨by rw [HF.out]; rfl, hB2⟩
    · rw [hb] at CB
      have HF := Lib.hid (show fits ps bs = covBy bs ps by unfold fits; rw [hp, hb]; rfl)
      have hl1 := pathOk_len hp
      have hl2 := patOk_len hb
      clear hp hb
      go_enter Tryd.func19, Tryd.ntmps19
      go_wp2_with fail
      refine (CP.out _ HN.out).mono ?_
      rintro e w1 ⟨rfl, b1⟩
      go_wp2_with fail
      refine (CB.out _ (MaxN.below HN.out b1)).mono ?_
      rintro e w2 ⟨rfl, b2⟩
      have hB2 := Below.via b2 b1
      go_wp2_with fail
      refine (CS.out _ (MaxN.below HN.out hB2)).mono ?_
      rintro e w3 ⟨v, xs, rfl, hw, hv, ho, b3⟩
      have hB3 := Below.via b3 hB2
      obtain rfl := words_one hw HX.out
      obtain ⟨g, hg, hR⟩ := own_rowB ho hv
      have HR := Lib.hid (show RowS w3 v xs from ⟨g, hR⟩)
      obtain ⟨cap, rfl, r1, r2, r3, -⟩ := hR
      clear ho hv hw
      go_wp2_with fail
      refine (CC.out hl2 _ (MaxN.below HN.out hB3) _ HR.out (by omega)).mono ?_
      rintro e w4 ⟨rfl, b4⟩
      have hB4 := Below.via b4 hB3
      go_wp2_with fail
      go_ret
      exact ⟨by rw [HF.out]; rfl, hB4⟩
end Go.Proofs.YtamhnhojfhlanaaDoor
