/-
  The rows of words that a pattern's paths can have, as the program makes them. Conditions: bytealg's MaxLen is a number; the pattern has at most five words.
-/
import Derived.Test.YtamhnhojfhlanaaDoorPk
import Derived.Deep.AppendLies
set_option linter.unusedSimpArgs false
set_option linter.unusedVariables false
namespace Go.Proofs.YtamhnhojfhlanaaDoor
open Go.RowKit
def sLen : Value → Nat
  | .slice _ n _ => n
  | _ => 0
theorem infoR : (Tryd.prog.info? 30).map (fun i => (i.zero, i.size, i.bytes)) = some (some (.slice none 0 0), 1, 24) := by kernel_rfl
/-- A row of rows of words. -/
def RowsS (w : World) (v : Value) (L : List (List ByteArray)) : Prop :=
  ∃ g cap, v = .slice (some ⟨g, 0, none⟩) L.length cap ∧ L.length ≤ cap ∧ cap ≤ maxLen ∧ ∀ i (hi : i < L.length), ∃ u, w.cell? ⟨g, i, none⟩ = some u ∧ RowS w u L[i]
theorem RowB.gby {w w' : World} {v : Value} {g : Nat} {xs : List ByteArray} {row : Option Nat} (h : RowB w v g xs) (hg : w.grownBy w' row) (hne : row ≠ some g) : RowB w' v g xs := by
  obtain ⟨cap, h1, h2, h3, h4, h5⟩ := h
  refine ⟨cap, h1, h2, h3, ?_, fun i hi => (hg.cell_far ⟨g, i, none⟩ h4 (fun e => hne e.symm)).trans (h5 i hi)⟩
  have := hg.size
  omega
theorem own_nn {w : World} {lo e k : Nat} {v : Value} {n : Nat} {cs : List Value} (h : w.ownsRow lo e k v n cs) (hn : 0 < n) : v ≠ .slice none 0 0 := by
  obtain ⟨-, h2⟩ := h
  rcases h2 with ⟨rfl, rfl⟩ | ⟨g, cap, cur, rfl, r⟩
  · omega
  · intro e
    injection e with e1
    cases e1
theorem lens_one (base : List ByteArray) (z : ByteArray) (h : isS2 z = false) : lens (base ++ [z]) = [base ++ [z]] := by
  unfold lens
  simp [h]
theorem cells_star (base : List ByteArray) (j : Nat) : cellsS (base ++ List.replicate j star) ++ [.string ⟨#[42]⟩] = cellsS (base ++ List.replicate (j + 1) star) := by
  unfold cellsS
  rw [List.replicate_succ', ← List.append_assoc, List.map_append (l₂ := [star])]
  rfl
/-- The rows made so far: row i has i + 1 stars, and lies in a block of its own. -/
def OutI (wr : World) (base : List ByteArray) (vo : Value) (us : List Value) : Prop :=
  ∀ i (hi : i < us.length), ∃ g, RowB wr us[i] g (base ++ List.replicate (i + 1) star) ∧ vo.ownBlock ≠ some g
set_option maxRecDepth 100000 in
set_option maxHeartbeats 3200000 in
theorem lengths_any (s : ByteArray) (w : World) (hN : MaxN w) (hs : s.size ≤ 2097152) (bs : List ByteArray) (hx : Words s.data.toList bs) (h5 : bs.length ≤ 5) :
    Calls Tryd.prog 37 #[.string s] w fun e w' => ∃ v, e = .returned v ∧ RowsS w' v (lens bs) ∧ Below w.heap.size w w' := by
  go_enter Tryd.func37, Tryd.ntmps37
  go_wp2_with fail
  refine (split_any s w hN hs).mono ?_
  rintro e w1 ⟨v, xs, rfl, hw, hv, ho, b1⟩
  obtain rfl := words_one hw hx
  obtain ⟨g, hg, cap, rfl, h1, h2, h3, hc⟩ := own_rowB ho hv
  have hwl := hw.len
  have b1s := b1.size
  clear hw hx ho hv hN
  obtain ⟨base, z, rfl⟩ : ∃ base z, xs = base ++ [z] := ⟨xs.dropLast, xs.getLast (by intro e; rw [e] at hwl; simp at hwl), (List.dropLast_concat_getLast _).symm⟩
  obtain ⟨n, hn⟩ : ∃ n, base.length = n := ⟨_, rfl⟩
  have hxl : (base ++ [z]).length = n + 1 := by simp [hn]
  have R0 := Lib.hid (show RowB w1 (.slice (some ⟨g, 0, none⟩) (n + 1) cap) g (base ++ [z]) from ⟨cap, by rw [hxl], h1, h2, h3, hc⟩)
  have RB := Lib.hid (show RowB w1 (.slice (some ⟨g, 0, none⟩) n cap) g base from ⟨cap, by rw [hn], by omega, h2, h3, fun i hi => by
    have := hc i (by omega)
    rwa [List.getElem_append_left hi] at this⟩)
  have hz0 : w1.cell? ⟨g, n, none⟩ = some (.string z) := by
    have := hc n (by omega)
    rw [this]
    congr 2
    simp [← hn]
  rw [hxl] at h1 h5 hwl
  rw [hxl]
  have HNL := Lib.hid hn
  unfold maxLen at h2
  clear hc hn hxl
  have s2 := star2_eq z
  cases e2 : isS2 z
  · rw [e2] at s2
    have s2n : (!(z.toList == [42, 42])) = true := by rw [s2]; rfl
    have s2p : ¬ z.toList = [42, 42] := fun h => by rw [h] at s2; simp at s2
    have HLN := Lib.hid (lens_one base z e2)
    clear e2
    go_wp2_with fail
    go_ret
    refine ⟨_, rfl, ?_, Below.al b1 _⟩
    rw [HLN.out]
    refine ⟨w1.heap.size, 1, rfl, Nat.le_refl _, by decide, fun i hi => ?_⟩
    simp only [List.length_cons, List.length_nil] at hi
    obtain rfl : i = 0 := by omega
    exact ⟨_, (Bk.new.cell 0).trans rfl, g, R0.out.below (below_al _ _)⟩
  · have hzz := (isS2_iff z).1 e2
    rw [e2] at s2
    have s2n : (!(z.toList == [42, 42])) = false := by rw [s2]; rfl
    have s2p : z.toList = [42, 42] := eq_of_beq s2
    have HLN := Lib.hid (show lens (base ++ [z]) = (List.range (5 - n)).map fun j => base ++ List.replicate (j + 1) star by rw [hzz, lens_stars, HNL.out])
    clear e2 hzz R0
    have hnc : n ≤ cap := by omega
    have hgl := h3
    clear h1 h3
    go_wp2_with fail
    go_loopw [3, 5] (fun vw vo wr => ∃ (j gw cw : Nat) (us : List Value), n + j ≤ 5 ∧ vw = .slice (some ⟨gw, 0, none⟩) (n + j) cw ∧ us.length = j ∧ Hid (RowB wr (.slice (some ⟨gw, 0, none⟩) (n + j) cw) gw (base ++ List.replicate j star)) ∧ Hid (wr.ownsRow w1.heap.size 30 1 vo j us) ∧ Hid (OutI wr base vo us) ∧ Hid (Below w.heap.size w wr) ∧ w1.heap.size ≤ wr.heap.size) (fun vw _ _ => 5 - sLen vw)
    case atStart => exact ⟨0, g, cap, [], by omega, rfl, rfl, Lib.hid (by simpa using RB.out), ⟨rfl, .inl ⟨rfl, rfl⟩⟩, fun i hi => by simp at hi, b1, Nat.le_refl _⟩
    case round =>
      obtain ⟨j, gw, cw, us, hj, rfl, hus, hR, hO, hU, hB, hz⟩ := hrel
      obtain ⟨vo, rfl⟩ : ∃ vo : Value, vo = u5 := ⟨_, rfl⟩
      clear b1
      by_cases hlt : n + j < 5
      · have hlt2 : ((n + j : Nat) : Int) < 5 := by omega
        have hlt3 : (n : Int) + (j : Int) < 5 := by omega
        have CL := Lib.hid (Tryd.slices_Clone_string gw 0 (n + j) cw (base ++ List.replicate j star) wr (by have := HNL.out; simp; omega) (by omega) (fun i hi => by
          obtain ⟨c, q1, q2, q3, q4, q5⟩ := hR.out
          rw [Nat.zero_add, q5 i hi, List.getD_eq_getElem?_getD, List.getElem?_eq_getElem hi]
          rfl))
        go_wp2_with fail
        refine CL.out.mono ?_
        rintro e w2 ⟨vc, rfl, oc, nc, bc⟩
        have hLl : (base ++ List.replicate j star).length = n + j := by have := HNL.out; simp; omega
        have OC := Lib.hid (show w2.ownsRow wr.heap.size 9 1 vc (n + j) (cellsS (base ++ List.replicate j star)) by
          rw [List.take_of_length_le (by omega)] at oc
          exact oc)
        clear oc CL
        go_wp2_with (at_builtin; refine Hid.out ?_); refine Lib.hid ?_
        refine wpList_appS (s := .tmp 25) (x := .tmp 26) rfl 30 9 (.string ByteArray.empty) 1 16 rfl Tryd.underlying30 infoS rfl (by decide) (by decide) wr.heap.size vc (n + j) (cellsS (base ++ List.replicate j star)) (by rfl) (own_alloc OC.out _) (.slice (some ⟨w2.heap.size, 0, none⟩) 1 1) 1 [.string ⟨#[42]⟩] (by rfl) (slF_bk (k := 1) (n := 1) (cs := [.string ⟨#[42]⟩]) (bk_atb rfl) rfl (by omega)) (cellsS_one [⟨#[42]⟩]) (by omega) (by have := bc.size; simp only [World.size_alloc]; omega) ?_
        intro v8 w8 o8 g8 l8 nn8
        have b8 : Below wr.heap.size wr w8 := Below.grown (Below.al bc _) g8 (by have := bc.size; simp only [World.size_alloc]; omega) (own_gt OC.out)
        rw [cells_star] at o8
        have hLl2 : (base ++ List.replicate (j + 1) star).length = n + (j + 1) := by have := HNL.out; simp; omega
        have O8 : w8.ownsRow wr.heap.size 9 1 v8 (base ++ List.replicate (j + 1) star).length (cellsS (base ++ List.replicate (j + 1) star)) := by
          rw [hLl2]
          exact o8
        obtain ⟨gx, hgx, cx, rfl, x1, x2, x3, x4⟩ := own_rowB O8 (nn8 nc)
        rw [hLl2] at x1
        have RX := Lib.hid (show RowB w8 (.slice (some ⟨gx, 0, none⟩) (n + (j + 1)) cx) gx (base ++ List.replicate (j + 1) star) from ⟨cx, by rw [hLl2], by omega, x2, x3, x4⟩)
        have hO8 := Lib.hid (own_below hO.out b8)
        have hU8 := Lib.hid (show OutI w8 base vo us from fun i hi => by
          obtain ⟨g, q1, q2⟩ := hU.out i hi
          exact ⟨g, q1.below b8, q2⟩)
        have hB8 := Lib.hid (Below.via (b8.mono (by omega)) hB.out)
        have hz8 := b8.size
        have hob : vo.ownBlock ≠ some gx := fun e => by
          have := (hO.out.lt gx e).2
          omega
        rw [hLl2]
        clear o8 g8 l8 nn8 O8 x4 hR hO hU hB OC bc nc
        go_wp2_with (at_builtin; refine Hid.out ?_)
        refine Lib.hid ?_
        refine wpList_appS (s := .tmp 28) (x := .tmp 30) rfl 42 30 (.slice none 0 0) 1 24 rfl Tryd.underlying42 infoR rfl (by decide) (by decide) w1.heap.size vo j us (by rfl) (own_alloc hO8.out _) (.slice (some ⟨w8.heap.size, 0, none⟩) 1 1) 1 [.slice (some ⟨gx, 0, none⟩) (n + (j + 1)) cx] (by rfl) (slF_bk (k := 1) (n := 1) (cs := [.slice (some ⟨gx, 0, none⟩) (n + (j + 1)) cx]) (bk_atb rfl) rfl (by omega)) (by intro u hu; rw [List.mem_singleton.1 hu]; rfl) (by omega) (by simp only [World.size_alloc]; omega) ?_
        intro v9 w9 o9 g9 l9 nn9
        have hgl9 : ∀ q, v9.ownBlock = some q → vo.ownBlock = some q ∨ w8.heap.size < q := fun q hq => by
          rcases l9 with e | e
          · exact .inl (e ▸ hq)
          · rw [e] at hq
            injection hq with hq
            simp only [World.size_alloc] at hq
            exact .inr (by omega)
        have hRX9 := Lib.hid (RowB.gby (RX.out.below (below_al _ _)) g9 hob)
        have HF := Lib.hid (show OutI w9 base v9 (us ++ [.slice (some ⟨gx, 0, none⟩) (n + (j + 1)) cx]) from fun i hi => by
          by_cases hi2 : i < us.length
          · obtain ⟨g, q1, q2⟩ := hU8.out i hi2
            refine ⟨g, ?_, fun e => ?_⟩
            · rw [List.getElem_append_left hi2]
              exact RowB.gby (q1.below (below_al _ _)) g9 q2
            · obtain ⟨_, _, _, _, q3, _⟩ := q1
              rcases hgl9 g e with h | h
              · exact q2 h
              · omega
          · simp only [List.length_append, List.length_cons, List.length_nil] at hi
            obtain rfl : i = us.length := by omega
            refine ⟨gx, ?_, fun e => ?_⟩
            · have e : ∀ X : Value, (us ++ [X])[us.length]'(by simp) = X := fun X => by simp
              rw [e]
              subst hus
              exact hRX9.out
            · rcases hgl9 gx e with h | h
              · exact hob h
              · omega)
        have hB9 := Lib.hid (show Below w.heap.size w w9 from Below.grown (Below.al hB8.out _) g9 (by have := hB8.out.size; simp only [World.size_alloc]; omega) (fun q hq => by have := (hO8.out.lt q hq).1; have := b1s; omega))
        have O9 := Lib.hid o9
        have hz9 := g9.size
        simp only [World.size_alloc] at hz9
        clear g9 l9 nn9 o9 hgl9 hU8 hO8 hB8 RX
        go_wp2_with fail
        go_roundw
        case rel => exact ⟨j + 1, gx, cx, us ++ [.slice (some ⟨gx, 0, none⟩) (n + (j + 1)) cx], by omega, rfl, by simp [hus], hRX9, O9, HF, hB9, by omega⟩
        case measure => simp [sLen]; omega
      · have hlt2 : ¬ ((n + j : Nat) : Int) < 5 := by omega
        have hlt3 : ¬ (n : Int) + (j : Int) < 5 := by omega
        have hj5 : n + j = 5 := by omega
        obtain ⟨go, co, rfl, y1, y2, y3, y4⟩ := own_ad hO.out (own_nn hO.out (by omega))
        have HY := Lib.hid y4
        clear y4 hR
        go_wp2_with fail
        go_ret
        refine ⟨_, rfl, ?_, hB.out⟩
        rw [HLN.out]
        have hj3 : j = 5 - n := by omega
        refine ⟨go, co, by rw [List.length_map, List.length_range, ← hj3]; rfl, by rw [List.length_map, List.length_range]; omega, y3, fun i hi => ?_⟩
        simp only [List.length_map, List.length_range] at hi
        have hi2 : i < us.length := by omega
        obtain ⟨g, q1, q2⟩ := hU.out i hi2
        have hcell := HY.out i us[i] (List.getElem?_eq_getElem hi2)
        rw [addr_add, Nat.zero_add] at hcell
        refine ⟨_, hcell, g, ?_⟩
        simpa using q1
end Go.Proofs.YtamhnhojfhlanaaDoor
