/-
  Things in a relation: the reference's way, step by step. No condition.
-/
import Derived.Test.YtfeaclnbkmaeeaaTur
set_option linter.unusedSimpArgs false
set_option linter.unusedVariables false
namespace Go.Proofs.Ytfeaclnbkmaeeaa
open Go.RowKit
/-- Seven truths: the bits of a set. -/
def bools (S : Nat) : Array Value := ((List.range 7).map fun i => Value.bool (S.testBit i)).toArray
theorem bools_size (S : Nat) : (bools S).size = 7 := by simp [bools]
theorem bools_get (S i : Nat) (h : i < 7) : (bools S)[i]? = some (.bool (S.testBit i)) := by simp [bools, h]
theorem bools_set (S S' r : Nat) (hr : r < 7) (x : Bool) (hx : S'.testBit r = x) (ho : ∀ i, i < 7 → i ≠ r → S'.testBit i = S.testBit i) : (bools S).setIfInBounds r (.bool x) = bools S' := by
  apply Array.ext_getElem?
  intro i
  simp only [Array.getElem?_setIfInBounds, bools_size]
  by_cases hi : i < 7
  · rw [bools_get S i hi, bools_get S' i hi]
    by_cases hir : r = i
    · subst hir
      simp [hr, hx]
    · rw [if_neg hir, ho i hi (Ne.symm hir)]
  · rw [if_neg (by omega), Array.getElem?_eq_none (by rw [bools_size]; omega), Array.getElem?_eq_none (by rw [bools_size]; omega)]
theorem bools_or1 (S r : Nat) (hr : r < 7) : (bools S).setIfInBounds r (.bool true) = bools (S ||| 1 <<< r) := by
  refine bools_set S _ r hr true ?_ (fun i hi hne => ?_)
  · rw [Nat.testBit_or, Nat.one_shiftLeft, Nat.testBit_two_pow]; simp
  · rw [Nat.testBit_or, Nat.one_shiftLeft, Nat.testBit_two_pow]
    have : decide (r = i) = false := by simp; omega
    simp [this]
theorem bools_orj (S R j : Nat) (hj : j < 7) : (bools (S ||| R % 2 ^ j)).setIfInBounds j (.bool ((S ||| R % 2 ^ j).testBit j || R.testBit j)) = bools (S ||| R % 2 ^ (j + 1)) := by
  refine bools_set _ _ j hj _ ?_ (fun i hi hne => ?_)
  · simp only [Nat.testBit_or, Nat.testBit_mod_two_pow]
    simp
  · simp only [Nat.testBit_or, Nat.testBit_mod_two_pow]
    have : decide (i < j + 1) = decide (i < j) := by rw [decide_eq_decide]; omega
    rw [this]
theorem bools_orj_same (S R j : Nat) (hj : j < 7) (h : ((S ||| R % 2 ^ j).testBit j || R.testBit j) = (S ||| R % 2 ^ j).testBit j) : bools (S ||| R % 2 ^ (j + 1)) = bools (S ||| R % 2 ^ j) := by
  rw [← bools_orj S R j hj]
  exact bools_set _ _ j hj _ h.symm (fun _ _ _ => rfl)
theorem below_set {w wx : World} (h : Below w.heap.size w wx) {g o : Nat} (hg : w.heap.size ≤ g) (x : Value) : Below w.heap.size w (wx.setCell ⟨g, o, none⟩ x) := h.setCell hg x
def ReachS (S : Nat) (w : World) (e : Ending) (w' : World) : Prop := ∃ g, e = .returned (.slice (some ⟨g, 0, none⟩) 7 7) ∧ w.heap.size ≤ g ∧ Bk w' g (bools S) 4 ∧ Below w.heap.size w w'
set_option maxRecDepth 100000 in
set_option maxHeartbeats 6400000 in
theorem reach_any (ds : List Tup) (h7 : In7 ds) : ∀ (m : Nat) (about : Int) (nm : ByteArray) (v : Value) (w : World), m ≤ 4 → SlT w v ds →
    Calls Try.prog 37 #[v, .int .i64 about, .string nm, .int .i64 m] w (ReachS (relN ds m about nm) w) := by
  have hmk : ∀ w : World, (Instr.makeSlice 59 (.int .i64 7) (.int .i64 7)).run Try.prog w = .ok (.slice (some ⟨w.heap.size, 0, none⟩) 7 7) (w.alloc (.cells (bools 0) 4)) := fun w => by kernel_rfl
  intro m
  induction m with
  | zero =>
    intro about nm v w _ h
    obtain ⟨a, cap, rfl, h1, h2⟩ := SlF.shape h
    unfold maxLen at h2
    clear h
    have hB0 : Below w.heap.size w (w.alloc (.cells (bools 0) 4)) := Below.al (Below.refl _ _) _
    have K0 := Bk.new (w := w) (vs := bools 0) (t := 4)
    by_cases hl : 0 < ds.length
    all_goals
      go_enter Try.func37, Try.ntmps37
      go_wp2_with fail
      go_loopw [10] (fun i wr => i = .int .i64 0 ∧ wr = w.alloc (.cells (bools 0) 4)) (fun _ _ => 0)
      case atStart => exact ⟨rfl, rfl⟩
      case round =>
        obtain ⟨rfl, rfl⟩ := hrel
        go_wp2_with fail
        go_ret
        exact ⟨_, rfl, Nat.le_refl _, K0, hB0⟩
  | succ m ih =>
    intro about nm v w hm h
    obtain ⟨a, cap, rfl, h1, h2⟩ := SlF.shape h
    unfold maxLen at h2
    have H := Lib.hid h
    have IH := Lib.hid ih
    have H7 := Lib.hid h7
    clear h ih h7
    have em : ((m + 1 : Nat) : Int) = (m : Int) + 1 := by omega
    rw [em]
    have hz : decide ((0 : Int) < (m : Int) + 1) = true := by simp <;> omega
    clear em
    go_enter Try.func37, Try.ntmps37
    go_wp2_with fail
    clear hmk
    go_loopw [10] (fun i wr => ∃ k : Nat, k ≤ ds.length ∧ i = .int .i64 k ∧ Hid (Bk wr w.heap.size (bools (relTo ds m about nm k)) 4) ∧ Below w.heap.size w wr) (fun i _ => ds.length - (intOf i).toNat)
    case atStart => exact ⟨0, Nat.zero_le _, rfl, Bk.new, Below.al (Below.refl _ _) _⟩
    case round =>
      obtain ⟨k, hk, rfl, hK, hB⟩ := hrel
      by_cases hlt : k < ds.length
      · obtain ⟨g, off, cap', hv, _, _, c0, c1, c2, c3⟩ := (H.out.below hB).cells k hlt
        simp only [Value.slice.injEq] at hv
        obtain ⟨rfl, -, rfl⟩ := hv
        have hs := Lib.hid (relTo_step ds m about nm k hlt)
        have hd := H7.out ds[k] (List.getElem_mem hlt)
        generalize ds[k] = d at c0 c1 c2 c3 hs hd
        generalize hS : relTo ds m about nm k = S at *
        have hSH := Lib.hid hS
        clear hS
        have hxa := Below.al hB (.cells #[.int .i64 d.f0, .string d.f1, .int .i64 d.f2, .string d.f3] 32)
        have KA := Lib.hid (Bk.alloc hK.out (.cells #[.int .i64 d.f0, .string d.f1, .int .i64 d.f2, .string d.f3] 32))
        have hzz := hK.out.lt
        cases p1 : d.f0 == about
        · have n1 : (d.f0 != about) = true := by show (!(d.f0 == about)) = true; rw [p1]; rfl
          have hf := Lib.hid (hs.out.trans (show _ = S from by simp [relStep, hitT, p1]))
          clear hs
          go_wp2_with fail
          go_roundw
          case rel => exact ⟨k + 1, by omega, by go_num, by rw [hf.out]; exact KA, hxa⟩
          case measure => simp [intOf]; omega
        · have n1 : (d.f0 != about) = false := by show (!(d.f0 == about)) = false; rw [p1]; rfl
          cases p2 : d.f1.toList == nm.toList
          · have n2 : (d.f1.toList != nm.toList) = true := by show (!(d.f1.toList == nm.toList)) = true; rw [p2]; rfl
            have hf := Lib.hid (hs.out.trans (show _ = S from by simp [relStep, hitT, p1, p2]))
            clear hs
            go_wp2_with fail
            go_roundw
            case rel => exact ⟨k + 1, by omega, by go_num, by rw [hf.out]; exact KA, hxa⟩
            case measure => simp [intOf]; omega
          · have n2 : (d.f1.toList != nm.toList) = false := by show (!(d.f1.toList == nm.toList)) = false; rw [p2]; rfl
            cases p3 : d.f3.toList.isEmpty
            · have hf := Lib.hid (hs.out.trans (show _ = S ||| relN ds m d.f2 d.f3 from by simp [relStep, hitT, p1, p2, p3]))
              clear hs
              go_wp2_with fail
              refine (IH.out d.f2 d.f3 _ _ (by omega) ((H.out.below hB).below (Below.al (Below.refl _ _) _))).mono ?_
              rintro e w2 ⟨g2, rfl, hg2, K2, b2⟩
              have hB2 := Below.via b2 hxa
              have hr := relN_lt ds H7.out m d.f2 d.f3
              generalize relN ds m d.f2 d.f3 = R at *
              have KB := Lib.hid (KA.out.below b2)
              have hz2 := b2.size
              simp only [World.size_alloc] at hg2 hz2
              have K2h := Lib.hid K2
              clear K2 KA
              go_wp2_with fail
              go_loopw [13] (fun i wx => ∃ j : Nat, j ≤ 7 ∧ i = .int .i64 j ∧ Hid (Bk wx w.heap.size (bools (S ||| R % 2 ^ j)) 4) ∧ Hid (Bk wx g2 (bools R) 4) ∧ Below w.heap.size w wx) (fun i _ => 7 - (intOf i).toNat)
              case atStart => exact ⟨0, by omega, rfl, by rw [Nat.pow_zero, Nat.mod_one, Nat.or_zero]; exact KB, K2h, hB2⟩
              case round =>
                obtain ⟨j, hj, rfl, hX, hY, hBx⟩ := hrel
                by_cases hjl : j < 7
                · have cx := (hX.out.cell j).trans (bools_get _ j hjl)
                  have cy := (hY.out.cell j).trans (bools_get _ j hjl)
                  have fx := hX.out.free j
                  have hoj := Lib.hid (bools_orj S R j hjl)
                  have hne : w.heap.size ≠ g2 := by omega
                  have hszx := hX.out.lt
                  cases px : (S ||| R % 2 ^ j).testBit j
                  · rw [px] at cx hoj
                    cases py : R.testBit j
                    · rw [py] at cy hoj
                      simp only [Bool.false_or] at hoj
                      have hX2 := Lib.hid (hX.out.same j (.bool false))
                      rw [hoj.out] at hX2
                      have hY2 := Lib.hid (hY.out.far ⟨w.heap.size, j, none⟩ hne (.bool false))
                      have hBx2 := fun x => below_set hBx (g := w.heap.size) (o := j) (Nat.le_refl _) x
                      clear px py hoj
                      go_wp2_with fail
                      go_roundw
                      case rel => exact ⟨j + 1, by omega, by go_num, hX2.out, hY2.out, hBx2 _⟩
                      case measure => simp [intOf]; omega
                    · rw [py] at cy hoj
                      simp only [Bool.false_or] at hoj
                      have hX2 := Lib.hid (hX.out.same j (.bool true))
                      rw [hoj.out] at hX2
                      have hY2 := Lib.hid (hY.out.far ⟨w.heap.size, j, none⟩ hne (.bool true))
                      have hBx2 := fun x => below_set hBx (g := w.heap.size) (o := j) (Nat.le_refl _) x
                      clear px py hoj
                      go_wp2_with fail
                      go_roundw
                      case rel => exact ⟨j + 1, by omega, by go_num, hX2.out, hY2.out, hBx2 _⟩
                      case measure => simp [intOf]; omega
                  · rw [px] at cx hoj
                    have hX2 := Lib.hid (hX.out.same j (.bool true))
                    simp only [Bool.true_or] at hoj
                    rw [hoj.out] at hX2
                    have hY2 := Lib.hid (hY.out.far ⟨w.heap.size, j, none⟩ hne (.bool true))
                    have hBx2 := fun x => below_set hBx (g := w.heap.size) (o := j) (Nat.le_refl _) x
                    clear px hoj
                    go_wp2_with fail
                    go_roundw
                    case rel => exact ⟨j + 1, by omega, by go_num, hX2.out, hY2.out, hBx2 _⟩
                    case measure => simp [intOf]; omega
                · have hj7 : j = 7 := by omega
                  subst hj7
                  have hR : R % 2 ^ 7 = R := Nat.mod_eq_of_lt (by omega)
                  rw [hR] at hX
                  have hXX := Lib.hid hX.out
                  clear hX hY hR
                  go_wp2_with fail
                  go_roundw
                  case rel => exact ⟨k + 1, by omega, by go_num, by rw [hf.out]; exact hXX, hBx⟩
                  case measure => simp [intOf]; omega
            · have hf := Lib.hid (hs.out.trans (show _ = S ||| 1 <<< d.f2.toNat from by simp [relStep, hitT, p1, p2, p3]))
              clear hs
              obtain ⟨r, hr⟩ : ∃ r : Nat, d.f2 = (r : Int) := ⟨d.f2.toNat, by omega⟩
              rw [hr] at c2 hf hd hxa KA
              have hr7 : r < 7 := by omega
              have hr7i : (r : Int) < 7 := by omega
              have hb1 := Lib.hid (bools_or1 S r hr7)
              have K1 := KA.out
              have cr := (K1.cell r).trans (bools_get S r hr7)
              have fr := K1.free r
              have KZ0 := hK.out.same r (.bool true)
              rw [hb1.out] at KZ0
              have KZ := Lib.hid (fun o => KZ0.alloc o)
              clear KZ0
              have hBz := fun x o => Below.al (below_set hB (g := w.heap.size) (o := r) (Nat.le_refl _) x) o
              clear K1
              go_wp2_with fail
              go_roundw
              case rel => exact ⟨k + 1, by omega, by go_num, by rw [hf.out, Int.toNat_natCast]; exact KZ.out _, hBz _ _⟩
              case measure => simp [intOf]; omega
      · have hf := Lib.hid (relTo_end ds m about nm k hlt)
        go_wp2_with fail
        go_ret
        rw [hf.out] at hK
        exact ⟨_, rfl, Nat.le_refl _, hK.out, hB⟩
end Go.Proofs.Ytfeaclnbkmaeeaa
