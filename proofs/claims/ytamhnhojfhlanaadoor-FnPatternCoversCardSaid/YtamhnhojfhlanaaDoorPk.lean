/-
  Rows of words are held against each other: the program's covers and the function value in coveredBy. Condition: the rows can be read.
-/
import Derived.Test.YtamhnhojfhlanaaDoorPc
set_option linter.unusedSimpArgs false
set_option linter.unusedVariables false
namespace Go.Proofs.YtamhnhojfhlanaaDoor
open Go.RowKit
/-- A row of words that lies in block g. -/
def RowB (w : World) (v : Value) (g : Nat) (xs : List ByteArray) : Prop :=
  ∃ cap, v = .slice (some ⟨g, 0, none⟩) xs.length cap ∧ xs.length ≤ cap ∧ cap ≤ maxLen ∧ g < w.heap.size ∧ ∀ i (hi : i < xs.length), w.cell? ⟨g, i, none⟩ = some (.string xs[i])
theorem RowB.below {w w' : World} {v : Value} {g : Nat} {xs : List ByteArray} (h : RowB w v g xs) (b : Below w.heap.size w w') : RowB w' v g xs := by
  obtain ⟨cap, h1, h2, h3, h4, h5⟩ := h
  refine ⟨cap, h1, h2, h3, ?_, fun i hi => (b.cell (p := ⟨g, i, none⟩) h4).trans (h5 i hi)⟩
  have := b.size
  omega
def RowS (w : World) (v : Value) (xs : List ByteArray) : Prop := ∃ g, RowB w v g xs
theorem RowS.below {w w' : World} {v : Value} {xs : List ByteArray} (h : RowS w v xs) (b : Below w.heap.size w w') : RowS w' v xs := by
  obtain ⟨g, h⟩ := h
  exact ⟨g, h.below b⟩
theorem own_rowB {w : World} {lo t : Nat} {v : Value} {xs : List ByteArray} (h : w.ownsRow lo t 1 v xs.length (cellsS xs)) (hv : v ≠ .slice none 0 0) : ∃ g, lo ≤ g ∧ RowB w v g xs := by
  obtain ⟨g, cap, rfl, h1, h2, h3, hc⟩ := row_at h hv
  refine ⟨g, h1, cap, rfl, h2, h3, ?_, hc⟩
  exact (h.lt g rfl).2
theorem cov_len : ∀ xs ys : List ByteArray, xs.length ≠ ys.length → cov xs ys = false
  | [], [], h => absurd rfl h
  | [], _ :: _, _ => rfl
  | _ :: _, [], _ => rfl
  | x :: xs, y :: ys, h => by
    rw [cov, cov_len xs ys (by simpa using h), Bool.and_false]
theorem cov_drop (xs ys : List ByteArray) (k : Nat) (h1 : k < xs.length) (h2 : k < ys.length) : cov (xs.drop k) (ys.drop k) = ((isS xs[k] || decide (xs[k] = ys[k])) && cov (xs.drop (k + 1)) (ys.drop (k + 1))) := by
  rw [List.drop_eq_getElem_cons h1, List.drop_eq_getElem_cons h2, cov]
theorem ba_ne {x y : ByteArray} (h : x ≠ y) : (x.toList == y.toList) = false ∧ ¬ x.toList = y.toList := by
  have : ¬ x.toList = y.toList := fun e => h (by
    rw [ByteArray.toList_eq, ByteArray.toList_eq] at e
    exact ByteArray.ext (Array.toList_inj.1 e))
  exact ⟨by rw [beq_eq_false_iff_ne]; exact this, this⟩
set_option maxHeartbeats 1600000 in
theorem covers_any (xs ys : List ByteArray) (v1 v2 : Value) (w : World) (h1 : RowS w v1 xs) (h2 : RowS w v2 ys) (hl : xs.length ≤ 2097153) (hl2 : ys.length ≤ 2097153) : Calls Tryd.prog 44 #[v1, v2] w fun e w' => e = .returned (.bool (cov xs ys)) ∧ w = w' := by
  obtain ⟨g, c1, rfl, a1, a2, a3, a4⟩ := h1
  obtain ⟨h, c2, rfl, b1, b2, b3, b4⟩ := h2
  have A4 := Lib.hid a4
  have B4 := Lib.hid b4
  unfold maxLen at a2 b2
  clear a4 b4
  by_cases hlen : xs.length = ys.length
  · obtain ⟨n, hn⟩ : ∃ n, ys.length = n := ⟨_, rfl⟩
    rw [hn] at hlen
    rw [hn, hlen]
    rw [hn] at b1 hl2
    rw [hlen] at a1 hl
    have HXL := Lib.hid hlen
    have HYL := Lib.hid hn
    clear hlen hn
    go_enter Tryd.func44, Tryd.ntmps44
    go_wp2_with fail
    go_loopw [14] (fun i wr => ∃ k : Nat, k ≤ n ∧ i = .int .i64 k ∧ Hid (cov xs ys = cov (xs.drop k) (ys.drop k)) ∧ wr = w) (fun i _ => n - (intOf i).toNat)
    case atStart => exact ⟨0, Nat.zero_le _, rfl, rfl, rfl⟩
    case round =>
      obtain ⟨k, hk, rfl, hW, rfl⟩ := hrel
      by_cases hlt : k < n
      · have hlt2 : (k : Int) < (n : Int) := by omega
        have hx : k < xs.length := by have := HXL.out; omega
        have hy : k < ys.length := by have := HYL.out; omega
        have c0 := A4.out k hx
        have d0 := B4.out k hy
        have HD := Lib.hid (cov_drop xs ys k hx hy)
        generalize xs[k] = x at c0 HD
        generalize ys[k] = y at d0 HD
        have s1 := star_eq x
        cases e1 : isS x
        · rw [e1] at s1
          have s1n : (!(x.toList == [42])) = true := by rw [s1]; rfl
          have s1p : ¬ x.toList = [42] := fun h => by rw [h] at s1; simp at s1
          by_cases hxy : x = y
          · subst hxy
            have hss : (x.toList == x.toList) = true := by simp
            have HF := Lib.hid (show cov xs ys = cov (xs.drop (k + 1)) (ys.drop (k + 1)) by rw [hW.out, HD.out]; simp)
            clear e1 HD hW
            go_wp2_with fail
            go_roundw
            case rel => exact ⟨k + 1, by omega, by go_num, HF, trivial⟩
            case measure => simp [intOf]; omega
          · obtain ⟨hne, hnp⟩ := ba_ne hxy
            have hnn : (!(x.toList == y.toList)) = true := by rw [hne]; rfl
            have HF := Lib.hid (show cov xs ys = false by rw [hW.out, HD.out, e1]; simp [hxy])
            clear e1 HD hW hxy
            go_wp2_with fail
            go_ret
            exact ⟨by rw [HF.out]; rfl, rfl⟩
        · rw [e1] at s1
          have s1n : (!(x.toList == [42])) = false := by rw [s1]; rfl
          have s1p : x.toList = [42] := eq_of_beq s1
          have HF := Lib.hid (show cov xs ys = cov (xs.drop (k + 1)) (ys.drop (k + 1)) by rw [hW.out, HD.out, e1]; simp)
          clear e1 HD hW
          go_wp2_with fail
          go_roundw
          case rel => exact ⟨k + 1, by omega, by go_num, HF, trivial⟩
          case measure => simp [intOf]; omega
      · have hlt2 : ¬ (k : Int) < (n : Int) := by omega
        have HF := Lib.hid (show cov xs ys = true by
          rw [hW.out, List.drop_of_length_le (by have := HXL.out; omega), List.drop_of_length_le (by have := HYL.out; omega)]
          rfl)
        clear hW
        go_wp2_with fail
        go_ret
        exact ⟨by rw [HF.out]; rfl, rfl⟩
  · have hlen2 : ¬ ((xs.length : Int) = (ys.length : Int)) := by omega
    have hlen3 : ((xs.length : Int) == (ys.length : Int)) = false := by rw [beq_eq_false_iff_ne]; exact hlen2
    have HF := Lib.hid (cov_len xs ys hlen)
    clear hlen
    go_enter Tryd.func44, Tryd.ntmps44
    go_wp2_with fail
    go_ret
    exact ⟨by rw [HF.out]; rfl, rfl⟩
theorem enters43 : ∀ args w, (callFunc 43 args).run Tryd.prog w = .ok (.enter 43 args) w := enters_of Tryd.func43 (by kernel_rfl) rfl
theorem coveredBy1_any (xs ys : List ByteArray) (v1 v2 : Value) (b : Nat) (w : World) (h1 : RowS w v1 xs) (h2 : RowS w v2 ys) (hb : w.cell? ⟨b, 0, none⟩ = some v2) (hl : xs.length ≤ 2097153) (hl2 : ys.length ≤ 2097153) : Calls Tryd.prog 43 #[v1, .pointer (some ⟨b, 0, none⟩)] w fun e w' => e = .returned (.bool (cov xs ys)) ∧ w = w' := by
  have CC := Lib.hid (covers_any xs ys v1 v2 w h1 h2 hl hl2)
  clear h1 h2
  go_enter Tryd.func43, Tryd.ntmps43
  go_wp2_with fail
  refine CC.out.mono ?_
  rintro e w' ⟨rfl, rfl⟩
  go_wp2_with fail
  go_ret
  exact ⟨rfl, rfl⟩
end Go.Proofs.YtamhnhojfhlanaaDoor
