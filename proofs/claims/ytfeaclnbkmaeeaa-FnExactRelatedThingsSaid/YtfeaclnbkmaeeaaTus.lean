/-
  Sizes of tuples. No condition.
-/
import Derived.Test.YtfeaclnbkmaeeaaTuv
set_option linter.unusedSimpArgs false
set_option linter.unusedVariables false
namespace Go.Proofs.Ytfeaclnbkmaeeaa
open Go.RowKit
def SzT (lo : Int) (w : World) (e : Ending) (w' : World) : Prop := ∃ r : Int, e = .returned (.int .i64 r) ∧ -1 ≤ r ∧ r ≤ lo ∧ Below w.heap.size w w'
theorem szT_any (d : Tup) (left : Int) (w : World) (h : Str d) (h0 : 0 ≤ left) (h1 : left ≤ 1048576) : Calls Try.prog 27 #[.agg #[.int .i64 d.f0, .string d.f1, .int .i64 d.f2, .string d.f3], .int .i64 left] w (SzT left w) := by
  obtain ⟨h2, h3⟩ := h
  unfold maxLen at h2 h3
  by_cases p1 : left < d.f1.size
  · go_enter Try.func27, Try.ntmps27
    go_wp2_with fail
    go_ret
    exact ⟨_, rfl, by omega, by omega, Below.al (Below.refl _ _) _⟩
  · by_cases p2 : left - d.f1.size < d.f3.size
    all_goals
      go_enter Try.func27, Try.ntmps27
      go_wp2_with fail
      go_ret
      exact ⟨_, rfl, by omega, by omega, Below.al (Below.refl _ _) _⟩
theorem szTS_any (ds : List Tup) (left : Int) (v : Value) (w : World) (h : SlT w v ds) (hstr : ∀ d ∈ ds, Str d) (h0 : 0 ≤ left) (h1 : left ≤ 1048576) : Calls Try.prog 9 #[v, .int .i64 left] w (fun e w' => ∃ r : Int, e = .returned (.int .i64 r) ∧ -1 ≤ r ∧ (0 ≤ r → r + ds.length ≤ left) ∧ Below w.heap.size w w') := by
  obtain ⟨a, cap, rfl, h2, h3⟩ := SlF.shape h
  unfold maxLen at h3
  have H := Lib.hid h
  have HSt := Lib.hid hstr
  clear h hstr
  by_cases hl : left < ds.length
  · go_enter Try.func9, Try.ntmps9
    go_wp2_with fail
    go_ret
    exact ⟨_, rfl, by omega, by omega, Below.refl _ _⟩
  · go_enter Try.func9, Try.ntmps9
    go_wp2_with fail
    go_loopw [1, 5] (fun l i wr => ∃ (k : Nat) (r : Int), k ≤ ds.length ∧ i = .int .i64 k ∧ l = .int .i64 r ∧ 0 ≤ r ∧ r + ds.length ≤ left ∧ Below w.heap.size w wr) (fun _ i _ => ds.length - (intOf i).toNat)
    case atStart => exact ⟨0, left - ds.length, Nat.zero_le _, rfl, rfl, by omega, by omega, Below.refl _ _⟩
    case round =>
      obtain ⟨k, r, hk, rfl, rfl, hr0, hr1, hB⟩ := hrel
      by_cases hlt : k < ds.length
      · obtain ⟨g, off, cap', hv, _, _, c0, c1, c2, c3⟩ := (H.out.below hB).cells k hlt
        simp only [Value.slice.injEq] at hv
        obtain ⟨rfl, -, rfl⟩ := hv
        have HS := Lib.hid (HSt.out ds[k] (List.getElem_mem hlt))
        generalize ds[k] = d at c0 c1 c2 c3 HS
        go_wp2_with fail
        refine (szT_any d r _ HS.out (by omega) (by omega)).mono ?_
        rintro e w1 ⟨r2, rfl, q0, q1, b1⟩
        have hB2 := Below.via b1 hB
        by_cases hneg : r2 < 0
        · go_wp2_with fail
          go_ret
          exact ⟨_, rfl, by omega, by omega, hB2⟩
        · go_wp2_with fail
          go_roundw
          case rel => exact ⟨k + 1, r2, by omega, by go_num, rfl, by omega, by omega, hB2⟩
          case measure => simp [intOf]; omega
      · go_wp2_with fail
        go_ret
        exact ⟨_, rfl, by omega, by omega, hB⟩
end Go.Proofs.Ytfeaclnbkmaeeaa
