/-
  The four laws on drawn labels, walked: each returns true for every input. Condition: the bytes can be read.
-/
import Derived.Test.YtmjjeiadoajkmaaF
import Derived.Test.YtmjjeiadoajkmaaM
import Derived.Test.YtmjjeiadoajkmaaQ
import Derived.Laws.StructEq
set_option linter.unusedSimpArgs false
set_option linter.unusedVariables false
namespace Go.Proofs.Ytmjjeiadoajkmaa
open Go.RowKit

/-- '==' and '!=' between two labels. -/
theorem eqlLabel (l a m b : Int) (w : World) : (binOp .eql 25 (.agg #[.int .i64 l, .int .i64 a]) (.agg #[.int .i64 m, .int .i64 b])).run Try.prog w = .ok (.bool (l == m && a == b)) w := by
  have u3 := Try.underlying3
  have a3 := Try.isAgg3
  have z3 := Try.sizeOf3
  have hS : Try.prog.underlying 25 = some (.struct (Try.prog.fieldsOf 25)) := by kernel_rfl
  have hp : Try.prog.stoodInHeld 25 = false := by kernel_rfl
  rw [run_eql_struct, show (10000 : Nat) = 9999 + 1 from rfl, run_equalIn_agg w 9999 25 _ _ hS hp]
  simp only [Program.fieldsOf, Try.underlying25]
  go_simp
  by_cases h1 : l = m <;> by_cases h2 : a = b <;> simp [h1, h2]
theorem neqLabel (l a m b : Int) (w : World) : (binOp .neq 25 (.agg #[.int .i64 l, .int .i64 a]) (.agg #[.int .i64 m, .int .i64 b])).run Try.prog w = .ok (.bool (!(l == m && a == b))) w := by
  have u3 := Try.underlying3
  have a3 := Try.isAgg3
  have z3 := Try.sizeOf3
  have hS : Try.prog.underlying 25 = some (.struct (Try.prog.fieldsOf 25)) := by kernel_rfl
  have hp : Try.prog.stoodInHeld 25 = false := by kernel_rfl
  rw [run_neq_struct, show (10000 : Nat) = 9999 + 1 from rfl, run_equalIn_agg w 9999 25 _ _ hS hp]
  simp only [Program.fieldsOf, Try.underlying25]
  go_simp
  by_cases h1 : l = m <;> by_cases h2 : a = b <;> simp [h1, h2]
theorem guardLabel : Try.prog.eqGuardType Try.prog.depth 25 = false := by kernel_rfl
theorem guardRunLabel (op : BinOp) (x y : Operand) (xs ys : Array Value) (w : World) : (eqGuard op 25 x y (.agg xs) (.agg ys)).run Try.prog w = .ok () w := run_eqGuard_agg w op _ x y xs ys guardLabel

theorem labValid_neg (a : Int) : labValid (-1) a = false := by simp [labValid, inR]
theorem labValid_zero (l a : Int) (h : labValid l a = true) : labValid l 0 = true := by
  simp only [labValid, inR, Bool.and_eq_true, decide_eq_true_eq] at h ⊢
  omega

theorem labelValid_walk (a : Option Addr) (len cap : Nat) (w : World) (h : Bytes w a len cap) : Calls Try.prog 7 #[.slice a len cap] w fun e w' => e = .returned (.bool true) ∧ Below w.heap.size w w' := by
  have h1 := h.1
  have h2 := h.2.1
  unfold maxLen at h2
  have H := Lib.hid h
  clear h
  by_cases hl : 1048576 < len
  · go_enter Try.func7, Try.ntmps7
    go_wp2_with fail
    go_ret
    exact ⟨rfl, Below.refl _ _⟩
  · go_enter Try.func7, Try.ntmps7
    go_wp2_with fail
    refine (drawLabelValid_any a len cap _ H.out).mono ?_
    rintro e w1 ⟨l, x, rfl, h1⟩
    have hn := labValid_neg x
    have k3 := Bk.new (w := w1) (vs := #[.int .i64 l, .int .i64 x]) (t := 25)
    cases hv : labValid l x
    · go_wp2_with fail
      refine (implLabelValid_any _ _ _).mono ?_
      rintro e w2 ⟨rfl, h2⟩
      rw [hv]
      have k3' := k3.below h2
      have x3 := k3'.cell
      go_wp2_with fail
      refine (specLabelValid_any _ _ _).mono ?_
      rintro e w3 ⟨rfl, h3⟩
      rw [hv]
      clear x3
      have x3 := (k3'.below h3).cell
      go_wp2_with (first | (go_at_call 13; refine (implLabelValid_any _ _ _).mono ?_; rintro e w4 ⟨rfl, h4⟩) | (go_at_call 22; refine (alive_any _).mono ?_; rintro e w' ⟨rfl, rfl⟩))
      go_ret
      refine ⟨rfl, ?_⟩
      clear x3
      (repeat' first | (with_reducible exact Below.refl _ _) | (with_reducible refine Below.rd (by assumption) ?_ ?_) | (with_reducible refine Below.via (by assumption) ?_) | (with_reducible refine Below.al ?_ _) | (with_reducible refine Below.dn ?_ _) | (with_reducible refine Below.dr ?_) | (with_reducible refine Below.setCell ?_ ?_ _) | (dsimp only; omega) | (simp only [World.size_alloc, World.size_drew]; omega) | (simp; done) | omega)
    · have hz := labValid_zero l x hv
      go_wp2_with fail
      refine (implLabelValid_any _ _ _).mono ?_
      rintro e w2 ⟨rfl, h2⟩
      rw [hv]
      have k3' := k3.below h2
      have x3 := k3'.cell
      go_wp2_with fail
      refine (specLabelValid_any _ _ _).mono ?_
      rintro e w3 ⟨rfl, h3⟩
      rw [hv]
      clear x3
      replace k3 := k3'.below h3
      have x3 := k3.cell
      go_wp2_with (first | (go_at_call 13; refine (implLabelValid_any _ _ _).mono ?_; rintro e w4 ⟨rfl, h4⟩; replace k3 := k3.below h4; clear x3; have x3 := k3.cell) | (go_at_call 22; refine (alive_any _).mono ?_; rintro e w' ⟨rfl, rfl⟩))
      go_ret
      refine ⟨rfl, ?_⟩
      clear x3
      (repeat' first | (with_reducible exact Below.refl _ _) | (with_reducible refine Below.rd (by assumption) ?_ ?_) | (with_reducible refine Below.via (by assumption) ?_) | (with_reducible refine Below.al ?_ _) | (with_reducible refine Below.dn ?_ _) | (with_reducible refine Below.dr ?_) | (with_reducible refine Below.setCell ?_ ?_ _) | (dsimp only; omega) | (simp only [World.size_alloc, World.size_drew]; omega) | (simp; done) | omega)
theorem sBel_self (l a : Int) : sBel l a l a = labValid l a := by
  unfold sBel
  cases h : labValid l a
  · simp
  · simp only [labValid, inR, Bool.and_eq_true, decide_eq_true_eq] at h
    obtain ⟨x, rfl⟩ := Int.eq_ofNat_of_zero_le h.2.1
    rw [bits_and_nat x x (by omega) (by omega)]
    simp
theorem areas_anti : ∀ a, a < 32 → ∀ b, b < 32 → (a &&& b == a) = true → (b &&& a == b) = true → a = b := by decide +kernel
theorem sBel_anti (l a m b : Int) (h : sBel l a m b = true) (k : sBel m b l a = true) : (l == m && a == b) = true := by
  unfold sBel at h k
  simp only [labValid, inR, Bool.and_eq_true, decide_eq_true_eq] at h k
  obtain ⟨⟨⟨⟨_, h1⟩, ⟨_, h2⟩⟩, h3⟩, h4⟩ := h
  obtain ⟨⟨_, k3⟩, k4⟩ := k
  obtain ⟨x, rfl⟩ := Int.eq_ofNat_of_zero_le h1.1
  obtain ⟨y, rfl⟩ := Int.eq_ofNat_of_zero_le h2.1
  rw [bits_and_nat _ _ (by omega) (by omega)] at h4 k4
  have := areas_anti x (by omega) y (by omega) (by simp at h4 ⊢; omega) (by simp at k4 ⊢; omega)
  simp
  omega

set_option maxHeartbeats 3200000 in
theorem labelBelow_walk (a : Option Addr) (len cap : Nat) (w : World) (h : Bytes w a len cap) : Calls Try.prog 8 #[.slice a len cap] w fun e w' => e = .returned (.bool true) ∧ Below w.heap.size w w' := by
  have h1 := h.1
  have h2 := h.2.1
  unfold maxLen at h2
  have H := Lib.hid h
  clear h
  have eL := eqlLabel
  have gL := guardRunLabel
  by_cases hl : 1048576 < len
  · go_enter Try.func8, Try.ntmps8
    go_wp2_with fail
    go_ret
    exact ⟨rfl, Below.refl _ _⟩
  · go_enter Try.func8, Try.ntmps8
    go_wp2_with fail
    refine (drawLabelBelow_any a len cap _ H.out).mono ?_
    rintro e w1 ⟨l, x, m, y, rfl, h1⟩
    have hc := fun p q r s wx => implBelow_any p q r s wx
    simp only [below_agree] at hc
    have hs := sBel_self l x
    have ha := Lib.hid (sBel_anti l x m y)
    obtain ⟨k3, k4⟩ := Bk.init2 (w := w1) (vs := #[.int .i64 l, .int .i64 x]) (us := #[.int .i64 m, .int .i64 y]) (t := 25) (s := 25)
    go_wp2_with fail
    refine (hc _ _ _ _ _).mono ?_
    rintro e w2 ⟨rfl, h2⟩
    replace k3 := k3.below h2
    replace k4 := k4.below h2
    have x3 := k3.cell
    have x4 := k4.cell
    go_wp2_with fail
    refine (specBelow_any _ _ _ _ _).mono ?_
    rintro e w3 ⟨rfl, h3⟩
    replace k3 := k3.below h3
    replace k4 := k4.below h3
    clear x3 x4
    have l3 := fun wx (h : Below w3.heap.size w3 wx) => (k3.below h).cell
    have l4 := fun wx (h : Below w3.heap.size w3 wx) => (k4.below h).cell
    cases hv : sBel l x m y
    · go_wp2_with fail
      refine wp_region_cls (C := Below w3.heap.size w3) (by kernel_rfl) (by kernel_rfl) (Below.refl _ _).drew ?_; (repeat ((first | (refine q_step ?_ (by rfl) (fun wx hx => ?_) ?_; rotate_left; (focus (go_simp; first | done | (with_reducible rfl) | first | (go_at_call 15; with_reducible refine (hc _ _ _ _ _).mono ?_; rintro e w' ⟨rfl, hb⟩; refine ⟨?_, Below.via hb hx⟩; with_reducible rfl) | (go_at_call 13; with_reducible refine (implLabelValid_any _ _ _).mono ?_; rintro e w' ⟨rfl, hb⟩; refine ⟨?_, Below.via hb hx⟩; with_reducible rfl) | (go_at_call 22; with_reducible refine (alive_any _).mono ?_; rintro e w' ⟨rfl, rfl⟩; refine ⟨?_, hx⟩; with_reducible rfl)))) | (refine BigFrame.wpQuiet_skip (by rfl) ?_)); (try simp only [Act.put, List.setIfInBounds_toArray, List.set_cons_zero, List.set_cons_succ]))); refine wpQuiet_nil ?_; intro wq hq
      go_wp2_with fail
      go_ret
      refine ⟨rfl, ?_⟩
      clear l3 l4
      (repeat' first | (with_reducible exact Below.refl _ _) | (with_reducible refine Below.rd (by assumption) ?_ ?_) | (with_reducible refine Below.via (by assumption) ?_) | (with_reducible refine Below.al ?_ _) | (with_reducible refine Below.dn ?_ _) | (with_reducible refine Below.dr ?_) | (with_reducible refine Below.setCell ?_ ?_ _) | (dsimp only; omega) | (simp only [World.size_alloc, World.size_drew]; omega) | (simp; done) | omega)
    · cases hw : sBel m y l x
      · go_wp2_with fail
        refine wp_region_cls (C := Below w3.heap.size w3) (by kernel_rfl) (by kernel_rfl) (Below.refl _ _).drew ?_; (repeat ((first | (refine q_step ?_ (by rfl) (fun wx hx => ?_) ?_; rotate_left; (focus (go_simp; first | done | (with_reducible rfl) | first | (go_at_call 15; with_reducible refine (hc _ _ _ _ _).mono ?_; rintro e w' ⟨rfl, hb⟩; refine ⟨?_, Below.via hb hx⟩; with_reducible rfl) | (go_at_call 13; with_reducible refine (implLabelValid_any _ _ _).mono ?_; rintro e w' ⟨rfl, hb⟩; refine ⟨?_, Below.via hb hx⟩; with_reducible rfl) | (go_at_call 22; with_reducible refine (alive_any _).mono ?_; rintro e w' ⟨rfl, rfl⟩; refine ⟨?_, hx⟩; with_reducible rfl)))) | (refine BigFrame.wpQuiet_skip (by rfl) ?_)); (try simp only [Act.put, List.setIfInBounds_toArray, List.set_cons_zero, List.set_cons_succ]))); refine wpQuiet_nil ?_; intro wq hq
        go_wp2_with fail
        go_ret
        refine ⟨rfl, ?_⟩
        clear l3 l4
        (repeat' first | (with_reducible exact Below.refl _ _) | (with_reducible refine Below.rd (by assumption) ?_ ?_) | (with_reducible refine Below.via (by assumption) ?_) | (with_reducible refine Below.al ?_ _) | (with_reducible refine Below.dn ?_ _) | (with_reducible refine Below.dr ?_) | (with_reducible refine Below.setCell ?_ ?_ _) | (dsimp only; omega) | (simp only [World.size_alloc, World.size_drew]; omega) | (simp; done) | omega)
      · have hq := ha.out hv hw
        go_wp2_with fail
        refine wp_region_cls (C := Below w3.heap.size w3) (by kernel_rfl) (by kernel_rfl) (Below.refl _ _).drew ?_; (repeat ((first | (refine q_step ?_ (by rfl) (fun wx hx => ?_) ?_; rotate_left; (focus (go_simp; first | done | (with_reducible rfl) | first | (go_at_call 15; with_reducible refine (hc _ _ _ _ _).mono ?_; rintro e w' ⟨rfl, hb⟩; refine ⟨?_, Below.via hb hx⟩; with_reducible rfl) | (go_at_call 13; with_reducible refine (implLabelValid_any _ _ _).mono ?_; rintro e w' ⟨rfl, hb⟩; refine ⟨?_, Below.via hb hx⟩; with_reducible rfl) | (go_at_call 22; with_reducible refine (alive_any _).mono ?_; rintro e w' ⟨rfl, rfl⟩; refine ⟨?_, hx⟩; with_reducible rfl)))) | (refine BigFrame.wpQuiet_skip (by rfl) ?_)); (try simp only [Act.put, List.setIfInBounds_toArray, List.set_cons_zero, List.set_cons_succ]))); refine wpQuiet_nil ?_; intro wq hq
        go_wp2_with fail
        go_ret
        refine ⟨rfl, ?_⟩
        clear l3 l4
        (repeat' first | (with_reducible exact Below.refl _ _) | (with_reducible refine Below.rd (by assumption) ?_ ?_) | (with_reducible refine Below.via (by assumption) ?_) | (with_reducible refine Below.al ?_ _) | (with_reducible refine Below.dn ?_ _) | (with_reducible refine Below.dr ?_) | (with_reducible refine Below.setCell ?_ ?_ _) | (dsimp only; omega) | (simp only [World.size_alloc, World.size_drew]; omega) | (simp; done) | omega)
end Go.Proofs.Ytmjjeiadoajkmaa