/-
  The exact law on valid tuples, walked: true for every input. No condition.
-/
import Derived.Test.YtfeaclnbkmaeeaaTus
set_option linter.unusedSimpArgs false
set_option linter.unusedVariables false
namespace Go.Proofs.Ytfeaclnbkmaeeaa
open Go.RowKit
theorem exactTuplesValid_walk (ds : List Tup) (v : Value) (w : World) (h : SlT w v ds) (hstr : ∀ d ∈ ds, Str d) : Calls Try.prog 3 #[v] w fun e w' => e = .returned (.bool true) ∧ Below w.heap.size w w' := by
  have H := Lib.hid h
  have HSt := Lib.hid hstr
  clear h hstr
  have heq := eqTs_refl ds
  go_enter Try.func3, Try.ntmps3
  go_wp2_with fail
  refine (szTS_any ds 1048576 v w H.out HSt.out (by omega) (by omega)).mono ?_
  rintro e w0 ⟨r, rfl, q0, q1, b0⟩
  by_cases hneg : r < 0
  · go_wp2_with fail
    go_ret
    exact ⟨rfl, b0⟩
  · have hlen : ds.length ≤ 1048576 := by omega
    have H0 := Lib.hid (H.out.below b0)
    go_wp2_with fail
    refine (toTS_any ds v _ H0.out hlen).mono ?_
    rintro e w1 ⟨v1, rfl, o1, b1⟩
    have O1 := Lib.hid o1
    clear o1
    go_wp2_with fail
    refine (specTValid_any ds v1 _ (own_sl O1.out) HSt.out).mono ?_
    rintro e w2 ⟨rfl, b2⟩
    go_wp2_with fail
    refine (toTS_any ds v _ ((H0.out.below b1).below b2) hlen).mono ?_
    rintro e w3 ⟨v3, rfl, o3, b3⟩
    have O3 := Lib.hid o3
    clear o3
    go_wp2_with fail
    refine (implTValid_any ds v3 _ (own_sl O3.out) HSt.out).mono ?_
    rintro e w4 ⟨rfl, b4⟩
    go_wp2_with fail
    refine (toTS_any ds v _ ((((H0.out.below b1).below b2).below b3).below b4) hlen).mono ?_
    rintro e w5 ⟨v5, rfl, o5, b5⟩
    have O5 := Lib.hid o5
    clear o5
    go_wp2_with fail
    refine (eqTS_any ds ds v3 v5 _ (SlF.below (SlF.below (own_sl O3.out) b4) b5) (own_sl O5.out)).mono ?_
    rintro e w6 ⟨rfl, b6⟩
    go_wp2_with fail
    go_ret
    refine ⟨rfl, ?_⟩
    (repeat' first | (with_reducible exact Below.refl _ _) | (with_reducible refine Below.rd (by assumption) ?_ ?_) | (with_reducible refine Below.via (by assumption) ?_) | (with_reducible refine Below.al ?_ _) | (with_reducible refine Below.dn ?_ _) | (with_reducible refine Below.dr ?_) | (with_reducible refine Below.setCell ?_ ?_ _) | (dsimp only; omega) | (simp only [World.size_alloc, World.size_drew]; omega) | (simp; done) | omega)
end Go.Proofs.Ytfeaclnbkmaeeaa
