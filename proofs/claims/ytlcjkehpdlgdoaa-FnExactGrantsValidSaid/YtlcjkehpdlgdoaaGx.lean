/-
  The exact law on valid grants, walked: true for every input. No condition.
-/
import Derived.Test.YtlcjkehpdlgdoaaGw
set_option linter.unusedSimpArgs false
set_option linter.unusedVariables false
namespace Go.Proofs.Ytlcjkehpdlgdoaa
open Go.RowKit
theorem exactGrantsValid_walk (many : Int) (ds : List Gra) (v : Value) (w : World) (h : SlG w v ds) : Calls Try.prog 3 #[.int .i64 many, v] w fun e w' => e = .returned (.bool true) ∧ Below w.heap.size w w' := by
  have H := Lib.hid h
  clear h
  by_cases hl : (1048576 : Int) < ds.length
  · go_enter Try.func3, Try.ntmps3
    go_wp2_with fail
    refine (szGS_any ds 1048576 v w H.out (by omega) (by omega)).mono ?_
    rintro e w' ⟨rfl, rfl⟩
    rw [if_pos (by omega)]
    go_wp2_with fail
    go_ret
    exact ⟨rfl, Below.refl _ _⟩
  · have hlen : ds.length ≤ 1048576 := by omega
    have hle : (0 : Int) ≤ 1048576 - ds.length := by omega
    have heq := eqGs_refl ds
    go_enter Try.func3, Try.ntmps3
    go_wp2_with fail
    refine (szGS_any ds 1048576 v w H.out (by omega) (by omega)).mono ?_
    rintro e w' ⟨rfl, rfl⟩
    rw [if_neg (by omega)]
    go_wp2_with fail
    refine (toGS_any ds v _ H.out hlen).mono ?_
    rintro e w1 ⟨v1, rfl, o1, b1⟩
    have O1 := Lib.hid o1
    clear o1
    go_wp2_with fail
    refine (specGValid_any many ds v1 _ (own_sl O1.out)).mono ?_
    rintro e w2 ⟨rfl, b2⟩
    go_wp2_with fail
    refine (toGS_any ds v _ ((H.out.below b1).below b2) hlen).mono ?_
    rintro e w3 ⟨v3, rfl, o3, b3⟩
    have O3 := Lib.hid o3
    clear o3
    go_wp2_with fail
    refine (implGValid_any many ds v3 _ (own_sl O3.out)).mono ?_
    rintro e w4 ⟨rfl, b4⟩
    go_wp2_with fail
    refine (toGS_any ds v _ ((((H.out.below b1).below b2).below b3).below b4) hlen).mono ?_
    rintro e w5 ⟨v5, rfl, o5, b5⟩
    have O5 := Lib.hid o5
    clear o5
    go_wp2_with fail
    refine (eqGS_any ds ds v3 v5 _ (SlF.below (SlF.below (own_sl O3.out) b4) b5) (own_sl O5.out)).mono ?_
    rintro e w6 ⟨rfl, b6⟩
    go_wp2_with fail
    go_ret
    refine ⟨rfl, ?_⟩
    (repeat' first | (with_reducible exact Below.refl _ _) | (with_reducible refine Below.rd (by assumption) ?_ ?_) | (with_reducible refine Below.via (by assumption) ?_) | (with_reducible refine Below.al ?_ _) | (with_reducible refine Below.dn ?_ _) | (with_reducible refine Below.dr ?_) | (with_reducible refine Below.setCell ?_ ?_ _) | (dsimp only; omega) | (simp only [World.size_alloc, World.size_drew]; omega) | (simp; done) | omega)
end Go.Proofs.Ytlcjkehpdlgdoaa
