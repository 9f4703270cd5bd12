/-
  A ticket that came in, opened. No condition.
-/
import Derived.Test.YtnkfhfhioknjeaaOi
import Derived.Test.YtnkfhfhioknjeaaKm
set_option linter.unusedSimpArgs false
set_option linter.unusedVariables false
namespace Go.Proofs.Ytnkfhfhioknjeaa
open Go.ChangeShapes Go.WideShapes Go.ChangeAt Go.RowKit Go.Joins
section
variable {H : Type} {enc : TypeId × Value → H} {w : World} {base b0 : Nat} {v : Value} {d : DataW H} {p : List MemPlace}
theorem cellsTicket : Try.prog.cellsOf 24 = 4 := by kernel_rfl
theorem open_ticket (hv : Value.okWide Try.prog w .any b0 24 v) (h : DataW.Trod enc Try.prog w 0 (fun _ => true) true 24 v d p) :
    ∃ (t : Tk) (u : Value), v = .agg #[.int .i64 t.who, u, .int .i64 t.til, .int .i64 t.sl] ∧ SlI w u t.acts ∧ I64 t.who ∧ I64 t.til ∧ I64 t.sl := by
  obtain ⟨c0, c1, c2, c3, y0, y1, y2, y3, m, rfl, rfl, rfl, hy0, hy1, hy2, hy3⟩ := open_agg4 Try.underlying24 (by kernel_rfl) cellsTicket hv h
  obtain ⟨a, e0, rfl, wa⟩ := DataW.trod_int Try.underlying3 hy0
  obtain ⟨ns, hs, _⟩ := open_isc hy1
  obtain ⟨b, e2, rfl, wb⟩ := DataW.trod_int Try.underlying3 hy2
  obtain ⟨c, e3, rfl, wc⟩ := DataW.trod_int Try.underlying3 hy3
  simp at e0 e2 e3
  subst e0 e2 e3
  exact ⟨⟨a, ns, b, c⟩, c1, rfl, hs, I64.of_wf wa, I64.of_wf wb, I64.of_wf wc⟩
end
end Go.Proofs.Ytnkfhfhioknjeaa
