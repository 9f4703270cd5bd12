/-
  A tuple that came in, opened. No condition.
-/
import Derived.Test.YtgfcikckomhbeaaDoorO
import Derived.Test.YtgfcikckomhbeaaDoorTuv
set_option linter.unusedSimpArgs false
set_option linter.unusedVariables false
namespace Go.Proofs.YtgfcikckomhbeaaDoor
open Go.ChangeShapes Go.WideShapes Go.ChangeAt Go.RowKit Go.Joins
section
variable {H : Type} {enc : TypeId × Value → H} {w : World} {base b0 : Nat} {v : Value} {d : DataW H} {p : List MemPlace}
theorem cellsTuple : Tryd.prog.cellsOf 23 = 4 := by kernel_rfl
theorem open_tuple (hv : Value.okWide Tryd.prog w .any b0 23 v) (h : DataW.Trod enc Tryd.prog w 0 (fun _ => true) true 23 v d p) :
    ∃ t : Tup, v = .agg #[.int .i64 t.f0, .string t.f1, .int .i64 t.f2, .string t.f3] ∧ Str t := by
  obtain ⟨c0, c1, c2, c3, y0, y1, y2, y3, m, rfl, rfl, rfl, hy0, hy1, hy2, hy3⟩ := open_agg4 Tryd.underlying23 (by kernel_rfl) cellsTuple hv h
  obtain ⟨a, e0, rfl, wa⟩ := DataW.trod_int Tryd.underlying3 hy0
  obtain ⟨s, e1, rfl, ws⟩ := DataW.trod_string Tryd.underlying9 hy1
  obtain ⟨b, e2, rfl, wb⟩ := DataW.trod_int Tryd.underlying3 hy2
  obtain ⟨u, e3, rfl, wu⟩ := DataW.trod_string Tryd.underlying9 hy3
  simp at e0 e1 e2 e3
  subst e0 e1 e2 e3
  exact ⟨⟨a, s, b, u⟩, rfl, ws, wu⟩
end
end Go.Proofs.YtgfcikckomhbeaaDoor
