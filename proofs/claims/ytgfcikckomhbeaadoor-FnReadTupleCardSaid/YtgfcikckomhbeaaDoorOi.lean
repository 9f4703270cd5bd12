/-
  Numbers and rows of numbers that came in, opened. No condition.
-/
import Derived.Test.YtgfcikckomhbeaaDoorO
import Derived.Test.YtgfcikckomhbeaaDoorU
import Derived.Deep.Slices
import Derived.ChangeSame
set_option linter.unusedSimpArgs false
set_option linter.unusedVariables false
namespace Go.Proofs.YtgfcikckomhbeaaDoor
open Go.ChangeShapes Go.WideShapes Go.RowKit
/-- Numbers as cells. -/
def encI (n : Int) : List Value := [.int .i64 n]
theorem encI_len (n : Int) : (encI n).length = 1 := rfl
def cellsI (ns : List Int) : List Value := ns.flatMap encI
theorem cellsI_eq (ns : List Int) : cellsI ns = ns.map (Value.int .i64) := by
  unfold cellsI encI
  induction ns with
  | nil => rfl
  | cons n ns ih => rw [List.flatMap_cons, ih]; rfl
theorem cellsI_len (ns : List Int) : (cellsI ns).length = ns.length := by rw [cellsI_eq, List.length_map]
theorem cellsI_app (xs ys : List Int) : cellsI (xs ++ ys) = cellsI xs ++ cellsI ys := by simp [cellsI]
theorem cellsI_get (ns : List Int) (i : Nat) (hi : i < ns.length) : (cellsI ns)[i]? = some (.int .i64 ns[i]) := by
  rw [cellsI_eq, List.getElem?_map, List.getElem?_eq_getElem hi]; rfl
/-- A readable slice of numbers. -/
def SlI (w : World) (v : Value) (ns : List Int) : Prop := SlF w v 1 ns.length (cellsI ns)
theorem SlI.below {w w' : World} {v : Value} {ns : List Int} (h : SlI w v ns) (hb : Below w.heap.size w w') : SlI w' v ns := SlF.below h hb
theorem SlI.cell {w : World} {v : Value} {ns : List Int} (h : SlI w v ns) (i : Nat) (hi : i < ns.length) :
    ∃ g off cap, v = .slice (some ⟨g, off, none⟩) ns.length cap ∧ ns.length ≤ cap ∧ cap ≤ maxLen ∧ w.cell? ⟨g, off + i, none⟩ = some (.int .i64 ns[i]) := by
  obtain ⟨g, off, cap, hv, h1, h2, hc⟩ := SlF.at h (by omega)
  exact ⟨g, off, cap, hv, h1, h2, by rw [hc i (by omega), cellsI_get ns i hi]⟩
section
variable {H : Type} {enc : TypeId × Value → H} {w : World} {base b0 : Nat} {v : Value} {d : DataW H} {p : List MemPlace}
theorem open_i64 (hv : Value.okWide Tryd.prog w .any b0 3 v) (h : DataW.Trod enc Tryd.prog w 0 (fun _ => true) true 3 v d p) : ∃ n : Int, v = .int .i64 n ∧ I64 n := by
  obtain ⟨n, rfl, _, _, hw⟩ := open_int Tryd.underlying3 hv h
  exact ⟨n, rfl, I64.of_wf hw⟩
end
end Go.Proofs.YtgfcikckomhbeaaDoor
