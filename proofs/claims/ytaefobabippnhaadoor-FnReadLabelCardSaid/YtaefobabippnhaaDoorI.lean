/-
  Rows of numbers: copied, compared, marked, held. No condition.
-/
import Derived.Test.YtaefobabippnhaaDoorA
import Derived.Test.YtaefobabippnhaaDoorOi
import Derived.Test.YtaefobabippnhaaDoorQ
import Derived.Test.YtaefobabippnhaaDoorUa
set_option linter.unusedSimpArgs false
set_option linter.unusedVariables false
namespace Go.Proofs.YtaefobabippnhaaDoor
open Go.RowKit
/-- What is made of a slice: the same numbers in new memory. -/
def NewI (ns : List Int) (w : World) (e : Ending) (w' : World) : Prop := ∃ v, e = .returned v ∧ w'.ownsRow w.heap.size 3 1 v ns.length (cellsI ns) ∧ Below w.heap.size w w'
theorem infoI : (Tryd.prog.info? 3).map (fun i => (i.zero, i.size, i.bytes)) = some (some (.int .i64 0), 1, 8) := by kernel_rfl
theorem grownBy_trans2 {w w1 w2 : World} {row : Option Nat} (h : w.grownBy w1 row) (k : w1.grownBy w2 row) : w.grownBy w2 row :=
  ⟨k.os.trans h.os, k.tape.trans h.tape, k.output.trans h.output, Nat.le_trans h.size k.size, fun i hi hr => (k.block i (Nat.lt_of_lt_of_le hi h.size) hr).trans (h.block i hi hr)⟩
theorem own_gby {w w' : World} {row : Option Nat} {lo e k : Nat} {v : Value} {n : Nat} {cs : List Value} (h : w.ownsRow lo e k v n cs) (g : w.grownBy w' row) (hne : ∀ j, v.ownBlock = some j → row = some j → False) : w'.ownsRow lo e k v n cs :=
  h.kept g (by
    cases hv : v.ownBlock with
    | none => exact .inl rfl
    | some j => exact .inr (fun he => hne j hv he.symm))
/-- The numbers from k on. -/
def upFrom (k : Int) (n : Nat) : List Int := (List.range n).map (fun (i : Nat) => k + (i : Int))
theorem upFrom_len (k : Int) (n : Nat) : (upFrom k n).length = n := by simp [upFrom]
theorem upFrom_get (k : Int) (n : Nat) (i : Nat) (hi : i < (upFrom k n).length) : (upFrom k n)[i] = k + (i : Int) := by simp [upFrom]
theorem slI_up {w : World} {v : Value} {k : Int} {n : Nat} (h : SlF w v 1 n (cellsI (upFrom k n))) : SlI w v (upFrom k n) := by
  unfold SlI
  rw [upFrom_len]
  exact h
end Go.Proofs.YtaefobabippnhaaDoor
