/-
  Numbers and rows of numbers that came in, opened. No condition.
-/
import Derived.Test.YtamhnhojfhlanaaDoorO
import Derived.Test.YtamhnhojfhlanaaDoorU
import Derived.Deep.Slices
import Derived.ChangeSame
set_option linter.unusedSimpArgs false
set_option linter.unusedVariables false
namespace Go.Proofs.YtamhnhojfhlanaaDoor
open Go.ChangeShapes Go.WideShapes Go.RowKit
/-- Numbers as cells. -/
def encI (n : Int) : List Value := [.int .i64 n]
theorem encI_len (n : Int) : (encI n).length = 1 := rfl
def cellsI (ns : List Int) : List Value := ns.flatMap encI
theorem cellsI_eq (ns : List Int) : cellsI ns = ns.map (Value.int .i64) := by
  unfold cellsI encI
  induction ns with
  | nil => rfl
  | cons n ns ih => rw [List.flatMap_cons, ih]; rfl
theorem cellsI_len (ns : List Int) : (cellsI ns).length = ns.length := by rw [cellsI_eq, List.length_map]
theorem cellsI_app (xs ys : List Int) : cellsI (xs ++ ys) = cellsI xs ++ cellsI ys := by simp [cellsI]
theorem cellsI_get (ns : List Int) (i : Nat) (hi : i < ns.length) : (cellsI ns)[i]? = some (.int .i64 ns[i]) := by
  rw [cellsI_eq, List.getElem?_map, List.getElem?_eq_getElem hi]; rfl
/-- A readable slice of numbers. -/
def SlI (w : World) (v : Value) (ns : List Int) : Prop := SlF w v 1 ns.length (cellsI ns)
theorem SlI.below {w w' : World} {v : Value} {ns : List Int} (h : SlI w v ns) (hb : Below w.heap.size w w') : SlI w' v ns := SlF.below h hb
theorem SlI.cell {w : World} {v : Value} {ns : List Int} (h : SlI w v ns) (i : Nat) (hi : i < ns.length) :
    ∃ g off cap, v = .slice (some ⟨g, off, none⟩) ns.length cap ∧ ns.length ≤ cap ∧ cap ≤ maxLen ∧ w.cell? ⟨g, off + i, none⟩ = some (.int .i64 ns[i]) := by
  obtain ⟨g, off, cap, hv, h1, h2, hc⟩ := SlF.at h (by omega)
  exact ⟨g, off, cap, hv, h1, h2, by rw [hc i (by omega), cellsI_get ns i hi]⟩
section
variable {H : Type} {enc : TypeId × Value → H} {w : World} {base b0 : Nat} {v : Value} {d : DataW H} {p : List MemPlace}
theorem open_i64 (hv : Value.okWide Tryd.prog w .any b0 3 v) (h : DataW.Trod enc Tryd.prog w 0 (fun _ => true) true 3 v d p) : ∃ n : Int, v = .int .i64 n ∧ I64 n := by
  obtain ⟨n, rfl, _, _, hw⟩ := open_int Tryd.underlying3 hv h
  exact ⟨n, rfl, I64.of_wf hw⟩
/-- A row of numbers in a cell. -/
theorem open_isc {n : Nat} {c : Value} {y : DataW H × List MemPlace} (hf : DataW.trod enc Tryd.prog w 0 (fun _ => true) true n 50 [c] = some y) : ∃ ns : List Int, SlI w c ns ∧ ∀ n ∈ ns, I64 n := by
  rcases open_ints Tryd.underlying50 Tryd.underlying3 (by kernel_rfl) hf with ⟨hcs, _⟩ | ⟨x, l, c0, zs, hcs, _, hl, hm, hz, _, hcell, hwz⟩
  · simp at hcs
    subst hcs
    exact ⟨[], SlF.nil _ _, fun x hx => by simp at hx⟩
  · simp at hcs
    subst hcs
    have hz' : zs.length = c0 := by simpa using hz
    have hL : (zs.take l).length = l := by rw [List.length_take]; omega
    refine ⟨zs.take l, ?_, fun n hn => I64.of_wf (hwz n (List.mem_of_mem_take hn))⟩
    unfold SlI
    refine ⟨by rw [cellsI_len, Nat.mul_one], some x, c0, by rw [hL], by rw [hL]; exact hl, hm, ?_⟩
    by_cases hlen : l = 0
    · exact .inl (by rw [hL]; exact hlen)
    · obtain ⟨g, off, rfl, hc⟩ := ints_at hcell (by omega)
      refine .inr ⟨g, off, rfl, fun k hk => ?_⟩
      rw [hL, Nat.mul_one] at hk
      rw [hc k (by omega), cellsI_get _ k (by rw [hL]; exact hk)]
      have h1 : k < zs.length := by omega
      simp [h1]
theorem open_is (hv : Value.okWide Tryd.prog w .any b0 50 v) (h : DataW.Trod enc Tryd.prog w 0 (fun _ => true) true 50 v d p) : ∃ ns : List Int, SlI w v ns ∧ ∀ n ∈ ns, I64 n := by
  obtain ⟨a0, len0, cap0, rfl⟩ := okWide_slice Tryd.underlying50 hv
  obtain ⟨fuel, hf⟩ := h
  rcases open_ints Tryd.underlying50 Tryd.underlying3 (by kernel_rfl) hf with ⟨hcs, _⟩ | ⟨x, l, c, zs, hcs, _, hl, hm, hz, _, hcell, hwz⟩
  · simp [Value.cells] at hcs
    obtain ⟨rfl, rfl, rfl⟩ := hcs
    exact ⟨[], SlF.nil _ _, fun x hx => by simp at hx⟩
  · simp [Value.cells] at hcs
    obtain ⟨rfl, rfl, rfl⟩ := hcs
    have hz' : zs.length = cap0 := by simpa using hz
    have hL : (zs.take len0).length = len0 := by rw [List.length_take]; omega
    refine ⟨zs.take len0, ?_, fun n hn => I64.of_wf (hwz n (List.mem_of_mem_take hn))⟩
    unfold SlI
    refine ⟨by rw [cellsI_len, Nat.mul_one], some x, cap0, by rw [hL], by rw [hL]; exact hl, hm, ?_⟩
    by_cases hlen : len0 = 0
    · exact .inl (by rw [hL]; exact hlen)
    · obtain ⟨g, off, rfl, hc⟩ := ints_at hcell (by omega)
      refine .inr ⟨g, off, rfl, fun k hk => ?_⟩
      rw [hL, Nat.mul_one] at hk
      rw [hc k (by omega), cellsI_get _ k (by rw [hL]; exact hk)]
      have h1 : k < zs.length := by omega
      simp [h1]
end
end Go.Proofs.YtamhnhojfhlanaaDoor
