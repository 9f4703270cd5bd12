/-
  Rules and moves that came in, opened. No condition.
-/
import Derived.Test.YtfghgpdhcpcoiaaOi
import Derived.Test.YtfghgpdhcpcoiaaJ
import Derived.Deep.Slices
set_option linter.unusedSimpArgs false
set_option linter.unusedVariables false
namespace Go.Proofs.Ytfghgpdhcpcoiaa
open Go.ChangeShapes Go.WideShapes Go.RowKit Go.Deep
theorem zip_back {α β : Type} (l : List (α × β)) : (l.map Prod.fst).zip (l.map Prod.snd) = l := by
  induction l with
  | nil => rfl
  | cons x l ih => rw [List.map_cons, List.map_cons, List.zip_cons_cons, ih]
section
variable {H : Type} {enc : TypeId × Value → H} {w : World} {base b0 : Nat} {v : Value} {d : DataW H} {p : List MemPlace}
theorem elemAp {m : Nat} {cs : List Value} {x : DataW H × List MemPlace} (ht : DataW.trod enc Try.prog w 0 (fun _ => true) true m 85 cs = some x) : ∃ q : Value × Mv, cs = encM q ∧ SlI w q.1 q.2.xs := by
  obtain ⟨xs, m', _, _, hlen, hsz, hf⟩ := DataW.trod_struct Try.underlying85 ht
  have hC : Try.prog.cellsOf 85 = 2 := by kernel_rfl
  have hi : Try.prog.cellsOf 3 = 1 := by kernel_rfl
  have hj : Try.prog.cellsOf 32 = 1 := by kernel_rfl
  rw [hC] at hlen
  match cs, hlen, xs, hsz, hf with
  | [x0, x1], _, [y0, y1], _, hf =>
    have h0 := hf 0 _ rfl
    have h1 := hf 1 _ rfl
    simp [hj] at h0
    obtain ⟨ns, hs, _⟩ := open_isc h0
    simp [hi] at h1
    obtain ⟨a1, e1, _, w1⟩ := DataW.trod_int Try.underlying3 h1
    simp at e1
    exact ⟨(x0, ⟨ns, a1⟩), by simp [encM, e1], hs⟩
theorem openApS (hv : Value.okWide Try.prog w .any b0 52 v) (h : DataW.Trod enc Try.prog w 0 (fun _ => true) true 52 v d p) : ∃ ds : List Mv, SlM w v ds := by
  obtain ⟨a0, len0, cap0, rfl⟩ := okWide_slice Try.underlying52 hv
  obtain ⟨fuel, hf⟩ := h
  have hC : Try.prog.cellsOf 85 = 2 := by kernel_rfl
  rcases open_slice Try.underlying52 hf with ⟨hcs, _⟩ | ⟨a, len, cap, m, m', D, Pl, hcs, _, hl, hm, hmm, _, hi⟩
  · simp [Value.cells] at hcs
    obtain ⟨rfl, rfl, rfl⟩ := hcs
    exact ⟨[], SlM.nil _⟩
  · simp [Value.cells] at hcs
    obtain ⟨rfl, rfl, rfl⟩ := hcs
    rw [hC] at hi
    obtain ⟨qs, hlen, hqs⟩ := list_of len0 (fun i (q : Value × Mv) => SlI w q.1 q.2.xs ∧ ∀ r, r < 2 → w.cell? ((a.add (i * 2)).add r) = (encM q)[r]?) (fun i hlt => by
      obtain ⟨cs', h1, h2⟩ := hi i (by simp at hmm; omega)
      obtain ⟨q, rfl, hw⟩ := elemAp h2
      exact ⟨q, hw, fun r hr => (World.cells?_some h1).2.2 r hr⟩)
    refine ⟨qs.map Prod.snd, qs.map Prod.fst, by simp, ?_, fun i hi hi2 => ?_⟩
    · have hs := slF_of encM 2 (by omega) encM_len w a len0 cap0 hl hm qs hlen (fun i hi r hr => (hqs i hi).2 r hr)
      rw [List.length_map, cellsM, zip_back]
      exact hs
    · have hi3 : i < qs.length := by simpa using hi2
      simpa using (hqs i hi3).1
theorem elemMo {m : Nat} {cs : List Value} {x : DataW H × List MemPlace} (ht : DataW.trod enc Try.prog w 0 (fun _ => true) true m 64 cs = some x) : ∃ q : Value × Mv, cs = encM q ∧ SlI w q.1 q.2.xs := by
  obtain ⟨xs, m', _, _, hlen, hsz, hf⟩ := DataW.trod_struct Try.underlying64 ht
  have hC : Try.prog.cellsOf 64 = 2 := by kernel_rfl
  have hi : Try.prog.cellsOf 3 = 1 := by kernel_rfl
  have hj : Try.prog.cellsOf 32 = 1 := by kernel_rfl
  rw [hC] at hlen
  match cs, hlen, xs, hsz, hf with
  | [x0, x1], _, [y0, y1], _, hf =>
    have h0 := hf 0 _ rfl
    have h1 := hf 1 _ rfl
    simp [hj] at h0
    obtain ⟨ns, hs, _⟩ := open_isc h0
    simp [hi] at h1
    obtain ⟨a1, e1, _, w1⟩ := DataW.trod_int Try.underlying3 h1
    simp at e1
    exact ⟨(x0, ⟨ns, a1⟩), by simp [encM, e1], hs⟩
theorem openMoS (hv : Value.okWide Try.prog w .any b0 22 v) (h : DataW.Trod enc Try.prog w 0 (fun _ => true) true 22 v d p) : ∃ ds : List Mv, SlM w v ds := by
  obtain ⟨a0, len0, cap0, rfl⟩ := okWide_slice Try.underlying22 hv
  obtain ⟨fuel, hf⟩ := h
  have hC : Try.prog.cellsOf 64 = 2 := by kernel_rfl
  rcases open_slice Try.underlying22 hf with ⟨hcs, _⟩ | ⟨a, len, cap, m, m', D, Pl, hcs, _, hl, hm, hmm, _, hi⟩
  · simp [Value.cells] at hcs
    obtain ⟨rfl, rfl, rfl⟩ := hcs
    exact ⟨[], SlM.nil _⟩
  · simp [Value.cells] at hcs
    obtain ⟨rfl, rfl, rfl⟩ := hcs
    rw [hC] at hi
    obtain ⟨qs, hlen, hqs⟩ := list_of len0 (fun i (q : Value × Mv) => SlI w q.1 q.2.xs ∧ ∀ r, r < 2 → w.cell? ((a.add (i * 2)).add r) = (encM q)[r]?) (fun i hlt => by
      obtain ⟨cs', h1, h2⟩ := hi i (by simp at hmm; omega)
      obtain ⟨q, rfl, hw⟩ := elemMo h2
      exact ⟨q, hw, fun r hr => (World.cells?_some h1).2.2 r hr⟩)
    refine ⟨qs.map Prod.snd, qs.map Prod.fst, by simp, ?_, fun i hi hi2 => ?_⟩
    · have hs := slF_of encM 2 (by omega) encM_len w a len0 cap0 hl hm qs hlen (fun i hi r hr => (hqs i hi).2 r hr)
      rw [List.length_map, cellsM, zip_back]
      exact hs
    · have hi3 : i < qs.length := by simpa using hi2
      simpa using (hqs i hi3).1
end
end Go.Proofs.Ytfghgpdhcpcoiaa
