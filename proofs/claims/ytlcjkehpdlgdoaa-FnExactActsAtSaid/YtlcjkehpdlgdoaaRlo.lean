/-
  Roles that came in, opened. No condition.
-/
import Derived.Test.YtlcjkehpdlgdoaaOi
import Derived.Test.YtlcjkehpdlgdoaaRl
import Derived.Deep.Slices
set_option linter.unusedSimpArgs false
set_option linter.unusedVariables false
namespace Go.Proofs.Ytlcjkehpdlgdoaa
open Go.ChangeShapes Go.WideShapes Go.RowKit Go.Deep
theorem zip_backR {α β : Type} (l : List (α × β)) : (l.map Prod.fst).zip (l.map Prod.snd) = l := by
  induction l with
  | nil => rfl
  | cons x l ih => rw [List.map_cons, List.map_cons, List.zip_cons_cons, ih]
section
variable {H : Type} {enc : TypeId × Value → H} {w : World} {base b0 : Nat} {v : Value} {d : DataW H} {p : List MemPlace}
theorem elemRl {m : Nat} {cs : List Value} {x : DataW H × List MemPlace} (ht : DataW.trod enc Try.prog w 0 (fun _ => true) true m 74 cs = some x) : ∃ q : Value × Rl, cs = encRl q ∧ SlI w q.1 q.2.xs ∧ q.2.nm.size ≤ maxLen := by
  obtain ⟨xs, m', _, _, hlen, hsz, hf⟩ := DataW.trod_struct Try.underlying74 ht
  have hC : Try.prog.cellsOf 74 = 3 := by kernel_rfl
  have hi : Try.prog.cellsOf 3 = 1 := by kernel_rfl
  have hj : Try.prog.cellsOf 36 = 1 := by kernel_rfl
  have hst : Try.prog.cellsOf 9 = 1 := by kernel_rfl
  rw [hC] at hlen
  match cs, hlen, xs, hsz, hf with
  | [x0, x1, x2], _, [y0, y1, y2], _, hf =>
    have h0 := hf 0 _ rfl
    have h1 := hf 1 _ rfl
    have h2 := hf 2 _ rfl
    simp [hst] at h0
    obtain ⟨a0, e0, _, w0⟩ := DataW.trod_string Try.underlying9 h0
    simp at e0
    simp [hi] at h1
    obtain ⟨a1, e1, _, w1⟩ := DataW.trod_int Try.underlying3 h1
    simp at e1
    simp [hj] at h2
    obtain ⟨ns, hs, _⟩ := open_isc h2
    exact ⟨(x2, ⟨a0, a1, ns⟩), by simp [encRl, e0, e1], hs, w0⟩
theorem openRlS (hv : Value.okWide Try.prog w .any b0 45 v) (h : DataW.Trod enc Try.prog w 0 (fun _ => true) true 45 v d p) : ∃ ds : List Rl, SlRl w v ds := by
  obtain ⟨a0, len0, cap0, rfl⟩ := okWide_slice Try.underlying45 hv
  obtain ⟨fuel, hf⟩ := h
  have hC : Try.prog.cellsOf 74 = 3 := by kernel_rfl
  rcases open_slice Try.underlying45 hf with ⟨hcs, _⟩ | ⟨a, len, cap, m, m', D, Pl, hcs, _, hl, hm, hmm, _, hi⟩
  · simp [Value.cells] at hcs
    obtain ⟨rfl, rfl, rfl⟩ := hcs
    exact ⟨[], SlRl.nil _⟩
  · simp [Value.cells] at hcs
    obtain ⟨rfl, rfl, rfl⟩ := hcs
    rw [hC] at hi
    obtain ⟨qs, hlen, hqs⟩ := list_of len0 (fun i (q : Value × Rl) => (SlI w q.1 q.2.xs ∧ q.2.nm.size ≤ maxLen) ∧ ∀ r, r < 3 → w.cell? ((a.add (i * 3)).add r) = (encRl q)[r]?) (fun i hlt => by
      obtain ⟨cs', h1, h2⟩ := hi i (by simp at hmm; omega)
      obtain ⟨q, rfl, hw⟩ := elemRl h2
      exact ⟨q, hw, fun r hr => (World.cells?_some h1).2.2 r hr⟩)
    refine ⟨qs.map Prod.snd, qs.map Prod.fst, by simp, ?_, fun i hi hi2 => ?_, fun d hd => ?_⟩
    · have hs := slF_of encRl 3 (by omega) encRl_len w a len0 cap0 hl hm qs hlen (fun i hi r hr => (hqs i hi).2 r hr)
      rw [List.length_map, cellsRl, zip_backR]
      exact hs
    · have hi3 : i < qs.length := by simpa using hi2
      simpa using (hqs i hi3).1.1
    · obtain ⟨q, hq, rfl⟩ := List.mem_map.1 hd
      obtain ⟨i, hi, rfl⟩ := List.mem_iff_getElem.1 hq
      exact (hqs i hi).1.2
end
end Go.Proofs.Ytlcjkehpdlgdoaa
