/-
  Grants that came in, opened. No condition.
-/
import Derived.Test.YtlcjkehpdlgdoaaO
import Derived.Test.YtlcjkehpdlgdoaaG
import Derived.Deep.Slices
import Derived.ChangeSame
set_option linter.unusedSimpArgs false
set_option linter.unusedVariables false
namespace Go.Proofs.Ytlcjkehpdlgdoaa
open Go.ChangeShapes Go.WideShapes Go.RowKit Go.Deep
def wfG (d : Gra) : Prop := I64 d.f0 ∧ I64 d.f1 ∧ I64 d.f2 ∧ I64 d.f3
section
variable {H : Type} {enc : TypeId × Value → H} {w : World} {base b0 : Nat} {v : Value} {d : DataW H} {p : List MemPlace}
theorem elemG {spare : Nat → Bool} {held : Bool} {m : Nat} {cs : List Value} {x : DataW H × List MemPlace} (ht : DataW.trod enc Try.prog w base spare held m 63 cs = some x) : ∃ d : Gra, cs = encG d ∧ wfG d := by
  obtain ⟨xs, m', _, _, hlen, hsz, hf⟩ := DataW.trod_struct Try.underlying63 ht
  have hC : Try.prog.cellsOf 63 = 4 := by kernel_rfl
  have hi : Try.prog.cellsOf 3 = 1 := by kernel_rfl
  rw [hC] at hlen
  match cs, hlen, xs, hsz, hf with
  | [x0, x1, x2, x3], _, [y0, y1, y2, y3], _, hf =>
    have h0 := hf 0 _ rfl
    have h1 := hf 1 _ rfl
    have h2 := hf 2 _ rfl
    have h3 := hf 3 _ rfl
    simp [hi] at h0
    obtain ⟨a0, e0, _, w0⟩ := DataW.trod_int Try.underlying3 h0
    simp at e0
    simp [hi] at h1
    obtain ⟨a1, e1, _, w1⟩ := DataW.trod_int Try.underlying3 h1
    simp at e1
    simp [hi] at h2
    obtain ⟨a2, e2, _, w2⟩ := DataW.trod_int Try.underlying3 h2
    simp at e2
    simp [hi] at h3
    obtain ⟨a3, e3, _, w3⟩ := DataW.trod_int Try.underlying3 h3
    simp at e3
    exact ⟨⟨a0, a1, a2, a3⟩, by simp [encG, e0, e1, e2, e3], I64.of_wf w0, I64.of_wf w1, I64.of_wf w2, I64.of_wf w3⟩
theorem openGS (hv : Value.okWide Try.prog w .any b0 22 v) (h : DataW.Trod enc Try.prog w 0 (fun _ => true) true 22 v d p) : ∃ ds : List Gra, SlG w v ds ∧ ∀ x ∈ ds, wfG x := by
  obtain ⟨a0, len0, cap0, rfl⟩ := okWide_slice Try.underlying22 hv
  obtain ⟨fuel, hf⟩ := h
  have hC : Try.prog.cellsOf 63 = 4 := by kernel_rfl
  rcases open_slice Try.underlying22 hf with ⟨hcs, _⟩ | ⟨a, len, cap, m, m', D, Pl, hcs, _, hl, hm, hmm, _, hi⟩
  · simp [Value.cells] at hcs
    obtain ⟨rfl, rfl, rfl⟩ := hcs
    exact ⟨[], SlF.nil _ _, fun x hx => by simp at hx⟩
  · simp [Value.cells] at hcs
    obtain ⟨rfl, rfl, rfl⟩ := hcs
    rw [hC] at hi
    obtain ⟨ds, hlen, hds⟩ := list_of len0 (fun i (d : Gra) => wfG d ∧ ∀ r, r < 4 → w.cell? ((a.add (i * 4)).add r) = (encG d)[r]?) (fun i hlt => by
      obtain ⟨cs', h1, h2⟩ := hi i (by simp at hmm; omega)
      obtain ⟨d, rfl, hw⟩ := elemG h2
      exact ⟨d, hw, fun r hr => (World.cells?_some h1).2.2 r hr⟩)
    refine ⟨ds, slF_of encG 4 (by omega) encG_len w a len0 cap0 hl hm ds hlen (fun i hi r hr => (hds i hi).2 r hr), fun x hx => ?_⟩
    obtain ⟨i, hi, rfl⟩ := List.mem_iff_getElem.1 hx
    exact (hds i hi).1
end
end Go.Proofs.Ytlcjkehpdlgdoaa
