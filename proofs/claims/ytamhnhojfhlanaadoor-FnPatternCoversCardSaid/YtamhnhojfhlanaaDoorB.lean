/-
  Plain facts on memory: what a block holds stays as it is while nothing that was there is written. No condition.
-/
import Derived.WalkKit
import Derived.Deep.RegionHeld3
import Derived.Deep.Quiet
set_option linter.unusedSimpArgs false
set_option linter.unusedVariables false
namespace Go.Proofs.YtamhnhojfhlanaaDoor
open Go.RowKit

/-- Block b holds the cells vs and may be written. -/
def Bk (w : World) (b : Nat) (vs : Array Value) (t : TypeId) : Prop := w.heap[b]? = some (.cells vs t (0, 0))
section
variable {w w' : World} {b : Nat} {vs : Array Value} {t : TypeId}
theorem Bk.lt (h : Bk w b vs t) : b < w.heap.size := (Array.getElem?_eq_some_iff.1 h).1
theorem Bk.cell (h : Bk w b vs t) : ∀ o, w.cell? ⟨b, o, none⟩ = vs[o]? := fun o => by
  unfold Bk at h
  simp [World.cell?, h]
theorem Bk.free (h : Bk w b vs t) : ∀ o, w.frozen? ⟨b, o, none⟩ = false := fun o => by
  unfold Bk at h
  simp [World.frozen?, h]
theorem Bk.new : Bk (w.alloc (.cells vs t)) w.heap.size vs t := heap_alloc_new w _
theorem Bk.alloc (h : Bk w b vs t) (x : Obj) : Bk (w.alloc x) b vs t := (heap_alloc_old w x h.lt).trans h
theorem Bk.below (h : Bk w b vs t) (hb : Below w.heap.size w w') : Bk w' b vs t := (hb.block b h.lt).trans h
theorem Bk.dn (h : Bk w b vs t) (n : Nat) : Bk (w.drewN n) b vs t := h
theorem Bk.drew (h : Bk w b vs t) : Bk w.drew b vs t := h
theorem Bk.by (h : Bk w b vs t) {r : Option Nat} (hb : w.grownBy w' r) (hne : some b ≠ r) : Bk w' b vs t := (hb.block b h.lt hne).trans h
theorem Bk.far (h : Bk w b vs t) (a : Addr) (ha : a.block ≠ b) (v : Value) : Bk (w.setCell a v) b vs t := (Below.heap_setCell w a v b (fun e => ha e.symm)).trans h
theorem Bk.same (h : Bk w b vs t) (o : Nat) (v : Value) : Bk (w.setCell ⟨b, o, none⟩ v) b (vs.setIfInBounds o v) t := by
  unfold Bk at h ⊢
  simp [World.setCell, Array.getElem?_modify, h]
theorem Bk.init1 : Bk (w.alloc (.cells vs t)) w.heap.size vs t := Bk.new
variable {us : Array Value} {s : TypeId} {rs : Array Value} {r : TypeId}
theorem Bk.init2 : Bk ((w.alloc (.cells vs t)).alloc (.cells us s)) w.heap.size vs t ∧ Bk ((w.alloc (.cells vs t)).alloc (.cells us s)) (w.heap.size + 1) us s :=
  ⟨Bk.new.alloc _, by have := Bk.new (w := w.alloc (.cells vs t)) (vs := us) (t := s); simpa using this⟩
theorem Bk.init3 : Bk (((w.alloc (.cells vs t)).alloc (.cells us s)).alloc (.cells rs r)) w.heap.size vs t ∧ Bk (((w.alloc (.cells vs t)).alloc (.cells us s)).alloc (.cells rs r)) (w.heap.size + 1) us s ∧
    Bk (((w.alloc (.cells vs t)).alloc (.cells us s)).alloc (.cells rs r)) (w.heap.size + 1 + 1) rs r :=
  ⟨Bk.init2.1.alloc _, Bk.init2.2.alloc _, by have := Bk.new (w := (w.alloc (.cells vs t)).alloc (.cells us s)) (vs := rs) (t := r); simpa using this⟩
end
theorem Below.via {a b c : World} (k : Below b.heap.size b c) (h : Below a.heap.size a b) : Below a.heap.size a c := h.trans (k.mono h.size)
theorem Below.al {a b : World} (h : Below a.heap.size a b) (o : Obj) : Below a.heap.size a (b.alloc o) := h.alloc h.size o
theorem Below.dn {a b : World} (h : Below a.heap.size a b) (n : Nat) : Below a.heap.size a (b.drewN n) := ⟨h.os, h.tape, h.output, h.size, h.block⟩
theorem Below.dr {a b : World} (h : Below a.heap.size a b) : Below a.heap.size a b.drew := h.drew
/-- What a region's loads need, out of the blocks known at W. -/
theorem keep1 {W w' : World} {b1 : Nat} {v1 : Array Value} {t1 : TypeId} (k1 : Bk W b1 v1 t1) (h : Below W.heap.size W w') : (∀ o, w'.cell? ⟨b1, o, none⟩ = v1[o]?) ∧ Below W.heap.size W w' := ⟨(k1.below h).cell, h⟩
theorem keep2 {W w' : World} {b1 b2 : Nat} {v1 v2 : Array Value} {t1 t2 : TypeId} (k1 : Bk W b1 v1 t1) (k2 : Bk W b2 v2 t2) (h : Below W.heap.size W w') :
    (∀ o, w'.cell? ⟨b1, o, none⟩ = v1[o]?) ∧ (∀ o, w'.cell? ⟨b2, o, none⟩ = v2[o]?) ∧ Below W.heap.size W w' := ⟨(k1.below h).cell, (k2.below h).cell, h⟩
theorem keep3 {W w' : World} {b1 b2 b3 : Nat} {v1 v2 v3 : Array Value} {t1 t2 t3 : TypeId} (k1 : Bk W b1 v1 t1) (k2 : Bk W b2 v2 t2) (k3 : Bk W b3 v3 t3) (h : Below W.heap.size W w') :
    (∀ o, w'.cell? ⟨b1, o, none⟩ = v1[o]?) ∧ (∀ o, w'.cell? ⟨b2, o, none⟩ = v2[o]?) ∧ (∀ o, w'.cell? ⟨b3, o, none⟩ = v3[o]?) ∧ Below W.heap.size W w' := ⟨(k1.below h).cell, (k2.below h).cell, (k3.below h).cell, h⟩
end Go.Proofs.YtamhnhojfhlanaaDoor
