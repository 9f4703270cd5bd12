/-
  Rows of pairs of the call's own. No condition.
-/
import Derived.Test.YtjmjpejkongipaaJ
import Derived.Test.YtjmjpejkongipaaD
set_option linter.unusedSimpArgs false
set_option linter.unusedVariables false
namespace Go.Proofs.Ytjmjpejkongipaa
open Go.RowKit
theorem own_rd {w w' : World} {lo e k b : Nat} {M M' : Int} {v : Value} {n : Nat} {cs : List Value} (h : w.ownsRow lo e k v n cs) (r : Reads b M M' w w') (hb : b < lo) : w'.ownsRow lo e k v n cs :=
  h.kept r.step (by
    cases hv : v.ownBlock with
    | none => exact .inl rfl
    | some j => right; intro e; have := own_gt h j hv; simp at e; omega)
theorem own_more {w : World} {lo t : Nat} {v : Value} {ns : List Int} {x : Int} (h : w.ownsRow lo t 1 v (ns.length + 1) (cellsI ns ++ [.int .i64 x])) : w.ownsRow lo t 1 v (ns ++ [x]).length (cellsI (ns ++ [x])) := by
  rw [cellsI_app, List.length_append]
  exact h
theorem cellsM_snoc (us : List Value) (ds : List Mv) (h : us.length = ds.length) (u : Value) (d : Mv) : cellsM (us ++ [u]) (ds ++ [d]) = cellsM us ds ++ [u, .int .i64 d.n] := by
  unfold cellsM
  rw [List.zip_append h, List.flatMap_append]
  rfl
/-- append to a row of the call's own, at a step of a region that draws its order. -/
theorem step_appS {P : Program} {w : World} {ops : Array Oper} {o : Oper} {a : Act} {K : Act → World → Prop} {Q : Exit → Act → World → Prop} {E : Prop} (hgd : o.guard = none) (s x : Operand) (t e : TypeId) (z : Value) (size bytes : Nat)
    (ho : o.op = .call { callee := .builtin .append, args := #[s, x], argTypes := #[t, t] }) (ht : P.underlying t = some (.slice e)) (hinfo : (P.info? e).map (fun i => (i.zero, i.size, i.bytes)) = some (some z, size, bytes))
    (hzs : z.cells.size = size) (hsz : 0 < size) (hby : bytes ≤ 1024) (base : Nat) (v : Value) (n : Nat) (xs : List Value) (hs : a.eval s = v) (hown : w.ownsRow base e size v n xs)
    (y : Value) (m : Nat) (news : List Value) (hx : a.eval x = y) (hr : SlF w y size m news) (h1 : ∀ u ∈ news, u.oneCell' = true) (hnm : n + m ≤ 4194304) (hbase : base ≤ w.heap.size)
    (h : ∀ v' w', w'.ownsRow base e size v' (n + m) (xs ++ news) → w.grownBy w' v.ownBlock → (v'.ownBlock = v.ownBlock ∨ v'.ownBlock = some w.heap.size) → (v ≠ .slice none 0 0 → v' ≠ .slice none 0 0) → K (a.put o.dst v') w') :
    if Region.wanted o (yielded ops a.tmps) = true then Oper.wp P o a w K Q else E := by
  have hw : Region.wanted o (yielded ops a.tmps) = true := by simp [Region.wanted, hgd]
  rw [if_pos hw]
  obtain ⟨v', w', hrun, h2, h3, h4, h5⟩ := run_appS (P := P) t o.type e z size bytes ht hinfo hzs hsz hby base v n xs hown y m news hr h1 hnm hbase
  unfold Oper.wp execOp
  simp only [ho, resolve, invoke, builtin, Sem.run_bind, Sem.run_pure, Result.andThen_ok, List.map_toArray, List.map_cons, List.map_nil, hs, hx, hrun]
  exact h v' w' h2 h3 h4 h5
/-- A row of pairs of the call's own: outer and inner rows lie in blocks from lo on and below S, no inner one in the outer one. -/
def OwnM (T : Nat) (w : World) (lo S : Nat) (v : Value) (ds : List Mv) : Prop :=
  ∃ us : List Value, us.length = ds.length ∧ w.ownsRow lo T 2 v ds.length (cellsM us ds) ∧ (∀ j, v.ownBlock = some j → j < S) ∧
    ∀ i (h : i < ds.length) (h2 : i < us.length), w.ownsRow lo 3 1 us[i] ds[i].xs.length (cellsI ds[i].xs) ∧ ∀ j, us[i].ownBlock = some j → j < S ∧ v.ownBlock ≠ some j
section
variable {T : Nat} {w w' : World} {lo S : Nat} {v : Value} {ds : List Mv}
theorem OwnM.sl (h : OwnM T w lo S v ds) : SlM w v ds := by
  obtain ⟨us, h1, h2, _, h4⟩ := h
  exact ⟨us, h1, own_sl h2, fun i hi hi2 => own_sl (h4 i hi hi2).1⟩
theorem OwnM.up (h : OwnM T w lo S v ds) {S' : Nat} (hS : S ≤ S') : OwnM T w lo S' v ds := by
  obtain ⟨us, h1, h2, h3, h4⟩ := h
  exact ⟨us, h1, h2, fun j hj => Nat.lt_of_lt_of_le (h3 j hj) hS, fun i hi hi2 => ⟨(h4 i hi hi2).1, fun j hj => ⟨Nat.lt_of_lt_of_le ((h4 i hi hi2).2 j hj).1 hS, ((h4 i hi hi2).2 j hj).2⟩⟩⟩
theorem OwnM.below (h : OwnM T w lo S v ds) (hb : Below w.heap.size w w') : OwnM T w' lo S v ds := by
  obtain ⟨us, h1, h2, h3, h4⟩ := h
  exact ⟨us, h1, own_below h2 hb, h3, fun i hi hi2 => ⟨own_below (h4 i hi hi2).1 hb, (h4 i hi hi2).2⟩⟩
theorem OwnM.al (h : OwnM T w lo S v ds) (o : Obj) : OwnM T (w.alloc o) lo S v ds := h.below (Below.al (Below.refl _ _) o)
theorem OwnM.rd {b : Nat} {M M' : Int} (h : OwnM T w lo S v ds) (r : Reads b M M' w w') (hb : b < lo) : OwnM T w' lo S v ds := by
  obtain ⟨us, h1, h2, h3, h4⟩ := h
  exact ⟨us, h1, own_rd h2 r hb, h3, fun i hi hi2 => ⟨own_rd (h4 i hi hi2).1 r hb, (h4 i hi hi2).2⟩⟩
theorem OwnM.gby (h : OwnM T w lo S v ds) {row : Option Nat} (g : w.grownBy w' row) (hr : ∀ j, row = some j → S ≤ j) : OwnM T w' lo S v ds := by
  obtain ⟨us, h1, h2, h3, h4⟩ := h
  exact ⟨us, h1, own_gby2 h2 g (fun j hj hrj => by have := h3 j hj; have := hr j hrj; omega), h3, fun i hi hi2 => ⟨own_gby2 (h4 i hi hi2).1 g (fun j hj hrj => by have := ((h4 i hi hi2).2 j hj).1; have := hr j hrj; omega), (h4 i hi hi2).2⟩⟩
theorem OwnM.set (h : OwnM T w lo S v ds) {g : Nat} (hg : S ≤ g) (o : Nat) (u : Value) : OwnM T (w.setCell ⟨g, o, none⟩ u) lo S v ds := by
  obtain ⟨us, h1, h2, h3, h4⟩ := h
  exact ⟨us, h1, own_setne h2 (fun j hj => by have := h3 j hj; omega) _ _, h3, fun i hi hi2 => ⟨own_setne (h4 i hi hi2).1 (fun j hj => by have := ((h4 i hi hi2).2 j hj).1; omega) _ _, (h4 i hi hi2).2⟩⟩
theorem OwnM.made (hg : w.heap.size = S) (hl : lo ≤ S) : OwnM T (w.alloc (.cells #[] T)) lo (S + 1) (.slice (some ⟨S, 0, none⟩) 0 0) [] :=
  ⟨[], rfl, own_made_b hg hl, fun j hj => by simp [Value.ownBlock] at hj; omega, fun i hi => by simp at hi⟩
/-- One pair more. -/
theorem OwnM.push {us : List Value} {u v' : Value} {xs : List Int} {n : Int} (h1 : us.length = ds.length) (hv : ∀ j, v.ownBlock = some j → j < S)
    (h4 : ∀ i (h : i < ds.length) (h2 : i < us.length), w.ownsRow lo 3 1 us[i] ds[i].xs.length (cellsI ds[i].xs) ∧ ∀ j, us[i].ownBlock = some j → j < S ∧ v.ownBlock ≠ some j)
    (hu : w.ownsRow lo 3 1 u xs.length (cellsI xs)) (huS : ∀ j, u.ownBlock = some j → S ≤ j) (g : w.grownBy w' v.ownBlock) (hS : S ≤ w.heap.size)
    (hloc : v'.ownBlock = v.ownBlock ∨ v'.ownBlock = some w.heap.size) (h2 : w'.ownsRow lo T 2 v' (ds.length + 1) (cellsM us ds ++ [u, .int .i64 n])) : OwnM T w' lo w'.heap.size v' (ds ++ [⟨xs, n⟩]) := by
  have hul : ∀ j, u.ownBlock = some j → j < w.heap.size := fun j hj => (hu.lt j hj).2
  have hsz := g.size
  refine ⟨us ++ [u], by simp [h1], ?_, fun j hj => (h2.lt j hj).2, fun i hi hi2 => ?_⟩
  · rw [cellsM_snoc us ds h1, List.length_append]
    exact h2
  · by_cases hlt : i < ds.length
    · have hlt2 : i < us.length := by omega
      have q := h4 i hlt hlt2
      rw [List.getElem_append_left hlt2, List.getElem_append_left hlt]
      refine ⟨own_gby2 q.1 g (fun j hj hrj => (q.2 j hj).2 hrj), fun j hj => ⟨by have := (q.2 j hj).1; omega, ?_⟩⟩
      rcases hloc with e | e
      · rw [e]; exact (q.2 j hj).2
      · rw [e]; intro he; have := (q.2 j hj).1; simp at he; omega
    · have hie : i = ds.length := by simp at hi; omega
      subst hie
      rw [List.getElem_append_right (by omega), List.getElem_append_right (by omega)]
      have e1 : (us.length : Nat) = ds.length := h1
      simp only [← e1, Nat.sub_self, List.getElem_cons_zero]
      refine ⟨own_gby2 hu g (fun j hj hrj => by have := huS j hj; have := hv j hrj; omega), fun j hj => ⟨by have := hul j hj; omega, ?_⟩⟩
      rcases hloc with e | e
      · rw [e]; intro he; have := huS j hj; have := hv j he; omega
      · rw [e]; intro he; have := hul j hj; simp at he; omega
end
end Go.Proofs.Ytjmjpejkongipaa
