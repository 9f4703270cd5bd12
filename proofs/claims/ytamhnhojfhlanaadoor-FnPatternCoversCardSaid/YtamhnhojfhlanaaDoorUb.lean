/-
  append from a readable source, nil let in; rows of the call's own behind other steps. No condition.
-/
import Derived.Test.YtamhnhojfhlanaaDoorUa
import Derived.Test.YtamhnhojfhlanaaDoorOi
import Derived.Maps.AppendAt
import Derived.OwnWalk
set_option linter.unusedSimpArgs false
set_option linter.unusedVariables false
namespace Go.Proofs.YtamhnhojfhlanaaDoor
open Go.RowKit
section
variable {P : Program} {w : World}
theorem run_app_nil (base : Nat) (t ty e : TypeId) (i : TypeInfo) (size : Nat) (ht : P.underlying t = some (.slice e)) (hi : P.info? e = some i)
    (v : Value) (n : Nat) (xs : List Value) (hown : w.ownsRow base e size v n xs) (c : Nat) : (Builtin.append_ #[t, t] ty #[v, .slice none 0 c]).run P w = .ok v w := by
  rcases hown.2 with ⟨rfl, rfl⟩ | ⟨g, cap, cur, rfl, _, _, hnc, _⟩
  · simp [Builtin.append_, run_underlying ht, sizeOf, typeInfo, hi, Builtin.lenOf, Builtin.firstCells]
  · simp [Builtin.append_, run_underlying ht, sizeOf, typeInfo, hi, Builtin.lenOf, Builtin.firstCells, hnc, storeCells]
theorem run_appS (t ty e : TypeId) (z : Value) (size bytes : Nat) (ht : P.underlying t = some (.slice e)) (hinfo : (P.info? e).map (fun i => (i.zero, i.size, i.bytes)) = some (some z, size, bytes))
    (hzs : z.cells.size = size) (hsz : 0 < size) (hby : bytes ≤ 1024) (base : Nat) (v : Value) (n : Nat) (xs : List Value) (hown : w.ownsRow base e size v n xs)
    (y : Value) (m : Nat) (news : List Value) (hr : SlF w y size m news) (h1 : ∀ u ∈ news, u.oneCell' = true) (hnm : n + m ≤ 4194304) (hbase : base ≤ w.heap.size) :
    ∃ v' w', (Builtin.append_ #[t, t] ty #[v, y]).run P w = .ok v' w' ∧ w'.ownsRow base e size v' (n + m) (xs ++ news) ∧ w.grownBy w' v.ownBlock ∧ (v'.ownBlock = v.ownBlock ∨ v'.ownBlock = some w.heap.size) ∧ (v ≠ .slice none 0 0 → v' ≠ .slice none 0 0) := by
  obtain ⟨i, hi, hz, hsize, hby2⟩ := info_parts hinfo
  have hbytes : (n + m) * bytes ≤ 140737488355328 := by
    calc (n + m) * bytes ≤ 4194304 * 1024 := Nat.mul_le_mul hnm hby
      _ ≤ 140737488355328 := by decide
  obtain ⟨hl, A, c, rfl, hmc, hc, hcs⟩ := hr
  rcases A with _ | ad
  · have hm : m = 0 := by
      rcases hcs with h | ⟨g, off, h, _⟩
      · exact h
      · simp at h
    subst hm
    have hn : news = [] := List.eq_nil_of_length_eq_zero (by simpa using hl)
    subst hn
    exact ⟨v, w, run_app_nil base t ty e i size ht hi v n xs hown c, by simpa using hown, World.grownBy.refl w _, .inl rfl, id⟩
  · have hcells : ∀ j u, news[j]? = some u → w.cell? (ad.add j) = some u := by
      intro j u hu
      have hj : j < news.length := by
        rcases Nat.lt_or_ge j news.length with h | h
        · exact h
        · rw [List.getElem?_eq_none h] at hu; simp at hu
      rcases hcs with h | ⟨g, off, h, hc⟩
      · subst h
        omega
      · simp only [Option.some.injEq] at h
        subst h
        rw [addr_add, hc j (by omega), hu]
    obtain ⟨v', w', hrun, h2, h3, h4, h5⟩ := run_append_own_at (P := P) w base t ty e i z size bytes ht hi hz hsize hby2 hzs hsz v n xs hown ad m c news hl hcells h1 (by unfold maxLen; omega) hbytes hbase
    exact ⟨v', w', hrun, h2, h3, h5, fun hv hv' => hv (h4.1 hv').1⟩
/-- append to a row of the call's own, whatever the source is. -/
theorem wpList_appS {ops : Array Oper} {rest : List Oper} {o : Oper} {a : Act} {Q : Exit → Act → World → Prop} (hgd : o.guard = none) (s x : Operand) (t e : TypeId) (z : Value) (size bytes : Nat)
    (ho : o.op = .call { callee := .builtin .append, args := #[s, x], argTypes := #[t, t] }) (ht : P.underlying t = some (.slice e)) (hinfo : (P.info? e).map (fun i => (i.zero, i.size, i.bytes)) = some (some z, size, bytes))
    (hzs : z.cells.size = size) (hsz : 0 < size) (hby : bytes ≤ 1024) (base : Nat) (v : Value) (n : Nat) (xs : List Value) (hs : a.eval s = v) (hown : w.ownsRow base e size v n xs)
    (y : Value) (m : Nat) (news : List Value) (hx : a.eval x = y) (hr : SlF w y size m news) (h1 : ∀ u ∈ news, u.oneCell' = true) (hnm : n + m ≤ 4194304) (hbase : base ≤ w.heap.size)
    (h : ∀ v' w', w'.ownsRow base e size v' (n + m) (xs ++ news) → w.grownBy w' v.ownBlock → (v'.ownBlock = v.ownBlock ∨ v'.ownBlock = some w.heap.size) → (v ≠ .slice none 0 0 → v' ≠ .slice none 0 0) → wpList P ops Q rest (a.put o.dst v') w') : wpList P ops Q (o :: rest) a w := by
  refine wpList_plain hgd fun K hK => ?_
  obtain ⟨v', w', hrun, h2, h3, h4, h5⟩ := run_appS (P := P) t o.type e z size bytes ht hinfo hzs hsz hby base v n xs hown y m news hr h1 hnm hbase
  unfold Oper.wp execOp
  simp only [ho, resolve, invoke, builtin, Sem.run_bind, Sem.run_pure, Result.andThen_ok, List.map_toArray, List.map_cons, List.map_nil, hs, hx, hrun]
  exact hK _ _ (h v' w' h2 h3 h4 h5)
end
theorem one_int (x : Int) : ∀ u ∈ [Value.int .i64 x], u.oneCell' = true := fun u hu => by
  simp at hu
  subst hu
  rfl
theorem one_ints (ns : List Int) : ∀ u ∈ cellsI ns, u.oneCell' = true := fun u hu => by
  rw [cellsI_eq] at hu
  obtain ⟨n, _, rfl⟩ := List.mem_map.mp hu
  rfl
/-- A new block of k cells as a source. -/
theorem slF_bk {w : World} {b : Nat} {t : Nat} {k n : Nat} {cs : List Value} (h : Bk w b cs.toArray t) (hl : cs.length = n * k) (hn : n ≤ 1048576) : SlF w (.slice (some ⟨b, 0, none⟩) n n) k n cs :=
  ⟨hl, some ⟨b, 0, none⟩, n, rfl, Nat.le_refl _, by unfold maxLen; omega, .inr ⟨b, 0, rfl, fun j hj => by rw [h.cell]; simp⟩⟩
theorem own_setne {w : World} {lo e k : Nat} {v : Value} {n : Nat} {cs : List Value} (h : w.ownsRow lo e k v n cs) {g : Nat} (hg : ∀ j, v.ownBlock = some j → j ≠ g) (o : Nat) (u : Value) : (w.setCell ⟨g, o, none⟩ u).ownsRow lo e k v n cs :=
  h.kept (row := some g) ⟨rfl, rfl, rfl, by simp, fun k _ hk => heap_setCell_other w ⟨g, o, none⟩ k u (fun e => hk (by simp [e]))⟩ (by
    cases hv : v.ownBlock with
    | none => exact .inl rfl
    | some j => right; intro he; have := hg j hv; simp at he; omega)
theorem own_gby2 {w w' : World} {row : Option Nat} {lo e k : Nat} {v : Value} {n : Nat} {cs : List Value} (h : w.ownsRow lo e k v n cs) (g : w.grownBy w' row) (hne : ∀ j, v.ownBlock = some j → row = some j → False) : w'.ownsRow lo e k v n cs :=
  h.kept g (by
    cases hv : v.ownBlock with
    | none => exact .inl rfl
    | some j => exact .inr (fun he => hne j hv he.symm))
theorem bk_atb {W : World} {vs : Array Value} {t g : Nat} (hg : W.heap.size = g) : Bk (W.alloc (.cells vs t)) g vs t := by subst hg; exact Bk.new
theorem own_made_b {W : World} {g lo t k : Nat} (hg : W.heap.size = g) (hl : lo ≤ g) : (W.alloc (.cells #[] t)).ownsRow lo t k (.slice (some ⟨g, 0, none⟩) 0 0) 0 [] := by subst hg; exact own_made _ _ _ _ hl
theorem own_drew {w : World} {lo e k : Nat} {v : Value} {n : Nat} {cs : List Value} (h : w.ownsRow lo e k v n cs) : w.drew.ownsRow lo e k v n cs := h
theorem Bk.four {w : World} {g : Nat} {z0 z1 z2 z3 a b c d : Value} {t : TypeId} (h : Bk w g #[z0, z1, z2, z3] t) : Bk ((((w.setCell ⟨g, 0, none⟩ a).setCell ⟨g, 1, none⟩ b).setCell ⟨g, 2, none⟩ c).setCell ⟨g, 3, none⟩ d) g #[a, b, c, d] t :=
  (((h.same 0 a).same 1 b).same 2 c).same 3 d
end Go.Proofs.YtamhnhojfhlanaaDoor
