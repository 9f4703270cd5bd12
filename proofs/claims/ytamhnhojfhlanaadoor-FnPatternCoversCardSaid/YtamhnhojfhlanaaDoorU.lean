/-
  Slices that are read and slices of the call's own: plain facts on memory. No condition.
-/
import Derived.Test.YtamhnhojfhlanaaDoorB
import Derived.Laws.OwnMore
import Derived.Laws.MakeOwn
import Derived.Laws.AppendOwn
import Derived.OwnWalk
import Derived.OpenShut
set_option linter.unusedSimpArgs false
set_option linter.unusedVariables false
namespace Go.Proofs.YtamhnhojfhlanaaDoor
open Go.RowKit

/-- A slice of n elements of k cells each, which read as cs. -/
def SlF (w : World) (v : Value) (k n : Nat) (cs : List Value) : Prop :=
  cs.length = n * k ∧ ∃ a cap, v = .slice a n cap ∧ n ≤ cap ∧ cap ≤ maxLen ∧ (n = 0 ∨ ∃ g off, a = some ⟨g, off, none⟩ ∧ ∀ j, j < n * k → w.cell? ⟨g, off + j, none⟩ = cs[j]?)
theorem SlF.below {w w' : World} {v : Value} {k n : Nat} {cs : List Value} (h : SlF w v k n cs) (hb : Below w.heap.size w w') : SlF w' v k n cs := by
  obtain ⟨h1, a, cap, h2, h3, h4, h5⟩ := h
  refine ⟨h1, a, cap, h2, h3, h4, ?_⟩
  rcases h5 with h5 | ⟨g, off, ha, hc⟩
  · exact .inl h5
  · refine .inr ⟨g, off, ha, fun j hj => ?_⟩
    have hjc : j < cs.length := by omega
    have h6 := hc j hj
    rw [List.getElem?_eq_getElem hjc] at h6 ⊢
    exact (hb.cell (World.block_lt_of_cell? w _ h6)).trans h6
/-- What a slice that is not empty gives a loop. -/
theorem SlF.at {w : World} {v : Value} {k n : Nat} {cs : List Value} (h : SlF w v k n cs) (hn : 0 < n) : ∃ g off cap, v = .slice (some ⟨g, off, none⟩) n cap ∧ n ≤ cap ∧ cap ≤ maxLen ∧ ∀ j, j < n * k → w.cell? ⟨g, off + j, none⟩ = cs[j]? := by
  obtain ⟨h1, a, cap, h2, h3, h4, h5⟩ := h
  rcases h5 with h5 | ⟨g, off, ha, hc⟩
  · omega
  · exact ⟨g, off, cap, by rw [h2, ha], h3, h4, hc⟩
theorem SlF.shape {w : World} {v : Value} {k n : Nat} {cs : List Value} (h : SlF w v k n cs) : ∃ a cap, v = .slice a n cap ∧ n ≤ cap ∧ cap ≤ maxLen := by
  obtain ⟨h1, a, cap, h2, h3, h4, h5⟩ := h
  exact ⟨a, cap, h2, h3, h4⟩
theorem SlF.nil (w : World) (k : Nat) : SlF w (.slice none 0 0) k 0 [] := ⟨by simp, none, 0, rfl, Nat.le_refl _, Nat.zero_le _, .inl rfl⟩

theorem own_sl {w : World} {lo e k : Nat} {v : Value} {n : Nat} {cs : List Value} (h : w.ownsRow lo e k v n cs) : SlF w v k n cs := by
  obtain ⟨h1, h2⟩ := h
  refine ⟨h1, ?_⟩
  rcases h2 with ⟨rfl, rfl⟩ | ⟨g, cap, cur, rfl, hg, hh, hn, hc, hs, ht⟩
  · exact ⟨none, 0, rfl, Nat.le_refl _, Nat.zero_le _, .inl rfl⟩
  · refine ⟨some ⟨g, 0, none⟩, cap, rfl, hn, hc, .inr ⟨g, 0, rfl, fun j hj => ?_⟩⟩
    have hj' : j < cur.size := by rw [hs]; exact Nat.lt_of_lt_of_le hj (Nat.mul_le_mul_right _ hn)
    rw [← ht, List.getElem?_take, if_pos hj]
    simp [World.cell?, hh]
theorem own_below {w w' : World} {lo e k : Nat} {v : Value} {n : Nat} {cs : List Value} (h : w.ownsRow lo e k v n cs) (hb : Below w.heap.size w w') : w'.ownsRow lo e k v n cs :=
  h.kept (row := none) ⟨hb.os, hb.tape, hb.output, hb.size, fun i hi _ => hb.block i hi⟩ (by cases v.ownBlock <;> simp)
theorem own_lo {w : World} {lo lo' e k : Nat} {v : Value} {n : Nat} {cs : List Value} (h : w.ownsRow lo e k v n cs) (hl : lo' ≤ lo) : w.ownsRow lo' e k v n cs := by
  obtain ⟨h1, h2⟩ := h
  refine ⟨h1, ?_⟩
  rcases h2 with h2 | ⟨g, cap, cur, hv, hg, r⟩
  · exact .inl h2
  · exact .inr ⟨g, cap, cur, hv, by omega, r⟩
/-- A whole row that has been filled is owned. -/
theorem own_of_bk {w : World} {b n k : Nat} {A : Array Value} {t lo : Nat} {cs : List Value} (h : Bk w b A t) (hlo : lo ≤ b) (hn : n ≤ maxLen) (hs : A.size = n * k) (hl : cs.length = n * k) (hc : ∀ j, j < n * k → A[j]? = cs[j]?) :
    w.ownsRow lo t k (.slice (some ⟨b, 0, none⟩) n n) n cs := by
  refine ⟨hl, .inr ⟨b, n, A, rfl, hlo, h, Nat.le_refl _, hn, hs, ?_⟩⟩
  refine List.ext_getElem? fun j => ?_
  rw [List.getElem?_take]
  by_cases hj : j < n * k
  · rw [if_pos hj, ← hc j hj]; simp
  · rw [if_neg hj, List.getElem?_eq_none (by omega)]
/-- A row is filled element by element. -/
theorem fill_set {A : Array Value} {i k : Nat} {cs : List Value} (j : Nat) (hj : j < k) (hc : ∀ j, j < i → A[j]? = cs[j]?) : ∀ j, j < i → A[j]? = cs[j]? := hc
theorem getElem?_set_eq (A : Array Value) (i : Nat) (x : Value) (h : i < A.size) : (A.setIfInBounds i x)[i]? = some x := by simp [Array.getElem?_setIfInBounds, h]
theorem getElem?_set_ne (A : Array Value) (i j : Nat) (x : Value) (h : i ≠ j) : (A.setIfInBounds i x)[j]? = A[j]? := by simp [Array.getElem?_setIfInBounds, h]

/-- append to a slice of the call's own (moderate sizes). -/
theorem wpList_app {P : Program} {w : World} {ops : Array Oper} {rest : List Oper} {o : Oper} {a : Act} {Q : Exit → Act → World → Prop} (hgd : o.guard = none) (s x : Operand) (t e : TypeId) (z : Value) (size bytes : Nat)
    (ho : o.op = .call { callee := .builtin .append, args := #[s, x], argTypes := #[t, t] }) (ht : P.underlying t = some (.slice e)) (hinfo : (P.info? e).map (fun i => (i.zero, i.size, i.bytes)) = some (some z, size, bytes))
    (hzs : z.cells.size = size) (hsz : 0 < size) (hby : bytes ≤ 1024) (lo : Nat) (v : Value) (n : Nat) (xs : List Value) (hs : a.eval s = v) (hown : w.ownsRow lo e size v n xs) (ad : Addr) (m c : Nat) (news : List Value)
    (hx : a.eval x = .slice (some ad) m c) (hl : news.length = m * size) (hnews : ∀ j u, news[j]? = some u → w.cell? (ad.add j) = some u) (h1 : ∀ u ∈ news, u.oneCell' = true) (hnm : n + m ≤ 4194304) (hbase : lo ≤ w.heap.size)
    (h : ∀ v' w', w'.ownsRow lo e size v' (n + m) (xs ++ news) → w.grownBy w' v.ownBlock → (v ≠ .slice none 0 0 → v' ≠ .slice none 0 0) → wpList P ops Q rest (a.put o.dst v') w') : wpList P ops Q (o :: rest) a w := by
  obtain ⟨i0, hi, hz0, hz1, hz2⟩ := info_parts hinfo
  refine wpList_append_own w hgd s x t ho lo e i0 z size bytes ht hi hz0 hz1 hz2 hzs hsz v n xs hs hown ad m c news hx hl hnews h1 (by unfold maxLen; omega) ?_ hbase (fun v' w' a1 a2 a3 => h v' w' a1 a2 (fun hv hv' => hv (a3.1 hv').1))
  calc (n + m) * bytes ≤ 4194304 * 1024 := Nat.mul_le_mul hnm hby
    _ ≤ 140737488355328 := by decide
theorem news_bk {w : World} {g : Nat} {vs : Array Value} {t : TypeId} (h : Bk w g vs t) : ∀ j u, vs.toList[j]? = some u → w.cell? ((⟨g, 0, none⟩ : Addr).add j) = some u := fun j u hu => by
  have e : (⟨g, 0, none⟩ : Addr).add j = ⟨g, j, none⟩ := by unfold Addr.add; split <;> simp_all
  rw [e, h.cell j]
  simpa using hu
theorem own_gt {w : World} {lo e k : Nat} {v : Value} {n : Nat} {cs : List Value} (h : w.ownsRow lo e k v n cs) : ∀ j, v.ownBlock = some j → lo ≤ j := fun j hj => (h.lt j hj).1
theorem own_made (w : World) (lo t k : Nat) (h : lo ≤ w.heap.size) : (w.alloc (.cells #[] t)).ownsRow lo t k (.slice (some ⟨w.heap.size, 0, none⟩) 0 0) 0 [] := World.ownsRow_made w #[] 0 h (Nat.zero_le _) (by simp)
theorem own_alloc {w : World} {lo e k : Nat} {v : Value} {n : Nat} {cs : List Value} (h : w.ownsRow lo e k v n cs) (o : Obj) : (w.alloc o).ownsRow lo e k v n cs := h.alloc o

/-! Lists of elements that are written out as cells. -/
theorem flat_length {α : Type} (enc : α → List Value) (k : Nat) (hk : ∀ x, (enc x).length = k) (xs : List α) : (xs.flatMap enc).length = xs.length * k := by
  induction xs with
  | nil => simp
  | cons x xs ih => rw [List.flatMap_cons, List.length_append, ih, hk, List.length_cons, Nat.add_mul, Nat.one_mul, Nat.add_comm]
theorem flat_get {α : Type} (enc : α → List Value) (k : Nat) (hk : ∀ x, (enc x).length = k) (xs : List α) (i : Nat) (hi : i < xs.length) (j : Nat) (hj : j < k) : (xs.flatMap enc)[i * k + j]? = (enc xs[i])[j]? := by
  induction xs generalizing i with
  | nil => simp at hi
  | cons x xs ih =>
    rw [List.flatMap_cons]
    cases i with
    | zero =>
      rw [Nat.zero_mul, Nat.zero_add, List.getElem?_append_left (by rw [hk]; exact hj)]
      rfl
    | succ i =>
      rw [List.getElem?_append_right (by rw [hk, Nat.add_mul]; omega), hk, show (i + 1) * k + j - k = i * k + j from by rw [Nat.add_mul]; omega]
      exact ih i (by simpa using hi)

theorem list_of {α : Type} (n : Nat) (p : Nat → α → Prop) (h : ∀ i, i < n → ∃ x, p i x) : ∃ xs : List α, xs.length = n ∧ ∀ i (hi : i < xs.length), p i xs[i] := by
  induction n with
  | zero => exact ⟨[], rfl, fun i hi => by simp at hi⟩
  | succ n ih =>
    obtain ⟨xs, hl, hx⟩ := ih (fun i hi => h i (by omega))
    obtain ⟨y, hy⟩ := h n (by omega)
    refine ⟨xs ++ [y], by simp [hl], fun i hi => ?_⟩
    by_cases hlt : i < xs.length
    · rw [List.getElem_append_left hlt]; exact hx i hlt
    · have : i = n := by simp at hi; omega
      subst this
      rw [List.getElem_append_right (by omega)]
      simpa [hl] using hy
theorem addr_add (g x y : Nat) : (⟨g, x, none⟩ : Addr).add y = ⟨g, x + y, none⟩ := by unfold Addr.add; split <;> simp_all
theorem slF_of {α : Type} (enc : α → List Value) (k : Nat) (hk0 : 0 < k) (hk : ∀ x, (enc x).length = k) (w : World) (a : Addr) (len cap : Nat) (h1 : len ≤ cap) (h2 : cap ≤ maxLen) (ds : List α) (hd : ds.length = len)
    (hc : ∀ i (hi : i < ds.length), ∀ r, r < k → w.cell? ((a.add (i * k)).add r) = (enc ds[i])[r]?) : SlF w (.slice (some a) len cap) k ds.length (ds.flatMap enc) := by
  subst hd
  refine ⟨flat_length enc k hk ds, some a, cap, rfl, h1, h2, ?_⟩
  by_cases hz : ds.length = 0
  · exact .inl hz
  · obtain ⟨g, off, spot⟩ := a
    have h0 := hc 0 (by omega) 0 hk0
    have hspot : spot = none := by
      have h0' := h0
      simp only [Nat.zero_mul, Addr.add, if_true] at h0'
      cases spot with
      | none => rfl
      | some s =>
        exfalso
        rw [List.getElem?_eq_getElem (by rw [hk]; exact hk0)] at h0'
        have := World.cell?_spot h0'
        simp at this
    subst hspot
    refine .inr ⟨g, off, rfl, fun j hj => ?_⟩
    have hjk : j = j / k * k + j % k := by have := Nat.div_add_mod j k; rw [Nat.mul_comm] at this; omega
    have hi : j / k < ds.length := Nat.div_lt_of_lt_mul (by rw [Nat.mul_comm]; exact hj)
    have hr : j % k < k := Nat.mod_lt _ hk0
    have h3 := hc (j / k) hi (j % k) hr
    have hadd : ((⟨g, off, none⟩ : Addr).add (j / k * k)).add (j % k) = ⟨g, off + j, none⟩ := by
      rw [addr_add, addr_add, Nat.add_assoc, ← hjk]
    rw [hadd] at h3
    rw [h3, ← flat_get enc k hk ds (j / k) hi (j % k) hr, ← hjk]

/-! Loops that look for a bad element. -/
theorem all_step {α : Type} (xs : List α) (p : α → Bool) (k : Nat) (h : k < xs.length) (ha : (xs.take k).all p = true) (hp : p xs[k] = true) : (xs.take (k + 1)).all p = true := by
  rw [List.take_succ_eq_append_getElem h, List.all_append, ha]
  simp [hp]
theorem all_bad {α : Type} (xs : List α) (p : α → Bool) (k : Nat) (h : k < xs.length) (hp : p xs[k] = false) : xs.all p = false := by
  rw [List.all_eq_false]
  exact ⟨xs[k], List.getElem_mem h, by simp [hp]⟩
theorem all_end {α : Type} (xs : List α) (p : α → Bool) (k : Nat) (h : ¬ k < xs.length) (ha : (xs.take k).all p = true) : xs.all p = true := by
  rwa [List.take_of_length_le (by omega)] at ha
end Go.Proofs.YtamhnhojfhlanaaDoor
