/-
  Regions that draw from a reader: what each operation leaves, whenever it comes up. No condition.
-/
import Derived.Test.YtamhnhojfhlanaaDoorD
import Derived.Test.YtamhnhojfhlanaaDoorIv
import Derived.BigQuiet
set_option linter.unusedSimpArgs false
set_option linter.unusedVariables false
namespace Go.Proofs.YtamhnhojfhlanaaDoor
open Go.RowKit

/-- Nothing that was there turns, but the blocks of p. -/
structure Grow (p : Nat → Prop) (w w' : World) : Prop where
  os : w'.os = w.os
  tape : w'.tape = w.tape
  output : w'.output = w.output
  size : w.heap.size ≤ w'.heap.size
  block : ∀ i, i < w.heap.size → ¬ p i → w'.heap[i]? = w.heap[i]?
theorem Grow.refl (p : Nat → Prop) (w : World) : Grow p w w := ⟨rfl, rfl, rfl, Nat.le_refl _, fun _ _ _ => rfl⟩
theorem Grow.trans {p : Nat → Prop} {a b c : World} (h : Grow p a b) (k : Grow p b c) : Grow p a c :=
  ⟨k.os.trans h.os, k.tape.trans h.tape, k.output.trans h.output, Nat.le_trans h.size k.size, fun i hi hp => (k.block i (Nat.lt_of_lt_of_le hi h.size) hp).trans (h.block i hi hp)⟩
theorem Grow.mono {p q : Nat → Prop} {a b : World} (h : Grow p a b) (hq : ∀ i, p i → q i) : Grow q a b := ⟨h.os, h.tape, h.output, h.size, fun i hi hp => h.block i hi (fun k => hp (hq i k))⟩
theorem Grow.ofBelow {p : Nat → Prop} {a b : World} (h : Below a.heap.size a b) : Grow p a b := ⟨h.os, h.tape, h.output, h.size, fun i hi _ => h.block i hi⟩
theorem Grow.ofBy {p : Nat → Prop} {a b : World} {r : Option Nat} (h : a.grownBy b r) (hr : ∀ k, r = some k → p k) : Grow p a b := ⟨h.os, h.tape, h.output, h.size, fun i hi hp => h.block i hi (fun e => hp (hr i e.symm))⟩
theorem Grow.ofReads {p : Nat → Prop} {a b : World} {g : Nat} {M M' : Int} (h : Reads g M M' a b) (hp : p g) : Grow p a b := Grow.ofBy h.step (fun k e => by cases e; exact hp)
theorem Grow.alloc {p : Nat → Prop} (a : World) (o : Obj) : Grow p a (a.alloc o) := Grow.ofBelow (below_al _ _)
theorem Grow.drew {p : Nat → Prop} {a b : World} (h : Grow p a b) : Grow p a b.drew := ⟨h.os, h.tape, h.output, h.size, h.block⟩
theorem Grow.undrew {p : Nat → Prop} {a b : World} (h : Grow p a.drew b) : Grow p a b := ⟨h.os, h.tape, h.output, h.size, h.block⟩
theorem Grow.set {p : Nat → Prop} (a : World) (g o : Nat) (v : Value) (hp : p g) : Grow p a (a.setCell ⟨g, o, none⟩ v) := ⟨rfl, rfl, rfl, by simp [World.setCell], fun i hi hq => Below.heap_setCell _ _ _ _ (by intro e; exact hq (e ▸ hp))⟩
theorem Grow.below {p : Nat → Prop} {w a b : World} (h : Grow p a b) (k : Below w.heap.size w a) (hp : ∀ i, p i → w.heap.size ≤ i) : Below w.heap.size w b :=
  ⟨h.os.trans k.os, h.tape.trans k.tape, h.output.trans k.output, Nat.le_trans k.size h.size, fun i hi => (h.block i (Nat.lt_of_lt_of_le hi k.size) (fun q => by have := hp i q; omega)).trans (k.block i hi)⟩
theorem Grow.reads {p : Nat → Prop} {w a b : World} {g : Nat} {M M1 M2 : Int} (h : Grow p a b) (k : Reads g M M1 w a) (r : Rd b g M2) (hp : ∀ i, p i → i = g ∨ w.heap.size ≤ i) : Reads g M M2 w b :=
  ⟨r, h.os.trans k.step.os, h.tape.trans k.step.tape, h.output.trans k.step.output, Nat.le_trans k.step.size h.size,
    fun i hi hne => (h.block i (Nat.lt_of_lt_of_le hi k.step.size) (fun q => by
      rcases hp i q with e | e
      · exact hne (by rw [e])
      · omega)).trans (k.step.block i hi hne)⟩
theorem Grow.below0 {a b : World} (h : Grow (fun _ => False) a b) : Below a.heap.size a b := ⟨h.os, h.tape, h.output, h.size, fun i hi => h.block i hi (fun q => q)⟩
theorem Bk.grow {p : Nat → Prop} {a b : World} {g : Nat} {vs : Array Value} {t : TypeId} (h : Bk a g vs t) (k : Grow p a b) (hp : ¬ p g) : Bk b g vs t := (k.block g h.lt hp).trans h
theorem own_grow {p : Nat → Prop} {w w' : World} {lo e k : Nat} {v : Value} {n : Nat} {cs : List Value} (h : w.ownsRow lo e k v n cs) (r : Grow p w w') (hp : ∀ j, Value.ownBlock v = some j → ¬ p j) : w'.ownsRow lo e k v n cs := by
  refine ⟨h.1, ?_⟩
  rcases h.2 with hn | ⟨g, cap, cur, rfl, hb, hgg, rest⟩
  · exact .inl hn
  · refine .inr ⟨g, cap, cur, rfl, hb, ?_, rest⟩
    rw [r.block g (Array.getElem?_eq_some_iff.1 hgg).1 (hp g rfl)]
    exact hgg

/-- The state while a region draws: the reader's, and what has not turned. -/
structure RgG (b : Nat) (p : Nat → Prop) (Y : World → Prop) (D : Prop) (W : World) (M : Int) (n : Nat) (w : World) : Prop where
  rd : D → Rd w b (M + n)
  grow : Grow p W w
  own : Y w
/-- What a step turns: blocks of p alone; what X says of the own boxes stays. -/
def RgR (p : Nat → Prop) (X : World → Prop) (w w' : World) : Prop := Grow p w w' ∧ (X w → X w')
theorem RgR.refl {p : Nat → Prop} {X : World → Prop} (w : World) : RgR p X w w := ⟨Grow.refl _ _, id⟩
theorem RgR.trans {p : Nat → Prop} {X : World → Prop} {a b c : World} (h : RgR p X a b) (k : RgR p X b c) : RgR p X a c := ⟨h.1.trans k.1, fun x => k.2 (h.2 x)⟩
def KeepX (b : Nat) (X : World → Prop) : Prop := ∀ w w', Grow (fun i => i = b) w w' → X w → X w'
theorem keepX_true (b : Nat) : KeepX b (fun _ => True) := fun _ _ _ _ => trivial
theorem keepX_bk {b c : Nat} {vs : Array Value} {t : TypeId} (h : c < b ∨ b < c) : KeepX b (fun w => Bk w c vs t) := fun _ _ k x => x.grow k (show ¬ c = b by omega)
/-- The own box c, of k cells. -/
def OwnBox (c k : Nat) (t : TypeId) (w : World) : Prop := ∃ vs : Array Value, vs.size = k ∧ Bk w c vs t
theorem keepX_own {b c k : Nat} {t : TypeId} (h : c < b ∨ b < c) : KeepX b (OwnBox c k t) := fun _ _ g ⟨vs, hs, x⟩ => ⟨vs, hs, x.grow g (show ¬ c = b by omega)⟩
theorem arr1 {vs : Array Value} (h : vs.size = 1) : ∃ x, vs = #[x] := by
  obtain ⟨l⟩ := vs
  match l, h with
  | [a], _ => exact ⟨a, rfl⟩
theorem arr2 {vs : Array Value} (h : vs.size = 2) : ∃ x y, vs = #[x, y] := by
  obtain ⟨l⟩ := vs
  match l, h with
  | [a, b], _ => exact ⟨a, b, rfl⟩
theorem arr3 {vs : Array Value} (h : vs.size = 3) : ∃ x y z, vs = #[x, y, z] := by
  obtain ⟨l⟩ := vs
  match l, h with
  | [a, b, c], _ => exact ⟨a, b, c, rfl⟩
theorem arr4 {vs : Array Value} (h : vs.size = 4) : ∃ x y z u, vs = #[x, y, z, u] := by
  obtain ⟨l⟩ := vs
  match l, h with
  | [a, b, c, d], _ => exact ⟨a, b, c, d, rfl⟩
theorem gby_set {w w1 : World} {c : Nat} (h : w.grownBy w1 (some c)) (o : Nat) (v : Value) : w.grownBy (w1.setCell ⟨c, o, none⟩ v) (some c) :=
  ⟨h.os, h.tape, h.output, by simpa [World.setCell] using h.size, fun k hk hne => (Below.heap_setCell _ _ _ _ (by intro e; exact hne (by rw [e]))).trans (h.block k hk hne)⟩
theorem post_up {b : Nat} {p : Nat → Prop} {X Y : World → Prop} {D D' : Prop} {W w : World} {M : Int} {n : Nat} {F : Value → World → Prop} {v : Value} (hD : D' → D) (h : RgG b p Y D W M n w) (k : F v w) : RgG b p Y D' W M (n + 1) w ∧ RgR p X w w ∧ F v w :=
  ⟨⟨fun d => (h.rd (hD d)).mono (by omega), h.grow, h.own⟩, RgR.refl _, k⟩
theorem post_new {b : Nat} {p : Nat → Prop} {X Y : World → Prop} {D D' : Prop} {W w w' : World} {M : Int} {n : Nat} {F : Value → World → Prop} {v : Value} (hD : D' → D) (hX : KeepX b X ∧ KeepX b Y) (h : RgG b p Y D W M n w) (r : Below w.heap.size w w') (k : F v w') : RgG b p Y D' W M (n + 1) w' ∧ RgR p X w w' ∧ F v w' :=
  ⟨⟨fun d => ((h.rd (hD d)).below r).mono (by omega), h.grow.trans (Grow.ofBelow r), hX.2 _ _ (Grow.ofBelow r) h.own⟩, ⟨Grow.ofBelow r, hX.1 _ _ (Grow.ofBelow r)⟩, k⟩
theorem post_read {b : Nat} {p : Nat → Prop} {X Y : World → Prop} {D D' : Prop} {W w w' : World} {M M' : Int} {n : Nat} {F : Value → World → Prop} {v : Value} (hX : KeepX b X ∧ KeepX b Y) (hp : p b) (h : RgG b p Y D W M n w) (r : Reads b (M + n) M' w w') (hM : M' ≤ M + n + 1) (k : F v w') : RgG b p Y D' W M (n + 1) w' ∧ RgR p X w w' ∧ F v w' :=
  ⟨⟨fun _ => r.rd.mono (by omega), h.grow.trans (Grow.ofReads r hp), hX.2 _ _ (Grow.ofReads r rfl) h.own⟩, ⟨Grow.ofReads r hp, hX.1 _ _ (Grow.ofReads r rfl)⟩, k⟩
/-- A store into the own box c. -/
theorem post_set {b c : Nat} {p : Nat → Prop} {X Y : World → Prop} {D D' : Prop} {W w w' : World} {M : Int} {n : Nat} {F : Value → World → Prop} {v : Value} (hD : (D' → False) ∨ ((D' → D) ∧ b < c)) (hp : p c) (h : RgG b p Y D W M n w) (r : w.grownBy w' (some c)) (x : X w') (y : Y w') (k : F v w') : RgG b p Y D' W M (n + 1) w' ∧ RgR p X w w' ∧ F v w' :=
  ⟨⟨fun d => by
    rcases hD with f | ⟨f, hb⟩
    · exact absurd d f
    · exact ((h.rd (f d)).app r (fun k e => by cases e; exact hb)).mono (by omega), h.grow.trans (Grow.ofBy r (fun k e => by cases e; exact hp)), y⟩, ⟨Grow.ofBy r (fun k e => by cases e; exact hp), fun _ => x⟩, k⟩
/-- The same where nothing is drawn from a reader. -/
structure RgN (p : Nat → Prop) (Y : World → Prop) (W w : World) : Prop where
  grow : Grow p W w
  own : Y w
def KeepB (X : World → Prop) : Prop := ∀ w w', Below w.heap.size w w' → X w → X w'
theorem keepB_true : KeepB (fun _ => True) := fun _ _ _ _ => trivial
theorem keepB_bk {c : Nat} {vs : Array Value} {t : TypeId} : KeepB (fun w => Bk w c vs t) := fun _ _ k x => x.below k
theorem keepB_own {c k : Nat} {t : TypeId} : KeepB (OwnBox c k t) := fun _ _ g ⟨vs, hs, x⟩ => ⟨vs, hs, x.below g⟩
theorem post_upN {p : Nat → Prop} {X Y : World → Prop} {W w : World} {F : Value → World → Prop} {v : Value} (h : RgN p Y W w) (k : F v w) : RgN p Y W w ∧ RgR p X w w ∧ F v w := ⟨h, RgR.refl _, k⟩
theorem post_newN {p : Nat → Prop} {X Y : World → Prop} {W w w' : World} {F : Value → World → Prop} {v : Value} (hX : KeepB X ∧ KeepB Y) (h : RgN p Y W w) (r : Below w.heap.size w w') (k : F v w') : RgN p Y W w' ∧ RgR p X w w' ∧ F v w' :=
  ⟨⟨h.grow.trans (Grow.ofBelow r), hX.2 _ _ r h.own⟩, ⟨Grow.ofBelow r, hX.1 _ _ r⟩, k⟩
theorem post_setN {c : Nat} {p : Nat → Prop} {X Y : World → Prop} {W w w' : World} {F : Value → World → Prop} {v : Value} (hp : p c) (h : RgN p Y W w) (r : w.grownBy w' (some c)) (x : X w') (y : Y w') (k : F v w') : RgN p Y W w' ∧ RgR p X w w' ∧ F v w' :=
  ⟨⟨h.grow.trans (Grow.ofBy r (fun k e => by cases e; exact hp)), y⟩, ⟨Grow.ofBy r (fun k e => by cases e; exact hp), fun _ => x⟩, k⟩
theorem cell_grow {p : Nat → Prop} {W w : World} {a : Addr} {x : Value} (h : W.cell? a = some x) (k : Grow p W w) (hp : ¬ p a.block) : w.cell? a = some x := (World.cell?_of_block (k.block a.block (World.block_lt_of_cell? W _ h) hp)).trans h
theorem dep_get {hs : List (World → Prop)} {w : World} {es : List Edge} (h : depsOk hs w es) (k : Nat) (hk : es.any (fun e => Region.binds .any e && e.on == k) = true) : hs.getD k (fun _ => True) w := by
  induction es with
  | nil => simp at hk
  | cons e es ih =>
    simp only [List.any_cons, Bool.or_eq_true, Bool.and_eq_true, beq_iff_eq] at hk
    rcases hk with ⟨h1, h2⟩ | hk
    · exact h2 ▸ h.1 h1
    · exact ih h.2 (by simpa using hk)
/-- All of a list. -/
def AllL (E : Value → Prop) : List Value → Prop
  | [] => True
  | x :: xs => E x ∧ AllL E xs
theorem allL_at {E : Value → Prop} : ∀ {l : List Value} {n : Nat}, l.length = n → AllL E l → ∀ i, i < n → ∃ x, l.toArray[i]? = some x ∧ E x
  | [], n, hn, _, i, hi => by simp at hn; omega
  | x :: xs, n, hn, h, i, hi => by
    cases i with
    | zero => exact ⟨x, by simp, h.1⟩
    | succ i =>
      obtain ⟨y, hy, he⟩ := allL_at (l := xs) rfl h.2 i (by simp at hn; omega)
      exact ⟨y, by simpa using hy, he⟩

/-- Kinds of values. -/
def IntIn (lo hi : Int) (v : Value) : Prop := ∃ x : Int, v = .int .i64 x ∧ lo ≤ x ∧ x ≤ hi
def Is (E : Value → Prop) (v : Value) (w : World) : Prop := E v
def IsRow (lo n : Nat) (E : Value → Prop) (v : Value) (w : World) : Prop := ∃ g t cs, v = .slice (some ⟨g, 0, none⟩) n n ∧ lo ≤ g ∧ Bk w g cs t ∧ ∀ i, i < n → ∃ x, cs[i]? = some x ∧ E x
def IsPtr (lo : Nat) (E : Value → Prop) (v : Value) (w : World) : Prop := ∃ g o x, v = .pointer (some ⟨g, o, none⟩) ∧ lo ≤ g ∧ w.cell? ⟨g, o, none⟩ = some x ∧ E x
theorem is_eq {c v : Value} {w : World} (h : v = c) : Is (fun v => v = c) v w := h
def IsB (v : Value) : Prop := ∃ x : Bool, v = .bool x
def StrIn (E : ByteArray → Prop) (v : Value) : Prop := ∃ s : ByteArray, v = .string s ∧ E s
/-- A new box of k cells. -/
def IsBox (lo k : Nat) (t : TypeId) (v : Value) (w : World) : Prop := ∃ g vs, v = .pointer (some ⟨g, 0, none⟩) ∧ lo ≤ g ∧ vs.size = k ∧ Bk w g vs t
/-- Facts that last. -/
def Lasts (p : Nat → Prop) (X : World → Prop) (F : Value → World → Prop) : Prop := ∀ v w w', RgR p X w w' → F v w → F v w'
theorem Lasts.is {p : Nat → Prop} {X : World → Prop} {E : Value → Prop} : Lasts p X (Is E) := fun _ _ _ _ h => h
theorem Lasts.any {p : Nat → Prop} {X : World → Prop} : Lasts p X anyV := fun _ _ _ _ h => h
theorem Lasts.x {p : Nat → Prop} {X : World → Prop} : Lasts p X (fun _ w => X w) := fun _ _ _ k h => k.2 h
theorem Lasts.row {p : Nat → Prop} {X : World → Prop} {lo n : Nat} {E : Value → Prop} (hp : ∀ i, p i → i < lo) : Lasts p X (IsRow lo n E) := fun v w w' k ⟨g, t, cs, hv, hl, hb, hc⟩ =>
  ⟨g, t, cs, hv, hl, hb.grow k.1 (fun q => by have := hp g q; omega), hc⟩
theorem Lasts.box {p : Nat → Prop} {X : World → Prop} {lo k : Nat} {t : TypeId} (hp : ∀ i, p i → i < lo) : Lasts p X (IsBox lo k t) := fun v w w' q ⟨g, vs, hv, hl, hs, hb⟩ =>
  ⟨g, vs, hv, hl, hs, hb.grow q.1 (fun r => by have := hp g r; omega)⟩
theorem Lasts.ptr {p : Nat → Prop} {X : World → Prop} {lo : Nat} {E : Value → Prop} (hp : ∀ i, p i → i < lo) : Lasts p X (IsPtr lo E) := fun v w w' k ⟨g, o, x, hv, hl, hb, hc⟩ =>
  ⟨g, o, x, hv, hl, (World.cell?_of_block (k.1.block g (World.block_lt_of_cell? w _ hb) (fun q => by have := hp g q; omega))).trans hb, hc⟩
theorem lasts_nil {p : Nat → Prop} {X : World → Prop} : ∀ F ∈ ([] : List (Value → World → Prop)), ∀ v w w', RgR p X w w' → F v w → F v w' := fun _ h => by cases h
theorem lasts_cons {p : Nat → Prop} {X : World → Prop} {F : Value → World → Prop} {Fs : List (Value → World → Prop)} (h : Lasts p X F) (k : ∀ F ∈ Fs, ∀ v w w', RgR p X w w' → F v w → F v w') : ∀ F' ∈ F :: Fs, ∀ v w w', RgR p X w w' → F' v w → F' v w' := fun F' hF => by
  rcases List.mem_cons.1 hF with rfl | hF
  · exact h
  · exact k _ hF
section
variable {P : Program} {ops : Array Oper} {N : Nat} {G : (Nat → Bool) → Nat → World → Prop} {R : World → World → Prop} {w0 : World} {Q : Act → World → Prop}
theorem inv_cons (i : Nat) {o : Oper} {l : List Oper} {F : Value → World → Prop} {Fs : List (Value → World → Prop)} {hs : List (World → Prop)} {a : Act} (hi : hs.length = i)
    (h1 : ∀ w n s, n < N → closedS ops s → s i = false → G s n w → R w0 w → depsOk hs w o.after.toList → invStep P ops G R F i s o a w n) (h2 : ∀ v, wpInv P ops N G R w0 Q l Fs (hs ++ [F v]) (a.put o.dst v)) : wpInv P ops N G R w0 Q (o :: l) (F :: Fs) hs a := by
  subst hi
  exact ⟨h1, h2⟩
theorem inv_nil {hs : List (World → Prop)} {a : Act} (h : ∀ w n s, n ≤ N → G s n w → R w0 w → allOk w hs → Q a w) : wpInv P ops N G R w0 Q [] [] hs a := h
theorem inv_want {F : Value → World → Prop} {i : Nat} {s : Nat → Bool} {o : Oper} {a : Act} {w : World} {n : Nat} (hw : Region.wanted o (yielded ops a.tmps) = true) (h : invAt P o a w (fun v w' => G (upd s i) (n + 1) w' ∧ R w w' ∧ F v w')) : invStep P ops G R F i s o a w n := by
  unfold invStep
  rw [if_pos hw]
  exact h
theorem inv_skip {F : Value → World → Prop} {i : Nat} {s : Nat → Bool} {o : Oper} {a : Act} {w : World} {n : Nat} (hw : Region.wanted o (yielded ops a.tmps) = false) (h : G (upd s i) (n + 1) w) (hF : F undef w) : invStep P ops G R F i s o a w n := by
  unfold invStep
  rw [if_neg (by rw [hw]; exact Bool.false_ne_true)]
  exact ⟨h, hF⟩
theorem inv_move {o : Oper} {a : Act} {w : World} {post : Value → World → Prop} (x : Operand) (h : o.op = .move x) (hp : post (a.eval x) w) : invAt P o a w post := by
  unfold invAt; rw [BigFrame.run_move x h]; exact hp
theorem inv_assign {o : Oper} {a : Act} {w : World} {post : Value → World → Prop} (x : Operand) (h : o.op = .assign x) (hp : post (a.eval x) w) : invAt P o a w post := by
  unfold invAt; rw [BigFrame.run_assign x h]; exact hp
end
end Go.Proofs.YtamhnhojfhlanaaDoor
