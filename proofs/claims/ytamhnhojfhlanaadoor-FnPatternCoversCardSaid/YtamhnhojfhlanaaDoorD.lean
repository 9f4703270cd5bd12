/-
  The reader that the drawing functions share: opening it, picking a number, and picking rarely. Conditions: the reader's block is whole and its position is not past 2^40.
-/
import Derived.Test.YtamhnhojfhlanaaDoorA
import Derived.Test.YtamhnhojfhlanaaDoorN
import Derived.Test.YtamhnhojfhlanaaDoorB
set_option linter.unusedSimpArgs false
set_option linter.unusedVariables false
namespace Go.Proofs.YtamhnhojfhlanaaDoor
open Go.RowKit

/-- What a pick does: a number below n. -/
def PickPost (b : Nat) (n p : Int) (w : World) (e : Ending) (w' : World) : Prop :=
  ∃ x : Int, e = .returned (.int .i64 x) ∧ 0 ≤ x ∧ x < n ∧ ∃ m, w' = (w.setCell ⟨b, 1, none⟩ (.int .i64 (p + 1))).drewN m

theorem pick_nil (b : Nat) (a : Option Addr) (cap p : Nat) (n : Int) (w : World) (h0 : w.cell? ⟨b, 0, none⟩ = some (.slice a 0 cap)) (h1 : w.cell? ⟨b, 1, none⟩ = some (.int .i64 p)) (hf : w.frozen? ⟨b, 1, none⟩ = false)
    (hp : (p : Int) ≤ 1099511627776) (hn : 1 ≤ n) :
    Calls Tryd.prog 34 #[.pointer (some ⟨b, 0, none⟩), .int .i64 n] w (PickPost b n p w) := by
  go_enter Tryd.func34, Tryd.ntmps34
  go_wp2_with fail
  go_ret
  exact ⟨0, rfl, Int.le_refl 0, by omega, 0, rfl⟩

theorem pick_in (b g off len cap p : Nat) (y : Nat) (n : Int) (w : World) (hgb : g ≠ b) (h0 : w.cell? ⟨b, 0, none⟩ = some (.slice (some ⟨g, off, none⟩) len cap)) (h1 : w.cell? ⟨b, 1, none⟩ = some (.int .i64 p)) (hf : w.frozen? ⟨b, 1, none⟩ = false)
    (hp : p < len) (hlen : len ≤ 2000) (hy : y < 256) (hc : w.cell? ⟨g, off + p, none⟩ = some (.int .u8 y)) (hn : 1 ≤ n) :
    Calls Tryd.prog 34 #[.pointer (some ⟨b, 0, none⟩), .int .i64 n] w (PickPost b n p w) := by
  have hl : ((len : Int) == 0) = false := by simp; omega
  have hn1 : decide (n < 1) = false := by simp; omega
  have hb := emod_bd y n hn
  go_enter Tryd.func34, Tryd.ntmps34
  go_wp2_with fail
  go_ret
  exact ⟨y % n, rfl, hb.1, hb.2, 0, rfl⟩

theorem pick_past (b g off len cap p : Nat) (y z : Nat) (n : Int) (w : World) (hgb : g ≠ b) (h0 : w.cell? ⟨b, 0, none⟩ = some (.slice (some ⟨g, off, none⟩) len cap)) (h1 : w.cell? ⟨b, 1, none⟩ = some (.int .i64 p)) (hf : w.frozen? ⟨b, 1, none⟩ = false)
    (hp : len ≤ p) (hp2 : (p : Int) ≤ 1099511627776) (hlen : len ≤ 2000) (hlen0 : 0 < len) (hy : y < 256) (hz : z < 256) (hc : w.cell? ⟨g, off + p % len, none⟩ = some (.int .u8 y)) (hd : w.cell? ⟨g, off + (p * 7 + 3) % len, none⟩ = some (.int .u8 z)) (hn : 1 ≤ n) :
    Calls Tryd.prog 34 #[.pointer (some ⟨b, 0, none⟩), .int .i64 n] w (PickPost b n p w) := by
  have hl : ((len : Int) == 0) = false := by simp; omega
  have hn1 : decide (n < 1) = false := by simp; omega
  have hm1 := emod_bd p len (by omega)
  have hm2 := emod_bd (p * 7 + 3) len (by omega)
  obtain ⟨hm1, hm1'⟩ := hm1
  obtain ⟨hm2, hm2'⟩ := hm2
  have hq : 0 ≤ (p : Int) / len := Int.ediv_nonneg (by omega) (by omega)
  have hq2 : (p : Int) / len ≤ p := Int.ediv_le_self _ (by omega)
  have hX := Lib.hid (fun n hn => tmod_bd _ n (xor64_nonneg (↑y * 131 + ↑z * 1117 + ↑p * 29 + ↑p / ↑len * 53) (by omega) (by omega)) hn)
  go_enter Tryd.func34, Tryd.ntmps34
  go_wp2_with fail
  go_quiet (fail)
  go_wp2_with fail
  go_ret
  exact ⟨_, rfl, (hX.out n hn).1, (hX.out n hn).2, nq, rfl⟩

/-- The reader's block b: its bytes can be read, its position is at most M. -/
def Rd (w : World) (b : Nat) (M : Int) : Prop :=
  ∃ (a : Option Addr) (len cap p : Nat), w.cell? ⟨b, 0, none⟩ = some (.slice a len cap) ∧ w.cell? ⟨b, 1, none⟩ = some (.int .i64 p) ∧ w.frozen? ⟨b, 1, none⟩ = false ∧ (p : Int) ≤ M ∧ len ≤ 2000 ∧
    (len = 0 ∨ ∃ g off, a = some ⟨g, off, none⟩ ∧ g < b ∧ ∀ k, k < len → ∃ y : Nat, y < 256 ∧ w.cell? ⟨g, off + k, none⟩ = some (.int .u8 y))
theorem Rd.mono {w : World} {b : Nat} {M M' : Int} (h : Rd w b M) (hM : M ≤ M') : Rd w b M' := by
  obtain ⟨a, len, cap, p, h0, h1, hf, hp, hl, hd⟩ := h
  exact ⟨a, len, cap, p, h0, h1, hf, by omega, hl, hd⟩
theorem Rd.lt {w : World} {b : Nat} {M : Int} (h : Rd w b M) : b < w.heap.size := by
  obtain ⟨a, len, cap, p, h0, h1, hf, hp, hl, hd⟩ := h
  exact World.block_lt_of_cell? w _ h0
/-- What leaves all blocks alone leaves the reader alone. -/
theorem Rd.below {w w' : World} {b : Nat} {M : Int} (h : Rd w b M) (hb : Below w.heap.size w w') : Rd w' b M := by
  obtain ⟨a, len, cap, p, h0, h1, hf, hp, hl, hd⟩ := h
  have hlt := World.block_lt_of_cell? w _ h0
  refine ⟨a, len, cap, p, (hb.cell hlt).trans h0, (hb.cell (World.block_lt_of_cell? w _ h1)).trans h1, (hb.frozen (p := ⟨b, 1, none⟩) hlt).trans hf, hp, hl, ?_⟩
  rcases hd with hd | ⟨g, off, ha, hg, hc⟩
  · exact .inl hd
  · refine .inr ⟨g, off, ha, hg, fun k hk => ?_⟩
    obtain ⟨y, hy, hc⟩ := hc k hk
    exact ⟨y, hy, (hb.cell (World.block_lt_of_cell? w _ hc)).trans hc⟩
/-- A step of the reader: block b alone is written, and it reads on. -/
structure Reads (b : Nat) (M M' : Int) (w w' : World) : Prop where
  rd : Rd w' b M'
  step : w.grownBy w' (some b)
theorem grownBy_trans {w w1 w2 : World} {row : Option Nat} (h : w.grownBy w1 row) (k : w1.grownBy w2 row) : w.grownBy w2 row :=
  ⟨k.os.trans h.os, k.tape.trans h.tape, k.output.trans h.output, Nat.le_trans h.size k.size, fun i hi hne => (k.block i (Nat.lt_of_lt_of_le hi h.size) hne).trans (h.block i hi hne)⟩
theorem grownBy_refl (w : World) (row : Option Nat) : w.grownBy w row := ⟨rfl, rfl, rfl, Nat.le_refl _, fun _ _ _ => rfl⟩
theorem grownBy_of_below {w w1 : World} {row : Option Nat} (h : Below w.heap.size w w1) : w.grownBy w1 row := ⟨h.os, h.tape, h.output, h.size, fun i hi _ => h.block i hi⟩
theorem Reads.trans {b : Nat} {M M' M2 : Int} {w w1 w2 : World} (h : Reads b M M' w w1) (k : Reads b M' M2 w1 w2) : Reads b M M2 w w2 := ⟨k.rd, grownBy_trans h.step k.step⟩
theorem Reads.refl {b : Nat} {M : Int} {w : World} (h : Rd w b M) : Reads b M M w w := ⟨h, grownBy_refl _ _⟩
theorem Reads.below {b : Nat} {M M' : Int} {w w1 w2 : World} (h : Reads b M M' w w1) (k : Below w1.heap.size w1 w2) : Reads b M M' w w2 := ⟨h.rd.below k, grownBy_trans h.step (grownBy_of_below k)⟩
theorem Reads.mono {b : Nat} {M M' M2 : Int} {w w1 : World} (h : Reads b M M' w w1) (k : M' ≤ M2) : Reads b M M2 w w1 := ⟨h.rd.mono k, h.step⟩
theorem Reads.pick {b : Nat} {M : Int} {w : World} (h : Rd w b M) {p : Nat} (h1 : w.cell? ⟨b, 1, none⟩ = some (.int .i64 p)) (m : Nat) : Reads b M (M + 1) w ((w.setCell ⟨b, 1, none⟩ (.int .i64 ((p : Int) + 1))).drewN m) := by
  obtain ⟨a, len, cap, p', h0, h1', hf, hp, hl, hd⟩ := h
  have hlt := World.block_lt_of_cell? w _ h0
  have : (p : Int) = p' := by rw [h1] at h1'; simpa using h1'
  have hpp : p = p' := by omega
  subst hpp
  constructor
  · refine ⟨a, len, cap, p + 1, ?_, ?_, ?_, by omega, hl, ?_⟩
    · show (w.setCell _ _).cell? _ = _
      rw [World.cell?_setCell_other _ _ _ _ (by simp)]; exact h0
    · show (w.setCell _ _).cell? _ = _
      rw [World.cell?_setCell_same _ _ _ h1]; simp
    · show (w.setCell _ _).frozen? _ = _
      rw [World.frozen?_setCell]; exact hf
    · rcases hd with hd | ⟨g, off, ha, hg, hc⟩
      · exact .inl hd
      · refine .inr ⟨g, off, ha, hg, fun k hk => ?_⟩
        obtain ⟨y, hy, hc⟩ := hc k hk
        refine ⟨y, hy, ?_⟩
        show (w.setCell _ _).cell? _ = _
        rw [World.cell?_setCell_far _ _ _ _ (by simp; omega)]; exact hc
  · exact ⟨rfl, rfl, rfl, by simp [World.setCell], fun k hk hne => Below.heap_setCell _ _ _ _ (fun e => hne (by rw [e]))⟩

theorem below_al (w : World) (o : Obj) : Below w.heap.size w (w.alloc o) := (Below.refl _ _).alloc (Nat.le_refl _) o
/-- A store into a block behind the reader's. -/
theorem Rd.far {w : World} {b : Nat} {M : Int} (h : Rd w b M) {n : Nat} (hn : b < n) (o : Nat) (v : Value) : Rd (w.setCell ⟨n, o, none⟩ v) b M := by
  obtain ⟨a, len, cap, p, h0, h1, hf, hp, hl, hd⟩ := h
  refine ⟨a, len, cap, p, ?_, ?_, ?_, hp, hl, ?_⟩
  · rw [World.cell?_setCell_far _ _ _ _ (by simp; omega)]; exact h0
  · rw [World.cell?_setCell_far _ _ _ _ (by simp; omega)]; exact h1
  · rw [World.frozen?_setCell]; exact hf
  · rcases hd with hd | ⟨g, off, ha, hg, hc⟩
    · exact .inl hd
    · refine .inr ⟨g, off, ha, hg, fun k hk => ?_⟩
      obtain ⟨y, hy, hc⟩ := hc k hk
      exact ⟨y, hy, by rw [World.cell?_setCell_far _ _ _ _ (by simp; omega)]; exact hc⟩
theorem Rd.drew {w : World} {b : Nat} {M : Int} (h : Rd w b M) : Rd w.drew b M := h
theorem Reads.al {b : Nat} {M M' : Int} {w w' : World} (h : Reads b M M' w w') (o : Obj) : Reads b M M' w (w'.alloc o) := h.below (below_al _ _)
theorem Reads.dr {b : Nat} {M M' : Int} {w w' : World} (h : Reads b M M' w w') : Reads b M M' w w'.drew := ⟨h.rd, h.step.os, h.step.tape, h.step.output, h.step.size, h.step.block⟩
theorem Reads.via {b : Nat} {M M' M2 : Int} {w w1 w2 : World} (k : Reads b M' M2 w1 w2) (h : Reads b M M' w w1) : Reads b M M2 w w2 := h.trans k
theorem Reads.grow {b : Nat} {M M' : Int} {w w1 w2 : World} (k : Below w1.heap.size w1 w2) (h : Reads b M M' w w1) : Reads b M M' w w2 := h.below k
/-- Behind the reader's steps: a store into a block that was new. -/
theorem Reads.set {b : Nat} {M M' : Int} {w w' : World} (h : Reads b M M' w w') (hb : b < w.heap.size) {g : Nat} (hg : w.heap.size ≤ g) (o : Nat) (v : Value) : Reads b M M' w (w'.setCell ⟨g, o, none⟩ v) :=
  ⟨h.rd.far (by omega) o v, h.step.os, h.step.tape, h.step.output, by simpa [World.setCell] using h.step.size, fun k hk hne => (Below.heap_setCell _ _ _ _ (by simp; omega)).trans (h.step.block k hk hne)⟩
theorem Bk.rd {w w' : World} {g b : Nat} {M M' : Int} {vs : Array Value} {t : TypeId} (h : Bk w g vs t) (r : Reads b M M' w w') (hb : b < g) : Bk w' g vs t := h.by r.step (by simp; omega)
theorem Bk.rdn {w w' : World} {g b : Nat} {M M' : Int} {vs : Array Value} {t : TypeId} (h : Bk w g vs t) (r : Reads b M M' w w') (hb : g ≠ b) : Bk w' g vs t := h.by r.step (by simp; omega)
theorem Below.rd {a w1 w2 : World} {b : Nat} {M M' : Int} (r : Reads b M M' w1 w2) (h : Below a.heap.size a w1) (hb : a.heap.size ≤ b) : Below a.heap.size a w2 :=
  h.grown r.step h.size (fun k hk => by cases hk; exact hb)
theorem Reads.size {b : Nat} {M M' : Int} {w w' : World} (h : Reads b M M' w w') : w.heap.size ≤ w'.heap.size := h.step.size

/-- A step that writes into a row behind the reader's block, or makes memory. -/
theorem Rd.app {w w' : World} {b : Nat} {M : Int} (h : Rd w b M) {row : Option Nat} (g : w.grownBy w' row) (hr : ∀ k, row = some k → b < k) : Rd w' b M := by
  obtain ⟨a, len, cap, p, h0, h1, hf, hp, hl, hd⟩ := h
  have hlt : b < w.heap.size := World.block_lt_of_cell? w _ h0
  have hbb : w'.heap[b]? = w.heap[b]? := g.block b hlt (fun e => by have := hr b e.symm; omega)
  refine ⟨a, len, cap, p, (World.cell?_of_block (a := ⟨b, 0, none⟩) hbb).trans h0, (World.cell?_of_block (a := ⟨b, 1, none⟩) hbb).trans h1, (World.frozen?_of_block (a := ⟨b, 1, none⟩) hbb).trans hf, hp, hl, ?_⟩
  rcases hd with hd | ⟨q, off, ha, hg, hc⟩
  · exact .inl hd
  · refine .inr ⟨q, off, ha, hg, fun k hk => ?_⟩
    obtain ⟨y, hy, hc⟩ := hc k hk
    exact ⟨y, hy, (World.cell?_of_block (a := ⟨q, off + k, none⟩) (g.block q (by omega) (fun e => by have := hr q e.symm; omega))).trans hc⟩
theorem Reads.app {w w1 w2 : World} {b : Nat} {M M' : Int} {row : Option Nat} (g : w1.grownBy w2 row) (h : Reads b M M' w w1) (hb : b < w.heap.size) (hr : ∀ k, row = some k → w.heap.size ≤ k) : Reads b M M' w w2 :=
  ⟨h.rd.app g (fun k hk => by have := hr k hk; omega), g.os.trans h.step.os, g.tape.trans h.step.tape, g.output.trans h.step.output, Nat.le_trans h.step.size g.size,
    fun k hk hne => (g.block k (by have := h.step.size; omega) (fun e => by have := hr k e.symm; omega)).trans (h.step.block k hk hne)⟩

/-- A number below n is drawn. -/
def PickS (b : Nat) (n M : Int) (w : World) (e : Ending) (w' : World) : Prop :=
  ∃ x : Int, e = .returned (.int .i64 x) ∧ 0 ≤ x ∧ x < n ∧ Reads b M (M + 1) w w'
theorem pick_any (b : Nat) (n M : Int) (w : World) (h : Rd w b M) (hM : M ≤ 1099511627776) (hn : 1 ≤ n) :
    Calls Tryd.prog 34 #[.pointer (some ⟨b, 0, none⟩), .int .i64 n] w (PickS b n M w) := by
  have hh := h
  obtain ⟨a, len, cap, p, h0, h1, hf, hp, hl, hd⟩ := hh
  have fin : ∀ e w', PickPost b n p w e w' → PickS b n M w e w' := by
    rintro e w' ⟨x, he, hx0, hx1, m, rfl⟩
    exact ⟨x, he, hx0, hx1, Reads.pick h h1 m⟩
  by_cases hz : len = 0
  · subst hz
    exact (pick_nil b a cap p n w h0 h1 hf (by omega) hn).mono fin
  · rcases hd with hd | ⟨g, off, rfl, hg, hc⟩
    · exact absurd hd hz
    · by_cases hlt : p < len
      · obtain ⟨y, hy, hy2⟩ := hc p hlt
        exact (pick_in b g off len cap p y n w (by omega) h0 h1 hf hlt hl hy hy2 hn).mono fin
      · obtain ⟨y, hy, hy2⟩ := hc (p % len) (Nat.mod_lt _ (by omega))
        obtain ⟨z, hz1, hz2⟩ := hc ((p * 7 + 3) % len) (Nat.mod_lt _ (by omega))
        exact (pick_past b g off len cap p y z n w (by omega) h0 h1 hf (by omega) (by omega) hl (by omega) hy hz1 hy2 hz2 hn).mono fin
/-- A truth is drawn. -/
def OddS (b : Nat) (M : Int) (w : World) (e : Ending) (w' : World) : Prop :=
  ∃ x : Bool, e = .returned (.bool x) ∧ Reads b M (M + 1) w w'
theorem odd_any (b : Nat) (n M : Int) (w : World) (h : Rd w b M) (hM : M ≤ 1099511627776) (hn : 0 ≤ n) (hn2 : n ≤ 1099511627776) :
    Calls Tryd.prog 31 #[.pointer (some ⟨b, 0, none⟩), .int .i64 n] w (OddS b M w) := by
  by_cases hz : 0 < n
  · have hz' : decide (0 < n) = true := by simpa using hz
    have H := Lib.hid h
    clear h
    go_enter Tryd.func31, Tryd.ntmps31
    go_wp2_with (go_at_call 34; refine (pick_any b n M _ H.out hM (by omega)).mono ?_; rintro e w' ⟨x, rfl, hx0, hx1, hw⟩)
    go_ret
    exact ⟨_, rfl, hw⟩
  · have hz' : decide (0 < n) = false := by simpa using hz
    have H := Lib.hid h
    clear h
    go_enter Tryd.func31, Tryd.ntmps31
    go_wp2_with fail
    go_ret
    exact ⟨_, rfl, (Reads.refl H.out).mono (by omega)⟩

/-- What is told of the bytes that a law takes. -/
def Bytes (w : World) (a : Option Addr) (len cap : Nat) : Prop :=
  len ≤ cap ∧ cap ≤ maxLen ∧ (len = 0 ∨ ∃ g off, a = some ⟨g, off, none⟩ ∧ ∀ k, k < len → ∃ y : Nat, y < 256 ∧ w.cell? ⟨g, off + k, none⟩ = some (.int .u8 y))
theorem Bytes.take {w : World} {a : Option Addr} {len cap : Nat} (h : Bytes w a len cap) (n : Nat) (hn : n ≤ len) : Bytes w a n cap := by
  obtain ⟨h1, h2, h3⟩ := h
  refine ⟨by omega, h2, ?_⟩
  rcases h3 with h3 | ⟨g, off, ha, hc⟩
  · exact .inl (by omega)
  · exact .inr ⟨g, off, ha, fun k hk => hc k (by omega)⟩
theorem Bytes.below {w w' : World} {a : Option Addr} {len cap : Nat} (h : Bytes w a len cap) (k : Below w.heap.size w w') : Bytes w' a len cap := by
  obtain ⟨h1, h2, h3⟩ := h
  refine ⟨h1, h2, ?_⟩
  rcases h3 with h3 | ⟨g, off, ha, hc⟩
  · exact .inl h3
  · refine .inr ⟨g, off, ha, fun j hj => ?_⟩
    obtain ⟨y, hy, hc⟩ := hc j hj
    exact ⟨y, hy, (k.cell (World.block_lt_of_cell? w _ hc)).trans hc⟩
/-- The reader is opened: a new block, whole. -/
def OpenS (w : World) (e : Ending) (w' : World) : Prop := e = .returned (.pointer (some ⟨w.heap.size, 0, none⟩)) ∧ Rd w' w.heap.size 0 ∧ Below w.heap.size w w'
theorem OpenS.mk {w : World} {a : Option Addr} {len cap : Nat} (h : Bytes w a len cap) (hl : len ≤ 2000) (t : Nat) : OpenS w (.returned (.pointer (some ⟨w.heap.size, 0, none⟩))) (w.alloc (.cells #[.slice a len cap, .int .i64 0] t)) := by
  obtain ⟨h1, h2, h3⟩ := h
  refine ⟨rfl, ⟨a, len, cap, 0, by simp [World.cell?_alloc_new], by simp [World.cell?_alloc_new], ?_, Int.le_refl 0, hl, ?_⟩, (Below.refl _ _).alloc (Nat.le_refl _) _⟩
  · simp
  · rcases h3 with h3 | ⟨g, off, ha, hc⟩
    · exact .inl h3
    · by_cases hz : len = 0
      · exact .inl hz
      · refine .inr ⟨g, off, ha, ?_, fun k hk => ?_⟩
        · obtain ⟨y, hy, hc⟩ := hc 0 (by omega)
          exact World.block_lt_of_cell? w _ hc
        · obtain ⟨y, hy, hc⟩ := hc k hk
          exact ⟨y, hy, by rw [World.cell?_alloc_some _ _ _ (by rw [hc]; rfl)]; exact hc⟩
theorem open_any (a : Option Addr) (len cap : Nat) (w : World) (h : Bytes w a len cap) :
    Calls Tryd.prog 30 #[.slice a len cap] w (OpenS w) := by
  have h1 := h.1
  have h2 := h.2.1
  unfold maxLen at h2
  by_cases hl : len ≤ 2000
  · have H := Lib.hid (OpenS.mk h hl 49)
    clear h
    go_enter Tryd.func30, Tryd.ntmps30
    go_wp2_with fail
    go_ret
    exact H.out
  · have H := Lib.hid (OpenS.mk (h.take 2000 (by omega)) (Nat.le_refl _) 49)
    have ha : ∃ g off, a = some ⟨g, off, none⟩ := by
      rcases h.2.2 with h3 | ⟨g, off, ha, _⟩
      · omega
      · exact ⟨g, off, ha⟩
    obtain ⟨g, off, rfl⟩ := ha
    clear h
    go_enter Tryd.func30, Tryd.ntmps30
    go_wp2_with fail
    go_ret
    exact H.out
end Go.Proofs.YtamhnhojfhlanaaDoor
