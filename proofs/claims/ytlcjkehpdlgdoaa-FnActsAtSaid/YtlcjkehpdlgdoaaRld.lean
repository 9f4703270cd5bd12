/-
  Roles are drawn. Condition: the reader is whole.
-/
import Derived.Test.YtlcjkehpdlgdoaaRlc
set_option linter.unusedSimpArgs false
set_option linter.unusedVariables false
namespace Go.Proofs.Ytlcjkehpdlgdoaa
open Go.RowKit
theorem own_rdR {w w' : World} {lo e k b : Nat} {M M' : Int} {v : Value} {n : Nat} {cs : List Value} (h : w.ownsRow lo e k v n cs) (r : Reads b M M' w w') (hb : b < lo) : w'.ownsRow lo e k v n cs :=
  h.kept r.step (by
    cases hv : v.ownBlock with
    | none => exact .inl rfl
    | some j => right; intro e; have := own_gt h j hv; simp at e; omega)
theorem own_moreR {w : World} {lo t : Nat} {v : Value} {ns : List Int} {x : Int} (h : w.ownsRow lo t 1 v (ns.length + 1) (cellsI ns ++ [.int .i64 x])) : w.ownsRow lo t 1 v (ns ++ [x]).length (cellsI (ns ++ [x])) := by
  rw [cellsI_app, List.length_append]
  exact h
theorem cellsRl_snoc (us : List Value) (ds : List Rl) (h : us.length = ds.length) (u : Value) (d : Rl) : cellsRl (us ++ [u]) (ds ++ [d]) = cellsRl us ds ++ [.string d.nm, .int .i64 d.acts, u] := by
  unfold cellsRl
  rw [List.zip_append h, List.flatMap_append]
  rfl
theorem one_string_at (x : Int) (w : World) (g : Nat) (h : w.cell? ⟨g, 0, none⟩ = some (.int .u8 x)) : (convert 29 9 (.slice (some ⟨g, 0, none⟩) 1 1)).run Try.prog w = .ok (.string (strOfNums [x])) w :=
  run_convert_bytes_arg _ 29 5 Try.underlying29 Try.underlying5 g 0 1 1 [x] rfl (fun i hi => by
    obtain rfl : i = 0 := by omega
    simpa using h) 9 Try.underlying9
/-- A row of roles of the call's own: outer and inner rows lie in blocks from lo on and below S, no inner one in the outer one. -/
def OwnRl (w : World) (lo S : Nat) (v : Value) (ds : List Rl) : Prop :=
  ∃ us : List Value, us.length = ds.length ∧ w.ownsRow lo 56 3 v ds.length (cellsRl us ds) ∧ (∀ j, v.ownBlock = some j → j < S) ∧
    (∀ i (h : i < ds.length) (h2 : i < us.length), w.ownsRow lo 3 1 us[i] ds[i].xs.length (cellsI ds[i].xs) ∧ ∀ j, us[i].ownBlock = some j → j < S ∧ v.ownBlock ≠ some j) ∧ ∀ d ∈ ds, d.nm.size ≤ 8 ∧ d.xs.length ≤ 16
section
variable {w w' : World} {lo S : Nat} {v : Value} {ds : List Rl}
theorem OwnRl.sl (h : OwnRl w lo S v ds) : SlRl w v ds := by
  obtain ⟨us, h1, h2, _, h4, h5⟩ := h
  exact ⟨us, h1, own_sl h2, fun i hi hi2 => own_sl (h4 i hi hi2).1, fun d hd => by have := (h5 d hd).1; unfold maxLen; omega⟩
theorem OwnRl.up (h : OwnRl w lo S v ds) {S' : Nat} (hS : S ≤ S') : OwnRl w lo S' v ds := by
  obtain ⟨us, h1, h2, h3, h4, h5⟩ := h
  exact ⟨us, h1, h2, fun j hj => Nat.lt_of_lt_of_le (h3 j hj) hS, fun i hi hi2 => ⟨(h4 i hi hi2).1, fun j hj => ⟨Nat.lt_of_lt_of_le ((h4 i hi hi2).2 j hj).1 hS, ((h4 i hi hi2).2 j hj).2⟩⟩, h5⟩
theorem OwnRl.below (h : OwnRl w lo S v ds) (hb : Below w.heap.size w w') : OwnRl w' lo S v ds := by
  obtain ⟨us, h1, h2, h3, h4, h5⟩ := h
  exact ⟨us, h1, own_below h2 hb, h3, fun i hi hi2 => ⟨own_below (h4 i hi hi2).1 hb, (h4 i hi hi2).2⟩, h5⟩
theorem OwnRl.al (h : OwnRl w lo S v ds) (o : Obj) : OwnRl (w.alloc o) lo S v ds := h.below (Below.al (Below.refl _ _) o)
theorem OwnRl.rd {b : Nat} {M M' : Int} (h : OwnRl w lo S v ds) (r : Reads b M M' w w') (hb : b < lo) : OwnRl w' lo S v ds := by
  obtain ⟨us, h1, h2, h3, h4, h5⟩ := h
  exact ⟨us, h1, own_rdR h2 r hb, h3, fun i hi hi2 => ⟨own_rdR (h4 i hi hi2).1 r hb, (h4 i hi hi2).2⟩, h5⟩
theorem OwnRl.grow {p : Nat → Prop} (h : OwnRl w lo S v ds) (r : Grow p w w') (hp : ∀ i, p i → i < lo) : OwnRl w' lo S v ds := by
  obtain ⟨us, h1, h2, h3, h4, h5⟩ := h
  exact ⟨us, h1, own_grow h2 r (fun j hj q => by have := hp j q; have := own_gt h2 j hj; omega), h3, fun i hi hi2 => ⟨own_grow (h4 i hi hi2).1 r (fun j hj q => by have := hp j q; have := own_gt (h4 i hi hi2).1 j hj; omega), (h4 i hi hi2).2⟩, h5⟩
theorem OwnRl.gby (h : OwnRl w lo S v ds) {row : Option Nat} (g : w.grownBy w' row) (hr : ∀ j, row = some j → S ≤ j) : OwnRl w' lo S v ds := by
  obtain ⟨us, h1, h2, h3, h4, h5⟩ := h
  exact ⟨us, h1, own_gby2 h2 g (fun j hj hrj => by have := h3 j hj; have := hr j hrj; omega), h3, fun i hi hi2 => ⟨own_gby2 (h4 i hi hi2).1 g (fun j hj hrj => by have := ((h4 i hi hi2).2 j hj).1; have := hr j hrj; omega), (h4 i hi hi2).2⟩, h5⟩
theorem OwnRl.set (h : OwnRl w lo S v ds) {g : Nat} (hg : S ≤ g) (o : Nat) (u : Value) : OwnRl (w.setCell ⟨g, o, none⟩ u) lo S v ds := by
  obtain ⟨us, h1, h2, h3, h4, h5⟩ := h
  exact ⟨us, h1, own_setne h2 (fun j hj => by have := h3 j hj; omega) _ _, h3, fun i hi hi2 => ⟨own_setne (h4 i hi hi2).1 (fun j hj => by have := ((h4 i hi hi2).2 j hj).1; omega) _ _, (h4 i hi hi2).2⟩, h5⟩
theorem OwnRl.made (hg : w.heap.size = S) (hl : lo ≤ S) : OwnRl (w.alloc (.cells #[] 56)) lo (S + 1) (.slice (some ⟨S, 0, none⟩) 0 0) [] :=
  ⟨[], rfl, own_made_b hg hl, fun j hj => by simp [Value.ownBlock] at hj; omega, fun i hi => by simp at hi, fun d hd => by cases hd⟩
/-- One role more. -/
theorem OwnRl.push {us : List Value} {u v' : Value} {d : Rl} (h1 : us.length = ds.length) (hv : ∀ j, v.ownBlock = some j → j < S)
    (h4 : ∀ i (h : i < ds.length) (h2 : i < us.length), w.ownsRow lo 3 1 us[i] ds[i].xs.length (cellsI ds[i].xs) ∧ ∀ j, us[i].ownBlock = some j → j < S ∧ v.ownBlock ≠ some j) (h5 : ∀ d ∈ ds, d.nm.size ≤ 8 ∧ d.xs.length ≤ 16) (hd : d.nm.size ≤ 8 ∧ d.xs.length ≤ 16)
    (hu : w.ownsRow lo 3 1 u d.xs.length (cellsI d.xs)) (huS : ∀ j, u.ownBlock = some j → S ≤ j) (g : w.grownBy w' v.ownBlock) (hS : S ≤ w.heap.size)
    (hloc : v'.ownBlock = v.ownBlock ∨ v'.ownBlock = some w.heap.size) (h2 : w'.ownsRow lo 56 3 v' (ds.length + 1) (cellsRl us ds ++ [.string d.nm, .int .i64 d.acts, u])) : OwnRl w' lo w'.heap.size v' (ds ++ [d]) := by
  have hul : ∀ j, u.ownBlock = some j → j < w.heap.size := fun j hj => (hu.lt j hj).2
  have hsz := g.size
  refine ⟨us ++ [u], by simp [h1], ?_, fun j hj => (h2.lt j hj).2, fun i hi hi2 => ?_, fun x hx => ?_⟩
  · rw [cellsRl_snoc us ds h1, List.length_append]
    exact h2
  · by_cases hlt : i < ds.length
    · have hlt2 : i < us.length := by omega
      have q := h4 i hlt hlt2
      rw [List.getElem_append_left hlt2, List.getElem_append_left hlt]
      refine ⟨own_gby2 q.1 g (fun j hj hrj => (q.2 j hj).2 hrj), fun j hj => ⟨by have := (q.2 j hj).1; omega, ?_⟩⟩
      rcases hloc with e | e
      · rw [e]; exact (q.2 j hj).2
      · rw [e]; intro he; have := (q.2 j hj).1; simp at he; omega
    · have hie : i = ds.length := by simp at hi; omega
      subst hie
      rw [List.getElem_append_right (by omega), List.getElem_append_right (by omega)]
      have e1 : (us.length : Nat) = ds.length := h1
      simp only [← e1, Nat.sub_self, List.getElem_cons_zero]
      refine ⟨own_gby2 hu g (fun j hj hrj => by have := huS j hj; have := hv j hrj; omega), fun j hj => ⟨by have := hul j hj; omega, ?_⟩⟩
      rcases hloc with e | e
      · rw [e]; intro he; have := huS j hj; have := hv j he; omega
      · rw [e]; intro he; have := hul j hj; simp at he; omega
  · rcases List.mem_append.1 hx with q | q
    · exact h5 x q
    · simp at q; subst q; exact hd
end
/-! What the regions leave. -/
def ByV (v : Value) : Prop := ∃ x : Int, v = .int .u8 x
def Short (s : ByteArray) : Prop := s.size ≤ 8
def IsE (lo : Nat) (v : Value) (w : World) : Prop := ∃ g, v = .slice (some ⟨g, 0, none⟩) 0 0 ∧ lo ≤ g ∧ Bk w g #[] 3
def IsRole0 (lo : Nat) (v : Value) (w : World) : Prop := ∃ (s : ByteArray) (y : Int) (g : Nat), v = .agg #[.string s, .int .i64 y, .slice (some ⟨g, 0, none⟩) 0 0] ∧ Short s ∧ lo ≤ g ∧ Bk w g #[] 3
def IsInts (lo n : Nat) (v : Value) (w : World) : Prop := ∃ (g : Nat) (xs : List Int), v = .slice (some ⟨g, 0, none⟩) n n ∧ lo ≤ g ∧ xs.length = n ∧ w.ownsRow lo 3 1 (.slice (some ⟨g, 0, none⟩) n n) n (cellsI xs)
def IsRole (lo : Nat) (v : Value) (w : World) : Prop := ∃ (s : ByteArray) (y : Int) (u : Value) (xs : List Int), v = .agg #[.string s, .int .i64 y, u] ∧ Short s ∧ xs.length ≤ 16 ∧ w.ownsRow lo 3 1 u xs.length (cellsI xs)
def IsRoleRow (lo : Nat) (v : Value) (w : World) : Prop := ∃ (g : Nat) (cs : Array Value), v = .slice (some ⟨g, 0, none⟩) 4 4 ∧ lo ≤ g ∧ Bk w g cs 56 ∧ ∀ i, i < 4 → ∃ (s : ByteArray) (y : Int) (u : Value) (xs : List Int), cs[i * 3]? = some (.string s) ∧ cs[i * 3 + 1]? = some (.int .i64 y) ∧ cs[i * 3 + 2]? = some u ∧ Short s ∧ xs.length ≤ 16 ∧ w.ownsRow lo 3 1 u xs.length (cellsI xs)
def IsRolePtr (lo : Nat) (v : Value) (w : World) : Prop := ∃ (g o : Nat) (s : ByteArray) (y : Int) (u : Value) (xs : List Int), v = .pointer (some ⟨g, o, none⟩) ∧ lo ≤ g ∧ w.cell? ⟨g, o, none⟩ = some (.string s) ∧ w.cell? ⟨g, o + 1, none⟩ = some (.int .i64 y) ∧ w.cell? ⟨g, o + 2, none⟩ = some u ∧ Short s ∧ xs.length ≤ 16 ∧ w.ownsRow lo 3 1 u xs.length (cellsI xs)
def IsRole1 (lo : Nat) (v : Value) (w : World) : Prop := ∃ (g : Nat) (s : ByteArray) (y : Int) (u : Value) (xs : List Int), v = .slice (some ⟨g, 0, none⟩) 1 1 ∧ lo ≤ g ∧ Bk w g #[.string s, .int .i64 y, u] 56 ∧ Short s ∧ xs.length ≤ 16 ∧ w.ownsRow lo 3 1 u xs.length (cellsI xs)
section
variable {p : Nat → Prop} {X : World → Prop} {lo : Nat}
theorem own_far_p {w w' : World} {e k : Nat} {v : Value} {n : Nat} {cs : List Value} (hp : ∀ i, p i → i < lo) (h : w.ownsRow lo e k v n cs) (r : Grow p w w') : w'.ownsRow lo e k v n cs := own_grow h r (fun j hj q => by have := hp j q; have := own_gt h j hj; omega)
theorem lasts_e (hp : ∀ i, p i → i < lo) : Lasts p X (IsE lo) := fun v w w' k ⟨g, hv, hl, hb⟩ => ⟨g, hv, hl, hb.grow k.1 (fun q => by have := hp g q; omega)⟩
theorem lasts_r0 (hp : ∀ i, p i → i < lo) : Lasts p X (IsRole0 lo) := fun v w w' k ⟨s, y, g, hv, hs, hl, hb⟩ => ⟨s, y, g, hv, hs, hl, hb.grow k.1 (fun q => by have := hp g q; omega)⟩
theorem lasts_is {n : Nat} (hp : ∀ i, p i → i < lo) : Lasts p X (IsInts lo n) := fun v w w' k ⟨g, xs, hv, hl, hn, ho⟩ => ⟨g, xs, hv, hl, hn, own_far_p hp ho k.1⟩
theorem lasts_r (hp : ∀ i, p i → i < lo) : Lasts p X (IsRole lo) := fun v w w' k ⟨s, y, u, xs, hv, hs, hn, ho⟩ => ⟨s, y, u, xs, hv, hs, hn, own_far_p hp ho k.1⟩
theorem lasts_rr (hp : ∀ i, p i → i < lo) : Lasts p X (IsRoleRow lo) := fun v w w' k ⟨g, cs, hv, hl, hb, hc⟩ => ⟨g, cs, hv, hl, hb.grow k.1 (fun q => by have := hp g q; omega), fun i hi => by
  obtain ⟨s, y, u, xs, q0, q1, q2, q3, q4, q5⟩ := hc i hi
  exact ⟨s, y, u, xs, q0, q1, q2, q3, q4, own_far_p hp q5 k.1⟩⟩
theorem lasts_rp (hp : ∀ i, p i → i < lo) : Lasts p X (IsRolePtr lo) := fun v w w' k ⟨g, o, s, y, u, xs, hv, hl, c0, c1, c2, hs, hn, ho⟩ =>
  ⟨g, o, s, y, u, xs, hv, hl, cell_grow c0 k.1 (fun q => by have := hp g q; omega), cell_grow c1 k.1 (fun q => by have := hp g q; omega), cell_grow c2 k.1 (fun q => by have := hp g q; omega), hs, hn, own_far_p hp ho k.1⟩
theorem lasts_r1 (hp : ∀ i, p i → i < lo) : Lasts p X (IsRole1 lo) := fun v w w' k ⟨g, s, y, u, xs, hv, hl, hb, hs, hn, ho⟩ => ⟨g, s, y, u, xs, hv, hl, hb.grow k.1 (fun q => by have := hp g q; omega), hs, hn, own_far_p hp ho k.1⟩
end
theorem bk_ne {w : World} {g g' : Nat} {t t' : TypeId} {z0 z1 z2 : Value} (h : Bk w g #[] t) (h' : Bk w g' #[z0, z1, z2] t') : g ≠ g' := fun e => by
  subst e
  unfold Bk at h h'
  rw [h] at h'
  simp at h'
theorem infoRlDr : (Try.prog.info? 56).map (fun i => (i.zero, i.size, i.bytes)) = some (some (.agg #[.string ByteArray.empty, .int .i64 0, .slice none 0 0]), 3, 48) := by kernel_rfl
/-- Roles are drawn. -/
def RoS (b : Nat) (M : Int) (w : World) (e : Ending) (w' : World) : Prop :=
  ∃ (v : Value) (ds : List Rl), e = .returned v ∧ v ≠ .slice none 0 0 ∧ ds.length ≤ 6 ∧ OwnRl w' w.heap.size w'.heap.size v ds ∧ Reads b M (M + 200) w w'
set_option maxRecDepth 100000 in
set_option maxHeartbeats 12800000 in
theorem l20Roles_any (b : Nat) (n M : Int) (w : World) (h : Rd w b M) (hM : M ≤ 1099511627776 - 400) (hn : 0 ≤ n) (hn2 : n ≤ 1099511627776) :
    Calls Try.prog 69 #[.pointer (some ⟨b, 0, none⟩), .int .i64 n] w (RoS b M w) := by
  have hlt := h.lt
  have P0 := Reads.refl h
  have P1 := Reads.al P0 (.cells #[] 56)
  have O1 := Lib.hid (OwnRl.made (w := w) (lo := w.heap.size) rfl (Nat.le_refl _))
  have hmkT : ∀ w : World, (Instr.buildSlice 48 0 #[]).run Try.prog w = .ok (.slice (some ⟨w.heap.size, 0, none⟩) 0 0) (w.alloc (.cells #[] 56)) := fun w => by kernel_rfl
  go_enter Try.func69, Try.ntmps69
  go_wp2_with fail
  refine (pick_any b 6 _ _ P1.rd (by omega) (by omega)).mono ?_
  rintro e w1 ⟨x1, rfl, lo1, hi1, r1⟩
  have P2 := Reads.trans P1 r1
  have O2 := Lib.hid (OwnRl.rd O1.out r1 hlt)
  have z1 := r1.size
  simp only [World.size_alloc] at z1
  obtain ⟨c0, rfl⟩ : ∃ c : Nat, x1 = c := ⟨x1.toNat, by omega⟩
  have hc5 : c0 ≤ 5 := by omega
  clear O1 P0 P1 r1 hmkT
  go_wp2_with fail
  go_loopw [5, 7] (fun v i wr => ∃ (k : Nat) (ds : List Rl), k ≤ c0 ∧ i = .int .i64 k ∧ ds.length = k ∧ Hid (v ≠ .slice none 0 0) ∧ Hid (OwnRl wr w.heap.size wr.heap.size v ds) ∧ Reads b M (M + 1 + 25 * (k : Int)) w wr) (fun _ i _ => c0 - (intOf i).toNat)
  case atStart => exact ⟨0, [], Nat.zero_le _, rfl, rfl, by simp [Hid], O2.out.up (by omega), P2.mono (by omega)⟩
  case round =>
    clear O2 P2
    obtain ⟨k, ds, hk, rfl, hlen, hvn, ho, hR⟩ := hrel
    obtain ⟨wo, rfl⟩ : ∃ wo : World, wo = wr := ⟨_, rfl⟩
    obtain ⟨v, rfl⟩ : ∃ v : Value, v = u5 := ⟨_, rfl⟩
    have HLEN := Lib.hid hlen
    have hlen1 : ds.length ≤ k := by omega
    clear hlen
    have zr := hR.size
    by_cases hkc : k < c0
    · have hkc2 : (k : Int) < (c0 : Int) := by omega
      have hbw : b < wo.heap.size := by omega
      go_wp2_with fail
      have KXr : KeepX (b) (fun _ => True) ∧ KeepX (b) (fun _ => True) := ⟨keepX_true _, keepX_true _⟩
      refine wp_region_invT 10 (G := fun s n w_ => RgG (b) (fun i => i = b) (fun _ => True) (True) wo ((M + 1 + 25 * (k : Int))) n w_) (R := RgR (fun i => i = b) (fun _ => True))
        (Fs := [Is (fun z_ => z_ = .int .i64 k), Is (IntIn (97) (102)), Is ByV, IsRow (wo.heap.size) 1 ByV, Is (StrIn Short), Is (fun z_ => z_ = .pointer (some ⟨b, 0, none⟩)), Is (IntIn (0) (15)), (IsE (wo.heap.size)), (IsRole0 (wo.heap.size)), IsBox (wo.heap.size) 3 56])
        (by kernel_rfl) (by kernel_rfl) (fun _ => RgR.refl _) (fun h k => h.trans k) ?_ (fun _ _ => ⟨fun _ => ((hR.rd.below (Below.dr (Below.refl _ _))).mono (by omega)), (Grow.refl _ _).drew, trivial⟩) ?_
      · (repeat' (first | exact lasts_nil | refine lasts_cons ?_ ?_))
        all_goals (first | exact Lasts.is | exact lasts_e (fun i hi => by (try dsimp only at hi); omega) | exact lasts_r0 (fun i hi => by (try dsimp only at hi); omega) | exact lasts_is (fun i hi => by (try dsimp only at hi); omega) | exact lasts_r (fun i hi => by (try dsimp only at hi); omega) | exact lasts_rr (fun i hi => by (try dsimp only at hi); omega) | exact lasts_rp (fun i hi => by (try dsimp only at hi); omega) | exact lasts_r1 (fun i hi => by (try dsimp only at hi); omega) | exact Lasts.any | exact Lasts.x | exact Lasts.row (fun i hi => by (try dsimp only at hi); omega) | exact Lasts.box (fun i hi => by (try dsimp only at hi); omega) | exact Lasts.ptr (fun i hi => by (try dsimp only at hi); omega))
      show wpInv _ _ _ _ _ _ _ [_, _, _, _, _, _, _, _, _, _] _ _ _
      refine inv_cons 0 (by rfl) (fun wx n_ s_ hn hcl hsi hG hR hd => ?_) (fun v0 => ?_)
      · replace hn : n_ < 10 := hn
        refine inv_want (by rfl) ?_
        exact inv_move (.tmp 7) rfl (post_up (F := Is (fun z_ => z_ = .int .i64 k)) (fun _ => trivial) hG (is_eq rfl))
      simp only [Act.put, List.setIfInBounds_toArray, List.set_cons_zero, List.set_cons_succ, List.nil_append, List.cons_append]
      refine inv_cons 1 (by rfl) (fun wx n_ s_ hn hcl hsi hG hR hd => ?_) (fun v1 => ?_)
      · replace hn : n_ < 10 := hn
        refine inv_want (by rfl) ?_
        have d0 : (Is (fun z_ => z_ = .int .i64 k)) v0 wx := dep_get hd 0 (by rfl)
        obtain rfl := d0
        unfold invAt invUpon; go_simp
        try rw [IntWalk.i64_in _ (by omega)]
        exact post_up (F := Is (IntIn (97) (102))) (fun _ => trivial) hG ⟨_, rfl, by omega, by omega⟩
      simp only [Act.put, List.setIfInBounds_toArray, List.set_cons_zero, List.set_cons_succ, List.nil_append, List.cons_append]
      refine inv_cons 2 (by rfl) (fun wx n_ s_ hn hcl hsi hG hR hd => ?_) (fun v2 => ?_)
      · replace hn : n_ < 10 := hn
        refine inv_want (by rfl) ?_
        have d1 : (Is (IntIn (97) (102))) v1 wx := dep_get hd 1 (by rfl)
        obtain ⟨x_1, rfl, lo_1, hi_1⟩ := d1
        unfold invAt invUpon; go_simp
        exact post_up (F := Is ByV) (fun _ => trivial) hG ⟨_, rfl⟩
      simp only [Act.put, List.setIfInBounds_toArray, List.set_cons_zero, List.set_cons_succ, List.nil_append, List.cons_append]
      refine inv_cons 3 (by rfl) (fun wx n_ s_ hn hcl hsi hG hR hd => ?_) (fun v3 => ?_)
      · replace hn : n_ < 10 := hn
        refine inv_want (by rfl) ?_
        have d2 : (Is ByV) v2 wx := dep_get hd 2 (by rfl)
        obtain ⟨x_2, rfl⟩ := d2
        unfold invAt invUpon; go_simp
        exact post_new (F := IsRow (wo.heap.size) 1 ByV) (fun _ => trivial) KXr hG (below_al _ _) ⟨_, _, _, rfl, by have := hG.grow.size; (try simp only [World.size_alloc, World.size_drew] at this); omega, Bk.new, allL_at rfl ⟨⟨_, rfl⟩, trivial⟩⟩
      simp only [Act.put, List.setIfInBounds_toArray, List.set_cons_zero, List.set_cons_succ, List.nil_append, List.cons_append]
      refine inv_cons 4 (by rfl) (fun wx n_ s_ hn hcl hsi hG hR hd => ?_) (fun v4 => ?_)
      · replace hn : n_ < 10 := hn
        refine inv_want (by rfl) ?_
        have d3 : (IsRow (wo.heap.size) 1 ByV) v3 wx := dep_get hd 3 (by rfl)
        obtain ⟨g_3, t_3, c_3, rfl, hl_3, hb_3, hc_3⟩ := d3
        obtain ⟨yv, hyv, xv, rfl⟩ := hc_3 0 (by omega)
        have hcv := one_string_at xv wx g_3 ((hb_3.cell 0).trans hyv)
        have hsz := strOfNums_size [xv]
        unfold invAt invUpon; go_simp
        exact post_up (F := Is (StrIn Short)) (fun _ => trivial) hG ⟨_, rfl, by unfold Short; rw [hsz]; show (1 : Nat) ≤ 8; decide⟩
      simp only [Act.put, List.setIfInBounds_toArray, List.set_cons_zero, List.set_cons_succ, List.nil_append, List.cons_append]
      refine inv_cons 5 (by rfl) (fun wx n_ s_ hn hcl hsi hG hR hd => ?_) (fun v5 => ?_)
      · replace hn : n_ < 10 := hn
        refine inv_want (by rfl) ?_
        exact inv_move (.tmp 0) rfl (post_up (F := Is (fun z_ => z_ = .pointer (some ⟨b, 0, none⟩))) (fun _ => trivial) hG (is_eq rfl))
      simp only [Act.put, List.setIfInBounds_toArray, List.set_cons_zero, List.set_cons_succ, List.nil_append, List.cons_append]
      refine inv_cons 6 (by rfl) (fun wx n_ s_ hn hcl hsi hG hR hd => ?_) (fun v6 => ?_)
      · replace hn : n_ < 10 := hn
        refine inv_want (by rfl) ?_
        have d5 : (Is (fun z_ => z_ = .pointer (some ⟨b, 0, none⟩))) v5 wx := dep_get hd 5 (by rfl)
        obtain rfl := d5
        unfold invAt invUpon; go_simp
        have hrd := hG.rd trivial
        refine (pick_any _ _ _ _ hrd (by omega) (by omega)).mono ?_
        rintro e w' ⟨x, rfl, lo, hi, r⟩
        exact ⟨_, rfl, post_read (F := Is (IntIn (0) (15))) KXr rfl hG r (by omega) ⟨x, rfl, by omega, by omega⟩⟩
      simp only [Act.put, List.setIfInBounds_toArray, List.set_cons_zero, List.set_cons_succ, List.nil_append, List.cons_append]
      refine inv_cons 7 (by rfl) (fun wx n_ s_ hn hcl hsi hG hR hd => ?_) (fun v7 => ?_)
      · replace hn : n_ < 10 := hn
        refine inv_want (by rfl) ?_
        unfold invAt invUpon; go_simp
        exact post_new (F := (IsE (wo.heap.size))) (fun _ => trivial) KXr hG (below_al _ _) ⟨_, rfl, by have := hG.grow.size; (try simp only [World.size_alloc, World.size_drew] at this); omega, Bk.new⟩
      simp only [Act.put, List.setIfInBounds_toArray, List.set_cons_zero, List.set_cons_succ, List.nil_append, List.cons_append]
      refine inv_cons 8 (by rfl) (fun wx n_ s_ hn hcl hsi hG hR hd => ?_) (fun v8 => ?_)
      · replace hn : n_ < 10 := hn
        refine inv_want (by rfl) ?_
        have d4 : (Is (StrIn Short)) v4 wx := dep_get hd 4 (by rfl)
        obtain ⟨s_4, rfl, q_4⟩ := d4
        have d6 : (Is (IntIn (0) (15))) v6 wx := dep_get hd 6 (by rfl)
        obtain ⟨x_6, rfl, lo_6, hi_6⟩ := d6
        have d7 : ((IsE (wo.heap.size))) v7 wx := dep_get hd 7 (by rfl)
        obtain ⟨g_7, rfl, l_7, b_7⟩ := d7
        unfold invAt invUpon; go_simp
        exact post_up (F := (IsRole0 (wo.heap.size))) (fun _ => trivial) hG ⟨_, _, _, rfl, q_4, l_7, b_7⟩
      simp only [Act.put, List.setIfInBounds_toArray, List.set_cons_zero, List.set_cons_succ, List.nil_append, List.cons_append]
      refine inv_cons 9 (by rfl) (fun wx n_ s_ hn hcl hsi hG hR hd => ?_) (fun v9 => ?_)
      · replace hn : n_ < 10 := hn
        refine inv_want (by rfl) ?_
        unfold invAt invUpon; go_simp
        exact post_new (F := IsBox (wo.heap.size) 3 56) (fun _ => trivial) KXr hG (below_al _ _) ⟨_, _, rfl, by have := hG.grow.size; (try simp only [World.size_alloc, World.size_drew] at this); omega, rfl, Bk.new⟩
      simp only [Act.put, List.setIfInBounds_toArray, List.set_cons_zero, List.set_cons_succ, List.nil_append, List.cons_append]
      refine inv_nil (fun wq nq sq hnq hGq hRq hall => ?_)
      replace hnq : nq ≤ 10 := hnq
      obtain ⟨f0, f1, f2, f3, f4, f5, f6, f7, f8, f9, -⟩ := hall
      replace f8 : ((IsRole0 (wo.heap.size))) v8 wq := f8
      obtain ⟨saa, yaa, gaa, rfl, szaa, laa, baa⟩ := f8
      replace f9 : (IsBox (wo.heap.size) 3 56) v9 wq := f9
      obtain ⟨gk, vsk, rfl, hlk, hsk, hbk⟩ := f9
      have P1 := Grow.reads (w := w) hGq.grow hR (hGq.rd trivial) (fun i hi => .inl hi)
      have zq := hGq.grow.size
      obtain ⟨z0, z1, z2, rfl⟩ := arr3 hsk
      have hnk := bk_ne baa hbk
      have OQ := Lib.hid (OwnRl.grow ho.out hGq.grow (fun i hi => by (try dsimp only at hi); omega))
      have UQ := Lib.hid (show wq.ownsRow wo.heap.size 3 1 (.slice (some ⟨gaa, 0, none⟩) 0 0) 0 [] from own_of_bk baa laa (by unfold maxLen; omega) rfl rfl (fun j hj => by omega))
      have P2 := Reads.set (Reads.set (Reads.set P1 hlt (show w.heap.size ≤ gk by omega) 0 (.string saa)) hlt (show w.heap.size ≤ gk by omega) 1 (.int .i64 yaa)) hlt (show w.heap.size ≤ gk by omega) 2 (.slice (some ⟨gaa, 0, none⟩) 0 0)
      have K2 := ((hbk.same 0 (.string saa)).same 1 (.int .i64 yaa)).same 2 (.slice (some ⟨gaa, 0, none⟩) 0 0)
      have O2 := Lib.hid (((OQ.out.set (show wo.heap.size ≤ gk by omega) 0 (.string saa)).set (show wo.heap.size ≤ gk by omega) 1 (.int .i64 yaa)).set (show wo.heap.size ≤ gk by omega) 2 (.slice (some ⟨gaa, 0, none⟩) 0 0))
      have hne0 : ∀ j, Value.ownBlock (.slice (some ⟨gaa, 0, none⟩) 0 0) = some j → j ≠ gk := fun j hj => by have e := Option.some.inj hj; have e2 : gaa = j := e; omega
      have U2 := Lib.hid (own_setne (own_setne (own_setne UQ.out hne0 0 (.string saa)) hne0 1 (.int .i64 yaa)) hne0 2 (.slice (some ⟨gaa, 0, none⟩) 0 0))
      have HNE := Lib.hid hne0
      have xk0 := hbk.cell
      have fk0 := hbk.free
      have hgk : wo.heap.size ≤ gk := hlk
      clear hne0 baa UQ OQ P1 hGq hRq hbk ho
      go_wp2_with fail
      clear xk0 fk0
      go_loopw [9] (fun i wx => ∃ (j : Nat) (xs : List Int) (ua : Option Addr) (uc : Nat), j ≤ c0 ∧ i = .int .i64 j ∧ xs.length ≤ j ∧ Bk wx gk #[.string saa, .int .i64 yaa, .slice ua xs.length uc] 56 ∧ Hid (wx.ownsRow wo.heap.size 3 1 (.slice ua xs.length uc) xs.length (cellsI xs)) ∧ Hid (∀ j, Value.ownBlock (.slice ua xs.length uc) = some j → j ≠ gk) ∧ Hid (OwnRl wx w.heap.size wo.heap.size v ds) ∧ Reads b M (M + 12 + 25 * (k : Int) + 2 * (j : Int)) w wx) (fun i _ => c0 - (intOf i).toNat)
      case atStart => exact ⟨0, [], _, 0, Nat.zero_le _, rfl, Nat.le_refl _, K2, U2.out, HNE.out, O2.out, P2.mono (by omega)⟩
      case round =>
        clear O2 U2 K2 P2 HNE
        obtain ⟨j, xs, ua, uc, hjc, rfl, hxj, kb, hu, hune, hO, hP⟩ := hrel
        have zx := hP.size
        have yb := kb.lt
        by_cases hjl : j < c0
        · have hjl2 : (j : Int) < (c0 : Int) := by omega
          go_wp2_with fail
          refine (pick_any b 4 _ _ hP.rd (by omega) (by omega)).mono ?_
          rintro e w2 ⟨y1, rfl, lo2, hi2, r2⟩
          have z2 := r2.size
          have O3 := Lib.hid (hO.out.rd r2 hlt)
          have U3 := Lib.hid (own_rdR hu.out r2 hbw)
          have K3 := kb.rdn r2 (by omega)
          have P3 := hP.trans r2
          clear hO hu kb hP r2
          by_cases hy : y1 = 0
          · subst hy
            by_cases hjk : j < k
            · have hjk2 : (j : Int) < (k : Int) := by omega
              have x3 := K3.cell
              have f3 := K3.free
              go_wp2_with (at_builtin; refine Hid.out ?_); refine Lib.hid ?_
              refine wpList_appS (s := .tmp 46) (x := .tmp 48) rfl 36 3 (.int .i64 0) 1 8 rfl Try.underlying36 infoI rfl (by decide) (by decide) wo.heap.size (.slice ua xs.length uc) xs.length (cellsI xs) (by rfl) (own_alloc U3.out _) (.slice (some ⟨w2.heap.size, 0, none⟩) 1 1) 1 [.int .i64 j] (by rfl) (slF_bk (k := 1) (n := 1) (cs := [.int .i64 j]) (bk_atb rfl) rfl (by omega)) (one_int _) (by omega) (by simp only [World.size_alloc]; omega) ?_
              intro v5 w5 own5 g5 hloc5 _
              have k5 := Bk.by (K3.alloc (.cells #[.int .i64 j] 3)) g5 (fun e => hune.out _ e.symm rfl)
              obtain ⟨va, vc, rfl, _, _⟩ := SlF.shape (own_sl own5)
              have hg : ∀ i, Value.ownBlock (.slice ua xs.length uc) = some i → wo.heap.size ≤ i := own_gt U3.out
              have O6 := Lib.hid ((O3.out.al (.cells #[.int .i64 j] 3)).gby g5 hg)
              have P6 := Reads.app g5 (Reads.al P3 (.cells #[.int .i64 j] 3)) hlt (fun i hi => by have := hg i hi; omega)
              have N6 : ∀ i, Value.ownBlock (.slice va (xs.length + 1) vc) = some i → i ≠ gk := fun i hi => by
                rcases hloc5 with e | e
                · rw [e] at hi; exact hune.out i hi
                · rw [e] at hi; have ky := K3.lt; simp at hi; omega
              have U6 := Lib.hid (own_moreR own5)
              have N6h := Lib.hid N6
              have q5 := k5.cell
              have f5 := k5.free
              clear own5 g5 hloc5 hg N6 x3 f3
              go_wp2_with fail
              go_roundw
              case rel =>
                have e : (.slice va (xs ++ [(j : Int)]).length vc : Value) = .slice va (xs.length + 1) vc := by simp
                refine ⟨j + 1, xs ++ [(j : Int)], va, vc, by omega, by go_num, by simp; omega, ?_, ?_, ?_, ?_, ?_⟩
                · rw [List.length_append]; exact k5.same 2 _
                · refine Lib.hid ?_
                  rw [e]
                  exact own_setne U6.out N6h.out _ _
                · rw [e]
                  exact N6h
                · exact Lib.hid (O6.out.set (by omega) _ _)
                · exact (Reads.set P6 hlt (by omega) _ _).mono (by omega)
              case measure => simp [intOf]; omega
            · have hjk2 : decide ((j : Int) < (k : Int)) = false := by simp; omega
              have hjk3 : decide (j < k) = false := by simp; omega
              go_wp2_with fail
              refine (pick_any b 3 _ _ P3.rd (by omega) (by omega)).mono ?_
              rintro e w3 ⟨y2, rfl, lo3, hi3, r3⟩
              have z3 := r3.size
              have O4 := Lib.hid (O3.out.rd r3 hlt)
              have U4 := Lib.hid (own_rdR U3.out r3 hbw)
              have K4 := K3.rdn r3 (by omega)
              have P4 := P3.trans r3
              clear O3 U3 K3 P3 r3
              by_cases hy2 : y2 = 0
              · subst hy2
                have x3 := K4.cell
                have f3 := K4.free
                go_wp2_with (at_builtin; refine Hid.out ?_); refine Lib.hid ?_
                refine wpList_appS (s := .tmp 46) (x := .tmp 48) rfl 36 3 (.int .i64 0) 1 8 rfl Try.underlying36 infoI rfl (by decide) (by decide) wo.heap.size (.slice ua xs.length uc) xs.length (cellsI xs) (by rfl) (own_alloc U4.out _) (.slice (some ⟨w3.heap.size, 0, none⟩) 1 1) 1 [.int .i64 j] (by rfl) (slF_bk (k := 1) (n := 1) (cs := [.int .i64 j]) (bk_atb rfl) rfl (by omega)) (one_int _) (by omega) (by simp only [World.size_alloc]; omega) ?_
                intro v5 w5 own5 g5 hloc5 _
                have k5 := Bk.by (K4.alloc (.cells #[.int .i64 j] 3)) g5 (fun e => hune.out _ e.symm rfl)
                obtain ⟨va, vc, rfl, _, _⟩ := SlF.shape (own_sl own5)
                have hg : ∀ i, Value.ownBlock (.slice ua xs.length uc) = some i → wo.heap.size ≤ i := own_gt U4.out
                have O6 := Lib.hid ((O4.out.al (.cells #[.int .i64 j] 3)).gby g5 hg)
                have P6 := Reads.app g5 (Reads.al P4 (.cells #[.int .i64 j] 3)) hlt (fun i hi => by have := hg i hi; omega)
                have N6 : ∀ i, Value.ownBlock (.slice va (xs.length + 1) vc) = some i → i ≠ gk := fun i hi => by
                  rcases hloc5 with e | e
                  · rw [e] at hi; exact hune.out i hi
                  · rw [e] at hi; have ky := K4.lt; simp at hi; omega
                have U6 := Lib.hid (own_moreR own5)
                have N6h := Lib.hid N6
                have q5 := k5.cell
                have f5 := k5.free
                clear own5 g5 hloc5 hg N6 x3 f3
                go_wp2_with fail
                go_roundw
                case rel =>
                  have e : (.slice va (xs ++ [(j : Int)]).length vc : Value) = .slice va (xs.length + 1) vc := by simp
                  refine ⟨j + 1, xs ++ [(j : Int)], va, vc, by omega, by go_num, by simp; omega, ?_, ?_, ?_, ?_, ?_⟩
                  · rw [List.length_append]; exact k5.same 2 _
                  · refine Lib.hid ?_
                    rw [e]
                    exact own_setne U6.out N6h.out _ _
                  · rw [e]
                    exact N6h
                  · exact Lib.hid (O6.out.set (by omega) _ _)
                  · exact (Reads.set P6 hlt (by omega) _ _).mono (by omega)
                case measure => simp [intOf]; omega
              · have hy3 : (y2 == 0) = false := by simp; omega
                go_wp2_with fail
                go_roundw
                case rel => exact ⟨j + 1, xs, ua, uc, by omega, by go_num, by omega, K4, U4, hune, O4, P4.mono (by omega)⟩
                case measure => simp [intOf]; omega
          · have hy3 : (y1 == 0) = false := by simp; omega
            go_wp2_with fail
            go_roundw
            case rel => exact ⟨j + 1, xs, ua, uc, by omega, by go_num, by omega, K3, U3, hune, O3, P3.mono (by omega)⟩
            case measure => simp [intOf]; omega
        · obtain rfl : j = c0 := by omega
          have hjf : ¬ ((j : Nat) : Int) < (j : Int) := by omega
          obtain ⟨us, hus, hown, hvS, hin, hnx⟩ := hO.out
          have HI := Lib.hid hin
          have HV := Lib.hid hvS
          have HOW := Lib.hid hown
          have HNX := Lib.hid hnx
          have HUS := Lib.hid hus
          have xb := kb.cell
          have hlen6 : ds.length + 1 ≤ 4194304 := by omega
          clear hin hvS hown hO hnx hus
          go_wp2_with (at_builtin; refine Hid.out ?_); refine Lib.hid ?_
          refine wpList_appS (s := .tmp 51) (x := .tmp 53) rfl 48 56 (.agg #[.string ByteArray.empty, .int .i64 0, .slice none 0 0]) 3 48 rfl Try.underlying48 infoRlDr rfl (by decide) (by decide) w.heap.size v ds.length (cellsRl us ds) (by rfl) (own_alloc HOW.out _) (.slice (some ⟨wr.heap.size, 0, none⟩) 1 1) 1 [.string saa, .int .i64 yaa, .slice ua xs.length uc] (by rfl) (slF_bk (k := 3) (n := 1) (cs := [.string saa, .int .i64 yaa, .slice ua xs.length uc]) (bk_atb rfl) rfl (by omega)) (by intro u hu; simp at hu; rcases hu with rfl | rfl | rfl <;> rfl) (by omega) (by have := hP.size; simp; omega) ?_
          intro v3 w5 own3 g3 hloc3 hnn3
          have O3 := Lib.hid (OwnRl.push (w := wr.alloc (.cells #[.string saa, .int .i64 yaa, .slice ua xs.length uc] 56)) (lo := w.heap.size) (S := wo.heap.size) (ds := ds) (us := us) (u := .slice ua xs.length uc) (d := ⟨saa, yaa, xs⟩) HUS.out HV.out
            (fun i h h2 => ⟨own_alloc (HI.out i h h2).1 _, (HI.out i h h2).2⟩) HNX.out ⟨szaa, by dsimp only; omega⟩
            (own_lo (own_alloc hu.out _) (by omega)) (own_gt hu.out) g3 (by simp; omega) (by simpa using hloc3) own3)
          have P3 := Reads.app g3 (Reads.al hP (.cells #[.string saa, .int .i64 yaa, .slice ua xs.length uc] 56)) hlt (fun j hj => (own_gt HOW.out j hj))
          have NN := Lib.hid (hnn3 hvn.out)
          clear own3 g3 hloc3 hnn3 xb hu HI HV HOW hP HNX HUS
          go_wp2_with fail
          go_roundw
          case rel => exact ⟨k + 1, ds ++ [⟨saa, yaa, xs⟩], by omega, by go_num, by simp [HLEN.out], NN, O3, P3.mono (by omega)⟩
          case measure => simp only [intOf]; omega
    · obtain rfl : k = c0 := by omega
      have hkf : ¬ ((k : Nat) : Int) < (k : Int) := by omega
      go_wp2_with fail
      refine (odd_any b n _ _ hR.rd (by omega) (by omega) (by omega)).mono ?_
      rintro e w2 ⟨y, rfl, r2⟩
      have z2 := r2.size
      have ho2 := Lib.hid (OwnRl.up (OwnRl.rd ho.out r2 hlt) z2)
      have P2 := Reads.mono (M2 := M + 150) (Reads.trans hR r2) (by omega)
      clear ho hR r2
      cases y
      · go_wp2_with fail
        go_ret
        exact ⟨_, ds, rfl, hvn.out, by omega, ho2.out, P2.mono (by omega)⟩
      · have hbw : b < w2.heap.size := by omega
        go_wp2_with fail
        have KXr : KeepX (b) (fun _ => True) ∧ KeepX (b) (fun _ => True) := ⟨keepX_true _, keepX_true _⟩
        refine wp_region_invT 20 (G := fun s n w_ => RgG (b) (fun i => i = b) (fun _ => True) (True) w2 ((M + 150)) n w_) (R := RgR (fun i => i = b) (fun _ => True))
          (Fs := [Is (fun z_ => z_ = v), (IsRole (w2.heap.size)), IsRow (w2.heap.size) 2 (IntIn (-1) (16)), Is (fun z_ => z_ = .pointer (some ⟨b, 0, none⟩)), Is (IntIn (0) (1)), IsPtr (w2.heap.size) (IntIn (-1) (16)), Is (IntIn (-1) (16)), (IsRole (w2.heap.size)), Is (fun z_ => z_ = .int .i64 k), Is (IntIn (1) (6)), (IsInts (w2.heap.size) 1), (IsRole (w2.heap.size)), (IsInts (w2.heap.size) 2), (IsRole (w2.heap.size)), (IsRoleRow (w2.heap.size)), Is (fun z_ => z_ = .pointer (some ⟨b, 0, none⟩)), Is (IntIn (0) (3)), (IsRolePtr (w2.heap.size)), (IsRole (w2.heap.size)), (IsRole1 (w2.heap.size))])
          (by kernel_rfl) (by kernel_rfl) (fun _ => RgR.refl _) (fun h k => h.trans k) ?_ (fun _ _ => ⟨fun _ => ((P2.rd.below (Below.dr (Below.refl _ _))).mono (by omega)), (Grow.refl _ _).drew, trivial⟩) ?_
        · (repeat' (first | exact lasts_nil | refine lasts_cons ?_ ?_))
          all_goals (first | exact Lasts.is | exact lasts_e (fun i hi => by (try dsimp only at hi); omega) | exact lasts_r0 (fun i hi => by (try dsimp only at hi); omega) | exact lasts_is (fun i hi => by (try dsimp only at hi); omega) | exact lasts_r (fun i hi => by (try dsimp only at hi); omega) | exact lasts_rr (fun i hi => by (try dsimp only at hi); omega) | exact lasts_rp (fun i hi => by (try dsimp only at hi); omega) | exact lasts_r1 (fun i hi => by (try dsimp only at hi); omega) | exact Lasts.any | exact Lasts.x | exact Lasts.row (fun i hi => by (try dsimp only at hi); omega) | exact Lasts.box (fun i hi => by (try dsimp only at hi); omega) | exact Lasts.ptr (fun i hi => by (try dsimp only at hi); omega))
        show wpInv _ _ _ _ _ _ _ [_, _, _, _, _, _, _, _, _, _, _, _, _, _, _, _, _, _, _, _] _ _ _
        refine inv_cons 0 (by rfl) (fun wx n_ s_ hn hcl hsi hG hR hd => ?_) (fun v0 => ?_)
        · replace hn : n_ < 20 := hn
          refine inv_want (by rfl) ?_
          exact inv_move (.tmp 5) rfl (post_up (F := Is (fun z_ => z_ = v)) (fun _ => trivial) hG (is_eq rfl))
        simp only [Act.put, List.setIfInBounds_toArray, List.set_cons_zero, List.set_cons_succ, List.nil_append, List.cons_append]
        refine inv_cons 1 (by rfl) (fun wx n_ s_ hn hcl hsi hG hR hd => ?_) (fun v1 => ?_)
        · replace hn : n_ < 20 := hn
          refine inv_want (by rfl) ?_
          unfold invAt invUpon; go_simp
          exact post_up (F := (IsRole (w2.heap.size))) (fun _ => trivial) hG ⟨_, _, _, [], rfl, by unfold Short; decide, Nat.zero_le _, World.ownsRow_nil _ _ _ _⟩
        simp only [Act.put, List.setIfInBounds_toArray, List.set_cons_zero, List.set_cons_succ, List.nil_append, List.cons_append]
        refine inv_cons 2 (by rfl) (fun wx n_ s_ hn hcl hsi hG hR hd => ?_) (fun v2 => ?_)
        · replace hn : n_ < 20 := hn
          refine inv_want (by rfl) ?_
          unfold invAt invUpon; go_simp
          exact post_new (F := IsRow (w2.heap.size) 2 (IntIn (-1) (16))) (fun _ => trivial) KXr hG (below_al _ _) ⟨_, _, _, rfl, by have := hG.grow.size; (try simp only [World.size_alloc, World.size_drew] at this); omega, Bk.new, allL_at rfl ⟨⟨_, rfl, by omega, by omega⟩, ⟨_, rfl, by omega, by omega⟩, trivial⟩⟩
        simp only [Act.put, List.setIfInBounds_toArray, List.set_cons_zero, List.set_cons_succ, List.nil_append, List.cons_append]
        refine inv_cons 3 (by rfl) (fun wx n_ s_ hn hcl hsi hG hR hd => ?_) (fun v3 => ?_)
        · replace hn : n_ < 20 := hn
          refine inv_want (by rfl) ?_
          exact inv_move (.tmp 0) rfl (post_up (F := Is (fun z_ => z_ = .pointer (some ⟨b, 0, none⟩))) (fun _ => trivial) hG (is_eq rfl))
        simp only [Act.put, List.setIfInBounds_toArray, List.set_cons_zero, List.set_cons_succ, List.nil_append, List.cons_append]
        refine inv_cons 4 (by rfl) (fun wx n_ s_ hn hcl hsi hG hR hd => ?_) (fun v4 => ?_)
        · replace hn : n_ < 20 := hn
          refine inv_want (by rfl) ?_
          have d3 : (Is (fun z_ => z_ = .pointer (some ⟨b, 0, none⟩))) v3 wx := dep_get hd 3 (by rfl)
          obtain rfl := d3
          unfold invAt invUpon; go_simp
          have hrd := hG.rd trivial
          refine (pick_any _ _ _ _ hrd (by omega) (by omega)).mono ?_
          rintro e w' ⟨x, rfl, lo, hi, r⟩
          exact ⟨_, rfl, post_read (F := Is (IntIn (0) (1))) KXr rfl hG r (by omega) ⟨x, rfl, by omega, by omega⟩⟩
        simp only [Act.put, List.setIfInBounds_toArray, List.set_cons_zero, List.set_cons_succ, List.nil_append, List.cons_append]
        refine inv_cons 5 (by rfl) (fun wx n_ s_ hn hcl hsi hG hR hd => ?_) (fun v5 => ?_)
        · replace hn : n_ < 20 := hn
          refine inv_want (by rfl) ?_
          have d2 : (IsRow (w2.heap.size) 2 (IntIn (-1) (16))) v2 wx := dep_get hd 2 (by rfl)
          obtain ⟨g_2, t_2, c_2, rfl, hl_2, hb_2, hc_2⟩ := d2
          have d4 : (Is (IntIn (0) (1))) v4 wx := dep_get hd 4 (by rfl)
          obtain ⟨x_4, rfl, lo_4, hi_4⟩ := d4
          obtain ⟨m, hm⟩ : ∃ m : Nat, x_4 = m := ⟨x_4.toNat, by omega⟩
          subst hm
          have hm6 : (m : Int) < 2 := by omega
          obtain ⟨y, hy, he⟩ := hc_2 m (by omega)
          unfold invAt invUpon; go_simp
          exact post_up (F := IsPtr (w2.heap.size) (IntIn (-1) (16))) (fun _ => trivial) hG ⟨_, _, y, rfl, hl_2, ((hb_2).cell m).trans hy, he⟩
        simp only [Act.put, List.setIfInBounds_toArray, List.set_cons_zero, List.set_cons_succ, List.nil_append, List.cons_append]
        refine inv_cons 6 (by rfl) (fun wx n_ s_ hn hcl hsi hG hR hd => ?_) (fun v6 => ?_)
        · replace hn : n_ < 20 := hn
          refine inv_want (by rfl) ?_
          have d5 : (IsPtr (w2.heap.size) (IntIn (-1) (16))) v5 wx := dep_get hd 5 (by rfl)
          obtain ⟨g_5, o_5, y_5, rfl, hl_5, hc_5, he_5⟩ := d5; obtain ⟨x_5, rfl, lo_5, hi_5⟩ := he_5
          unfold invAt invUpon; go_simp
          exact post_up (F := Is (IntIn (-1) (16))) (fun _ => trivial) hG ⟨_, rfl, by omega, by omega⟩
        simp only [Act.put, List.setIfInBounds_toArray, List.set_cons_zero, List.set_cons_succ, List.nil_append, List.cons_append]
        refine inv_cons 7 (by rfl) (fun wx n_ s_ hn hcl hsi hG hR hd => ?_) (fun v7 => ?_)
        · replace hn : n_ < 20 := hn
          refine inv_want (by rfl) ?_
          have d6 : (Is (IntIn (-1) (16))) v6 wx := dep_get hd 6 (by rfl)
          obtain ⟨x_6, rfl, lo_6, hi_6⟩ := d6
          unfold invAt invUpon; go_simp
          exact post_up (F := (IsRole (w2.heap.size))) (fun _ => trivial) hG ⟨_, _, _, [], rfl, by unfold Short; decide, Nat.zero_le _, World.ownsRow_nil _ _ _ _⟩
        simp only [Act.put, List.setIfInBounds_toArray, List.set_cons_zero, List.set_cons_succ, List.nil_append, List.cons_append]
        refine inv_cons 8 (by rfl) (fun wx n_ s_ hn hcl hsi hG hR hd => ?_) (fun v8 => ?_)
        · replace hn : n_ < 20 := hn
          refine inv_want (by rfl) ?_
          exact inv_move (.tmp 6) rfl (post_up (F := Is (fun z_ => z_ = .int .i64 k)) (fun _ => trivial) hG (is_eq rfl))
        simp only [Act.put, List.setIfInBounds_toArray, List.set_cons_zero, List.set_cons_succ, List.nil_append, List.cons_append]
        refine inv_cons 9 (by rfl) (fun wx n_ s_ hn hcl hsi hG hR hd => ?_) (fun v9 => ?_)
        · replace hn : n_ < 20 := hn
          refine inv_want (by rfl) ?_
          have d8 : (Is (fun z_ => z_ = .int .i64 k)) v8 wx := dep_get hd 8 (by rfl)
          obtain rfl := d8
          unfold invAt invUpon; go_simp
          try rw [IntWalk.i64_in _ (by omega)]
          exact post_up (F := Is (IntIn (1) (6))) (fun _ => trivial) hG ⟨_, rfl, by omega, by omega⟩
        simp only [Act.put, List.setIfInBounds_toArray, List.set_cons_zero, List.set_cons_succ, List.nil_append, List.cons_append]
        refine inv_cons 10 (by rfl) (fun wx n_ s_ hn hcl hsi hG hR hd => ?_) (fun v10 => ?_)
        · replace hn : n_ < 20 := hn
          refine inv_want (by rfl) ?_
          have d9 : (Is (IntIn (1) (6))) v9 wx := dep_get hd 9 (by rfl)
          obtain ⟨x_9, rfl, lo_9, hi_9⟩ := d9
          unfold invAt invUpon; go_simp
          exact post_new (F := (IsInts (w2.heap.size) 1)) (fun _ => trivial) KXr hG (below_al _ _) ⟨_, [x_9], rfl, by have := hG.grow.size; (try simp only [World.size_alloc, World.size_drew] at this); omega, rfl, own_of_bk Bk.new (by have := hG.grow.size; (try simp only [World.size_alloc, World.size_drew] at this); omega) (by unfold maxLen; omega) rfl rfl (fun j hj => by simp [cellsI, encI])⟩
        simp only [Act.put, List.setIfInBounds_toArray, List.set_cons_zero, List.set_cons_succ, List.nil_append, List.cons_append]
        refine inv_cons 11 (by rfl) (fun wx n_ s_ hn hcl hsi hG hR hd => ?_) (fun v11 => ?_)
        · replace hn : n_ < 20 := hn
          refine inv_want (by rfl) ?_
          have d10 : ((IsInts (w2.heap.size) 1)) v10 wx := dep_get hd 10 (by rfl)
          obtain ⟨g_10, xs_10, rfl, l_10, n_10, ow_10⟩ := d10
          unfold invAt invUpon; go_simp
          exact post_up (F := (IsRole (w2.heap.size))) (fun _ => trivial) hG ⟨_, _, _, xs_10, rfl, by unfold Short; decide, by omega, n_10.symm ▸ ow_10⟩
        simp only [Act.put, List.setIfInBounds_toArray, List.set_cons_zero, List.set_cons_succ, List.nil_append, List.cons_append]
        refine inv_cons 12 (by rfl) (fun wx n_ s_ hn hcl hsi hG hR hd => ?_) (fun v12 => ?_)
        · replace hn : n_ < 20 := hn
          refine inv_want (by rfl) ?_
          unfold invAt invUpon; go_simp
          exact post_new (F := (IsInts (w2.heap.size) 2)) (fun _ => trivial) KXr hG (below_al _ _) ⟨_, [0, 0], rfl, by have := hG.grow.size; (try simp only [World.size_alloc, World.size_drew] at this); omega, rfl, own_of_bk Bk.new (by have := hG.grow.size; (try simp only [World.size_alloc, World.size_drew] at this); omega) (by unfold maxLen; omega) rfl rfl (fun j hj => by simp [cellsI, encI])⟩
        simp only [Act.put, List.setIfInBounds_toArray, List.set_cons_zero, List.set_cons_succ, List.nil_append, List.cons_append]
        refine inv_cons 13 (by rfl) (fun wx n_ s_ hn hcl hsi hG hR hd => ?_) (fun v13 => ?_)
        · replace hn : n_ < 20 := hn
          refine inv_want (by rfl) ?_
          have d12 : ((IsInts (w2.heap.size) 2)) v12 wx := dep_get hd 12 (by rfl)
          obtain ⟨g_12, xs_12, rfl, l_12, n_12, ow_12⟩ := d12
          unfold invAt invUpon; go_simp
          exact post_up (F := (IsRole (w2.heap.size))) (fun _ => trivial) hG ⟨_, _, _, xs_12, rfl, by unfold Short; decide, by omega, n_12.symm ▸ ow_12⟩
        simp only [Act.put, List.setIfInBounds_toArray, List.set_cons_zero, List.set_cons_succ, List.nil_append, List.cons_append]
        refine inv_cons 14 (by rfl) (fun wx n_ s_ hn hcl hsi hG hR hd => ?_) (fun v14 => ?_)
        · replace hn : n_ < 20 := hn
          refine inv_want (by rfl) ?_
          have d1 : ((IsRole (w2.heap.size))) v1 wx := dep_get hd 1 (by rfl)
          obtain ⟨s_1, y_1, u_1, xs_1, rfl, sz_1, ln_1, ow_1⟩ := d1
          have d7 : ((IsRole (w2.heap.size))) v7 wx := dep_get hd 7 (by rfl)
          obtain ⟨s_7, y_7, u_7, xs_7, rfl, sz_7, ln_7, ow_7⟩ := d7
          have d11 : ((IsRole (w2.heap.size))) v11 wx := dep_get hd 11 (by rfl)
          obtain ⟨s_11, y_11, u_11, xs_11, rfl, sz_11, ln_11, ow_11⟩ := d11
          have d13 : ((IsRole (w2.heap.size))) v13 wx := dep_get hd 13 (by rfl)
          obtain ⟨s_13, y_13, u_13, xs_13, rfl, sz_13, ln_13, ow_13⟩ := d13
          unfold invAt invUpon; go_simp
          refine post_new (F := (IsRoleRow (w2.heap.size))) (fun _ => trivial) KXr hG (below_al _ _) ⟨_, _, rfl, by have := hG.grow.size; (try simp only [World.size_alloc, World.size_drew] at this); omega, Bk.new, fun i hi => ?_⟩
          rcases (show i = 0 ∨ i = 1 ∨ i = 2 ∨ i = 3 by omega) with rfl | rfl | rfl | rfl
          · exact ⟨_, _, _, xs_1, rfl, rfl, rfl, sz_1, ln_1, own_alloc ow_1 _⟩
          · exact ⟨_, _, _, xs_7, rfl, rfl, rfl, sz_7, ln_7, own_alloc ow_7 _⟩
          · exact ⟨_, _, _, xs_11, rfl, rfl, rfl, sz_11, ln_11, own_alloc ow_11 _⟩
          · exact ⟨_, _, _, xs_13, rfl, rfl, rfl, sz_13, ln_13, own_alloc ow_13 _⟩
        simp only [Act.put, List.setIfInBounds_toArray, List.set_cons_zero, List.set_cons_succ, List.nil_append, List.cons_append]
        refine inv_cons 15 (by rfl) (fun wx n_ s_ hn hcl hsi hG hR hd => ?_) (fun v15 => ?_)
        · replace hn : n_ < 20 := hn
          refine inv_want (by rfl) ?_
          exact inv_move (.tmp 0) rfl (post_up (F := Is (fun z_ => z_ = .pointer (some ⟨b, 0, none⟩))) (fun _ => trivial) hG (is_eq rfl))
        simp only [Act.put, List.setIfInBounds_toArray, List.set_cons_zero, List.set_cons_succ, List.nil_append, List.cons_append]
        refine inv_cons 16 (by rfl) (fun wx n_ s_ hn hcl hsi hG hR hd => ?_) (fun v16 => ?_)
        · replace hn : n_ < 20 := hn
          refine inv_want (by rfl) ?_
          have d15 : (Is (fun z_ => z_ = .pointer (some ⟨b, 0, none⟩))) v15 wx := dep_get hd 15 (by rfl)
          obtain rfl := d15
          unfold invAt invUpon; go_simp
          have hrd := hG.rd trivial
          refine (pick_any _ _ _ _ hrd (by omega) (by omega)).mono ?_
          rintro e w' ⟨x, rfl, lo, hi, r⟩
          exact ⟨_, rfl, post_read (F := Is (IntIn (0) (3))) KXr rfl hG r (by omega) ⟨x, rfl, by omega, by omega⟩⟩
        simp only [Act.put, List.setIfInBounds_toArray, List.set_cons_zero, List.set_cons_succ, List.nil_append, List.cons_append]
        refine inv_cons 17 (by rfl) (fun wx n_ s_ hn hcl hsi hG hR hd => ?_) (fun v17 => ?_)
        · replace hn : n_ < 20 := hn
          refine inv_want (by rfl) ?_
          have d14 : ((IsRoleRow (w2.heap.size))) v14 wx := dep_get hd 14 (by rfl)
          obtain ⟨g_14, cs_14, rfl, l_14, b_14, c_14⟩ := d14
          have d16 : (Is (IntIn (0) (3))) v16 wx := dep_get hd 16 (by rfl)
          obtain ⟨x_16, rfl, lo_16, hi_16⟩ := d16
          obtain ⟨m, hm⟩ : ∃ m : Nat, x_16 = m := ⟨x_16.toNat, by omega⟩
          subst hm
          have hm6 : (m : Int) < 4 := by omega
          obtain ⟨s, y, u, xs, q0, q1, q2, q3, q4, q5⟩ := c_14 m (by omega)
          unfold invAt invUpon; go_simp
          exact post_up (F := (IsRolePtr (w2.heap.size))) (fun _ => trivial) hG ⟨_, _, s, y, u, xs, rfl, l_14, (b_14.cell _).trans q0, (b_14.cell _).trans q1, (b_14.cell _).trans q2, q3, q4, q5⟩
        simp only [Act.put, List.setIfInBounds_toArray, List.set_cons_zero, List.set_cons_succ, List.nil_append, List.cons_append]
        refine inv_cons 18 (by rfl) (fun wx n_ s_ hn hcl hsi hG hR hd => ?_) (fun v18 => ?_)
        · replace hn : n_ < 20 := hn
          refine inv_want (by rfl) ?_
          have d17 : ((IsRolePtr (w2.heap.size))) v17 wx := dep_get hd 17 (by rfl)
          obtain ⟨g_17, o_17, s_17, y_17, u_17, xs_17, rfl, l_17, ca_17, cb_17, cc_17, sz_17, ln_17, ow_17⟩ := d17
          unfold invAt invUpon; go_simp
          exact post_up (F := (IsRole (w2.heap.size))) (fun _ => trivial) hG ⟨_, _, _, _, rfl, sz_17, ln_17, ow_17⟩
        simp only [Act.put, List.setIfInBounds_toArray, List.set_cons_zero, List.set_cons_succ, List.nil_append, List.cons_append]
        refine inv_cons 19 (by rfl) (fun wx n_ s_ hn hcl hsi hG hR hd => ?_) (fun v19 => ?_)
        · replace hn : n_ < 20 := hn
          refine inv_want (by rfl) ?_
          have d18 : ((IsRole (w2.heap.size))) v18 wx := dep_get hd 18 (by rfl)
          obtain ⟨s_18, y_18, u_18, xs_18, rfl, sz_18, ln_18, ow_18⟩ := d18
          unfold invAt invUpon; go_simp
          exact post_new (F := (IsRole1 (w2.heap.size))) (fun _ => trivial) KXr hG (below_al _ _) ⟨_, _, _, _, _, rfl, by have := hG.grow.size; (try simp only [World.size_alloc, World.size_drew] at this); omega, Bk.new, sz_18, ln_18, own_alloc ow_18 _⟩
        simp only [Act.put, List.setIfInBounds_toArray, List.set_cons_zero, List.set_cons_succ, List.nil_append, List.cons_append]
        refine inv_nil (fun wq nq sq hnq hGq hRq hall => ?_)
        replace hnq : nq ≤ 20 := hnq
        obtain ⟨f0, f1, f2, f3, f4, f5, f6, f7, f8, f9, f10, f11, f12, f13, f14, f15, f16, f17, f18, f19, -⟩ := hall
        replace f0 : (Is (fun z_ => z_ = v)) v0 wq := f0
        obtain rfl : v0 = v := f0
        replace f19 : ((IsRole1 (w2.heap.size))) v19 wq := f19
        obtain ⟨gx, sx, yx, ux, xsx, rfl, lx, bx, szx, lnx, owx⟩ := f19
        have P6 := Grow.reads (w := w) hGq.grow P2 (hGq.rd trivial) (fun i hi => .inl hi)
        have zq := hGq.grow.size
        have OQ := Lib.hid (OwnRl.grow ho2.out hGq.grow (fun i hi => by (try dsimp only at hi); omega))
        obtain ⟨us, hus, hown, hvS, hin, hnx⟩ := OQ.out
        have HI := Lib.hid hin
        have HV := Lib.hid hvS
        have HOW := Lib.hid hown
        have HNX := Lib.hid hnx
        have HUS := Lib.hid hus
        have HOX := Lib.hid owx
        have KX := Lib.hid bx
        have hlen6 : ds.length + 1 ≤ 4194304 := by omega
        have zw2 := P2.size
        have hone : ux.oneCell' = true := by
          obtain ⟨ux1, ux2, e, _, _⟩ := SlF.shape (own_sl owx)
          rw [e]; rfl
        have HONE := Lib.hid hone
        clear hin hvS hown ho2 OQ hnx hus owx bx hGq hRq hone

        (try simp only [List.drop_succ_cons, List.drop_zero])
        refine wpList_appS (s := .tmp 58) (x := .tmp 77) rfl 48 56 (.agg #[.string ByteArray.empty, .int .i64 0, .slice none 0 0]) 3 48 rfl Try.underlying48 infoRlDr rfl (by decide) (by decide) w.heap.size v0 ds.length (cellsRl us ds) (by rfl) HOW.out (.slice (some ⟨gx, 0, none⟩) 1 1) 1 [.string sx, .int .i64 yx, ux] (by rfl) (slF_bk (k := 3) (n := 1) (cs := [.string sx, .int .i64 yx, ux]) KX.out rfl (by omega)) (by intro u hu; simp at hu; rcases hu with rfl | rfl | rfl; rfl; rfl; exact HONE.out) (by omega) (by omega) ?_
        intro v3 w5 own3 g3 hloc3 hnn3
        have O3 := Lib.hid (OwnRl.push (lo := w.heap.size) (S := w2.heap.size) (ds := ds) (us := us) (u := ux) (d := ⟨sx, yx, xsx⟩) HUS.out HV.out HI.out HNX.out ⟨szx, lnx⟩ (own_lo HOX.out (by omega)) (own_gt HOX.out) g3 zq hloc3 own3)
        have P7 := Reads.app g3 P6 hlt (fun j hj => (own_gt HOW.out j hj))
        have NN := Lib.hid (hnn3 hvn.out)
        clear own3 g3 hloc3 hnn3 HI HV HOW HNX HUS P6 P2
        go_wp2_with fail
        go_ret
        exact ⟨v3, ds ++ [⟨sx, yx, xsx⟩], rfl, NN.out, by simp; omega, O3.out, P7.mono (by omega)⟩
end Go.Proofs.Ytlcjkehpdlgdoaa
