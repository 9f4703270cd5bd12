/-
  Tuples are drawn. Condition: the reader is whole.
-/
import Derived.Test.YtgfcikckomhbeaaDoorTuv
import Derived.Test.YtgfcikckomhbeaaDoorRg
set_option linter.unusedSimpArgs false
set_option linter.unusedVariables false
namespace Go.Proofs.YtgfcikckomhbeaaDoor
open Go.RowKit
/-- A drawn tuple is small. -/
structure TuBd (d : Tup) : Prop where
  a0 : -1 ≤ d.f0
  a1 : d.f0 ≤ 7
  b0 : -1 ≤ d.f2
  b1 : d.f2 ≤ 7
  s1 : d.f1.size ≤ 8
  s3 : d.f3.size ≤ 8
/-- A tuple is drawn. -/
def TuS (b : Nat) (M : Int) (w : World) (e : Ending) (w' : World) : Prop :=
  ∃ d : Tup, e = .returned (.agg #[.int .i64 d.f0, .string d.f1, .int .i64 d.f2, .string d.f3]) ∧ TuBd d ∧ Reads b M (M + 20) w w'
def Short (s : ByteArray) : Prop := s.size ≤ 8
def TuV (v : Value) : Prop := ∃ (x y : Int) (s : ByteArray), v = .agg #[.int .i64 x, .string s, .int .i64 y, .string ⟨#[]⟩] ∧ 0 ≤ x ∧ x ≤ 3 ∧ 0 ≤ y ∧ y ≤ 3 ∧ Short s
theorem names_at {w : World} {g : Nat} {t : TypeId} (h : Bk w g #[.string ⟨#[97]⟩, .string ⟨#[98]⟩, .string ⟨#[111, 119, 110, 101, 114]⟩] t) (m : Nat) (hm : m < 3) : ∃ s : ByteArray, w.cell? ⟨g, m, none⟩ = some (.string s) ∧ Short s := by
  rcases (show m = 0 ∨ m = 1 ∨ m = 2 by omega) with rfl | rfl | rfl
  · exact ⟨_, (h.cell _).trans rfl, by unfold Short; decide⟩
  · exact ⟨_, (h.cell _).trans rfl, by unfold Short; decide⟩
  · exact ⟨_, (h.cell _).trans rfl, by unfold Short; decide⟩
set_option maxRecDepth 100000 in
set_option maxHeartbeats 6400000 in
theorem l20Tuple_any (b : Nat) (n M : Int) (w : World) (h : Rd w b M) (hM : M ≤ 1099511627776 - 40) (hn : 0 ≤ n) (hn2 : n ≤ 1099511627776) :
    Calls Tryd.prog 21 #[.pointer (some ⟨b, 0, none⟩), .int .i64 n] w (TuS b M w) := by
  have hlt := h.lt
  have P0 := Reads.al (Reads.al (Reads.refl h) (.cells #[.int .i64 0, .string ⟨#[]⟩, .int .i64 0, .string ⟨#[]⟩] 26)) (.cells #[.string ⟨#[97]⟩, .string ⟨#[98]⟩, .string ⟨#[111, 119, 110, 101, 114]⟩] 9)
  have KC0 := Bk.alloc (Bk.new (w := w) (vs := #[.int .i64 0, .string ⟨#[]⟩, .int .i64 0, .string ⟨#[]⟩]) (t := 26)) (.cells #[.string ⟨#[97]⟩, .string ⟨#[98]⟩, .string ⟨#[111, 119, 110, 101, 114]⟩] 9)
  have KN0 := Bk.new (w := w.alloc (.cells #[.int .i64 0, .string ⟨#[]⟩, .int .i64 0, .string ⟨#[]⟩] 26)) (vs := #[.string ⟨#[97]⟩, .string ⟨#[98]⟩, .string ⟨#[111, 119, 110, 101, 114]⟩]) (t := 9)
  (try simp only [World.size_alloc, World.size_drew] at KN0)
  clear h
  go_enter Tryd.func21, Tryd.ntmps21
  go_wp2_with fail
  have KXr : KeepX (b) (fun _ => True) ∧ KeepX (b) (fun _ => True) := ⟨keepX_true _, keepX_true _⟩
  refine wp_region_invT 11 (G := fun s n w_ => RgG (b) (fun i => i = b) (fun _ => True) (True) ((w.alloc (.cells #[.int .i64 0, .string ⟨#[]⟩, .int .i64 0, .string ⟨#[]⟩] 26)).alloc (.cells #[.string ⟨#[97]⟩, .string ⟨#[98]⟩, .string ⟨#[111, 119, 110, 101, 114]⟩] 9)) (M) n w_) (R := RgR (fun i => i = b) (fun _ => True))
    (Fs := [Is (fun v => v = .pointer (some ⟨b, 0, none⟩)), Is (IntIn (0) (3)), Is (fun v => v = .slice (some ⟨w.heap.size + 1, 0, none⟩) 3 3), Is (fun v => v = .pointer (some ⟨b, 0, none⟩)), Is (IntIn (0) (2)), IsPtr (w.heap.size + 1) (StrIn Short), Is (StrIn Short), Is (fun v => v = .pointer (some ⟨b, 0, none⟩)), Is (IntIn (0) (3)), Is TuV, IsBox (w.heap.size + 1 + 1) 4 26])
    (by kernel_rfl) (by kernel_rfl) (fun _ => RgR.refl _) (fun h k => h.trans k) ?_ (fun _ _ => ⟨fun _ => (P0.rd.below (Below.dr (Below.refl _ _))).mono (by omega), (Grow.refl _ _).drew, trivial⟩) ?_
  · (repeat' (first | exact lasts_nil | refine lasts_cons ?_ ?_))
    all_goals (first | exact Lasts.is | exact Lasts.any | exact Lasts.x | exact Lasts.row (fun i hi => by (try dsimp only at hi); omega) | exact Lasts.box (fun i hi => by (try dsimp only at hi); omega) | exact Lasts.ptr (fun i hi => by (try dsimp only at hi); omega))
  show wpInv _ _ _ _ _ _ _ [_, _, _, _, _, _, _, _, _, _, _] _ _ _
  refine inv_cons 0 (by rfl) (fun wx n_ s_ hn hcl hsi hG hR hd => ?_) (fun v0 => ?_)
  · replace hn : n_ < 11 := hn
    refine inv_want (by rfl) ?_
    exact inv_move (.tmp 0) rfl (post_up (F := Is (fun v => v = .pointer (some ⟨b, 0, none⟩))) (fun _ => trivial) hG (is_eq rfl))
  simp only [Act.put, List.setIfInBounds_toArray, List.set_cons_zero, List.set_cons_succ, List.nil_append, List.cons_append]
  refine inv_cons 1 (by rfl) (fun wx n_ s_ hn hcl hsi hG hR hd => ?_) (fun v1 => ?_)
  · replace hn : n_ < 11 := hn
    refine inv_want (by rfl) ?_
    have d0 : (Is (fun v => v = .pointer (some ⟨b, 0, none⟩))) v0 wx := dep_get hd 0 (by rfl)
    obtain rfl := d0
    unfold invAt invUpon; go_simp
    have hrd := hG.rd trivial
    refine (pick_any _ _ _ _ hrd (by omega) (by omega)).mono ?_
    rintro e w' ⟨x, rfl, lo, hi, r⟩
    exact ⟨_, rfl, post_read (F := Is (IntIn (0) (3))) KXr rfl hG r (by omega) ⟨x, rfl, by omega, by omega⟩⟩
  simp only [Act.put, List.setIfInBounds_toArray, List.set_cons_zero, List.set_cons_succ, List.nil_append, List.cons_append]
  refine inv_cons 2 (by rfl) (fun wx n_ s_ hn hcl hsi hG hR hd => ?_) (fun v2 => ?_)
  · replace hn : n_ < 11 := hn
    refine inv_want (by rfl) ?_
    exact inv_move (.tmp 5) rfl (post_up (F := Is (fun v => v = .slice (some ⟨w.heap.size + 1, 0, none⟩) 3 3)) (fun _ => trivial) hG (is_eq rfl))
  simp only [Act.put, List.setIfInBounds_toArray, List.set_cons_zero, List.set_cons_succ, List.nil_append, List.cons_append]
  refine inv_cons 3 (by rfl) (fun wx n_ s_ hn hcl hsi hG hR hd => ?_) (fun v3 => ?_)
  · replace hn : n_ < 11 := hn
    refine inv_want (by rfl) ?_
    exact inv_move (.tmp 0) rfl (post_up (F := Is (fun v => v = .pointer (some ⟨b, 0, none⟩))) (fun _ => trivial) hG (is_eq rfl))
  simp only [Act.put, List.setIfInBounds_toArray, List.set_cons_zero, List.set_cons_succ, List.nil_append, List.cons_append]
  refine inv_cons 4 (by rfl) (fun wx n_ s_ hn hcl hsi hG hR hd => ?_) (fun v4 => ?_)
  · replace hn : n_ < 11 := hn
    refine inv_want (by rfl) ?_
    have d3 : (Is (fun v => v = .pointer (some ⟨b, 0, none⟩))) v3 wx := dep_get hd 3 (by rfl)
    obtain rfl := d3
    unfold invAt invUpon; go_simp
    have hrd := hG.rd trivial
    refine (pick_any _ _ _ _ hrd (by omega) (by omega)).mono ?_
    rintro e w' ⟨x, rfl, lo, hi, r⟩
    exact ⟨_, rfl, post_read (F := Is (IntIn (0) (2))) KXr rfl hG r (by omega) ⟨x, rfl, by omega, by omega⟩⟩
  simp only [Act.put, List.setIfInBounds_toArray, List.set_cons_zero, List.set_cons_succ, List.nil_append, List.cons_append]
  refine inv_cons 5 (by rfl) (fun wx n_ s_ hn hcl hsi hG hR hd => ?_) (fun v5 => ?_)
  · replace hn : n_ < 11 := hn
    refine inv_want (by rfl) ?_
    have d4 : (Is (IntIn (0) (2))) v4 wx := dep_get hd 4 (by rfl)
    obtain ⟨x_4, rfl, lo_4, hi_4⟩ := d4
    have d2 : (Is (fun v => v = .slice (some ⟨w.heap.size + 1, 0, none⟩) 3 3)) v2 wx := dep_get hd 2 (by rfl)
    obtain rfl := d2
    obtain ⟨m, hm⟩ : ∃ m : Nat, x_4 = m := ⟨x_4.toNat, by omega⟩
    subst hm
    have hm6 : (m : Int) < 3 := by omega
    obtain ⟨s, hs, hq⟩ := names_at (KN0.grow hG.grow (by (try dsimp only); omega)) m (by omega)
    unfold invAt invUpon; go_simp
    exact post_up (F := IsPtr (w.heap.size + 1) (StrIn Short)) (fun _ => trivial) hG ⟨_, _, _, rfl, by omega, hs, _, rfl, hq⟩
  simp only [Act.put, List.setIfInBounds_toArray, List.set_cons_zero, List.set_cons_succ, List.nil_append, List.cons_append]
  refine inv_cons 6 (by rfl) (fun wx n_ s_ hn hcl hsi hG hR hd => ?_) (fun v6 => ?_)
  · replace hn : n_ < 11 := hn
    refine inv_want (by rfl) ?_
    have d5 : (IsPtr (w.heap.size + 1) (StrIn Short)) v5 wx := dep_get hd 5 (by rfl)
    obtain ⟨g_5, o_5, y_5, rfl, hl_5, hc_5, he_5⟩ := d5; obtain ⟨s_5, rfl, q_5⟩ := he_5
    unfold invAt invUpon; go_simp
    exact post_up (F := Is (StrIn Short)) (fun _ => trivial) hG ⟨_, rfl, by assumption⟩
  simp only [Act.put, List.setIfInBounds_toArray, List.set_cons_zero, List.set_cons_succ, List.nil_append, List.cons_append]
  refine inv_cons 7 (by rfl) (fun wx n_ s_ hn hcl hsi hG hR hd => ?_) (fun v7 => ?_)
  · replace hn : n_ < 11 := hn
    refine inv_want (by rfl) ?_
    exact inv_move (.tmp 0) rfl (post_up (F := Is (fun v => v = .pointer (some ⟨b, 0, none⟩))) (fun _ => trivial) hG (is_eq rfl))
  simp only [Act.put, List.setIfInBounds_toArray, List.set_cons_zero, List.set_cons_succ, List.nil_append, List.cons_append]
  refine inv_cons 8 (by rfl) (fun wx n_ s_ hn hcl hsi hG hR hd => ?_) (fun v8 => ?_)
  · replace hn : n_ < 11 := hn
    refine inv_want (by rfl) ?_
    have d7 : (Is (fun v => v = .pointer (some ⟨b, 0, none⟩))) v7 wx := dep_get hd 7 (by rfl)
    obtain rfl := d7
    unfold invAt invUpon; go_simp
    have hrd := hG.rd trivial
    refine (pick_any _ _ _ _ hrd (by omega) (by omega)).mono ?_
    rintro e w' ⟨x, rfl, lo, hi, r⟩
    exact ⟨_, rfl, post_read (F := Is (IntIn (0) (3))) KXr rfl hG r (by omega) ⟨x, rfl, by omega, by omega⟩⟩
  simp only [Act.put, List.setIfInBounds_toArray, List.set_cons_zero, List.set_cons_succ, List.nil_append, List.cons_append]
  refine inv_cons 9 (by rfl) (fun wx n_ s_ hn hcl hsi hG hR hd => ?_) (fun v9 => ?_)
  · replace hn : n_ < 11 := hn
    refine inv_want (by rfl) ?_
    have d1 : (Is (IntIn (0) (3))) v1 wx := dep_get hd 1 (by rfl)
    obtain ⟨x_1, rfl, lo_1, hi_1⟩ := d1
    have d6 : (Is (StrIn Short)) v6 wx := dep_get hd 6 (by rfl)
    obtain ⟨s_6, rfl, q_6⟩ := d6
    have d8 : (Is (IntIn (0) (3))) v8 wx := dep_get hd 8 (by rfl)
    obtain ⟨x_8, rfl, lo_8, hi_8⟩ := d8
    unfold invAt invUpon; go_simp
    exact post_up (F := Is TuV) (fun _ => trivial) hG ⟨_, _, _, rfl, by omega, by omega, by omega, by omega, q_6⟩
  simp only [Act.put, List.setIfInBounds_toArray, List.set_cons_zero, List.set_cons_succ, List.nil_append, List.cons_append]
  refine inv_cons 10 (by rfl) (fun wx n_ s_ hn hcl hsi hG hR hd => ?_) (fun v10 => ?_)
  · replace hn : n_ < 11 := hn
    refine inv_want (by rfl) ?_
    unfold invAt invUpon; go_simp
    exact post_new (F := IsBox (w.heap.size + 1 + 1) 4 26) (fun _ => trivial) KXr hG (below_al _ _) ⟨_, _, rfl, by have := hG.grow.size; (try simp only [World.size_alloc, World.size_drew] at this); omega, rfl, Bk.new⟩
  simp only [Act.put, List.setIfInBounds_toArray, List.set_cons_zero, List.set_cons_succ, List.nil_append, List.cons_append]
  refine inv_nil (fun wq nq sq hnq hGq hRq hall => ?_)
  replace hnq : nq ≤ 11 := hnq
  obtain ⟨f0, f1, f2, f3, f4, f5, f6, f7, f8, f9, f10, -⟩ := hall
  replace f9 : (Is TuV) v9 wq := f9
  obtain ⟨xk, yk, sk, rfl, lxk, hxk, lyk, hyk, shk⟩ := f9
  replace f10 : (IsBox (w.heap.size + 1 + 1) 4 26) v10 wq := f10
  obtain ⟨gk, vsk, rfl, hlk, hsk, hbk⟩ := f10
  have P1 := Grow.reads (w := w) hGq.grow P0 (hGq.rd trivial) (fun i hi => .inl hi)
  have KC1 := KC0.grow hGq.grow (by (try dsimp only); omega)
  have KN1 := KN0.grow hGq.grow (by (try dsimp only); omega)
  obtain ⟨z0, z1, z2, z3, rfl⟩ := arr4 hsk
  have P2 := Reads.set (Reads.set (Reads.set (Reads.set P1 hlt (show w.heap.size ≤ gk by omega) 0 (.int .i64 xk)) hlt (show w.heap.size ≤ gk by omega) 1 (.string sk)) hlt (show w.heap.size ≤ gk by omega) 2 (.int .i64 yk)) hlt (show w.heap.size ≤ gk by omega) 3 (.string ⟨#[]⟩)
  have K6 := (((hbk.same 0 (.int .i64 xk)).same 1 (.string sk)).same 2 (.int .i64 yk)).same 3 (.string ⟨#[]⟩)
  have KC2 := (((KC1.far ⟨gk, 0, none⟩ (by dsimp only; omega) (.int .i64 xk)).far ⟨gk, 1, none⟩ (by dsimp only; omega) (.string sk)).far ⟨gk, 2, none⟩ (by dsimp only; omega) (.int .i64 yk)).far ⟨gk, 3, none⟩ (by dsimp only; omega) (.string ⟨#[]⟩)
  have KN2 := (((KN1.far ⟨gk, 0, none⟩ (by dsimp only; omega) (.int .i64 xk)).far ⟨gk, 1, none⟩ (by dsimp only; omega) (.string sk)).far ⟨gk, 2, none⟩ (by dsimp only; omega) (.int .i64 yk)).far ⟨gk, 3, none⟩ (by dsimp only; omega) (.string ⟨#[]⟩)
  have xk0 := hbk.cell
  have fk0 := hbk.free
  go_wp2_with fail
  refine (pick_any b 2 _ _ P2.rd (by omega) (by omega)).mono ?_
  rintro e w1 ⟨x1, rfl, lo1, hi1, r1⟩
  have P3 := P2.trans r1
  replace KC2 := KC2.rdn r1 (by omega)
  replace KN2 := KN2.rdn r1 (by omega)
  replace K6 := K6.rdn r1 (by omega)
  clear P0 P1 P2 KC0 KC1 KN0 KN1 xk0 fk0 hbk hGq hRq
  by_cases hx : x1 = 0
  · subst hx
    go_wp2_with fail
    refine (pick_any b 3 _ _ P3.rd (by omega) (by omega)).mono ?_
    rintro e w2 ⟨x2, rfl, lo2, hi2, r2⟩
    have P4 := P3.trans r2
    replace KC2 := KC2.rdn r2 (by omega)
    replace KN2 := KN2.rdn r2 (by omega)
    replace K6 := K6.rdn r2 (by omega)
    obtain ⟨m, rfl⟩ : ∃ m : Nat, x2 = m := ⟨x2.toNat, by omega⟩
    obtain ⟨s3, hs3, hq3⟩ := names_at KN2 m (by omega)
    have hm6 : (m : Int) < 3 := by omega
    have P5 := Reads.set P4 hlt (g := gk) (by omega) 3 (.string s3)
    have x6 := K6.cell
    have f6 := K6.free
    have K7 := K6.same 3 (.string s3)
    have KC3 := KC2.far ⟨gk, 3, none⟩ (by dsimp only; omega) (.string s3)
    clear P3 K6 KC2 KN2
    go_wp2_with fail
    refine (odd_any b n _ _ P5.rd (by omega) (by omega) (by omega)).mono ?_
    clear x6 f6 hs3
    rintro e w3 ⟨y, rfl, r3⟩
    have P6 := (P5).trans r3
    have K8 := (K7).rdn r3 (by omega)
    have KC4 := (KC3).rdn r3 (by omega)
    clear P5 K7 KC3
    cases y
    · have P7 := P6
      have x8 := K8.cell
      have x4 := KC4.cell
      have f4 := KC4.free
      have x9 := ((((KC4.same 0 (.int .i64 xk)).same 1 (.string sk)).same 2 (.int .i64 yk)).same 3 (.string s3)).cell
      go_wp2_with fail
      (try simp only [Exit.inBlock, Exit.then]); refine bodyPost_ret (by simp [results, Tryd.results21, go_sem, x9]; try rfl) rfl ?_
      refine ⟨⟨xk, sk, yk, s3⟩, rfl, ⟨by dsimp only; omega, by dsimp only; omega, by dsimp only; omega, by dsimp only; omega, shk, hq3⟩, Reads.mono (M' := M + 11 + 1 + 1 + 1) ?_ (by omega)⟩
      refine Reads.mono (Reads.set (Reads.set (Reads.set (Reads.set P7 hlt (Nat.le_refl _) 0 _) hlt (Nat.le_refl _) 1 _) hlt (Nat.le_refl _) 2 _) hlt (Nat.le_refl _) 3 _) (by omega)
    · clear K8
      have KC5 := KC4.alloc (.cells #[.int .i64 0, .string ⟨#[]⟩, .int .i64 0, .string ⟨#[]⟩, .int .i64 7, .string ⟨#[97]⟩, .int .i64 0, .string ⟨#[]⟩, .int .i64 0, .string ⟨#[97]⟩, .int .i64 (-1), .string ⟨#[]⟩, .int .i64 0, .string ⟨#[65]⟩, .int .i64 0, .string ⟨#[]⟩, .int .i64 0, .string ⟨#[97]⟩, .int .i64 0, .string ⟨#[66]⟩] 26)
      have KB := Bk.new (w := w3) (vs := #[.int .i64 0, .string ⟨#[]⟩, .int .i64 0, .string ⟨#[]⟩, .int .i64 7, .string ⟨#[97]⟩, .int .i64 0, .string ⟨#[]⟩, .int .i64 0, .string ⟨#[97]⟩, .int .i64 (-1), .string ⟨#[]⟩, .int .i64 0, .string ⟨#[65]⟩, .int .i64 0, .string ⟨#[]⟩, .int .i64 0, .string ⟨#[97]⟩, .int .i64 0, .string ⟨#[66]⟩]) (t := 26)
      have P7 := Reads.al P6 (.cells #[.int .i64 0, .string ⟨#[]⟩, .int .i64 0, .string ⟨#[]⟩, .int .i64 7, .string ⟨#[97]⟩, .int .i64 0, .string ⟨#[]⟩, .int .i64 0, .string ⟨#[97]⟩, .int .i64 (-1), .string ⟨#[]⟩, .int .i64 0, .string ⟨#[65]⟩, .int .i64 0, .string ⟨#[]⟩, .int .i64 0, .string ⟨#[97]⟩, .int .i64 0, .string ⟨#[66]⟩] 26)
      go_wp2_with fail
      refine (pick_any b 5 _ _ P7.rd (by omega) (by omega)).mono ?_
      rintro e w4 ⟨x5, rfl, lo5, hi5, r5⟩
      have P8 := P7.trans r5
      have KC6 := KC5.rdn r5 (by omega)
      have zb := P6.size
      have KB2 := KB.rdn r5 (by omega)
      have xb := KB2.cell
      have x4 := KC6.cell
      have f4 := KC6.free
      clear P6 P7 KC4 KC5 KB KB2
      rcases (show x5 = 0 ∨ x5 = 1 ∨ x5 = 2 ∨ x5 = 3 ∨ x5 = 4 by omega) with rfl | rfl | rfl | rfl | rfl
      · have x9 := ((((KC6.same 0 (.int .i64 0)).same 1 (.string ⟨#[]⟩)).same 2 (.int .i64 0)).same 3 (.string ⟨#[]⟩)).cell
        go_wp2_with fail
        (try simp only [Exit.inBlock, Exit.then]); refine bodyPost_ret (by simp [results, Tryd.results21, go_sem, x9]; try rfl) rfl ?_
        refine ⟨⟨0, ⟨#[]⟩, 0, ⟨#[]⟩⟩, rfl, ⟨by decide, by decide, by decide, by decide, by decide, by decide⟩, ?_⟩
        refine Reads.mono (Reads.set (Reads.set (Reads.set (Reads.set P8 hlt (Nat.le_refl _) 0 _) hlt (Nat.le_refl _) 1 _) hlt (Nat.le_refl _) 2 _) hlt (Nat.le_refl _) 3 _) (by omega)
      · have x9 := ((((KC6.same 0 (.int .i64 7)).same 1 (.string ⟨#[97]⟩)).same 2 (.int .i64 0)).same 3 (.string ⟨#[]⟩)).cell
        go_wp2_with fail
        (try simp only [Exit.inBlock, Exit.then]); refine bodyPost_ret (by simp [results, Tryd.results21, go_sem, x9]; try rfl) rfl ?_
        refine ⟨⟨7, ⟨#[97]⟩, 0, ⟨#[]⟩⟩, rfl, ⟨by decide, by decide, by decide, by decide, by decide, by decide⟩, ?_⟩
        refine Reads.mono (Reads.set (Reads.set (Reads.set (Reads.set P8 hlt (Nat.le_refl _) 0 _) hlt (Nat.le_refl _) 1 _) hlt (Nat.le_refl _) 2 _) hlt (Nat.le_refl _) 3 _) (by omega)
      · have x9 := ((((KC6.same 0 (.int .i64 0)).same 1 (.string ⟨#[97]⟩)).same 2 (.int .i64 (-1))).same 3 (.string ⟨#[]⟩)).cell
        go_wp2_with fail
        (try simp only [Exit.inBlock, Exit.then]); refine bodyPost_ret (by simp [results, Tryd.results21, go_sem, x9]; try rfl) rfl ?_
        refine ⟨⟨0, ⟨#[97]⟩, (-1), ⟨#[]⟩⟩, rfl, ⟨by decide, by decide, by decide, by decide, by decide, by decide⟩, ?_⟩
        refine Reads.mono (Reads.set (Reads.set (Reads.set (Reads.set P8 hlt (Nat.le_refl _) 0 _) hlt (Nat.le_refl _) 1 _) hlt (Nat.le_refl _) 2 _) hlt (Nat.le_refl _) 3 _) (by omega)
      · have x9 := ((((KC6.same 0 (.int .i64 0)).same 1 (.string ⟨#[65]⟩)).same 2 (.int .i64 0)).same 3 (.string ⟨#[]⟩)).cell
        go_wp2_with fail
        (try simp only [Exit.inBlock, Exit.then]); refine bodyPost_ret (by simp [results, Tryd.results21, go_sem, x9]; try rfl) rfl ?_
        refine ⟨⟨0, ⟨#[65]⟩, 0, ⟨#[]⟩⟩, rfl, ⟨by decide, by decide, by decide, by decide, by decide, by decide⟩, ?_⟩
        refine Reads.mono (Reads.set (Reads.set (Reads.set (Reads.set P8 hlt (Nat.le_refl _) 0 _) hlt (Nat.le_refl _) 1 _) hlt (Nat.le_refl _) 2 _) hlt (Nat.le_refl _) 3 _) (by omega)
      · have x9 := ((((KC6.same 0 (.int .i64 0)).same 1 (.string ⟨#[97]⟩)).same 2 (.int .i64 0)).same 3 (.string ⟨#[66]⟩)).cell
        go_wp2_with fail
        (try simp only [Exit.inBlock, Exit.then]); refine bodyPost_ret (by simp [results, Tryd.results21, go_sem, x9]; try rfl) rfl ?_
        refine ⟨⟨0, ⟨#[97]⟩, 0, ⟨#[66]⟩⟩, rfl, ⟨by decide, by decide, by decide, by decide, by decide, by decide⟩, ?_⟩
        refine Reads.mono (Reads.set (Reads.set (Reads.set (Reads.set P8 hlt (Nat.le_refl _) 0 _) hlt (Nat.le_refl _) 1 _) hlt (Nat.le_refl _) 2 _) hlt (Nat.le_refl _) 3 _) (by omega)
  · have hx0 : (x1 == 0) = false := by simp; omega
    go_wp2_with fail
    refine (odd_any b n _ _ P3.rd (by omega) (by omega) (by omega)).mono ?_
    skip
    rintro e w3 ⟨y, rfl, r3⟩
    have P6 := (P3).trans r3
    have K8 := (K6).rdn r3 (by omega)
    have KC4 := (KC2).rdn r3 (by omega)
    clear P3 K6 KC2
    cases y
    · have P7 := P6
      have x8 := K8.cell
      have x4 := KC4.cell
      have f4 := KC4.free
      have x9 := ((((KC4.same 0 (.int .i64 xk)).same 1 (.string sk)).same 2 (.int .i64 yk)).same 3 (.string ⟨#[]⟩)).cell
      go_wp2_with fail
      (try simp only [Exit.inBlock, Exit.then]); refine bodyPost_ret (by simp [results, Tryd.results21, go_sem, x9]; try rfl) rfl ?_
      refine ⟨⟨xk, sk, yk, ⟨#[]⟩⟩, rfl, ⟨by dsimp only; omega, by dsimp only; omega, by dsimp only; omega, by dsimp only; omega, shk, (Nat.zero_le 8)⟩, Reads.mono (M' := M + 11 + 1 + 1 + 1) ?_ (by omega)⟩
      refine Reads.mono (Reads.set (Reads.set (Reads.set (Reads.set P7 hlt (Nat.le_refl _) 0 _) hlt (Nat.le_refl _) 1 _) hlt (Nat.le_refl _) 2 _) hlt (Nat.le_refl _) 3 _) (by omega)
    · clear K8
      have KC5 := KC4.alloc (.cells #[.int .i64 0, .string ⟨#[]⟩, .int .i64 0, .string ⟨#[]⟩, .int .i64 7, .string ⟨#[97]⟩, .int .i64 0, .string ⟨#[]⟩, .int .i64 0, .string ⟨#[97]⟩, .int .i64 (-1), .string ⟨#[]⟩, .int .i64 0, .string ⟨#[65]⟩, .int .i64 0, .string ⟨#[]⟩, .int .i64 0, .string ⟨#[97]⟩, .int .i64 0, .string ⟨#[66]⟩] 26)
      have KB := Bk.new (w := w3) (vs := #[.int .i64 0, .string ⟨#[]⟩, .int .i64 0, .string ⟨#[]⟩, .int .i64 7, .string ⟨#[97]⟩, .int .i64 0, .string ⟨#[]⟩, .int .i64 0, .string ⟨#[97]⟩, .int .i64 (-1), .string ⟨#[]⟩, .int .i64 0, .string ⟨#[65]⟩, .int .i64 0, .string ⟨#[]⟩, .int .i64 0, .string ⟨#[97]⟩, .int .i64 0, .string ⟨#[66]⟩]) (t := 26)
      have P7 := Reads.al P6 (.cells #[.int .i64 0, .string ⟨#[]⟩, .int .i64 0, .string ⟨#[]⟩, .int .i64 7, .string ⟨#[97]⟩, .int .i64 0, .string ⟨#[]⟩, .int .i64 0, .string ⟨#[97]⟩, .int .i64 (-1), .string ⟨#[]⟩, .int .i64 0, .string ⟨#[65]⟩, .int .i64 0, .string ⟨#[]⟩, .int .i64 0, .string ⟨#[97]⟩, .int .i64 0, .string ⟨#[66]⟩] 26)
      go_wp2_with fail
      refine (pick_any b 5 _ _ P7.rd (by omega) (by omega)).mono ?_
      rintro e w4 ⟨x5, rfl, lo5, hi5, r5⟩
      have P8 := P7.trans r5
      have KC6 := KC5.rdn r5 (by omega)
      have zb := P6.size
      have KB2 := KB.rdn r5 (by omega)
      have xb := KB2.cell
      have x4 := KC6.cell
      have f4 := KC6.free
      clear P6 P7 KC4 KC5 KB KB2
      rcases (show x5 = 0 ∨ x5 = 1 ∨ x5 = 2 ∨ x5 = 3 ∨ x5 = 4 by omega) with rfl | rfl | rfl | rfl | rfl
      · have x9 := ((((KC6.same 0 (.int .i64 0)).same 1 (.string ⟨#[]⟩)).same 2 (.int .i64 0)).same 3 (.string ⟨#[]⟩)).cell
        go_wp2_with fail
        (try simp only [Exit.inBlock, Exit.then]); refine bodyPost_ret (by simp [results, Tryd.results21, go_sem, x9]; try rfl) rfl ?_
        refine ⟨⟨0, ⟨#[]⟩, 0, ⟨#[]⟩⟩, rfl, ⟨by decide, by decide, by decide, by decide, by decide, by decide⟩, ?_⟩
        refine Reads.mono (Reads.set (Reads.set (Reads.set (Reads.set P8 hlt (Nat.le_refl _) 0 _) hlt (Nat.le_refl _) 1 _) hlt (Nat.le_refl _) 2 _) hlt (Nat.le_refl _) 3 _) (by omega)
      · have x9 := ((((KC6.same 0 (.int .i64 7)).same 1 (.string ⟨#[97]⟩)).same 2 (.int .i64 0)).same 3 (.string ⟨#[]⟩)).cell
        go_wp2_with fail
        (try simp only [Exit.inBlock, Exit.then]); refine bodyPost_ret (by simp [results, Tryd.results21, go_sem, x9]; try rfl) rfl ?_
        refine ⟨⟨7, ⟨#[97]⟩, 0, ⟨#[]⟩⟩, rfl, ⟨by decide, by decide, by decide, by decide, by decide, by decide⟩, ?_⟩
        refine Reads.mono (Reads.set (Reads.set (Reads.set (Reads.set P8 hlt (Nat.le_refl _) 0 _) hlt (Nat.le_refl _) 1 _) hlt (Nat.le_refl _) 2 _) hlt (Nat.le_refl _) 3 _) (by omega)
      · have x9 := ((((KC6.same 0 (.int .i64 0)).same 1 (.string ⟨#[97]⟩)).same 2 (.int .i64 (-1))).same 3 (.string ⟨#[]⟩)).cell
        go_wp2_with fail
        (try simp only [Exit.inBlock, Exit.then]); refine bodyPost_ret (by simp [results, Tryd.results21, go_sem, x9]; try rfl) rfl ?_
        refine ⟨⟨0, ⟨#[97]⟩, (-1), ⟨#[]⟩⟩, rfl, ⟨by decide, by decide, by decide, by decide, by decide, by decide⟩, ?_⟩
        refine Reads.mono (Reads.set (Reads.set (Reads.set (Reads.set P8 hlt (Nat.le_refl _) 0 _) hlt (Nat.le_refl _) 1 _) hlt (Nat.le_refl _) 2 _) hlt (Nat.le_refl _) 3 _) (by omega)
      · have x9 := ((((KC6.same 0 (.int .i64 0)).same 1 (.string ⟨#[65]⟩)).same 2 (.int .i64 0)).same 3 (.string ⟨#[]⟩)).cell
        go_wp2_with fail
        (try simp only [Exit.inBlock, Exit.then]); refine bodyPost_ret (by simp [results, Tryd.results21, go_sem, x9]; try rfl) rfl ?_
        refine ⟨⟨0, ⟨#[65]⟩, 0, ⟨#[]⟩⟩, rfl, ⟨by decide, by decide, by decide, by decide, by decide, by decide⟩, ?_⟩
        refine Reads.mono (Reads.set (Reads.set (Reads.set (Reads.set P8 hlt (Nat.le_refl _) 0 _) hlt (Nat.le_refl _) 1 _) hlt (Nat.le_refl _) 2 _) hlt (Nat.le_refl _) 3 _) (by omega)
      · have x9 := ((((KC6.same 0 (.int .i64 0)).same 1 (.string ⟨#[97]⟩)).same 2 (.int .i64 0)).same 3 (.string ⟨#[66]⟩)).cell
        go_wp2_with fail
        (try simp only [Exit.inBlock, Exit.then]); refine bodyPost_ret (by simp [results, Tryd.results21, go_sem, x9]; try rfl) rfl ?_
        refine ⟨⟨0, ⟨#[97]⟩, 0, ⟨#[66]⟩⟩, rfl, ⟨by decide, by decide, by decide, by decide, by decide, by decide⟩, ?_⟩
        refine Reads.mono (Reads.set (Reads.set (Reads.set (Reads.set P8 hlt (Nat.le_refl _) 0 _) hlt (Nat.le_refl _) 1 _) hlt (Nat.le_refl _) 2 _) hlt (Nat.le_refl _) 3 _) (by omega)
end Go.Proofs.YtgfcikckomhbeaaDoor
