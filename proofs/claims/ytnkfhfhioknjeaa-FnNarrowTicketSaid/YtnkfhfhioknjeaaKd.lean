/-
  Tickets are drawn. Condition: the reader is whole.
-/
import Derived.Test.YtnkfhfhioknjeaaKy
import Derived.Test.YtnkfhfhioknjeaaKn
import Derived.Test.YtnkfhfhioknjeaaD
import Derived.Test.YtnkfhfhioknjeaaUb
set_option linter.unusedSimpArgs false
set_option linter.unusedVariables false
namespace Go.Proofs.Ytnkfhfhioknjeaa
open Go.RowKit
theorem own_rd {w w' : World} {lo e k b : Nat} {M M' : Int} {v : Value} {n : Nat} {cs : List Value} (h : w.ownsRow lo e k v n cs) (r : Reads b M M' w w') (hb : b < lo) : w'.ownsRow lo e k v n cs :=
  h.kept r.step (by
    cases hv : v.ownBlock with
    | none => exact .inl rfl
    | some j => right; intro e; have := own_gt h j hv; simp at e; omega)
theorem sealOf_bd (key who til : Int) (acts : List Int) : -1 ≤ sealOf key who til acts ∧ sealOf key who til acts ≤ 1000002 := by
  unfold sealOf
  split
  · have := mixN_bd (mixN key who) til
    have := sealFold_bd (mixN (mixN key who) til) acts (by omega) (by omega)
    omega
  · omega
/-- The bounds of a drawn ticket. -/
structure TkBd (t : Tk) (n : Nat) : Prop where
  w0 : -1 ≤ t.who
  w1 : t.who ≤ 7
  u0 : -1 ≤ t.til
  u1 : t.til ≤ 1001
  s0 : -1 ≤ t.sl
  s1 : t.sl ≤ 1000003
  ln : t.acts.length ≤ n
theorem TkBd.mono {t : Tk} {n m : Nat} (h : TkBd t n) (hm : n ≤ m) : TkBd t m := ⟨h.w0, h.w1, h.u0, h.u1, h.s0, h.s1, Nat.le_trans h.ln hm⟩
theorem makeT_bd (key who act til : Int) (h0 : 0 ≤ who) (h1 : who ≤ 6) (u0 : 0 ≤ til) (u1 : til ≤ 1000) : TkBd (makeT key who act til).1 1 ∧ (makeT key who act til).1.sl ≤ 1000002 := by
  have := sealOf_bd key who til [act]
  unfold makeT
  split
  · exact ⟨⟨by simp [tk0], by simp [tk0], by simp [tk0], by simp [tk0], by simp [tk0], by simp [tk0], by simp [tk0]⟩, by simp [tk0]⟩
  · exact ⟨⟨by dsimp only; omega, by dsimp only; omega, by dsimp only; omega, by dsimp only; omega, by dsimp only; omega, by dsimp only; omega, by simp⟩, by dsimp only; omega⟩
theorem narrowT_bd (t : Tk) (a : Int) (n : Nat) (h : TkBd t n) (hs : t.sl ≤ 1000002) : TkBd (narrowT t a).1 (n + 1) ∧ (narrowT t a).1.sl ≤ 1000002 := by
  have := mixN_bd t.sl a
  unfold narrowT
  split
  · have := h.ln
    exact ⟨⟨h.w0, h.w1, h.u0, h.u1, by dsimp only; omega, by dsimp only; omega, by simp; omega⟩, by dsimp only; omega⟩
  · exact ⟨⟨by simp [tk0], by simp [tk0], by simp [tk0], by simp [tk0], by simp [tk0], by simp [tk0], by simp [tk0]⟩, by simp [tk0]⟩
/-- A ticket is drawn. -/
def TkS (b : Nat) (M : Int) (w : World) (e : Ending) (w' : World) : Prop :=
  ∃ (key : Int) (t : Tk) (v : Value), e = .returned (.tuple #[.int .i64 key, .agg #[.int .i64 t.who, v, .int .i64 t.til, .int .i64 t.sl]]) ∧ -1 ≤ key ∧ key ≤ 100000 ∧ TkBd t 6 ∧ w'.ownsRow w.heap.size 3 1 v t.acts.length (cellsI t.acts) ∧ Reads b M (M + 20) w w'
set_option maxHeartbeats 12800000 in
theorem l20Ticket_any (b : Nat) (n M : Int) (w : World) (h : Rd w b M) (hM : M ≤ 1099511627776 - 40) (hn : 0 ≤ n) (hn2 : n ≤ 1099511627776) :
    Calls Try.prog 40 #[.pointer (some ⟨b, 0, none⟩), .int .i64 n] w (TkS b M w) := by
  have hlt := h.lt
  have P0 := Reads.refl h
  have hA1 : Below w.heap.size w (w.alloc (.cells #[.int .i64 0, .slice none 0 0, .int .i64 0, .int .i64 0] 27)) := Below.al (Below.refl _ _) _
  have P2 := Reads.below P0 hA1
  clear P0
  have z2 := hA1.size
  try simp only [World.size_alloc] at z2
  clear hA1
  have Ko0 := Bk.new (w := w) (vs := #[.int .i64 0, .slice none 0 0, .int .i64 0, .int .i64 0]) (t := 27)
  have xo := Ko0.cell
  have yo := Ko0.lt
  simp only [World.size_alloc] at yo
  go_enter Try.func40, Try.ntmps40
  go_wp2_with fail
  refine (pick_any b 256 _ _ P2.rd (by omega) (by omega)).mono ?_
  rintro e w1 ⟨x1, rfl, lo1, hi1, r1⟩
  have P4 := Reads.trans P2 r1
  clear P2
  have z4 := r1.size
  try simp only [World.size_alloc] at z4
  have Ko5 := Bk.rdn Ko0 r1 (by omega)
  clear xo
  clear Ko0
  have xo := Ko5.cell
  have hA6 : Below w1.heap.size w1 (w1.alloc (.cells #[.int .i64 (x1 * 390), .int .i64 99999, .int .i64 100000, .int .i64 (-1)] 3)) := Below.al (Below.refl _ _) _
  have P7 := Reads.below P4 hA6
  clear P4
  have z7 := hA6.size
  try simp only [World.size_alloc] at z7
  have Ko8 := Ko5.below hA6
  clear xo
  clear Ko5
  have xo := Ko8.cell
  clear hA6
  have Kp0 := Bk.new (w := w1) (vs := #[.int .i64 (x1 * 390), .int .i64 99999, .int .i64 100000, .int .i64 (-1)]) (t := 3)
  have xp := Kp0.cell
  have yp := Kp0.lt
  simp only [World.size_alloc] at yp
  have hA9 : Below (w1.alloc (.cells #[.int .i64 (x1 * 390), .int .i64 99999, .int .i64 100000, .int .i64 (-1)] 3)).heap.size (w1.alloc (.cells #[.int .i64 (x1 * 390), .int .i64 99999, .int .i64 100000, .int .i64 (-1)] 3)) ((w1.alloc (.cells #[.int .i64 (x1 * 390), .int .i64 99999, .int .i64 100000, .int .i64 (-1)] 3)).alloc (.cells #[.int .i64 0, .int .i64 0, .int .i64 0, .int .i64 0, .int .i64 0, .int .i64 1, .int .i64 2, .int .i64 3] 3)) := Below.al (Below.refl _ _) _
  have P10 := Reads.below P7 hA9
  clear P7
  have z10 := hA9.size
  try simp only [World.size_alloc] at z10
  have Ko11 := Ko8.below hA9
  clear xo
  clear Ko8
  have xo := Ko11.cell
  have Kp12 := Kp0.below hA9
  clear xp
  clear Kp0
  have xp := Kp12.cell
  clear hA9
  have Kq0 := bk_at (W := (w1.alloc (.cells #[.int .i64 (x1 * 390), .int .i64 99999, .int .i64 100000, .int .i64 (-1)] 3))) (vs := #[.int .i64 0, .int .i64 0, .int .i64 0, .int .i64 0, .int .i64 0, .int .i64 1, .int .i64 2, .int .i64 3]) (t := 3) (g := w1.heap.size + 1) (by simp)
  have xq := Kq0.cell
  have yq := Kq0.lt
  simp only [World.size_alloc] at yq
  go_wp2_with fail
  refine (pick_any b 8 _ _ P10.rd (by omega) (by omega)).mono ?_
  rintro e w2 ⟨x2, rfl, lo2, hi2, r2⟩
  have P14 := Reads.trans P10 r2
  clear P10
  have z14 := r2.size
  try simp only [World.size_alloc] at z14
  have Ko15 := Bk.rdn Ko11 r2 (by omega)
  clear xo
  clear Ko11
  have xo := Ko15.cell
  have Kp16 := Bk.rdn Kp12 r2 (by omega)
  clear xp
  clear Kp12
  have xp := Kp16.cell
  have Kq17 := Bk.rdn Kq0 r2 (by omega)
  clear xq
  clear Kq0
  have xq := Kq17.cell
  obtain ⟨m, rfl⟩ : ∃ m : Nat, x2 = m := ⟨x2.toNat, by omega⟩
  obtain ⟨y, hy, hc⟩ : ∃ y : Nat, y < 4 ∧ w2.cell? ⟨w1.heap.size + 1, m, none⟩ = some (.int .i64 y) := by
    rcases (show m = 0 ∨ m = 1 ∨ m = 2 ∨ m = 3 ∨ m = 4 ∨ m = 5 ∨ m = 6 ∨ m = 7 by omega) with rfl | rfl | rfl | rfl | rfl | rfl | rfl | rfl
    iterate 5 exact ⟨0, by omega, (Kq17.cell _).trans rfl⟩
    · exact ⟨1, by omega, (Kq17.cell _).trans rfl⟩
    · exact ⟨2, by omega, (Kq17.cell _).trans rfl⟩
    · exact ⟨3, by omega, (Kq17.cell _).trans rfl⟩
  obtain ⟨key, hk0, hk1, hd⟩ : ∃ key : Int, -1 ≤ key ∧ key ≤ 100000 ∧ w2.cell? ⟨w1.heap.size, y, none⟩ = some (.int .i64 key) := by
    rcases (show y = 0 ∨ y = 1 ∨ y = 2 ∨ y = 3 by omega) with rfl | rfl | rfl | rfl
    · exact ⟨_, by omega, by omega, (Kp16.cell _).trans rfl⟩
    · exact ⟨_, by omega, by omega, (Kp16.cell _).trans rfl⟩
    · exact ⟨_, by omega, by omega, (Kp16.cell _).trans rfl⟩
    · exact ⟨_, by omega, by omega, (Kp16.cell _).trans rfl⟩
  clear xp Kp16
  clear xq Kq17
  go_wp2_with fail
  refine (pick_any b 4 _ _ P14.rd (by omega) (by omega)).mono ?_
  rintro e w3 ⟨x3, rfl, lo3, hi3, r3⟩
  have P19 := Reads.trans P14 r3
  clear P14
  have z19 := r3.size
  try simp only [World.size_alloc] at z19
  have Ko20 := Bk.rdn Ko15 r3 (by omega)
  clear xo
  clear Ko15
  have xo := Ko20.cell
  clear hc hd
  go_wp2_with fail
  refine (pick_any b 16 _ _ P19.rd (by omega) (by omega)).mono ?_
  rintro e w4 ⟨x4, rfl, lo4, hi4, r4⟩
  have P22 := Reads.trans P19 r4
  clear P19
  have z22 := r4.size
  try simp only [World.size_alloc] at z22
  have Ko23 := Bk.rdn Ko20 r4 (by omega)
  clear xo
  clear Ko20
  have xo := Ko23.cell
  go_wp2_with fail
  refine (pick_any b 90 _ _ P22.rd (by omega) (by omega)).mono ?_
  rintro e w5 ⟨x5, rfl, lo5, hi5, r5⟩
  have P25 := Reads.trans P22 r5
  clear P22
  have z25 := r5.size
  try simp only [World.size_alloc] at z25
  have Ko26 := Bk.rdn Ko23 r5 (by omega)
  clear xo
  clear Ko23
  have xo := Ko26.cell
  obtain ⟨t, ok, hr⟩ : ∃ t ok, makeT key x3 x4 (10 + x5) = (t, ok) := ⟨_, _, rfl⟩
  have hbd := makeT_bd key x3 x4 (10 + x5) (by omega) (by omega) (by omega) (by omega)
  rw [hr] at hbd
  dsimp only at hbd
  have HS := fun wx => (specMake_any key x3 x4 (10 + x5) wx).mono (fun e w' k => k.two hr)
  clear hr
  go_wp2_with fail
  refine (HS _).mono ?_
  rintro e w6 ⟨v6, rfl, o6, b6⟩
  obtain ⟨a6, c6, rfl, _, _⟩ := SlF.shape (own_sl o6)
  have P27 := Reads.below P25 b6
  clear P25
  have z27 := b6.size
  try simp only [World.size_alloc] at z27
  have Ko28 := Ko26.below b6
  clear xo
  clear Ko26
  have xo := Ko28.cell
  clear HS
  have hq6 := Lib.hid (show ∀ j, Value.ownBlock (.slice a6 t.acts.length c6) = some j → w.heap.size + 1 ≤ j ∧ j ≠ w6.heap.size from fun j hj => by have q := o6.lt j hj; omega)
  have Ov29 := Lib.hid o6
  clear o6
  have hA30 : Below w6.heap.size w6 (w6.alloc (.cells #[.int .i64 t.who, .slice a6 t.acts.length c6, .int .i64 t.til, .int .i64 t.sl] 27)) := Below.al (Below.refl _ _) _
  have P31 := Reads.below P27 hA30
  clear P27
  have z31 := hA30.size
  try simp only [World.size_alloc] at z31
  have Ko32 := Ko28.below hA30
  clear xo
  clear Ko28
  have xo := Ko32.cell
  have Ov33 := Lib.hid (own_below Ov29.out hA30)
  clear Ov29
  clear hA30
  have Kt0 := Bk.new (w := w6) (vs := #[.int .i64 t.who, .slice a6 t.acts.length c6, .int .i64 t.til, .int .i64 t.sl]) (t := 27)
  have xt := Kt0.cell
  have yt := Kt0.lt
  simp only [World.size_alloc] at yt
  go_wp2_with fail
  refine (pick_any b 3 _ _ P31.rd (by omega) (by omega)).mono ?_
  rintro e w7 ⟨x6, rfl, lo7, hi7, r7⟩
  have P35 := Reads.trans P31 r7
  clear P31
  have z35 := r7.size
  try simp only [World.size_alloc] at z35
  have Ko36 := Bk.rdn Ko32 r7 (by omega)
  clear xo
  clear Ko32
  have xo := Ko36.cell
  have Kt37 := Bk.rdn Kt0 r7 (by omega)
  clear xt
  clear Kt0
  have xt := Kt37.cell
  have Ov38 := Lib.hid (own_rd Ov33.out r7 (by (try simp only [World.size_alloc]); omega))
  clear Ov33
  have y6 := Kt37.lt
  obtain ⟨c0, rfl⟩ : ∃ c : Nat, x6 = c := ⟨x6.toNat, by omega⟩
  have PP := Reads.mono (M2 := M + 7) P35 (by omega)
  go_wp2_with fail
  go_loopw [9] (fun i wr => ∃ (c : Nat) (t : Tk) (a : Option Addr) (cp : Nat), c ≤ 2 ∧ i = .int .i64 c ∧ Hid (TkBd t (3 - c) ∧ t.sl ≤ 1000002) ∧ Bk wr w6.heap.size #[.int .i64 t.who, .slice a t.acts.length cp, .int .i64 t.til, .int .i64 t.sl] 27 ∧ Bk wr w.heap.size #[.int .i64 0, .slice none 0 0, .int .i64 0, .int .i64 0] 27 ∧ Hid (wr.ownsRow (w.heap.size + 1) 3 1 (.slice a t.acts.length cp) t.acts.length (cellsI t.acts)) ∧ Hid (∀ j, Value.ownBlock (.slice a t.acts.length cp) = some j → j ≠ w6.heap.size) ∧ Reads b M (M + 9 - c) w wr) (fun i _ => (intOf i).toNat)
  case atStart => exact ⟨c0, t, a6, c6, by omega, rfl, ⟨hbd.1.mono (by omega), hbd.2⟩, Kt37, Ko36, own_lo Ov38.out (by (try simp only [World.size_alloc]); omega), fun j hj => (hq6.out j hj).2, PP.mono (by omega)⟩
  case round =>
    clear Kt37 Ko36 Ov38 PP P35 xo xt hbd hq6
    obtain ⟨c, t, a, cp, hc2, rfl, hbd, KT, KO, OV, hq, PR⟩ := hrel
    have hlt6 := KT.lt
    have xt := KT.cell
    by_cases hcp : 0 < c
    · have OD : Hid (wr.drew.ownsRow (w.heap.size + 1) 3 1 (.slice a t.acts.length cp) t.acts.length (cellsI t.acts)) := OV
      have hb1 : b < w.heap.size + 1 := by omega
      have hbw : wr.heap.size ≠ b := by omega
      have OE : Hid ((wr.alloc (.cells #[.int .i64 0, .slice none 0 0, .int .i64 0, .int .i64 0] 27)).drew.ownsRow (w.heap.size + 1) 3 1 (.slice a t.acts.length cp) t.acts.length (cellsI t.acts)) := Lib.hid (own_alloc OV.out _)
      have PD := Reads.dr PR
      have PE := Reads.dr (Reads.al PR (.cells #[.int .i64 0, .slice none 0 0, .int .i64 0, .int .i64 0] 27))
      go_upto_region 6 with (fail)
      go_cut [10, 11] (fun s10 s11 wx => ∃ (g : Nat) (x : Int) (va : Option Addr) (vc : Nat), s10 = .pointer (some ⟨g, 0, none⟩) ∧ s11 = .bool (narrowT t x).2 ∧ Bk wx g #[.int .i64 (narrowT t x).1.who, .slice va (narrowT t x).1.acts.length vc, .int .i64 (narrowT t x).1.til, .int .i64 (narrowT t x).1.sl] 27 ∧ g ≠ w6.heap.size ∧ g ≠ w.heap.size ∧ Bk wx w6.heap.size #[.int .i64 t.who, .slice a t.acts.length cp, .int .i64 t.til, .int .i64 t.sl] 27 ∧ Bk wx w.heap.size #[.int .i64 0, .slice none 0 0, .int .i64 0, .int .i64 0] 27 ∧ Hid (wx.ownsRow (w.heap.size + 1) 3 1 (.slice a t.acts.length cp) t.acts.length (cellsI t.acts)) ∧ Hid (wx.ownsRow (w.heap.size + 1) 3 1 (.slice va (narrowT t x).1.acts.length vc) (narrowT t x).1.acts.length (cellsI (narrowT t x).1.acts)) ∧ Hid (∀ j, Value.ownBlock (.slice va (narrowT t x).1.acts.length vc) = some j → j ≠ w6.heap.size) ∧ Reads b M (M + 9 - c + 1) w wx)
      case first =>
        go_region_held3 (fun w' => (∀ o, w'.cell? ⟨w6.heap.size, o, none⟩ = (#[.int .i64 t.who, .slice a t.acts.length cp, .int .i64 t.til, .int .i64 t.sl] : Array Value)[o]?)) ((refine Bk.cell (t := 27) ?_; (repeat' first | (with_reducible assumption) | (with_reducible refine Bk.drew ?_) | (with_reducible refine Bk.dn ?_ _) | (with_reducible refine Bk.below ?_ (by assumption)) | (with_reducible refine Bk.rdn ?_ (by assumption) ?_) | (with_reducible refine Bk.alloc ?_ _) | (with_reducible refine Bk.far ?_ _ ?_ _) | (dsimp only; omega) | omega)))
          (first | (go_at_call 46; (with_reducible refine (pick_any b 16 (M + 9 - c) _ ?_ (by omega) (by omega)).mono ?_); (first | (with_reducible exact PD.rd) | (with_reducible exact PE.rd)); rintro e w8 ⟨x8, rfl, lo8, hi8, r8⟩; have z8 := r8.size; (try simp only [World.size_alloc, World.size_drew] at z8); (try (have kv := Bk.rdn (Bk.drew (Bk.new (w := wr) (vs := #[.int .i64 0, .slice none 0 0, .int .i64 0, .int .i64 0]) (t := 27))) r8 hbw; have xv := kv.cell; have fv := kv.free))) | (go_at_call 26; (with_reducible refine (specNarrow_any t x8 _ _ ?_).mono ?_); (first | exact own_sl (own_rd OD.out r8 hb1) | exact own_sl (own_alloc (own_rd OD.out r8 hb1) _) | exact own_sl (own_rd OE.out r8 hb1)); rintro e w9 ⟨v9, rfl, o9, b9⟩; have z9 := b9.size; (try simp only [World.size_alloc, World.size_drew] at z9); obtain ⟨va, vc, rfl, _, _⟩ := SlF.shape (own_sl o9); (try first | (replace kv := Bk.below kv b9; clear xv fv; have xv := kv.cell; have fv := kv.free) | (have kv := Bk.below (Bk.new (w := w8) (vs := #[.int .i64 0, .slice none 0 0, .int .i64 0, .int .i64 0]) (t := 27)) b9; have xv := kv.cell; have fv := kv.free))))
        all_goals
          go_wp2_with fail
          go_meet
          clear PD PE OD OE
          have hqr : ∀ j, Value.ownBlock (.slice a t.acts.length cp) = some j → j < wr.heap.size := fun j hj => (OV.out.lt j hj).2
          have hqn := own_gt o9
          (try simp only [World.size_alloc, World.size_drew] at hqn)
          have OXN := own_lo (lo' := w.heap.size + 1) o9 (by (try simp only [World.size_alloc, World.size_drew]); omega)
          refine ⟨_, x8, va, vc, rfl, rfl, ?_, ?_, ?_, ?_, ?_, ?_, ?_, ?_, ?_⟩
          · (repeat' first | (with_reducible assumption) | (with_reducible exact Bk.new) | (with_reducible exact Bk.four (by assumption)) | (with_reducible refine Bk.drew ?_) | (with_reducible refine Bk.dn ?_ _) | (with_reducible refine Bk.below ?_ (by assumption)) | (with_reducible refine Bk.rdn ?_ (by assumption) ?_) | (with_reducible refine Bk.alloc ?_ _) | (with_reducible refine Bk.far ?_ _ ?_ _) | (dsimp only; omega) | omega | (simp only [World.size_alloc, World.size_drew]; omega))
          · omega
          · omega
          · (repeat' first | (with_reducible assumption) | (with_reducible exact Bk.new) | (with_reducible exact Bk.four (by assumption)) | (with_reducible refine Bk.drew ?_) | (with_reducible refine Bk.dn ?_ _) | (with_reducible refine Bk.below ?_ (by assumption)) | (with_reducible refine Bk.rdn ?_ (by assumption) ?_) | (with_reducible refine Bk.alloc ?_ _) | (with_reducible refine Bk.far ?_ _ ?_ _) | (dsimp only; omega) | omega | (simp only [World.size_alloc, World.size_drew]; omega))
          · (repeat' first | (with_reducible assumption) | (with_reducible exact Bk.new) | (with_reducible exact Bk.four (by assumption)) | (with_reducible refine Bk.drew ?_) | (with_reducible refine Bk.dn ?_ _) | (with_reducible refine Bk.below ?_ (by assumption)) | (with_reducible refine Bk.rdn ?_ (by assumption) ?_) | (with_reducible refine Bk.alloc ?_ _) | (with_reducible refine Bk.far ?_ _ ?_ _) | (dsimp only; omega) | omega | (simp only [World.size_alloc, World.size_drew]; omega))
          · refine Lib.hid ?_
            (repeat' first | (with_reducible exact OV.out) | (with_reducible refine own_below ?_ (by assumption)) | (with_reducible refine own_rd ?_ (by assumption) ?_) | (with_reducible refine own_alloc ?_ _) | (with_reducible refine own_drew ?_) | (with_reducible refine own_setne ?_ ?_ _ _) | omega | (simp only [World.size_alloc, World.size_drew]; omega))
            all_goals (intro j hj; have := hqr j hj; omega)
          · refine Lib.hid ?_
            (repeat' first | (with_reducible exact OXN) | (with_reducible refine own_below ?_ (by assumption)) | (with_reducible refine own_rd ?_ (by assumption) ?_) | (with_reducible refine own_alloc ?_ _) | (with_reducible refine own_drew ?_) | (with_reducible refine own_setne ?_ ?_ _ _) | omega | (simp only [World.size_alloc, World.size_drew]; omega))
            all_goals (intro j hj; have := hqn j hj; omega)
          · exact Lib.hid (fun j hj => by have := hqn j hj; omega)
          · (repeat' first | (with_reducible exact PR) | (with_reducible refine Reads.via (by assumption) ?_) | (with_reducible refine Reads.grow (by assumption) ?_) | (with_reducible refine Reads.al ?_ _) | (with_reducible refine Reads.dr ?_) | (with_reducible refine Reads.set ?_ hlt ?_ _ _) | omega | (simp only [World.size_alloc, World.size_drew]; omega))
      case rest =>
        obtain ⟨g, x, va, vc, rfl, rfl, K8, hg1, hg2, KT2, KO2, OV2, OX2, hqx, PR2⟩ := hcut
        obtain ⟨n2, ok2, hn2⟩ : ∃ n2 ok2, narrowT t x = (n2, ok2) := ⟨_, _, rfl⟩
        have hbn := narrowT_bd t x (3 - c) hbd.out.1 hbd.out.2
        rw [hn2] at K8 OX2 hqx hbn ⊢
        dsimp only at K8 OX2 hqx hbn ⊢
        have HBN := Lib.hid hbn
        clear hn2 hbn xt
        have x8 := K8.cell
        have x6t := KT2.cell
        have f6t := KT2.free
        have hc1 : ((c - 1 : Nat) : Int) = c - 1 := by omega
        cases ok2
        · go_wp2_with fail
          go_roundw
          case rel => exact ⟨c - 1, t, a, cp, by omega, by rw [hc1], ⟨hbd.out.1.mono (by omega), hbd.out.2⟩, KT2, KO2, OV2, hq, PR2.mono (by omega)⟩
          case measure => simp only [intOf]; omega
        · go_wp2_with fail
          go_roundw
          case rel =>
            refine ⟨c - 1, n2, va, vc, by omega, by rw [hc1], ⟨HBN.out.1.mono (by omega), HBN.out.2⟩, Bk.four KT2, ?_, ?_, hqx, ?_⟩
            · (repeat' first | (with_reducible assumption) | (with_reducible exact Bk.new) | (with_reducible exact Bk.four (by assumption)) | (with_reducible refine Bk.drew ?_) | (with_reducible refine Bk.dn ?_ _) | (with_reducible refine Bk.below ?_ (by assumption)) | (with_reducible refine Bk.rdn ?_ (by assumption) ?_) | (with_reducible refine Bk.alloc ?_ _) | (with_reducible refine Bk.far ?_ _ ?_ _) | (dsimp only; omega) | omega | (simp only [World.size_alloc, World.size_drew]; omega))
            · refine Lib.hid ?_
              (repeat' first | (with_reducible exact OX2.out) | (with_reducible refine own_below ?_ (by assumption)) | (with_reducible refine own_rd ?_ (by assumption) ?_) | (with_reducible refine own_alloc ?_ _) | (with_reducible refine own_drew ?_) | (with_reducible refine own_setne ?_ ?_ _ _) | omega | (simp only [World.size_alloc, World.size_drew]; omega))
              all_goals (intro j hj; have := hqx.out j hj; omega)
            · refine Reads.mono (M' := M + 9 - c + 1) ?_ (by omega)
              (repeat' first | (with_reducible exact PR2) | (with_reducible refine Reads.via (by assumption) ?_) | (with_reducible refine Reads.grow (by assumption) ?_) | (with_reducible refine Reads.al ?_ _) | (with_reducible refine Reads.dr ?_) | (with_reducible refine Reads.set ?_ hlt ?_ _ _) | omega | (simp only [World.size_alloc, World.size_drew]; omega))
          case measure => simp only [intOf]; omega
    · obtain rfl : c = 0 := by omega
      have HB := Lib.hid (hbd.out.1.mono (show 3 - 0 ≤ 3 from Nat.le_refl _))
      have hsl := hbd.out.2
      have PX := PR.mono (M2 := M + 9) (by omega)
      have z99 := PR.size
      clear PR hbd xt
      have xt := KT.cell
      go_wp2_with fail
      refine (odd_any b n _ _ PX.rd (by omega) (by omega) (by omega)).mono ?_
      rintro e w21 ⟨y, rfl, r21⟩
      have P502 := Reads.trans PX r21
      clear PX
      have z502 := r21.size
      try simp only [World.size_alloc] at z502
      have Kt503 := Bk.rdn KT r21 (by omega)
      clear xt
      clear KT
      have xt := Kt503.cell
      have Ko504 := Bk.rdn KO r21 (by omega)
      clear KO
      have xo := Ko504.cell
      have Ov505 := Lib.hid (own_rd OV.out r21 (by (try simp only [World.size_alloc]); omega))
      clear OV
      cases y
      · have PF := P502.mono (M2 := M + 15) (by omega)
        have hq1 : ∀ j, Value.ownBlock (.slice a t.acts.length cp) = some j → j ≠ w.heap.size ∧ j ≠ w6.heap.size := fun j hj => by have h1 := own_gt Ov505.out j hj; have h2 := hq.out j hj; omega
        have ho := Ov505.out
        have xo9 := Ko504.cell
        have fo9 := Ko504.free
        go_wp2_with fail
        go_region_held3 (fun w' => (∀ o, w'.cell? ⟨w6.heap.size, o, none⟩ = (#[.int .i64 t.who, .slice a t.acts.length cp, .int .i64 t.til, .int .i64 t.sl] : Array Value)[o]?)) ((refine Bk.cell (t := 27) ?_; (repeat' first | (with_reducible assumption) | (with_reducible exact Bk.new) | (with_reducible exact Bk.four (by assumption)) | (with_reducible refine Bk.drew ?_) | (with_reducible refine Bk.dn ?_ _) | (with_reducible refine Bk.below ?_ (by assumption)) | (with_reducible refine Bk.rdn ?_ (by assumption) ?_) | (with_reducible refine Bk.alloc ?_ _) | (with_reducible refine Bk.far ?_ _ ?_ _) | (dsimp only; omega) | omega | (simp only [World.size_alloc, World.size_drew]; omega)))) (fail)
        go_wp2_with fail
        (try simp only [Exit.inBlock, Exit.then]); refine bodyPost_ret (by simp [results, Try.results40, go_sem, xo9]; try rfl) rfl ?_
        refine ⟨key, t, _, rfl, hk0, hk1, HB.out.mono (by omega), ?_, ?_⟩
        · refine own_lo (lo := w.heap.size + 1) ?_ (by omega)
          show World.ownsRow _ _ _ 1 (.slice a t.acts.length cp) t.acts.length (cellsI t.acts)
          (repeat' first | (with_reducible exact ho) | (with_reducible refine own_below ?_ (by assumption)) | (with_reducible refine own_rd ?_ (by assumption) ?_) | (with_reducible refine own_alloc ?_ _) | (with_reducible refine own_drew ?_) | (with_reducible refine own_setne ?_ ?_ _ _) | omega | (simp only [World.size_alloc, World.size_drew]; omega))
          all_goals (intro j hj; have := hq1 j hj; omega)
        · refine Reads.mono (M' := M + 15) ?_ (by omega)
          (repeat' first | (with_reducible exact PF) | (with_reducible refine Reads.via (by assumption) ?_) | (with_reducible refine Reads.grow (by assumption) ?_) | (with_reducible refine Reads.al ?_ _) | (with_reducible refine Reads.dr ?_) | (with_reducible refine Reads.set ?_ hlt ?_ _ _) | omega | (simp only [World.size_alloc, World.size_drew]; omega))
      · go_wp2_with fail
        refine (pick_any b 5 _ _ P502.rd (by omega) (by omega)).mono ?_
        rintro e w22 ⟨x22, rfl, lo22, hi22, r22⟩
        have P507 := Reads.trans P502 r22
        clear P502
        have z507 := r22.size
        try simp only [World.size_alloc] at z507
        have Kt508 := Bk.rdn Kt503 r22 (by omega)
        clear xt
        clear Kt503
        have xt := Kt508.cell
        have Ko509 := Bk.rdn Ko504 r22 (by omega)
        clear xo
        clear Ko504
        have xo := Ko509.cell
        have Ov510 := Lib.hid (own_rd Ov505.out r22 (by (try simp only [World.size_alloc]); omega))
        clear Ov505
        rcases (show x22 = 0 ∨ x22 = 1 ∨ x22 = 2 ∨ x22 = 3 ∨ x22 = 4 by omega) with rfl | rfl | rfl | rfl | rfl
        · have hs0 := HB.out.s0
          have hs1 := HB.out.s1
          have PF := P507.mono (M2 := M + 15) (by omega)
          have ho := Ov510.out
          have hq1 : ∀ j, Value.ownBlock (.slice a t.acts.length cp) = some j → j ≠ w.heap.size ∧ j ≠ w6.heap.size := fun j hj => by have h1 := own_gt ho j hj; have h2 := hq.out j hj; omega
          have zzt := (Kt508).lt
          (try simp only [World.size_alloc, World.size_drew] at zzt)
          have f6t := Kt508.free
          have KTn : Bk (World.setCell w22 ⟨w6.heap.size, 3, none⟩ (.int .i64 (t.sl + 1))) w6.heap.size #[.int .i64 t.who, .slice a t.acts.length cp, .int .i64 t.til, .int .i64 (t.sl + 1)] 27 := Kt508.same 3 _
          have KOn : Bk (World.setCell w22 ⟨w6.heap.size, 3, none⟩ (.int .i64 (t.sl + 1))) w.heap.size #[.int .i64 0, .slice none 0 0, .int .i64 0, .int .i64 0] 27 := Ko509.far _ (by dsimp only; omega) _
          go_wp2_with fail
          clear xo
          clear xt
          have xo9 := KOn.cell
          have fo9 := KOn.free
          go_wp2_with fail
          go_region_held3 (fun w' => (∀ o, w'.cell? ⟨w6.heap.size, o, none⟩ = (#[.int .i64 t.who, .slice a t.acts.length cp, .int .i64 t.til, .int .i64 (t.sl + 1)] : Array Value)[o]?)) ((refine Bk.cell (t := 27) ?_; (repeat' first | (with_reducible assumption) | (with_reducible exact Bk.new) | (with_reducible exact Bk.four (by assumption)) | (with_reducible refine Bk.drew ?_) | (with_reducible refine Bk.dn ?_ _) | (with_reducible refine Bk.below ?_ (by assumption)) | (with_reducible refine Bk.rdn ?_ (by assumption) ?_) | (with_reducible refine Bk.alloc ?_ _) | (with_reducible refine Bk.far ?_ _ ?_ _) | (dsimp only; omega) | omega | (simp only [World.size_alloc, World.size_drew]; omega)))) (fail)
          go_wp2_with fail
          (try simp only [Exit.inBlock, Exit.then]); refine bodyPost_ret (by simp [results, Try.results40, go_sem, xo9]; try rfl) rfl ?_
          refine ⟨key, ⟨t.who, t.acts, t.til, t.sl + 1⟩, _, rfl, hk0, hk1, (by have H := HB.out; exact ⟨H.w0, H.w1, H.u0, H.u1, by have := H.s0; dsimp only; omega, by have := hsl; dsimp only; omega, Nat.le_trans H.ln (by omega)⟩), ?_, ?_⟩
          · refine own_lo (lo := w.heap.size + 1) ?_ (by omega)
            show World.ownsRow _ _ _ 1 (.slice a t.acts.length cp) t.acts.length (cellsI t.acts)
            (repeat' first | (with_reducible exact ho) | (with_reducible refine own_below ?_ (by assumption)) | (with_reducible refine own_rd ?_ (by assumption) ?_) | (with_reducible refine own_alloc ?_ _) | (with_reducible refine own_drew ?_) | (with_reducible refine own_setne ?_ ?_ _ _) | omega | (simp only [World.size_alloc, World.size_drew]; omega))
            all_goals (intro j hj; have := hq1 j hj; omega)
          · refine Reads.mono (M' := M + 15) ?_ (by omega)
            (repeat' first | (with_reducible exact PF) | (with_reducible refine Reads.via (by assumption) ?_) | (with_reducible refine Reads.grow (by assumption) ?_) | (with_reducible refine Reads.al ?_ _) | (with_reducible refine Reads.dr ?_) | (with_reducible refine Reads.set ?_ hlt ?_ _ _) | omega | (simp only [World.size_alloc, World.size_drew]; omega))
        · have zv := SlF.shape (own_sl Ov510.out)
          have zt22 := (Kt508).lt
          go_wp2_with (at_builtin; refine Hid.out ?_); refine Lib.hid ?_
          have hA : Below w22.heap.size w22 (w22.alloc (.cells #[] 3)) := Below.al (Below.refl _ _) _
          have hs9 := Lib.hid (SlF.below (own_sl Ov510.out) hA)
          have hl9 := HB.out.ln
          refine wpList_appS (s := .tmp 65) (x := .tmp 67) rfl 22 3 (.int .i64 0) 1 8 rfl Try.underlying22 infoI rfl (by decide) (by decide) w22.heap.size (.slice (some ⟨w22.heap.size, 0, none⟩) 0 0) 0 [] rfl (own_made_b rfl (Nat.le_refl _)) (.slice a t.acts.length cp) t.acts.length (cellsI t.acts) (by rfl) hs9.out (one_ints _) (by omega) (by simp) ?_
          intro v23 w23 own23 g23 hloc23 hnn23
          obtain ⟨va, vc, rfl, _, _⟩ := SlF.shape (own_sl own23)
          have hg0 : ∀ j, Value.ownBlock (.slice (some ⟨w22.heap.size, 0, none⟩) 0 0) = some j → w22.heap.size ≤ j := fun j hj => by simp [Value.ownBlock] at hj; omega
          have z23 := g23.size
          (try simp only [World.size_alloc, World.size_drew] at z23)
          have KT23 := ((Kt508).below hA).by g23 (fun e => by have := hg0 _ e.symm; have := (Kt508).lt; omega)
          have KO23 := ((Ko509).below hA).by g23 (fun e => by have := hg0 _ e.symm; have := (Ko509).lt; omega)
          have P23 := Reads.app g23 (Reads.al P507 _) hlt (fun j hj => by have := hg0 j hj; omega)
          have O23 : Hid (w23.ownsRow w22.heap.size 3 1 (.slice va t.acts.length vc) t.acts.length (cellsI t.acts)) := by simpa [Hid] using own23
          clear own23 g23 hloc23 hnn23 hg0 hs9 hA xt xo Kt508 Ko509
          have hA511 : Below w23.heap.size w23 (w23.alloc (.cells #[.int .i64 (-1), .int .i64 16, .int .i64 3] 3)) := Below.al (Below.refl _ _) _
          have P512 := Reads.below P23 hA511
          clear P23
          have z512 := hA511.size
          try simp only [World.size_alloc] at z512
          have Kt513 := KT23.below hA511
          clear KT23
          have xt := Kt513.cell
          have Ko514 := KO23.below hA511
          clear KO23
          have xo := Ko514.cell
          have Ov515 := Lib.hid (own_below O23.out hA511)
          clear O23
          clear hA511
          have Kp30 := Bk.new (w := w23) (vs := #[.int .i64 (-1), .int .i64 16, .int .i64 3]) (t := 3)
          have xp3 := Kp30.cell
          have yp3 := Kp30.lt
          simp only [World.size_alloc] at yp3
          go_wp2_with fail
          refine (pick_any b 3 _ _ P512.rd (by omega) (by omega)).mono ?_
          rintro e w24 ⟨x24, rfl, lo24, hi24, r24⟩
          have P517 := Reads.trans P512 r24
          clear P512
          have z517 := r24.size
          try simp only [World.size_alloc] at z517
          have Kt518 := Bk.rdn Kt513 r24 (by omega)
          clear xt
          clear Kt513
          have xt := Kt518.cell
          have Ko519 := Bk.rdn Ko514 r24 (by omega)
          clear xo
          clear Ko514
          have xo := Ko519.cell
          have Kp3520 := Bk.rdn Kp30 r24 (by omega)
          clear xp3
          clear Kp30
          have xp3 := Kp3520.cell
          have Ov521 := Lib.hid (own_rd Ov515.out r24 (by (try simp only [World.size_alloc]); omega))
          clear Ov515
          obtain ⟨m3, rfl⟩ : ∃ m3 : Nat, x24 = m3 := ⟨x24.toNat, by omega⟩
          obtain ⟨z, hz0, hz1, hcz⟩ : ∃ z : Int, -1 ≤ z ∧ z ≤ 16 ∧ w24.cell? ⟨w23.heap.size, m3, none⟩ = some (.int .i64 z) := by
            rcases (show m3 = 0 ∨ m3 = 1 ∨ m3 = 2 by omega) with rfl | rfl | rfl
            · exact ⟨_, by omega, by omega, (Kp3520.cell _).trans rfl⟩
            · exact ⟨_, by omega, by omega, (Kp3520.cell _).trans rfl⟩
            · exact ⟨_, by omega, by omega, (Kp3520.cell _).trans rfl⟩
          clear xp3 Kp3520
          have zt24 := (Kt518).lt
          go_wp2_with (at_builtin; refine Hid.out ?_); refine Lib.hid ?_
          have hA : Below w24.heap.size w24 (w24.alloc (.cells #[.int .i64 z] 3)) := Below.al (Below.refl _ _) _
          have hs9 := Lib.hid (slF_bk (k := 1) (n := 1) (cs := [.int .i64 z]) (bk_atb (W := w24) (vs := #[.int .i64 z]) (t := 3) rfl) rfl (by omega))
          refine wpList_appS (s := .tmp 68) (x := .tmp 74) rfl 22 3 (.int .i64 0) 1 8 rfl Try.underlying22 infoI rfl (by decide) (by decide) w22.heap.size (.slice va t.acts.length vc) t.acts.length (cellsI t.acts) rfl (own_alloc Ov521.out _) (.slice (some ⟨w24.heap.size, 0, none⟩) 1 1) 1 [.int .i64 z] (by rfl) hs9.out (one_int _) (by omega) (by (try simp only [World.size_alloc]); omega) ?_
          intro v25 w25 own25 g25 hloc25 hnn25
          obtain ⟨ua, uc, rfl, _, _⟩ := SlF.shape (own_sl own25)
          have hg0 : ∀ j, Value.ownBlock (.slice va t.acts.length vc) = some j → w22.heap.size ≤ j := own_gt Ov521.out
          have z25 := g25.size
          (try simp only [World.size_alloc, World.size_drew] at z25)
          have zo24 := (Ko519).lt
          have KT25 := ((Kt518).below hA).by g25 (fun e => by have := hg0 _ e.symm; omega)
          have KO25 := ((Ko519).below hA).by g25 (fun e => by have := hg0 _ e.symm; omega)
          have P25 := Reads.app g25 (Reads.al P517 _) hlt (fun j hj => by have := hg0 j hj; omega)
          have ho : w25.ownsRow (w.heap.size + 1) 3 1 (.slice ua (t.acts.length + 1) uc) (t.acts ++ [z]).length (cellsI (t.acts ++ [z])) := own_lo (own_more own25) (by omega)
          have hq1 : ∀ j, Value.ownBlock (.slice ua (t.acts.length + 1) uc) = some j → j ≠ w.heap.size ∧ j ≠ w6.heap.size := fun j hj => by have := own_gt own25 j hj; omega
          clear own25 g25 hloc25 hnn25 hg0 hs9 hA hcz xt xo Kt518 Ko519 Ov521
          have xt := KT25.cell
          have PF := P25.mono (M2 := M + 15) (by omega)
          have zzt := (KT25).lt
          (try simp only [World.size_alloc, World.size_drew] at zzt)
          have f6t := KT25.free
          have KTn : Bk (World.setCell w25 ⟨w6.heap.size, 1, none⟩ (.slice ua (t.acts.length + 1) uc)) w6.heap.size #[.int .i64 t.who, .slice ua (t.acts.length + 1) uc, .int .i64 t.til, .int .i64 t.sl] 27 := KT25.same 1 _
          have KOn : Bk (World.setCell w25 ⟨w6.heap.size, 1, none⟩ (.slice ua (t.acts.length + 1) uc)) w.heap.size #[.int .i64 0, .slice none 0 0, .int .i64 0, .int .i64 0] 27 := KO25.far _ (by dsimp only; omega) _
          go_wp2_with fail
          clear xt
          have xo9 := KOn.cell
          have fo9 := KOn.free
          go_wp2_with fail
          go_region_held3 (fun w' => (∀ o, w'.cell? ⟨w6.heap.size, o, none⟩ = (#[.int .i64 t.who, .slice ua (t.acts.length + 1) uc, .int .i64 t.til, .int .i64 t.sl] : Array Value)[o]?)) ((refine Bk.cell (t := 27) ?_; (repeat' first | (with_reducible assumption) | (with_reducible exact Bk.new) | (with_reducible exact Bk.four (by assumption)) | (with_reducible refine Bk.drew ?_) | (with_reducible refine Bk.dn ?_ _) | (with_reducible refine Bk.below ?_ (by assumption)) | (with_reducible refine Bk.rdn ?_ (by assumption) ?_) | (with_reducible refine Bk.alloc ?_ _) | (with_reducible refine Bk.far ?_ _ ?_ _) | (dsimp only; omega) | omega | (simp only [World.size_alloc, World.size_drew]; omega)))) (fail)
          go_wp2_with fail
          (try simp only [Exit.inBlock, Exit.then]); refine bodyPost_ret (by simp [results, Try.results40, go_sem, xo9]; try rfl) rfl ?_
          refine ⟨key, ⟨t.who, t.acts ++ [z], t.til, t.sl⟩, _, rfl, hk0, hk1, (by have H := HB.out; exact ⟨H.w0, H.w1, H.u0, H.u1, H.s0, H.s1, by have := H.ln; simp; omega⟩), ?_, ?_⟩
          · refine own_lo (lo := w.heap.size + 1) ?_ (by omega)
            show World.ownsRow _ _ _ 1 (.slice ua (t.acts.length + 1) uc) (t.acts ++ [z]).length (cellsI (t.acts ++ [z]))
            (repeat' first | (with_reducible exact ho) | (with_reducible refine own_below ?_ (by assumption)) | (with_reducible refine own_rd ?_ (by assumption) ?_) | (with_reducible refine own_alloc ?_ _) | (with_reducible refine own_drew ?_) | (with_reducible refine own_setne ?_ ?_ _ _) | omega | (simp only [World.size_alloc, World.size_drew]; omega))
            all_goals (intro j hj; have := hq1 j hj; omega)
          · refine Reads.mono (M' := M + 15) ?_ (by omega)
            (repeat' first | (with_reducible exact PF) | (with_reducible refine Reads.via (by assumption) ?_) | (with_reducible refine Reads.grow (by assumption) ?_) | (with_reducible refine Reads.al ?_ _) | (with_reducible refine Reads.dr ?_) | (with_reducible refine Reads.set ?_ hlt ?_ _ _) | omega | (simp only [World.size_alloc, World.size_drew]; omega))
        · have hA511 : Below w22.heap.size w22 (w22.alloc (.cells #[.int .i64 (-1), .int .i64 7, .int .i64 5] 3)) := Below.al (Below.refl _ _) _
          have P512 := Reads.below P507 hA511
          clear P507
          have z512 := hA511.size
          try simp only [World.size_alloc] at z512
          have Kt513 := Kt508.below hA511
          clear xt
          clear Kt508
          have xt := Kt513.cell
          have Ko514 := Ko509.below hA511
          clear xo
          clear Ko509
          have xo := Ko514.cell
          have Ov515 := Lib.hid (own_below Ov510.out hA511)
          clear Ov510
          clear hA511
          have Kp30 := Bk.new (w := w22) (vs := #[.int .i64 (-1), .int .i64 7, .int .i64 5]) (t := 3)
          have xp3 := Kp30.cell
          have yp3 := Kp30.lt
          simp only [World.size_alloc] at yp3
          go_wp2_with fail
          refine (pick_any b 3 _ _ P512.rd (by omega) (by omega)).mono ?_
          rintro e w23 ⟨x24, rfl, lo23, hi23, r23⟩
          have P517 := Reads.trans P512 r23
          clear P512
          have z517 := r23.size
          try simp only [World.size_alloc] at z517
          have Kt518 := Bk.rdn Kt513 r23 (by omega)
          clear xt
          clear Kt513
          have xt := Kt518.cell
          have Ko519 := Bk.rdn Ko514 r23 (by omega)
          clear xo
          clear Ko514
          have xo := Ko519.cell
          have Kp3520 := Bk.rdn Kp30 r23 (by omega)
          clear xp3
          clear Kp30
          have xp3 := Kp3520.cell
          have Ov521 := Lib.hid (own_rd Ov515.out r23 (by (try simp only [World.size_alloc]); omega))
          clear Ov515
          obtain ⟨m3, rfl⟩ : ∃ m3 : Nat, x24 = m3 := ⟨x24.toNat, by omega⟩
          obtain ⟨z, hz0, hz1, hcz⟩ : ∃ z : Int, -1 ≤ z ∧ z ≤ 7 ∧ w23.cell? ⟨w22.heap.size, m3, none⟩ = some (.int .i64 z) := by
            rcases (show m3 = 0 ∨ m3 = 1 ∨ m3 = 2 by omega) with rfl | rfl | rfl
            · exact ⟨_, by omega, by omega, (Kp3520.cell _).trans rfl⟩
            · exact ⟨_, by omega, by omega, (Kp3520.cell _).trans rfl⟩
            · exact ⟨_, by omega, by omega, (Kp3520.cell _).trans rfl⟩
          clear xp3 Kp3520
          have PF := P517.mono (M2 := M + 15) (by omega)
          have ho := Ov521.out
          have hq1 : ∀ j, Value.ownBlock (.slice a t.acts.length cp) = some j → j ≠ w.heap.size ∧ j ≠ w6.heap.size := fun j hj => by have h1 := own_gt ho j hj; have h2 := hq.out j hj; omega
          have zzt := (Kt518).lt
          (try simp only [World.size_alloc, World.size_drew] at zzt)
          have f6t := Kt518.free
          have KTn : Bk (World.setCell w23 ⟨w6.heap.size, 0, none⟩ (.int .i64 z)) w6.heap.size #[.int .i64 z, .slice a t.acts.length cp, .int .i64 t.til, .int .i64 t.sl] 27 := Kt518.same 0 _
          have KOn : Bk (World.setCell w23 ⟨w6.heap.size, 0, none⟩ (.int .i64 z)) w.heap.size #[.int .i64 0, .slice none 0 0, .int .i64 0, .int .i64 0] 27 := Ko519.far _ (by dsimp only; omega) _
          go_wp2_with fail
          clear xo
          clear xt
          have xo9 := KOn.cell
          have fo9 := KOn.free
          go_wp2_with fail
          go_region_held3 (fun w' => (∀ o, w'.cell? ⟨w6.heap.size, o, none⟩ = (#[.int .i64 z, .slice a t.acts.length cp, .int .i64 t.til, .int .i64 t.sl] : Array Value)[o]?)) ((refine Bk.cell (t := 27) ?_; (repeat' first | (with_reducible assumption) | (with_reducible exact Bk.new) | (with_reducible exact Bk.four (by assumption)) | (with_reducible refine Bk.drew ?_) | (with_reducible refine Bk.dn ?_ _) | (with_reducible refine Bk.below ?_ (by assumption)) | (with_reducible refine Bk.rdn ?_ (by assumption) ?_) | (with_reducible refine Bk.alloc ?_ _) | (with_reducible refine Bk.far ?_ _ ?_ _) | (dsimp only; omega) | omega | (simp only [World.size_alloc, World.size_drew]; omega)))) (fail)
          go_wp2_with fail
          (try simp only [Exit.inBlock, Exit.then]); refine bodyPost_ret (by simp [results, Try.results40, go_sem, xo9]; try rfl) rfl ?_
          refine ⟨key, ⟨z, t.acts, t.til, t.sl⟩, _, rfl, hk0, hk1, (by have H := HB.out; exact ⟨hz0, hz1, H.u0, H.u1, H.s0, H.s1, Nat.le_trans H.ln (by omega)⟩), ?_, ?_⟩
          · refine own_lo (lo := w.heap.size + 1) ?_ (by omega)
            show World.ownsRow _ _ _ 1 (.slice a t.acts.length cp) t.acts.length (cellsI t.acts)
            (repeat' first | (with_reducible exact ho) | (with_reducible refine own_below ?_ (by assumption)) | (with_reducible refine own_rd ?_ (by assumption) ?_) | (with_reducible refine own_alloc ?_ _) | (with_reducible refine own_drew ?_) | (with_reducible refine own_setne ?_ ?_ _ _) | omega | (simp only [World.size_alloc, World.size_drew]; omega))
            all_goals (intro j hj; have := hq1 j hj; omega)
          · refine Reads.mono (M' := M + 15) ?_ (by omega)
            (repeat' first | (with_reducible exact PF) | (with_reducible refine Reads.via (by assumption) ?_) | (with_reducible refine Reads.grow (by assumption) ?_) | (with_reducible refine Reads.al ?_ _) | (with_reducible refine Reads.dr ?_) | (with_reducible refine Reads.set ?_ hlt ?_ _ _) | omega | (simp only [World.size_alloc, World.size_drew]; omega))
        · have hA511 : Below w22.heap.size w22 (w22.alloc (.cells #[.int .i64 (-1), .int .i64 1001, .int .i64 99] 3)) := Below.al (Below.refl _ _) _
          have P512 := Reads.below P507 hA511
          clear P507
          have z512 := hA511.size
          try simp only [World.size_alloc] at z512
          have Kt513 := Kt508.below hA511
          clear xt
          clear Kt508
          have xt := Kt513.cell
          have Ko514 := Ko509.below hA511
          clear xo
          clear Ko509
          have xo := Ko514.cell
          have Ov515 := Lib.hid (own_below Ov510.out hA511)
          clear Ov510
          clear hA511
          have Kp30 := Bk.new (w := w22) (vs := #[.int .i64 (-1), .int .i64 1001, .int .i64 99]) (t := 3)
          have xp3 := Kp30.cell
          have yp3 := Kp30.lt
          simp only [World.size_alloc] at yp3
          go_wp2_with fail
          refine (pick_any b 3 _ _ P512.rd (by omega) (by omega)).mono ?_
          rintro e w23 ⟨x24, rfl, lo23, hi23, r23⟩
          have P517 := Reads.trans P512 r23
          clear P512
          have z517 := r23.size
          try simp only [World.size_alloc] at z517
          have Kt518 := Bk.rdn Kt513 r23 (by omega)
          clear xt
          clear Kt513
          have xt := Kt518.cell
          have Ko519 := Bk.rdn Ko514 r23 (by omega)
          clear xo
          clear Ko514
          have xo := Ko519.cell
          have Kp3520 := Bk.rdn Kp30 r23 (by omega)
          clear xp3
          clear Kp30
          have xp3 := Kp3520.cell
          have Ov521 := Lib.hid (own_rd Ov515.out r23 (by (try simp only [World.size_alloc]); omega))
          clear Ov515
          obtain ⟨m3, rfl⟩ : ∃ m3 : Nat, x24 = m3 := ⟨x24.toNat, by omega⟩
          obtain ⟨z, hz0, hz1, hcz⟩ : ∃ z : Int, -1 ≤ z ∧ z ≤ 1001 ∧ w23.cell? ⟨w22.heap.size, m3, none⟩ = some (.int .i64 z) := by
            rcases (show m3 = 0 ∨ m3 = 1 ∨ m3 = 2 by omega) with rfl | rfl | rfl
            · exact ⟨_, by omega, by omega, (Kp3520.cell _).trans rfl⟩
            · exact ⟨_, by omega, by omega, (Kp3520.cell _).trans rfl⟩
            · exact ⟨_, by omega, by omega, (Kp3520.cell _).trans rfl⟩
          clear xp3 Kp3520
          have PF := P517.mono (M2 := M + 15) (by omega)
          have ho := Ov521.out
          have hq1 : ∀ j, Value.ownBlock (.slice a t.acts.length cp) = some j → j ≠ w.heap.size ∧ j ≠ w6.heap.size := fun j hj => by have h1 := own_gt ho j hj; have h2 := hq.out j hj; omega
          have zzt := (Kt518).lt
          (try simp only [World.size_alloc, World.size_drew] at zzt)
          have f6t := Kt518.free
          have KTn : Bk (World.setCell w23 ⟨w6.heap.size, 2, none⟩ (.int .i64 z)) w6.heap.size #[.int .i64 t.who, .slice a t.acts.length cp, .int .i64 z, .int .i64 t.sl] 27 := Kt518.same 2 _
          have KOn : Bk (World.setCell w23 ⟨w6.heap.size, 2, none⟩ (.int .i64 z)) w.heap.size #[.int .i64 0, .slice none 0 0, .int .i64 0, .int .i64 0] 27 := Ko519.far _ (by dsimp only; omega) _
          go_wp2_with fail
          clear xo
          clear xt
          have xo9 := KOn.cell
          have fo9 := KOn.free
          go_wp2_with fail
          go_region_held3 (fun w' => (∀ o, w'.cell? ⟨w6.heap.size, o, none⟩ = (#[.int .i64 t.who, .slice a t.acts.length cp, .int .i64 z, .int .i64 t.sl] : Array Value)[o]?)) ((refine Bk.cell (t := 27) ?_; (repeat' first | (with_reducible assumption) | (with_reducible exact Bk.new) | (with_reducible exact Bk.four (by assumption)) | (with_reducible refine Bk.drew ?_) | (with_reducible refine Bk.dn ?_ _) | (with_reducible refine Bk.below ?_ (by assumption)) | (with_reducible refine Bk.rdn ?_ (by assumption) ?_) | (with_reducible refine Bk.alloc ?_ _) | (with_reducible refine Bk.far ?_ _ ?_ _) | (dsimp only; omega) | omega | (simp only [World.size_alloc, World.size_drew]; omega)))) (fail)
          go_wp2_with fail
          (try simp only [Exit.inBlock, Exit.then]); refine bodyPost_ret (by simp [results, Try.results40, go_sem, xo9]; try rfl) rfl ?_
          refine ⟨key, ⟨t.who, t.acts, z, t.sl⟩, _, rfl, hk0, hk1, (by have H := HB.out; exact ⟨H.w0, H.w1, hz0, hz1, H.s0, H.s1, Nat.le_trans H.ln (by omega)⟩), ?_, ?_⟩
          · refine own_lo (lo := w.heap.size + 1) ?_ (by omega)
            show World.ownsRow _ _ _ 1 (.slice a t.acts.length cp) t.acts.length (cellsI t.acts)
            (repeat' first | (with_reducible exact ho) | (with_reducible refine own_below ?_ (by assumption)) | (with_reducible refine own_rd ?_ (by assumption) ?_) | (with_reducible refine own_alloc ?_ _) | (with_reducible refine own_drew ?_) | (with_reducible refine own_setne ?_ ?_ _ _) | omega | (simp only [World.size_alloc, World.size_drew]; omega))
            all_goals (intro j hj; have := hq1 j hj; omega)
          · refine Reads.mono (M' := M + 15) ?_ (by omega)
            (repeat' first | (with_reducible exact PF) | (with_reducible refine Reads.via (by assumption) ?_) | (with_reducible refine Reads.grow (by assumption) ?_) | (with_reducible refine Reads.al ?_ _) | (with_reducible refine Reads.dr ?_) | (with_reducible refine Reads.set ?_ hlt ?_ _ _) | omega | (simp only [World.size_alloc, World.size_drew]; omega))
        · have hA511 : Below w22.heap.size w22 (w22.alloc (.cells #[.int .i64 1, .int .i64 1, .int .i64 1, .int .i64 1, .int .i64 1, .int .i64 1] 3)) := Below.al (Below.refl _ _) _
          have P512 := Reads.below P507 hA511
          clear P507
          have z512 := hA511.size
          try simp only [World.size_alloc] at z512
          have Kt513 := Kt508.below hA511
          clear xt
          clear Kt508
          have xt := Kt513.cell
          have Ko514 := Ko509.below hA511
          clear xo
          clear Ko509
          have xo := Ko514.cell
          have Ov515 := Lib.hid (own_below Ov510.out hA511)
          clear Ov510
          clear hA511
          have Kp60 := Bk.new (w := w22) (vs := #[.int .i64 1, .int .i64 1, .int .i64 1, .int .i64 1, .int .i64 1, .int .i64 1]) (t := 3)
          have xp6 := Kp60.cell
          have yp6 := Kp60.lt
          simp only [World.size_alloc] at yp6
          have ho : (w22.alloc (.cells #[.int .i64 1, .int .i64 1, .int .i64 1, .int .i64 1, .int .i64 1, .int .i64 1] 3)).ownsRow (w.heap.size + 1) 3 1 (.slice (some ⟨w22.heap.size, 0, none⟩) 6 6) 6 (cellsI [1, 1, 1, 1, 1, 1]) := own_of_bk Kp60 (by omega) (by unfold maxLen; omega) rfl rfl (fun j hj => by simp [cellsI, encI])
          have zt22 := (Kt513).lt
          (try simp only [World.size_alloc, World.size_drew] at zt22)
          have hq1 : ∀ j, Value.ownBlock (.slice (some ⟨w22.heap.size, 0, none⟩) 6 6) = some j → j ≠ w.heap.size ∧ j ≠ w6.heap.size := fun j hj => by simp [Value.ownBlock] at hj; omega
          clear xp6 Kp60
          have PF := P512.mono (M2 := M + 15) (by omega)
          have zzt := (Kt513).lt
          (try simp only [World.size_alloc, World.size_drew] at zzt)
          have f6t := Kt513.free
          have KTn : Bk (World.setCell (w22.alloc (.cells #[.int .i64 1, .int .i64 1, .int .i64 1, .int .i64 1, .int .i64 1, .int .i64 1] 3)) ⟨w6.heap.size, 1, none⟩ (.slice (some ⟨w22.heap.size, 0, none⟩) 6 6)) w6.heap.size #[.int .i64 t.who, .slice (some ⟨w22.heap.size, 0, none⟩) 6 6, .int .i64 t.til, .int .i64 t.sl] 27 := Kt513.same 1 _
          have KOn : Bk (World.setCell (w22.alloc (.cells #[.int .i64 1, .int .i64 1, .int .i64 1, .int .i64 1, .int .i64 1, .int .i64 1] 3)) ⟨w6.heap.size, 1, none⟩ (.slice (some ⟨w22.heap.size, 0, none⟩) 6 6)) w.heap.size #[.int .i64 0, .slice none 0 0, .int .i64 0, .int .i64 0] 27 := Ko514.far _ (by dsimp only; omega) _
          go_wp2_with fail
          clear xo
          clear xt
          have xo9 := KOn.cell
          have fo9 := KOn.free
          go_wp2_with fail
          go_region_held3 (fun w' => (∀ o, w'.cell? ⟨w6.heap.size, o, none⟩ = (#[.int .i64 t.who, .slice (some ⟨w22.heap.size, 0, none⟩) 6 6, .int .i64 t.til, .int .i64 t.sl] : Array Value)[o]?)) ((refine Bk.cell (t := 27) ?_; (repeat' first | (with_reducible assumption) | (with_reducible exact Bk.new) | (with_reducible exact Bk.four (by assumption)) | (with_reducible refine Bk.drew ?_) | (with_reducible refine Bk.dn ?_ _) | (with_reducible refine Bk.below ?_ (by assumption)) | (with_reducible refine Bk.rdn ?_ (by assumption) ?_) | (with_reducible refine Bk.alloc ?_ _) | (with_reducible refine Bk.far ?_ _ ?_ _) | (dsimp only; omega) | omega | (simp only [World.size_alloc, World.size_drew]; omega)))) (fail)
          go_wp2_with fail
          (try simp only [Exit.inBlock, Exit.then]); refine bodyPost_ret (by simp [results, Try.results40, go_sem, xo9]; try rfl) rfl ?_
          refine ⟨key, ⟨t.who, [1, 1, 1, 1, 1, 1], t.til, t.sl⟩, _, rfl, hk0, hk1, (by have H := HB.out; exact ⟨H.w0, H.w1, H.u0, H.u1, H.s0, H.s1, by simp⟩), ?_, ?_⟩
          · refine own_lo (lo := w.heap.size + 1) ?_ (by omega)
            show World.ownsRow _ _ _ 1 (.slice (some ⟨w22.heap.size, 0, none⟩) 6 6) 6 (cellsI [1, 1, 1, 1, 1, 1])
            (repeat' first | (with_reducible exact ho) | (with_reducible refine own_below ?_ (by assumption)) | (with_reducible refine own_rd ?_ (by assumption) ?_) | (with_reducible refine own_alloc ?_ _) | (with_reducible refine own_drew ?_) | (with_reducible refine own_setne ?_ ?_ _ _) | omega | (simp only [World.size_alloc, World.size_drew]; omega))
            all_goals (intro j hj; have := hq1 j hj; omega)
          · refine Reads.mono (M' := M + 15) ?_ (by omega)
            (repeat' first | (with_reducible exact PF) | (with_reducible refine Reads.via (by assumption) ?_) | (with_reducible refine Reads.grow (by assumption) ?_) | (with_reducible refine Reads.al ?_ _) | (with_reducible refine Reads.dr ?_) | (with_reducible refine Reads.set ?_ hlt ?_ _ _) | omega | (simp only [World.size_alloc, World.size_drew]; omega))
end Go.Proofs.Ytnkfhfhioknjeaa
