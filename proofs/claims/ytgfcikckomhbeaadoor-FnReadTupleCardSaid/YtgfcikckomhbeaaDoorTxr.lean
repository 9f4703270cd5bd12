/-
  Tuples are read: the program's way. Condition: the library's variables that the road reads hold what they are laid to hold.
-/
import Derived.Test.YtgfcikckomhbeaaDoorTxa
import Derived.Test.YtgfcikckomhbeaaDoorSc
import Derived.Test.YtgfcikckomhbeaaDoorUb
set_option linter.unusedSimpArgs false
set_option linter.unusedVariables false
namespace Go.Proofs.YtgfcikckomhbeaaDoor
open Go.RowKit
/-- bytealg's MaxLen is a number, strconv's two errors are errors. -/
def DoorN (w : World) : Prop := (∃ m, w.cell? ⟨0, 0, none⟩ = some (.int .i64 m)) ∧ (∃ tp p, w.cell? ⟨1, 0, none⟩ = some (.iface tp p)) ∧ (∃ tp p, w.cell? ⟨2, 0, none⟩ = some (.iface tp p))
theorem DoorN.below {w w' : World} (h : DoorN w) (b : Below w.heap.size w w') : DoorN w' := by
  obtain ⟨⟨m, h1⟩, ⟨t1, p1, h2⟩, t2, p2, h3⟩ := h
  exact ⟨⟨m, (b.cell (World.block_lt_of_cell? _ _ h1)).trans h1⟩, ⟨t1, p1, (b.cell (World.block_lt_of_cell? _ _ h2)).trans h2⟩, t2, p2, (b.cell (World.block_lt_of_cell? _ _ h3)).trans h3⟩
theorem atoi_any (s : ByteArray) (w : World) (h : DoorN w) (hs : s.size ≤ 4194304) : Calls Tryd.prog 26 #[.string s] w fun e w' => ∃ (n : Int) (v : Value), e = .returned (.tuple #[.int .i64 n, v]) ∧ (∀ m, Lib.atoiAll s.data.toList = .ok m → n = m) ∧ Below w.heap.size w w' := by
  obtain ⟨_, ⟨t1, p1, h2⟩, t2, p2, h3⟩ := h
  cases hc : Lib.atoiAll s.data.toList with
  | ok v =>
    refine (Tryd.strconv_Atoi_ok s (by omega) v hc w).mono ?_
    rintro e w' ⟨rfl, hw⟩
    refine ⟨v, _, rfl, fun m hm => by injection hm, ?_⟩
    rcases hw with rfl | ⟨t, rfl⟩
    · exact Below.refl _ _
    · exact Lib.bytesWorld_below w _ t
  | «syntax» =>
    refine (Tryd.strconv_Atoi_syntax s (by omega) hc _ w h2 (.inr ⟨t1, p1, rfl⟩)).mono ?_
    rintro e w' ⟨N, rfl, _, _, b⟩
    exact ⟨0, _, rfl, fun m hm => (by cases hm), b⟩
  | range =>
    refine (Tryd.strconv_Atoi_range s (by omega) hc _ w h3 (.inr ⟨t2, p2, rfl⟩)).mono ?_
    rintro e w' ⟨N, rfl, _, _, b⟩
    exact ⟨_, _, rfl, fun m hm => (by cases hm), b⟩
def CutS (s sep : ByteArray) (w : World) (e : Ending) (w' : World) : Prop := ∃ (a b : ByteArray) (f : Bool), e = .returned (.tuple #[.string a, .string b, .bool f]) ∧ a.data.toList = (Lib.cut s.data.toList sep.data.toList).1 ∧ b.data.toList = (Lib.cut s.data.toList sep.data.toList).2.1 ∧ a.size ≤ s.size ∧ b.size ≤ s.size ∧ Below w.heap.size w w'
theorem mk_size (l : List UInt8) (s : ByteArray) (h : l.length ≤ s.data.toList.length) : (⟨l.toArray⟩ : ByteArray).size ≤ s.size := by
  have e : s.data.toList.length = s.size := Array.length_toList
  have e2 : (⟨l.toArray⟩ : ByteArray).size = l.length := by show l.toArray.size = _; simp
  omega
theorem cut_any (s sep : ByteArray) (w : World) (h : DoorN w) (hs : s.size ≤ 4194304) : Calls Tryd.prog 25 #[.string s, .string sep] w (CutS s sep w) := by
  obtain ⟨⟨m, h1⟩, _⟩ := h
  refine (Tryd.strings_Cut s sep m w (by omega) h1).mono ?_
  rintro e w' ⟨rfl, n, rfl⟩
  have hl := cut_len s.data.toList sep.data.toList
  exact ⟨_, _, _, rfl, by simp, by simp, mk_size _ _ hl.1, mk_size _ _ hl.2, Below.dn (Below.refl _ _) n⟩
theorem trim_any (s p : ByteArray) (w : World) : Calls Tryd.prog 27 #[.string s, .string p] w fun e w' => ∃ a : ByteArray, e = .returned (.string a) ∧ a.data.toList = Lib.trimPrefix s.data.toList p.data.toList ∧ a.size ≤ s.size ∧ w = w' := by
  refine (Tryd.strings_TrimPrefix s p w).mono ?_
  rintro e w' ⟨rfl, rfl⟩
  exact ⟨_, rfl, by simp, mk_size _ _ (trim_len _ _), rfl⟩
/-- What is read: a tuple whose text it is, or none is. -/
def RdT (s : ByteArray) (e : Ending) : Prop :=
  (∃ t : Tup, IsTup s.data.toList t ∧ e = .returned (.tuple #[.agg #[.int .i64 t.f0, .string t.f1, .int .i64 t.f2, .string t.f3], .bool true])) ∨ (NoTup s.data.toList ∧ e = .returned (.tuple #[.agg #[.int .i64 0, .string ⟨#[]⟩, .int .i64 0, .string ⟨#[]⟩], .bool false]))
theorem str_no {a b : ByteArray} (h : ¬ a = b) : (a.toList == b.toList) = false := by
  rw [ByteArray.toList_eq, ByteArray.toList_eq]
  cases hc : a.data.toList == b.data.toList
  · rfl
  · exact absurd (bytes_ext (eq_of_beq hc)) h
theorem str_yes (a : ByteArray) : (a.toList == a.toList) = true := by simp
set_option maxRecDepth 100000 in
set_option maxHeartbeats 6400000 in
theorem implReadTuple_any (s : ByteArray) (w : World) (hN : DoorN w) (hs : s.size ≤ 4194304) : Calls Tryd.prog 14 #[.string s] w fun e w' => RdT s e ∧ Below w.heap.size w w' := by
  have HN := Lib.hid hN
  clear hN
  have hB0 := Below.al (Below.refl w.heap.size w) (.cells #[.int .i64 0, .string ⟨#[]⟩, .int .i64 0, .string ⟨#[]⟩] 26)
  have k0 := Bk.new (w := w) (vs := #[.int .i64 0, .string ⟨#[]⟩, .int .i64 0, .string ⟨#[]⟩]) (t := 26)
  go_enter Tryd.func14, Tryd.ntmps14
  go_wp2_with fail
  refine (cut_any s ⟨#[64]⟩ _ (DoorN.below HN.out hB0) hs).mono ?_
  rintro e w1 ⟨a1, c1, g1, rfl, ha1, hc1, za1, zc1, b1⟩
  have hB1 := Below.via b1 hB0
  have HA1 := Lib.hid ha1
  have HC1 := Lib.hid hc1
  clear ha1 hc1
  go_wp2_with fail
  refine (cut_any a1 ⟨#[58]⟩ _ (DoorN.below HN.out hB1) (by omega)).mono ?_
  rintro e w2 ⟨a2, c2, g2, rfl, ha2, hc2, za2, zc2, b2⟩
  have hB2 := Below.via b2 hB1
  have HA2 := Lib.hid ha2
  have HC2 := Lib.hid hc2
  clear ha2 hc2
  go_wp2_with fail
  refine (cut_any c1 ⟨#[58]⟩ _ (DoorN.below HN.out hB2) (by omega)).mono ?_
  rintro e w3 ⟨a3, c3, g3, rfl, ha3, hc3, za3, zc3, b3⟩
  have hB3 := Below.via b3 hB2
  have HA3 := Lib.hid ha3
  have HC3 := Lib.hid hc3
  clear ha3 hc3
  have hB4 := Below.al hB3 (.cells #[.int .i64 0, .string c2, .int .i64 0, .string c3] 26)
  have kt := Bk.new (w := w3) (vs := #[.int .i64 0, .string c2, .int .i64 0, .string c3]) (t := 26)
  have kr := (((k0.below b1).below b2).below b3).alloc (.cells #[.int .i64 0, .string c2, .int .i64 0, .string c3] 26)
  clear k0
  go_wp2_with fail
  refine (trim_any a2 ⟨#[35]⟩ _).mono ?_
  rintro e w4 ⟨x1, rfl, hx1, zx1, rfl⟩
  have HX1 := Lib.hid hx1
  clear hx1
  go_wp2_with fail
  refine (atoi_any x1 _ (DoorN.below HN.out hB4) (by omega)).mono ?_
  rintro e w5 ⟨n0, v0, rfl, hn0, b5⟩
  have H0 := Lib.hid hn0
  clear hn0
  have hB5 := Below.via b5 hB4
  have kt5 := kt.below b5
  have kr5 := kr.below b5
  clear kt kr
  have ft := kt5.free
  have yt := kt5.lt
  have xt := kt5.cell
  have z3 := hB3.size
  have hk0 := kt5.same 0 (.int .i64 n0)
  have hr0 := kr5.far ⟨w3.heap.size, 0, none⟩ (by show w3.heap.size ≠ w.heap.size; have := b1.size; have := b2.size; have := b3.size; simp only [World.size_alloc] at *; omega) (.int .i64 n0)
  have hBs := hB5.setCell (p := ⟨w3.heap.size, 0, none⟩) (by show w.heap.size ≤ w3.heap.size; omega) (.int .i64 n0)
  go_wp2_with fail
  refine (trim_any a3 ⟨#[35]⟩ _).mono ?_
  rintro e w6 ⟨x2, rfl, hx2, zx2, rfl⟩
  have HX2 := Lib.hid hx2
  clear hx2
  have DN5 := Lib.hid (DoorN.below HN.out hBs)
  clear xt ft yt
  generalize hw6 : w5.setCell ⟨w3.heap.size, 0, none⟩ (.int .i64 n0) = w6 at *
  clear hw6 kt5 kr5
  go_wp2_with fail
  refine (atoi_any x2 _ DN5.out (by omega)).mono ?_
  rintro e w7 ⟨n2, v2, rfl, hn2, b7⟩
  have H2 := Lib.hid hn2
  clear hn2
  have hB7 := Below.via b7 hBs
  have kt7 := Lib.hid (hk0.below b7)
  have kr7 := Lib.hid (hr0.below b7)
  clear hk0 hr0
  simp only [List.setIfInBounds_toArray, List.set_cons_zero, List.set_cons_succ] at kt7
  have hk2 := kt7.out.same 2 (.int .i64 n2)
  have hr2 := kr7.out.far ⟨w3.heap.size, 2, none⟩ (by show w3.heap.size ≠ w.heap.size; have := b1.size; have := b2.size; have := b3.size; simp only [World.size_alloc] at *; omega) (.int .i64 n2)
  have hBt := hB7.setCell (p := ⟨w3.heap.size, 2, none⟩) (by show w.heap.size ≤ w3.heap.size; omega) (.int .i64 n2)
  have ft := kt7.out.free
  have yt := kt7.out.lt
  have xt := kt7.out.cell
  -- what a text of a tuple would have told
  obtain ⟨t, ht⟩ : ∃ t : Tup, t = ⟨n0, c2, n2, c3⟩ := ⟨_, rfl⟩
  have HP := Lib.hid (show ∀ u, IsTup s.data.toList u → u = t from fun u hu => by
    obtain ⟨p1, p3, p0, p2⟩ := cut_tup hu
    rw [ht]
    have q1 := HA1.out; have q2 := HC1.out; have q3 := HA2.out; have q4 := HC2.out; have q5 := HA3.out; have q6 := HC3.out; have q7 := HX1.out; have q8 := HX2.out
    rw [q1] at q3 q4
    rw [q2] at q5 q6
    rw [q3] at q7
    rw [q5] at q8
    rw [← q7] at p0
    rw [← q8] at p2
    rw [← q4] at p1
    rw [← q6] at p3
    obtain ⟨u0, u1, u2, u3⟩ := u
    have e0 := H0.out _ p0
    have e2 := H2.out _ p2
    have e1 : u1 = c2 := (bytes_ext p1).symm
    have e3 : u3 = c3 := (bytes_ext p3).symm
    subst e1 e3
    simp only at e0 e2
    rw [e0, e2])
  by_cases hemp : s.data.toList = []
  · have he : s.toList.isEmpty = true := by rw [ByteArray.toList_eq, hemp]; rfl
    have HNO := Lib.hid (show NoTup s.data.toList from fun u hu => tupT_ne u (by rw [hu.2, hemp]))
    clear hemp
    have xr := hr2.cell
    have fr := hr2.free
    have yr := hr2.lt
    have xz := (Bk.four (a := .int .i64 0) (b := .string ⟨#[]⟩) (c := .int .i64 0) (d := .string ⟨#[]⟩) hr2).cell
    go_wp2_with fail
    (try simp only [Exit.inBlock, Exit.then]); refine bodyPost_ret (by simp [results, Tryd.results14, go_sem, xz]; try rfl) rfl ?_
    refine ⟨.inr ⟨HNO.out, rfl⟩, ?_⟩
    clear xr fr xz
    (repeat' first | (with_reducible exact Below.refl _ _) | (with_reducible refine Below.rd (by assumption) ?_ ?_) | (with_reducible refine Below.via (by assumption) ?_) | (with_reducible refine Below.al ?_ _) | (with_reducible refine Below.dn ?_ _) | (with_reducible refine Below.dr ?_) | (with_reducible refine Below.setCell ?_ ?_ _) | (dsimp only; omega) | (simp only [World.size_alloc, World.size_drew]; omega) | (simp; done) | omega)
  · have he : s.toList.isEmpty = false := by rw [ByteArray.toList_eq]; cases hh : s.data.toList with | nil => exact absurd hh hemp | cons a l => rfl
    have HT := Lib.hid (tupS_eq hemp t)
    have hstr : Str t := by rw [ht]; unfold Str maxLen; constructor <;> (simp only; omega)
    have CT := Lib.hid (fun wx => implTupleText_any t wx hstr)
    have z16 := Lib.hid hstr
    generalize tupS t = tx at HT CT
    rw [ht] at CT
    simp only at CT
    clear hemp hstr
    have x9 := hk2.cell
    have y9 := hk2.lt
    go_wp2_with fail
    generalize hw9 : w7.setCell ⟨w3.heap.size, 2, none⟩ (.int .i64 n2) = w9 at *
    clear hw9 kt7 kr7 xt ft x9 y9
    refine (CT.out _).mono ?_
    rintro e w10 ⟨rfl, b10⟩
    have hB10 := Below.via b10 hBt
    have kt10 := hk2.below b10
    have kr10 := hr2.below b10
    clear hk2 hr2 yt
    have x10 := kt10.cell
    have y10 := kt10.lt
    have xr := kr10.cell
    have fr := kr10.free
    have yr := kr10.lt
    have HTE := Lib.hid ht
    clear ht
    by_cases hq : tx = s
    · have HL := Lib.hid (HT.out.1 hq)
      have hbe : (tx.toList == s.toList) = true := by rw [hq]; exact str_yes s
      have hbn : (!(tx.toList == s.toList)) = false := by rw [hbe]; rfl
      have xz := (Bk.four (a := .int .i64 n0) (b := .string c2) (c := .int .i64 n2) (d := .string c3) kr10).cell
      clear hq HT
      go_wp2_with fail
      (try simp only [Exit.inBlock, Exit.then]); refine bodyPost_ret (by simp [results, Tryd.results14, go_sem, xz]; try rfl) rfl ?_
      refine ⟨.inl ⟨t, HL.out, by rw [HTE.out]⟩, ?_⟩
      clear xr fr xz x10
      (repeat' first | (with_reducible exact Below.refl _ _) | (with_reducible refine Below.rd (by assumption) ?_ ?_) | (with_reducible refine Below.via (by assumption) ?_) | (with_reducible refine Below.al ?_ _) | (with_reducible refine Below.dn ?_ _) | (with_reducible refine Below.dr ?_) | (with_reducible refine Below.setCell ?_ ?_ _) | (dsimp only; omega) | (simp only [World.size_alloc, World.size_drew]; omega) | (simp; done) | omega)
    · have HL := Lib.hid (show NoTup s.data.toList from fun u hu => hq (HT.out.2 (HP.out u hu ▸ hu)))
      have hbe : (tx.toList == s.toList) = false := str_no hq
      have hbn : (!(tx.toList == s.toList)) = true := by rw [hbe]; rfl
      have xz := (Bk.four (a := .int .i64 0) (b := .string ⟨#[]⟩) (c := .int .i64 0) (d := .string ⟨#[]⟩) kr10).cell
      clear hq HT
      go_wp2_with fail
      (try simp only [Exit.inBlock, Exit.then]); refine bodyPost_ret (by simp [results, Tryd.results14, go_sem, xz]; try rfl) rfl ?_
      refine ⟨.inr ⟨HL.out, rfl⟩, ?_⟩
      clear xr fr xz x10
      (repeat' first | (with_reducible exact Below.refl _ _) | (with_reducible refine Below.rd (by assumption) ?_ ?_) | (with_reducible refine Below.via (by assumption) ?_) | (with_reducible refine Below.al ?_ _) | (with_reducible refine Below.dn ?_ _) | (with_reducible refine Below.dr ?_) | (with_reducible refine Below.setCell ?_ ?_ _) | (dsimp only; omega) | (simp only [World.size_alloc, World.size_drew]; omega) | (simp; done) | omega)
end Go.Proofs.YtgfcikckomhbeaaDoor
