/-
  Tuples' texts drawn. Condition: the bytes can be read.
-/
import Derived.Test.YtgfcikckomhbeaaDoorTxs
import Derived.Test.YtgfcikckomhbeaaDoorTud
import Derived.Test.YtgfcikckomhbeaaDoorD
set_option linter.unusedSimpArgs false
set_option linter.unusedVariables false
namespace Go.Proofs.YtgfcikckomhbeaaDoor
open Go.RowKit
theorem TuBd.str {t : Tup} (h : TuBd t) : Str t := by
  have := h.s1
  have := h.s3
  unfold Str maxLen
  omega
theorem tupS_small (t : Tup) : (tupS t).size ≤ 32 := by
  have e : (tupS t).size = (tupTx t).length := by show (tupTx t).toArray.size = _; simp
  rw [e]
  unfold tupTx
  split
  · rename_i h
    obtain ⟨_, _, h1, h3⟩ := tOk_parts h
    have l1 := name_len h1
    have l3 : (viaT t.f3).length ≤ 9 := by
      unfold viaT
      split
      · simp
      · rename_i he
        have hv : nameOk t.f3.data.toList = true := by
          unfold viaOk at h3
          simpa [he] using h3
        have := name_len hv
        simp only [List.length_cons]
        omega
    simp only [tupT, dgt, List.length_cons, List.length_append, List.length_nil]
    omega
  · exact Nat.zero_le _
def TupOneS (w : World) (e : Ending) (w' : World) : Prop := ∃ t : Tup, e = .returned (.agg #[.int .i64 t.f0, .string t.f1, .int .i64 t.f2, .string t.f3]) ∧ Str t ∧ Below w.heap.size w w'
def TextS (w : World) (e : Ending) (w' : World) : Prop := ∃ s : ByteArray, e = .returned (.string s) ∧ s.size ≤ 64 ∧ Below w.heap.size w w'
theorem drawTupleText_any (a : Option Addr) (len cap : Nat) (w : World) (h : Bytes w a len cap) : Calls Tryd.prog 11 #[.slice a len cap] w (TupOneS w) := by
  have hb0 := Lib.hid (fun w' (k : Below w.heap.size w w') => h.below k)
  clear h
  have kr := Bk.new (w := w) (vs := #[.int .i64 0, .string ⟨#[]⟩, .int .i64 0, .string ⟨#[]⟩]) (t := 26)
  go_enter Tryd.func11, Tryd.ntmps11
  go_wp2_with fail
  refine (open_any a len cap _ (hb0.out _ (below_al _ _))).mono ?_
  rintro e w1 ⟨rfl, r1, h1⟩
  simp only [World.size_alloc] at r1
  have z1 := h1.size
  simp only [World.size_alloc] at z1
  go_wp2_with fail
  refine (l20Tuple_any _ 6 _ _ r1 (by omega) (by omega) (by omega)).mono ?_
  rintro e w2 ⟨t, rfl, hbd, r2⟩
  have HS := Lib.hid hbd.str
  clear hbd
  replace kr := (kr.below h1).rdn r2 (by omega)
  obtain ⟨u0, u1, u2, u3⟩ := t
  have xz := (Bk.four (a := .int .i64 u0) (b := .string u1) (c := .int .i64 u2) (d := .string u3) kr).cell
  have xr := kr.cell
  have fr := kr.free
  go_wp2_with fail
  (try simp only [Exit.inBlock, Exit.then]); refine bodyPost_ret (by simp [results, Tryd.results11, go_sem, xz]; try rfl) rfl ?_
  refine ⟨⟨u0, u1, u2, u3⟩, rfl, HS.out, ?_⟩
  clear xr fr kr xz
  (repeat' first | (with_reducible exact Below.refl _ _) | (with_reducible refine Below.rd (by assumption) ?_ ?_) | (with_reducible refine Below.via (by assumption) ?_) | (with_reducible refine Below.al ?_ _) | (with_reducible refine Below.dn ?_ _) | (with_reducible refine Below.dr ?_) | (with_reducible refine Below.setCell ?_ ?_ _) | (dsimp only; omega) | (simp only [World.size_alloc, World.size_drew]; omega) | (simp; done) | omega)
theorem drawReadTuple_any (a : Option Addr) (len cap : Nat) (w : World) (h : Bytes w a len cap) : Calls Tryd.prog 17 #[.slice a len cap] w (TextS w) := by
  have H := Lib.hid h
  clear h
  have hc1 : (⟨#[32]⟩ : ByteArray).size = 1 := rfl
  have hc4 : (⟨#[58, 97]⟩ : ByteArray).size = 2 := rfl
  go_enter Tryd.func17, Tryd.ntmps17
  go_wp2_with fail
  refine (open_any a len cap _ H.out).mono ?_
  rintro e w1 ⟨rfl, r1, h1⟩
  go_wp2_with fail
  refine (l20Tuple_any _ 0 _ _ r1 (by omega) (by omega) (by omega)).mono ?_
  rintro e w2 ⟨t, rfl, hbd, r2⟩
  have hB2 := Below.rd r2 h1 (Nat.le_refl _)
  have CT := Lib.hid (fun wx => specTupleText_any t wx hbd.str)
  have hsz := tupS_small t
  generalize tupS t = tx at hsz CT
  clear hbd
  obtain ⟨u0, u1, u2, u3⟩ := t
  simp only at CT
  go_wp2_with fail
  refine (CT.out _).mono ?_
  rintro e w3 ⟨rfl, b3⟩
  have hB3 := Below.via b3 hB2
  have r3 := r2.rd.below b3
  go_wp2_with fail
  refine (odd_any _ 3 _ _ r3 (by omega) (by omega) (by omega)).mono ?_
  rintro e w4 ⟨o, rfl, r4⟩
  have hB4 := Below.rd r4 hB3 (Nat.le_refl _)
  have hlt := r3.lt
  have hz3 := hB3.size
  cases o
  · go_wp2_with fail
    go_ret
    exact ⟨_, rfl, by omega, hB4⟩
  · go_wp2_with fail
    refine (pick_any _ 10 _ _ (r4.rd.below (below_al _ _)) (by omega) (by omega)).mono ?_
    rintro e w5 ⟨y, rfl, lo5, hi5, r5⟩
    have ks := Bk.new.rd r5 r4.rd.lt
    have hB5 := Below.rd r5 (Below.al hB4 _) (Nat.le_refl _)
    have xs := ks.cell
    rcases (show y = 0 ∨ y = 1 ∨ y = 2 ∨ y = 3 ∨ y = 4 ∨ y = 5 ∨ y = 6 ∨ y = 7 ∨ y = 8 ∨ y = 9 by omega) with rfl | rfl | rfl | rfl | rfl | rfl | rfl | rfl | rfl | rfl
    all_goals
      go_wp2_with fail
      go_ret
      exact ⟨_, rfl, by first | decide | (rw [ByteArray.size_append]; omega), hB5⟩
end Go.Proofs.YtgfcikckomhbeaaDoor
