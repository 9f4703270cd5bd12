/-
  Tickets, someone and a time are drawn from bytes. Condition: the bytes can be read.
-/
import Derived.Test.YtnkfhfhioknjeaaKd
set_option linter.unusedSimpArgs false
set_option linter.unusedVariables false
namespace Go.Proofs.Ytnkfhfhioknjeaa
open Go.RowKit

/-- A key and a ticket are drawn from bytes. -/
def TkD (w : World) (e : Ending) (w' : World) : Prop :=
  ∃ (key : Int) (t : Tk) (v : Value), e = .returned (.tuple #[.int .i64 key, .agg #[.int .i64 t.who, v, .int .i64 t.til, .int .i64 t.sl]]) ∧ TkBd t 6 ∧ w'.ownsRow w.heap.size 3 1 v t.acts.length (cellsI t.acts) ∧ Below w.heap.size w w'
/-- A ticket and acts are drawn from bytes. -/
def TkN (w : World) (e : Ending) (w' : World) : Prop :=
  ∃ (act : Int) (t : Tk) (v : Value), e = .returned (.tuple #[.agg #[.int .i64 t.who, v, .int .i64 t.til, .int .i64 t.sl], .int .i64 act]) ∧ TkBd t 6 ∧ w'.ownsRow w.heap.size 3 1 v t.acts.length (cellsI t.acts) ∧ Below w.heap.size w w'
/-- A key, a ticket, someone and a time are drawn from bytes. -/
def TkA (w : World) (e : Ending) (w' : World) : Prop :=
  ∃ (key who now : Int) (t : Tk) (v : Value), e = .returned (.tuple #[.int .i64 key, .agg #[.int .i64 t.who, v, .int .i64 t.til, .int .i64 t.sl], .int .i64 who, .int .i64 now]) ∧ TkBd t 6 ∧ -2 ≤ now ∧ now ≤ 1001 ∧ w'.ownsRow w.heap.size 3 1 v t.acts.length (cellsI t.acts) ∧ Below w.heap.size w w'
theorem below_rds {w w1 w2 : World} {b : Nat} {M M' : Int} (h : Below w.heap.size w w1) (r : Reads b M M' w1 w2) (hb : w.heap.size ≤ b) : Below w.heap.size w w2 := Below.rd r h hb
theorem drawTicketSeal_any (a : Option Addr) (len cap : Nat) (w : World) (h : Bytes w a len cap) : Calls Try.prog 16 #[.slice a len cap] w (TkD w) := by
  have H := Lib.hid h
  clear h
  have HZ := Lib.hid (Bytes.below H.out (show Below w.heap.size w (w.alloc (.cells #[.int .i64 0, .slice none 0 0, .int .i64 0, .int .i64 0] 27)) from Below.al (Below.refl _ _) _))
  have KO0 := Bk.new (w := w) (vs := #[.int .i64 0, .slice none 0 0, .int .i64 0, .int .i64 0]) (t := 27)
  go_enter Try.func16, Try.ntmps16
  go_wp2_with fail
  refine (open_any a len cap _ HZ.out).mono ?_
  rintro e w1 ⟨rfl, r1, h1⟩
  (try simp only [World.size_alloc, World.size_drew] at r1)
  have zb := r1.lt
  have hz1 := h1.size
  (try simp only [World.size_alloc, World.size_drew] at hz1)
  have KO := KO0.below h1
  go_wp2_with fail
  refine (l20Ticket_any _ 4 _ _ r1 (by omega) (by omega) (by omega)).mono ?_
  rintro e w2 ⟨key, t, v2, rfl, hk0, hk1, HB, o2, P2⟩
  obtain ⟨a2, c2, rfl, _, _⟩ := SlF.shape (own_sl o2)
  have O2 := Lib.hid o2
  have z2 := P2.size
  clear o2
  have KO2 := KO.rdn P2 (by omega)
  have xo9 := KO2.cell
  have fo9 := KO2.free
  go_wp2_with fail
  (try simp only [Exit.inBlock, Exit.then]); refine bodyPost_ret (by simp [results, Try.results16, go_sem, xo9]; try rfl) rfl ?_
  refine ⟨key, t, _, rfl, HB, ?_, ?_⟩
  · refine own_lo (lo := w1.heap.size) ?_ (by omega)
    (repeat' first | (with_reducible exact O2.out) | (with_reducible refine own_below ?_ (by assumption)) | (with_reducible refine own_rd ?_ (by assumption) ?_) | (with_reducible refine own_alloc ?_ _) | (with_reducible refine own_drew ?_) | (with_reducible refine own_setne ?_ ?_ _ _) | omega | (simp only [World.size_alloc, World.size_drew]; omega))
    all_goals (intro j hj; have := own_gt O2.out j hj; omega)
  · have HBW := Lib.hid (below_rds (show Below w.heap.size w w1 from Below.via h1 (Below.al (Below.refl _ _) _)) P2 (by omega))
    (repeat' first | (with_reducible exact HBW.out) | (with_reducible refine Below.setCell ?_ ?_ _) | (dsimp only; omega) | omega)
end Go.Proofs.Ytnkfhfhioknjeaa
