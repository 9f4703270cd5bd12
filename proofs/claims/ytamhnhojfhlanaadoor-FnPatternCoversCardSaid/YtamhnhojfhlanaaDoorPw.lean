/-
  Words of a path: the program's way (strings.Split) and the reference's. Condition: bytealg's MaxLen is a number.
-/
import Derived.Test.YtamhnhojfhlanaaDoorPp
import Derived.Test.YtamhnhojfhlanaaDoorPs
import Derived.Test.YtamhnhojfhlanaaDoorUb
import Derived.Test.YtamhnhojfhlanaaDoorIv
import Derived.Test.YtamhnhojfhlanaaDoorRg
set_option linter.unusedSimpArgs false
set_option linter.unusedVariables false
namespace Go.Proofs.YtamhnhojfhlanaaDoor
open Go.RowKit
def MaxN (w : World) : Prop := ∃ m, w.cell? ⟨0, 0, none⟩ = some (.int .i64 m)
theorem MaxN.below {w w' : World} (h : MaxN w) (b : Below w.heap.size w w') : MaxN w' := by
  obtain ⟨m, h1⟩ := h
  exact ⟨m, (b.cell (World.block_lt_of_cell? _ _ h1)).trans h1⟩
def cellsS (xs : List ByteArray) : List Value := xs.map Value.string
theorem cellsS_one (xs : List ByteArray) : ∀ u ∈ cellsS xs, u.oneCell' = true := fun u hu => by
  obtain ⟨s, _, rfl⟩ := List.mem_map.1 hu
  rfl
theorem cellsS_len (xs : List ByteArray) : (cellsS xs).length = xs.length := by simp [cellsS]
theorem infoS : (Tryd.prog.info? 9).map (fun i => (i.zero, i.size, i.bytes)) = some (some (.string ByteArray.empty), 1, 16) := by kernel_rfl
def Words (l : List UInt8) (xs : List ByteArray) : Prop := xs.map (·.data.toList) = wordsL l
theorem Words.len {l : List UInt8} {xs : List ByteArray} (h : Words l xs) : 1 ≤ xs.length ∧ xs.length ≤ l.length + 1 := by
  have e : xs.length = (wordsL l).length := by rw [← h]; simp
  have := wordsL_len l
  have := List.length_pos_iff.2 (wordsL_ne l)
  omega
/-- A new row of a text's words. -/
def NewW (s : ByteArray) (w : World) (e : Ending) (w' : World) : Prop := ∃ (v : Value) (xs : List ByteArray), e = .returned v ∧ Words s.data.toList xs ∧ v ≠ .slice none 0 0 ∧ w'.ownsRow w.heap.size 9 1 v xs.length (cellsS xs) ∧ Below w.heap.size w w'
theorem split_any (s : ByteArray) (w : World) (h : MaxN w) (hs : s.size ≤ 2097152) : Calls Tryd.prog 26 #[.string s, .string ⟨#[47]⟩] w (NewW s w) := by
  obtain ⟨m, h1⟩ := h
  refine (Tryd.strings_Split s ⟨#[47]⟩ m w (by omega) h1 (by decide)).mono ?_
  rintro e w' ⟨rfl, rfl⟩
  have hw : Words s.data.toList (Lib.splitB ⟨#[47]⟩ 0 (Lib.countB s ⟨#[47]⟩) s) := (Lib.splitB_data _ _ _ _).trans (splitK_words _ _ (Nat.le_refl _))
  have hl := Lib.splitB_all ⟨#[47]⟩ (by decide) 0 _ s rfl
  have hlw := hw.len
  have hsz : s.data.toList.length = s.size := Array.length_toList
  refine ⟨_, _, rfl, hw, by simp, ?_, Below.al (Below.refl _ _) _⟩
  generalize hx : Lib.splitB ⟨#[47]⟩ 0 (Lib.countB s ⟨#[47]⟩) s = xs at hw hl hlw
  rw [← hl]
  exact own_of_bk Bk.new (Nat.le_refl _) (by unfold maxLen; omega) (by simp) (by simp [cellsS]) (fun j _ => by simp [cellsS])
end Go.Proofs.YtamhnhojfhlanaaDoor
