/-
  Valid paths: the program's look and the reference's. Condition: bytealg's MaxLen is a number.
-/
import Derived.Test.YtamhnhojfhlanaaDoorPl
import Derived.Shelf.GgClosure.Gives
import Derived.Shelf.Abstract
set_option linter.unusedSimpArgs false
set_option linter.unusedVariables false
namespace Go.Proofs.YtamhnhojfhlanaaDoor
open Go.RowKit
theorem wordsL_small : ∀ l, ∀ x ∈ wordsL l, x.length ≤ l.length
  | [], x, h => by simp [wordsL] at h; simp [h]
  | c :: r, x, h => by
    have ih := wordsL_small r
    unfold wordsL at h
    split at h
    · rcases List.mem_cons.1 h with rfl | h
      · simp
      · have := ih x h
        simp only [List.length_cons]
        omega
    · split at h
      · simp at h
        simp [h]
      · rename_i y ys e
        rw [e] at ih
        rcases List.mem_cons.1 h with rfl | h
        · have := ih y (by simp)
          simp only [List.length_cons]
          omega
        · have := ih x (by simp [h])
          simp only [List.length_cons]
          omega
theorem Words.small {s : ByteArray} {xs : List ByteArray} (h : Words s.data.toList xs) : ∀ x ∈ xs, x.size ≤ s.size := fun x hx => by
  have hm : x.data.toList ∈ wordsL s.data.toList := by rw [← h]; exact List.mem_map.2 ⟨x, hx, rfl⟩
  have := wordsL_small _ _ hm
  have e1 : x.data.toList.length = x.size := Array.length_toList
  have e2 : s.data.toList.length = s.size := Array.length_toList
  omega
/-- A small string. -/
structure Sm where
  x : ByteArray
  h : x.size ≤ 2097152
instance : Inhabited Sm := ⟨⟨⟨#[]⟩, by decide⟩⟩
def encS (z : Sm) : Value := .string z.x
def nOk (x : ByteArray) : Bool := nameOk x.data.toList
def pathOk (xs : List ByteArray) : Bool := xs.all nOk && decide (xs.length ≤ 5)
theorem any_small (xs : List ByteArray) (h : ∀ x ∈ xs, x.size ≤ 2097152) (p : ByteArray → Bool) : ∃ zs : List Sm, zs.length = xs.length ∧ zs.map (·.x) = xs ∧ zs.any (fun z => p z.x) = xs.any p := by
  induction xs with
  | nil => exact ⟨[], rfl, rfl, rfl⟩
  | cons x xs ih =>
    obtain ⟨zs, h1, h2, h3⟩ := ih (fun y hy => h y (by simp [hy]))
    exact ⟨⟨x, h x (by simp)⟩ :: zs, by simp [h1], by simp [h2], by simp only [List.any_cons, h3]⟩
theorem words_one {l : List UInt8} {xs ys : List ByteArray} (h : Words l xs) (k : Words l ys) : xs = ys :=
  (List.map_inj_right (fun a b e => ByteArray.ext (Array.toList_inj.1 e))).1 (h.trans k.symm)
theorem row_at {w : World} {lo t : Nat} {v : Value} {xs : List ByteArray} (h : w.ownsRow lo t 1 v xs.length (cellsS xs)) (hv : v ≠ .slice none 0 0) : ∃ g cap, v = .slice (some ⟨g, 0, none⟩) xs.length cap ∧ lo ≤ g ∧ xs.length ≤ cap ∧ cap ≤ maxLen ∧ ∀ i (hi : i < xs.length), w.cell? ⟨g, i, none⟩ = some (.string xs[i]) := by
  obtain ⟨g, cap, rfl, h1, h2, h3, hc⟩ := own_ad h hv
  refine ⟨g, cap, rfl, h1, h2, h3, fun i hi => ?_⟩
  have := hc i (.string xs[i]) (by unfold cellsS; rw [List.getElem?_map, List.getElem?_eq_getElem hi]; rfl)
  rw [addr_add] at this
  simpa using this
theorem enters28 : ∀ args w, (callFunc 28 args).run Tryd.prog w = .ok (.enter 28 args) w := enters_of Tryd.func28 (by kernel_rfl) rfl
theorem notName_any (x : ByteArray) (w : World) (h : x.size ≤ maxLen) : Calls Tryd.prog 28 #[.string x] w fun e w' => e = .returned (.bool (!nOk x)) ∧ w = w' := by
  have CN := fun wx => implNameValid_any x wx h
  unfold nOk
  cases hn : nameOk x.data.toList
  all_goals
    rw [hn] at CN
    go_enter Tryd.func28, Tryd.ntmps28
    go_wp2_with fail
    refine (CN _).mono ?_
    rintro e w' ⟨rfl, rfl⟩
    go_wp2_with fail
    go_ret
    exact ⟨rfl, rfl⟩
theorem implPathValid_any (s : ByteArray) (w : World) (hN : MaxN w) (hs : s.size ≤ 2097152) (xs0 : List ByteArray) (hx0 : Words s.data.toList xs0) : Calls Tryd.prog 12 #[.string s] w fun e w' => e = .returned (.bool (pathOk xs0)) ∧ Below w.heap.size w w' := by
  go_enter Tryd.func12, Tryd.ntmps12
  go_wp2_with fail
  refine (split_any s w hN hs).mono ?_
  rintro e w1 ⟨v, xs, rfl, hw, hv, ho, b1⟩
  obtain rfl := words_one hw hx0
  obtain ⟨g, cap, rfl, h1, h2, h3, hc⟩ := row_at ho hv
  have hsm := hw.small
  have hwl := hw.len
  have hsz : s.data.toList.length = s.size := Array.length_toList
  by_cases h5 : (xs.length : Int) ≤ 5
  · obtain ⟨zs, z1, z2, z3⟩ := any_small xs (fun x hx => by have := hsm x hx; omega) (fun x => !nOk x)
    have HC := Lib.hid (Tryd.slices_ContainsFunc_f27 encS (fun z => !nOk z.x) 28 #[] enters28 g 0 xs.length cap zs w1 (fun W x hb => (notName_any x.x W (by have := x.h; unfold maxLen; omega)).mono (by rintro e w' ⟨rfl, rfl⟩; exact ⟨rfl, 0, rfl⟩)) (by omega) (by omega) (fun j hj => by
      have hj2 : j < xs.length := by omega
      rw [Nat.zero_add, hc j hj2]
      have e : zs[j]! = zs[j] := getElem!_pos zs j hj
      rw [e]
      show some (Value.string xs[j]) = some (Value.string (zs[j]).x)
      have e2 : xs[j]? = some (zs[j]).x := by rw [← z2, List.getElem?_map, List.getElem?_eq_getElem hj]; rfl
      rw [List.getElem?_eq_getElem hj2] at e2
      injection e2 with e2
      rw [e2]))
    have HP := Lib.hid (show (!(zs.take xs.length).any fun z => !nOk z.x) = pathOk xs by
      rw [List.take_of_length_le (by omega), z3]
      unfold pathOk
      have e : decide (xs.length ≤ 5) = true := by simp; omega
      rw [e, Bool.and_true, List.all_eq_not_any_not])
    generalize (zs.take xs.length).any (fun z => !nOk z.x) = ans at HC HP
    clear hsm hc ho z3
    go_wp2_with fail
    refine HC.out.mono ?_
    rintro e w2 ⟨rfl, q, rfl⟩
    go_wp2_with fail
    go_ret
    exact ⟨by rw [← HP.out]; rfl, Below.dn b1 q⟩
  · have HP := Lib.hid (show pathOk xs = false by
      unfold pathOk
      have e : decide (xs.length ≤ 5) = false := by simp; omega
      rw [e, Bool.and_false])
    clear hsm hc ho
    go_wp2_with fail
    go_ret
    exact ⟨by rw [HP.out]; rfl, b1⟩
end Go.Proofs.YtamhnhojfhlanaaDoor
