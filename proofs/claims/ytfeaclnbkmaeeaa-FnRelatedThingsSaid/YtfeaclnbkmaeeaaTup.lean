/-
  Related things: plain laws. No program in sight.
-/
import Derived.Test.YtfeaclnbkmaeeaaTuz
set_option linter.unusedSimpArgs false
set_option linter.unusedVariables false
namespace Go.Proofs.Ytfeaclnbkmaeeaa
open Go.RowKit
/-- The tuple relates b to the thing. -/
def givesT (R : Int → ByteArray → Nat) (about : Int) (nm : ByteArray) (b : Nat) (t : Tup) : Bool := hitT about nm t && (if t.f3.toList.isEmpty then decide (t.f2.toNat = b) else (R t.f2 t.f3).testBit b)
theorem fold_bitT (R : Int → ByteArray → Nat) (about : Int) (nm : ByteArray) (b : Nat) : ∀ (ds : List Tup) (s : Nat), (ds.foldl (relStep R about nm) s).testBit b = (s.testBit b || ds.any (givesT R about nm b))
  | [], s => by simp
  | t :: ds, s => by
    rw [List.foldl_cons, fold_bitT R about nm b ds, List.any_cons]
    have : (relStep R about nm s t).testBit b = (s.testBit b || givesT R about nm b t) := by
      unfold relStep givesT
      cases hitT about nm t
      · simp
      · cases t.f3.toList.isEmpty
        · simp [Nat.testBit_or]
        · simp [Nat.testBit_or, Nat.one_shiftLeft, Nat.testBit_two_pow]
    rw [this, Bool.or_assoc]
theorem relN_bit (ds : List Tup) (m : Nat) (about : Int) (nm : ByteArray) (b : Nat) : (relN ds (m + 1) about nm).testBit b = ds.any (givesT (relN ds m) about nm b) := by
  unfold relN
  rw [fold_bitT]
  simp
theorem relN_more (ds es : List Tup) (b : Nat) : ∀ (m : Nat) (about : Int) (nm : ByteArray), (relN ds m about nm).testBit b = true → (relN (ds ++ es) m about nm).testBit b = true
  | 0, about, nm, h => by simp [relN] at h
  | m + 1, about, nm, h => by
    rw [relN_bit, List.any_eq_true] at h ⊢
    obtain ⟨t, ht, hg⟩ := h
    refine ⟨t, List.mem_append_left _ ht, ?_⟩
    unfold givesT at hg ⊢
    rw [Bool.and_eq_true] at hg ⊢
    refine ⟨hg.1, ?_⟩
    have h2 := hg.2
    cases he : t.f3.toList.isEmpty
    · rw [he] at h2
      simp only [Bool.false_eq_true, if_false] at h2 ⊢
      exact relN_more ds es b m _ _ h2
    · rw [he] at h2
      exact h2
/-- The set, none if the tuples are not valid. -/
def relB (ds : List Tup) (about : Int) (nm : ByteArray) : Nat := if tValid ds then relN ds 4 about nm else 0
theorem relT_bits (ds : List Tup) (about : Int) (nm : ByteArray) : relT ds about nm = bitsTo (relB ds about nm) 7 := by
  unfold relT relB
  cases tValid ds
  · simp [bitsTo]
  · simp
theorem bits_any (S : Nat) (k n : Nat) (h : k < n) : (bitsTo S n).any (fun x => x == (k : Int)) = S.testBit k := by
  unfold bitsTo
  rw [List.any_map, List.any_filter]
  rw [Bool.eq_iff_iff, List.any_eq_true]
  constructor
  · rintro ⟨x, hx, h2⟩
    simp at h2
    obtain ⟨h3, h4⟩ := h2
    have : x = k := by omega
    subst this
    exact h3
  · intro hk
    exact ⟨k, by simpa using h, by simp [hk]⟩
theorem isRel_bit (ds : List Tup) (about : Int) (nm : ByteArray) (k : Nat) (h : k < 7) : isRel ds about nm (k : Int) = (relB ds about nm).testBit k := by
  unfold isRel
  rw [relT_bits, bits_any _ _ _ h]
theorem isRel_bad (ds : List Tup) (about : Int) (nm : ByteArray) (other : Int) (h : tValid ds = false) : isRel ds about nm other = false := by
  unfold isRel relT
  rw [h]
  rfl
/-- A tuple without Via relates. -/
theorem rel_direct (ds : List Tup) (hv : tValid ds = true) (k : Nat) (h : k < ds.length) (he : ds[k].f3.toList.isEmpty = true) : isRel ds ds[k].f0 ds[k].f1 ds[k].f2 = true := by
  obtain ⟨h0, h6⟩ := tValid_in7 hv ds[k] (List.getElem_mem h)
  obtain ⟨o, ho⟩ : ∃ o : Nat, ds[k].f2 = (o : Int) := ⟨ds[k].f2.toNat, by omega⟩
  have ho7 : o < 7 := by omega
  have hb := isRel_bit ds ds[k].f0 ds[k].f1 o ho7
  rw [ho, hb]
  unfold relB
  rw [if_pos hv, relN_bit, List.any_eq_true]
  refine ⟨ds[k], List.getElem_mem h, ?_⟩
  unfold givesT hitT
  rw [he, ho]
  simp
theorem tValid_pre (ds es : List Tup) (h : tValid (ds ++ es) = true) : tValid ds = true := by
  simp only [tValid, Bool.and_eq_true, List.all_eq_true, decide_eq_true_eq, List.length_append] at h ⊢
  exact ⟨fun x hx => h.1 x (List.mem_append_left _ hx), by omega⟩
/-- With tuples more none is lost. -/
theorem rel_more (ds es : List Tup) (about : Int) (nm : ByteArray) (hv : tValid (ds ++ es) = true) (k : Nat) (h : k < (relT ds about nm).length) : isRel (ds ++ es) about nm (relT ds about nm)[k] = true := by
  have hm := List.getElem_mem h
  generalize (relT ds about nm)[k] = x at hm ⊢
  have hd := tValid_pre ds es hv
  rw [relT_bits] at hm
  unfold bitsTo relB at hm
  rw [if_pos hd] at hm
  obtain ⟨o, ho, rfl⟩ := List.mem_map.1 hm
  obtain ⟨h1, h2⟩ := List.mem_filter.1 ho
  have h7 : o < 7 := by simpa using h1
  rw [isRel_bit _ _ _ o h7]
  unfold relB
  rw [if_pos hv]
  exact relN_more ds es o 4 about nm h2
theorem bitsTo_split (S k n : Nat) (h : k ≤ n) : bitsTo S n = bitsTo S k ++ ((List.range' k (n - k)).filter (fun i => S.testBit i)).map (fun (i : Nat) => (i : Int)) := by
  obtain ⟨d, rfl⟩ : ∃ d, n = k + d := ⟨n - k, by omega⟩
  have e : List.range (k + d) = List.range k ++ List.range' k d := by rw [List.range_add, List.range'_eq_map_range]
  unfold bitsTo
  rw [Nat.add_sub_cancel_left, e, List.filter_append, List.map_append]
/-- The next member. -/
theorem bits_next (S k n : Nat) (h : k < n) : (∀ (hl : (bitsTo S k).length < (bitsTo S n).length), ((bitsTo S n)[(bitsTo S k).length] == (k : Int)) = S.testBit k) ∧ (S.testBit k = true → (bitsTo S k).length < (bitsTo S n).length) ∧ (bitsTo S (k + 1)).length = (bitsTo S k).length + (if S.testBit k then 1 else 0) := by
  have hs := bitsTo_split S k n (by omega)
  obtain ⟨m, hm⟩ : ∃ m, n - k = m + 1 := ⟨n - k - 1, by omega⟩
  rw [hm, List.range'_succ] at hs
  refine ⟨fun hl => ?_, fun ht => ?_, ?_⟩
  · have e : (bitsTo S n)[(bitsTo S k).length]? = ((k :: List.range' (k + 1) m).filter (fun i => S.testBit i) |>.map (fun (i : Nat) => (i : Int)))[0]? := by
      rw [hs, List.getElem?_append_right (by omega)]
      simp
    rw [List.getElem?_eq_getElem hl] at e
    cases ht : S.testBit k
    · rw [List.filter_cons_of_neg (by simp [ht])] at e
      have hmem : (bitsTo S n)[(bitsTo S k).length] ∈ ((List.range' (k + 1) m).filter (fun i => S.testBit i)).map (fun (i : Nat) => (i : Int)) := List.mem_of_getElem? e.symm
      obtain ⟨o, ho, heq⟩ := List.mem_map.1 hmem
      have := (List.mem_filter.1 ho).1
      rw [List.mem_range'_1] at this
      rw [← heq]
      simp
      omega
    · rw [List.filter_cons_of_pos (by simpa using ht)] at e
      simp at e
      rw [e]
      simp
  · rw [hs, List.length_append, List.filter_cons_of_pos (by simpa using ht)]
    simp
  · cases ht : S.testBit k
    · rw [bitsTo_off S k ht]; simp
    · rw [bitsTo_on S k ht]; simp
end Go.Proofs.Ytfeaclnbkmaeeaa
