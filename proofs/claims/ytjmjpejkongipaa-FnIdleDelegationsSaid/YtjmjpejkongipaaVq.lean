/-
  Delegated acts: plain laws. No condition.
-/
import Derived.Test.YtjmjpejkongipaaVt
set_option linter.unusedSimpArgs false
set_option linter.unusedVariables false
namespace Go.Proofs.Ytjmjpejkongipaa
open Go.RowKit
theorem dstB_mono (a : Nat) (B : List Bool) (d : Deleg) (i : Nat) (h : B.getD i false = true) : (dstB a B d).getD i false = true := by
  unfold dstB
  split
  · rw [List.getD_eq_getElem?_getD] at h ⊢
    rw [List.getElem?_set]
    split
    · split
      · rfl
      · rename_i h1 h2
        rw [List.getElem?_eq_none (by omega)] at h
        exact h
    · exact h
  · exact h
theorem passB_mono (a : Nat) (i : Nat) : ∀ (ds : List Deleg) (B : List Bool), B.getD i false = true → (passB a ds B).getD i false = true
  | [], B, h => h
  | d :: ds, B, h => passB_mono a i ds (dstB a B d) (dstB_mono a B d i h)
theorem itB_mono (a : Nat) (i : Nat) (ds : List Deleg) (B : List Bool) (h : B.getD i false = true) : ∀ n, (itB a ds n B).getD i false = true
  | 0 => h
  | n + 1 => passB_mono a i ds _ (itB_mono a i ds B h n)
def someB (B : List Bool) : Prop := ∃ i, B.getD i false = true
theorem dstB_some (a : Nat) (B : List Bool) (d : Deleg) (h : someB (dstB a B d)) : someB B := by
  unfold dstB at h
  split at h
  · rename_i hc
    rw [Bool.and_eq_true] at hc
    exact ⟨_, hc.1⟩
  · exact h
theorem passB_some (a : Nat) : ∀ (ds : List Deleg) (B : List Bool), someB (passB a ds B) → someB B
  | [], B, h => h
  | d :: ds, B, h => dstB_some a B d (passB_some a ds (dstB a B d) h)
theorem itB_some (a : Nat) (ds : List Deleg) (B : List Bool) : ∀ n, someB (itB a ds n B) → someB B
  | 0, h => h
  | n + 1, h => itB_some a ds B n (passB_some a ds _ h)
theorem passB_each (a : Nat) : ∀ (ds : List Deleg) (B : List Bool), passB a ds B = B → ∀ d ∈ ds, dstB a B d = B
  | [], B, _, d, hd => by cases hd
  | e :: ds, B, h, d, hd => by
    obtain ⟨h2, h3⟩ := dstB_grow a B e
    obtain ⟨_, k2, k3⟩ := passB_grow a ds (dstB a B e)
    have h' : passB a ds (dstB a B e) = B := h
    rw [h'] at k2
    have q := h3 (by omega)
    rcases List.mem_cons.1 hd with rfl | hd
    · exact q
    · rw [q] at h'
      exact passB_each a ds B h' d hd
/-- Everyone keeps the own acts. -/
theorem own_kept (ds : List Deleg) (os : List Nat) (k : Nat) : os.getD k 0 &&& (itN ds 7 os).getD k 0 = os.getD k 0 := by
  refine Nat.eq_of_testBit_eq fun a => ?_
  rw [Nat.testBit_and]
  cases h : (os.getD k 0).testBit a
  · rfl
  · rw [← bitsN_getD] at h
    have q := itB_mono a k ds (bitsN a os) h 7
    rw [← bits_it, bitsN_getD] at q
    rw [q]; rfl
/-- In the end nothing is missing. -/
theorem all_done (ds : List Deleg) (os : List Nat) (hl : os.length = 7) (d : Deleg) (hd : d ∈ ds) (ht : d.f1.toNat < 7) :
    ((itN ds 7 os).getD d.f0.toNat 0 &&& d.f2.toNat) &&& (itN ds 7 os).getD d.f1.toNat 0 = (itN ds 7 os).getD d.f0.toNat 0 &&& d.f2.toNat := by
  have hR : passN ds (itN ds 7 os) = itN ds 7 os := itN_fix ds os hl
  have hlen : (itN ds 7 os).length = 7 := (itN_len ds os 7).trans hl
  generalize itN ds 7 os = R at hR hlen
  refine Nat.eq_of_testBit_eq fun a => ?_
  have h1 : passB a ds (bitsN a R) = bitsN a R := by rw [← bits_pass, hR]
  have h2 := passB_each a ds (bitsN a R) h1 d hd
  rw [Nat.testBit_and, Nat.testBit_and]
  cases hc : (R.getD d.f0.toNat 0).testBit a && d.f2.toNat.testBit a
  · rfl
  · unfold dstB at h2
    rw [bitsN_getD, hc, if_pos rfl] at h2
    have q : ((bitsN a R).set d.f1.toNat true).getD d.f1.toNat false = true := by
      rw [List.getD_eq_getElem?_getD, List.getElem?_set_self (by simp [bitsN, hlen]; omega)]; rfl
    rw [h2, bitsN_getD] at q
    rw [q]; rfl
def orTo (os : List Nat) (k : Nat) : Nat := (os.take k).foldl (· ||| ·) 0
theorem foldl_or_bit (a : Nat) : ∀ (os : List Nat) (x : Nat), (os.foldl (· ||| ·) x).testBit a = true ↔ x.testBit a = true ∨ ∃ i, (os.getD i 0).testBit a = true
  | [], x => by simp
  | o :: os, x => by
    show (os.foldl (· ||| ·) (x ||| o)).testBit a = true ↔ _
    rw [foldl_or_bit a os, Nat.testBit_or, Bool.or_eq_true]
    constructor
    · rintro ((h | h) | ⟨i, h⟩)
      · exact .inl h
      · exact .inr ⟨0, by simpa using h⟩
      · exact .inr ⟨i + 1, by simpa using h⟩
    · rintro (h | ⟨i, h⟩)
      · exact .inl (.inl h)
      · cases i with
        | zero => exact .inl (.inr (by simpa using h))
        | succ i => exact .inr ⟨i, by simpa using h⟩
theorem orTo_step (os : List Nat) (k : Nat) (h : k < os.length) : orTo os (k + 1) = orTo os k ||| os.getD k 0 := by
  unfold orTo
  rw [List.take_succ_eq_append_getElem h, List.foldl_append, List.getD_eq_getElem?_getD, List.getElem?_eq_getElem h]
  rfl
/-- There is no act in the end that nobody has. -/
theorem or_same (ds : List Deleg) (os : List Nat) (hl : os.length = 7) : orTo (itN ds 7 os) 7 = orTo os 7 := by
  unfold orTo
  rw [List.take_of_length_le (by rw [itN_len, hl]; omega), List.take_of_length_le (by omega)]
  refine Nat.eq_of_testBit_eq fun a => ?_
  rw [Bool.eq_iff_iff, foldl_or_bit, foldl_or_bit]
  simp only [Nat.zero_testBit, Bool.false_eq_true, false_or]
  constructor
  · rintro ⟨i, h⟩
    rw [← bitsN_getD, bits_it] at h
    obtain ⟨j, hj⟩ := itB_some a ds (bitsN a os) 7 ⟨i, h⟩
    rw [bitsN_getD] at hj
    exact ⟨j, hj⟩
  · rintro ⟨i, h⟩
    rw [← bitsN_getD] at h
    have q := itB_mono a i ds (bitsN a os) h 7
    rw [← bits_it, bitsN_getD] at q
    exact ⟨i, q⟩
theorem itN_again (ds : List Deleg) (os : List Nat) (hl : os.length = 7) : itN ds 7 (itN ds 7 os) = itN ds 7 os := by
  have hR : passN ds (itN ds 7 os) = itN ds 7 os := itN_fix ds os hl
  generalize itN ds 7 os = R at hR
  exact (itN_stay ds R 0 hR 7).trans rfl
/-- What is delegated stays. -/
theorem delR_again (ns : List Int) (ds : List Deleg) (ho : ownsOk ns = true) (hv : dValid ds = true) : delR (delR ns ds) ds = delR ns ds := by
  obtain ⟨n1, n2, n3⟩ := nats_ok ns ho
  have e : delR ns ds = toI (itN ds 7 (natsOf ns)) := by simp [delR, ho, hv]
  have hl := (itN_len ds (natsOf ns) 7).trans n2
  have hb := bound_it ds (natsOf ns) n3 7
  have hag := itN_again ds (natsOf ns) n2
  rw [e]
  generalize itN ds 7 (natsOf ns) = R at hl hb hag
  have ho2 : ownsOk (toI R) = true := by
    simp only [ownsOk, Bool.and_eq_true, decide_eq_true_eq, List.all_eq_true, inR_iff]
    refine ⟨by rw [toI_len, hl], fun x hx => ?_⟩
    obtain ⟨y, hy, rfl⟩ := List.mem_map.1 hx
    have := hb y hy
    omega
  have hn : natsOf (toI R) = R := by
    unfold natsOf toI
    rw [List.map_map]
    exact List.ext_getElem (by simp) fun i a b => by simp
  simp only [delR, ho2, hv, Bool.and_self, if_true, hn, hag]
end Go.Proofs.Ytjmjpejkongipaa
