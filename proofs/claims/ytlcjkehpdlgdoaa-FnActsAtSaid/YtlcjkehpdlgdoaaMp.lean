/-
  A map of bools that the call made: the look-up. No condition.
-/
import Derived.Test.YtlcjkehpdlgdoaaA
import Derived.Maps.OwnOps
import Derived.Maps.Views
set_option linter.unusedSimpArgs false
set_option linter.unusedVariables false
namespace Go.Proofs.Ytlcjkehpdlgdoaa
open Go.RowKit Go.Maps
section
variable {H : Type}
theorem plainElem_bool_inv {P : Program} {e : TypeId} (he : P.underlying e = some .bool) {v : Value} {z : DataW H × List MemPlace} (h : plainElem P e v = some z) : ∃ x : Bool, v = .bool x ∧ z = (.lit (.bool x), []) := by
  unfold plainElem at h
  rw [he] at h
  cases v <;> simp at h
  exact ⟨_, rfl, h.symm⟩
theorem lookup_bool {P : Program} {k t e : TypeId} {w : World} {b n : Nat} {D : DataW H} (h : w.ownsMap P k (plainElem P e) b n D) (K : Keyed P k) (ht : P.underlying t = some (.map k e)) (he : P.underlying e = some .bool) (hz : (zeroValue e).run P w = .ok (.bool false) w)
    {key : Value} {kl : Lit} (hkey : keyOf P k key = some kl) : ∃ c : Bool, (Instr.lookup t (.map (some b)) key false).run P w = .ok (.bool c) w ∧ D.atKey kl (.lit (.bool false)) = .lit (.bool c) := by
  obtain ⟨v, ps, hrun, hv⟩ := h.lookup K ht hz (plainElem_bool he false) hkey
  obtain ⟨c, rfl, hc⟩ := plainElem_bool_inv he hv
  simp only [Prod.mk.injEq] at hc
  exact ⟨c, hrun, hc.1⟩
end
/-- The names that were seen. -/
def seenD (ns : List ByteArray) : DataW Unit := setOf (.lit (.bool true)) (ns.map fun s => .string s.data.toList)
theorem seenD_snoc (ns : List ByteArray) (s : ByteArray) : (seenD ns).put (.string s.data.toList) (.lit (.bool true)) = seenD (ns ++ [s]) := by
  unfold seenD
  rw [List.map_append, List.map_cons, List.map_nil, setOf_snoc]
theorem isKey_string (l : List UInt8) : WideAt.IsKeyLit (.string l) := by trivial
theorem atKey_in {H : Type} (u : DataW H) (k : Lit) (z : DataW H) : ∀ (acc : List Lit) (m : DataW H), IsMap m → (∀ x ∈ acc, WideAt.IsKeyLit x) → ((k ∈ acc ∨ m.atKey k z = u) → (acc.foldl (fun m x => m.put x u) m).atKey k z = u) ∧ (k ∉ acc → (acc.foldl (fun m x => m.put x u) m).atKey k z = m.atKey k z)
  | [], m, _, _ => ⟨fun h => h.elim (fun h => by cases h) id, fun _ => rfl⟩
  | x :: acc, m, hm, hx => by
    have h1 := hx x (List.mem_cons_self ..)
    obtain ⟨ih1, ih2⟩ := atKey_in u k z acc (m.put x u) (hm.put x u) (fun y hy => hx y (List.mem_cons_of_mem _ hy))
    by_cases he : x = k
    · subst he
      have hp : (m.put x u).atKey x z = u := atKey_put_same hm h1 u z
      exact ⟨fun _ => ih1 (.inr hp), fun h => absurd (List.mem_cons_self ..) h⟩
    · have hp : (m.put x u).atKey k z = m.atKey k z := atKey_put_other (fun e => he e.symm) u z
      refine ⟨fun h => ih1 ?_, fun h => (ih2 (fun q => h (List.mem_cons_of_mem _ q))).trans hp⟩
      rcases h with h | h
      · rcases List.mem_cons.1 h with e | h
        · exact absurd e.symm he
        · exact .inl h
      · exact .inr (hp.trans h)
theorem seenD_at (ns : List ByteArray) (s : ByteArray) : (seenD ns).atKey (.string s.data.toList) (.lit (.bool false)) = .lit (.bool (ns.any fun x => decide (x = s))) := by
  obtain ⟨h1, h2⟩ := atKey_in (H := Unit) (.lit (.bool true)) (.string s.data.toList) (.lit (.bool false)) (ns.map fun s => .string s.data.toList) (.map []) isMap_empty (fun x hx => by obtain ⟨y, _, rfl⟩ := List.mem_map.1 hx; exact isKey_string _)
  have hmem : (Lit.string s.data.toList) ∈ (ns.map fun s => Lit.string s.data.toList) ↔ s ∈ ns := by
    rw [List.mem_map]
    constructor
    · rintro ⟨y, hy, e⟩
      injection e with e
      have : y = s := ByteArray.ext (Array.toList_inj.1 e)
      exact this ▸ hy
    · exact fun h => ⟨s, h, rfl⟩
  cases hc : ns.any fun x => decide (x = s)
  · refine (h2 (fun q => ?_)).trans rfl
    have := hmem.1 q
    have hc2 : (ns.any fun x => decide (x = s)) = true := List.any_eq_true.2 ⟨s, this, by simp⟩
    rw [hc] at hc2
    cases hc2
  · obtain ⟨x, hx, e⟩ := List.any_eq_true.1 hc
    have e2 : x = s := of_decide_eq_true e
    exact h1 (.inl (hmem.2 (e2 ▸ hx)))
end Go.Proofs.Ytlcjkehpdlgdoaa
