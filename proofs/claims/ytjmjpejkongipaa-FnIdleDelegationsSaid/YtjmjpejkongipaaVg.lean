/-
  Idle delegations: plain. No condition.
-/
import Derived.Test.YtjmjpejkongipaaVt
import Derived.Test.YtjmjpejkongipaaVf
set_option linter.unusedSimpArgs false
set_option linter.unusedVariables false
namespace Go.Proofs.Ytjmjpejkongipaa
open Go.RowKit
def idleB (ns : List Int) (ds : List Deleg) (k : Nat) : Bool := decide (delR ns (ds.eraseIdx k) = delR ns ds)
def idleTo (ns : List Int) (ds : List Deleg) (k : Nat) : List Int := ((List.range k).filter (idleB ns ds)).map fun (j : Nat) => (j : Int)
/-- The delegations that change nothing. -/
def idleR (ns : List Int) (ds : List Deleg) : List Int := if ownsOk ns && dValid ds then idleTo ns ds ds.length else []
theorem idleTo_len (ns : List Int) (ds : List Deleg) (k : Nat) : (idleTo ns ds k).length ≤ k := by
  unfold idleTo
  rw [List.length_map]
  exact Nat.le_trans (List.length_filter_le _ _) (by simp)
theorem idleTo_yes (ns : List Int) (ds : List Deleg) (k : Nat) (h : idleB ns ds k = true) : idleTo ns ds (k + 1) = idleTo ns ds k ++ [(k : Int)] := by
  unfold idleTo
  rw [List.range_succ, List.filter_append, List.map_append]
  simp [h]
theorem idleTo_no (ns : List Int) (ds : List Deleg) (k : Nat) (h : idleB ns ds k = false) : idleTo ns ds (k + 1) = idleTo ns ds k := by
  unfold idleTo
  rw [List.range_succ, List.filter_append, List.map_append]
  simp [h]
theorem dValid_erase (ds : List Deleg) (k : Nat) (h : dValid ds = true) : dValid (ds.eraseIdx k) = true := by
  simp only [dValid, Bool.and_eq_true, decide_eq_true_eq, List.all_eq_true] at h ⊢
  refine ⟨fun x hx => h.1 x (List.mem_of_mem_eraseIdx hx), ?_⟩
  have := List.length_eraseIdx_le ds k
  omega
theorem idleB_eq (ns : List Int) (ds : List Deleg) (k : Nat) (ho : ownsOk ns = true) (hv : dValid ds = true) : idleB ns ds k = decide (toI (itN (ds.eraseIdx k) 7 (natsOf ns)) = toI (itN ds 7 (natsOf ns))) := by
  unfold idleB delR
  rw [if_pos (by rw [ho, dValid_erase ds k hv]; rfl), if_pos (by rw [ho, hv]; rfl)]
theorem idleR_len (ns : List Int) (ds : List Deleg) : (idleR ns ds).length ≤ 16 := by
  unfold idleR
  split
  · rename_i h
    simp only [Bool.and_eq_true, dValid, decide_eq_true_eq] at h
    have := idleTo_len ns ds ds.length
    omega
  · exact Nat.zero_le _
end Go.Proofs.Ytjmjpejkongipaa
