/-
  The acts of the roles that a role has: the program's way and the reference's. No condition.
-/
import Derived.Test.YtlcjkehpdlgdoaaRlt
set_option linter.unusedSimpArgs false
set_option linter.unusedVariables false
namespace Go.Proofs.Ytlcjkehpdlgdoaa
open Go.RowKit
def aOf (ds : List Rl) (x : Int) : Nat := match ds[x.toNat]? with | some d => d.acts.toNat | none => 0
theorem aOf_eq (ds : List Rl) (i : Nat) (h : i < ds.length) : aOf ds (i : Int) = ds[i].acts.toNat := by
  unfold aOf
  rw [Int.toNat_natCast, List.getElem?_eq_getElem h]
/-- The acts of all together. -/
def orF (f : Int → Nat) (L : List Int) : Nat := L.foldl (fun s x => s ||| f x) 0
theorem orF_step (f : Int → Nat) (L : List Int) (k : Nat) (h : k < L.length) : orF f (L.take (k + 1)) = orF f (L.take k) ||| f L[k] := by
  unfold orF
  rw [List.take_succ_eq_append_getElem h, List.foldl_append]
  rfl
def anyF (f : Int → Nat) (L : List Int) (a : Nat) : Bool := L.any fun x => (f x).testBit a
theorem anyF_step (f : Int → Nat) (L : List Int) (a k : Nat) (h : k < L.length) : anyF f (L.take (k + 1)) a = (anyF f (L.take k) a || (f L[k]).testBit a) := by
  unfold anyF
  rw [List.take_succ_eq_append_getElem h, List.any_append]
  simp
theorem foldF_or (f : Int → Nat) (a : Nat) : ∀ (L : List Int) (s : Nat), (L.foldl (fun s x => s ||| f x) s).testBit a = (s.testBit a || anyF f L a)
  | [], s => by simp [anyF]
  | x :: L, s => by
    rw [List.foldl_cons, foldF_or f a L, Nat.testBit_or, anyF, anyF, List.any_cons, Bool.or_assoc]
theorem orF_bit (f : Int → Nat) (L : List Int) (a : Nat) : (orF f L).testBit a = anyF f L a := by
  unfold orF
  rw [foldF_or, Nat.zero_testBit, Bool.false_or]
theorem foldF_lt (f : Int → Nat) : ∀ (L : List Int) (s : Nat), (∀ x ∈ L, f x < 16) → s < 16 → L.foldl (fun s x => s ||| f x) s < 16
  | [], s, _, hs => hs
  | x :: L, s, h, hs => foldF_lt f L _ (fun y hy => h y (List.mem_cons_of_mem _ hy)) (Nat.or_lt_two_pow (n := 4) hs (h x (List.mem_cons_self ..)))
theorem orF_lt (f : Int → Nat) (L : List Int) (h : ∀ x ∈ L, f x < 16) (k : Nat) : orF f (L.take k) < 16 := foldF_lt f _ 0 (fun x hx => h x (List.mem_of_mem_take hx)) (by omega)
theorem orF_sum (f : Int → Nat) (L : List Int) (h : ∀ x ∈ L, f x < 16) : sumBits (anyF f L) 4 = orF f L :=
  sumBits_eq _ _ (foldF_lt f L 0 h (by omega)) (fun a _ => (orF_bit f L a).symm)
/-- The numbers are those of roles with acts that there are. -/
def InL (ds : List Rl) (L : List Int) : Prop := ∀ x ∈ L, ∃ (i : Nat) (h : i < ds.length), x = (i : Int) ∧ 0 ≤ ds[i].acts ∧ ds[i].acts ≤ 15
theorem InL.lt {ds : List Rl} {L : List Int} (h : InL ds L) : ∀ x ∈ L, aOf ds x < 16 := fun x hx => by
  obtain ⟨i, hi, rfl, h1, h2⟩ := h x hx
  rw [aOf_eq ds i hi]
  omega
/-- What RoleActs returns. -/
def actsR (ds : List Rl) (n : Int) : Int := if rValid ds && inR n 0 (ds.length - 1) then ((orF (aOf ds) (withR ds n) : Nat) : Int) else -1
theorem withR_in (ds : List Rl) (n : Int) : InL ds (withR ds n) := by
  unfold withR
  split
  · rename_i h
    rw [Bool.and_eq_true] at h
    obtain ⟨_, _, ha⟩ := rValid_in h.1
    intro x hx
    unfold bitsTo at hx
    obtain ⟨i, hi, rfl⟩ := List.mem_map.1 hx
    have hl : i < ds.length := by simpa using (List.mem_filter.1 hi).1
    exact ⟨i, hl, rfl, ha _ (List.getElem_mem hl)⟩
  · intro x hx; cases hx
theorem withR_ne (ds : List Rl) (n : Int) (h : (rValid ds && inR n 0 (ds.length - 1)) = true) : 0 < (withR ds n).length := by
  unfold withR
  rw [if_pos h]
  rw [Bool.and_eq_true, inR_iff] at h
  have hn : n.toNat < ds.length := by omega
  refine List.length_pos_of_mem (a := ((n.toNat : Nat) : Int)) ?_
  unfold bitsTo
  refine List.mem_map.2 ⟨n.toNat, List.mem_filter.2 ⟨by simpa using hn, ?_⟩, rfl⟩
  simpa using setR_self ds n.toNat
theorem actsR_eq (ds : List Rl) (n : Int) : actsR ds n = if (withR ds n).length = 0 then -1 else ((orF (aOf ds) (withR ds n) : Nat) : Int) := by
  unfold actsR
  cases h : rValid ds && inR n 0 (ds.length - 1)
  · have e : withR ds n = [] := by simp [withR, h]
    simp [e]
  · have := withR_ne ds n h
    rw [if_pos rfl, if_neg (by omega)]
set_option maxRecDepth 100000 in
set_option maxHeartbeats 6400000 in
theorem implRoleActs_any (ds : List Rl) (n : Int) (v : Value) (w : World) (h : SlRl w v ds) (hlen : ds.length ≤ 1048576) : Calls Try.prog 41 #[v, .int .i64 n] w fun e w' => e = .returned (.int .i64 (actsR ds n)) ∧ Below w.heap.size w w' := by
  obtain ⟨a, cap, rfl, h1, h2⟩ := SlRl.shape h
  unfold maxLen at h2
  have H := Lib.hid h
  clear h
  have CR := fun wx h => isRole_any ds n (.slice a ds.length cap) wx h hlen
  cases hv : rValid ds && inR n 0 (ds.length - 1)
  · have e : actsR ds n = -1 := by simp [actsR, hv]
    rw [e]
    rw [hv] at CR
    clear e hv
    go_enter Try.func41, Try.ntmps41
    go_wp2_with fail
    refine (CR _ H.out).mono ?_
    rintro e w1 ⟨rfl, b1⟩
    go_wp2_with fail
    go_ret
    exact ⟨rfl, b1⟩
  · have e : actsR ds n = ((orF (aOf ds) (withR ds n) : Nat) : Int) := by unfold actsR; rw [hv, if_pos rfl]
    rw [e]
    have eL : withR ds n = bitsTo (setR ds n.toNat) ds.length := by simp [withR, hv]
    have hIL := withR_in ds n
    have hLl := withR_len ds n
    rw [hv] at CR
    rw [Bool.and_eq_true, inR_iff] at hv
    obtain ⟨hv, hn0, hn1⟩ := hv
    obtain ⟨h8, hin, _⟩ := rValid_in hv
    obtain ⟨m, rfl⟩ : ∃ m : Nat, n = (m : Int) := ⟨n.toNat, by omega⟩
    rw [Int.toNat_natCast] at eL
    have hm : m < ds.length := by omega
    have hsl := setR_lt ds hin m hm
    have h256 := pow_lt8 ds.length h8
    have HE := Lib.hid (show bitsTo (setR ds m) 63 = withR ds m by rw [eL, bits63 _ _ hsl h8])
    have CW := Lib.hid (fun wx h => rolesWith_any ds m (.slice a ds.length cap) wx h hin h8 hm)
    have hs2 : setR ds m < 256 := by omega
    have HIL := Lib.hid hIL
    clear e hin hv hsl hIL eL
    generalize setR ds m = S at HE CW hs2
    generalize withR ds m = L at HE HIL hLl
    go_enter Try.func41, Try.ntmps41
    go_wp2_with fail
    refine (CR _ H.out).mono ?_
    rintro e w1 ⟨rfl, b1⟩
    go_wp2_with fail
    refine (CW.out _ (SlRl.below H.out b1)).mono ?_
    rintro e w2 ⟨rfl, b2⟩
    have hB2 := Below.via b2 b1
    go_wp2_with fail
    refine (members_any S _ (by omega)).mono ?_
    rintro e w3 ⟨vx, rfl, ox, b3⟩
    have hB3 := Below.via b3 hB2
    rw [HE.out] at ox
    have HX := Lib.hid (show SlI w3 vx L from own_sl ox)
    have HD := Lib.hid (SlRl.below H.out hB3)
    obtain ⟨xa, xc, rfl, hc1, hc2⟩ := SlF.shape (own_sl ox)
    unfold maxLen at hc2
    clear ox HE CW CR
    go_wp2_with fail
    go_loop [5, 17] (fun s i => ∃ k : Nat, k ≤ L.length ∧ i = .int .i64 k ∧ s = .int .i64 (orF (aOf ds) (L.take k) : Nat)) (fun _ i => L.length - (intOf i).toNat)
    case atStart => exact ⟨0, Nat.zero_le _, rfl, rfl⟩
    case round =>
      obtain ⟨k, hk, rfl, rfl⟩ := hrel
      by_cases hlt : k < L.length
      · have hlt2 : (k : Int) < (L.length : Int) := by omega
        obtain ⟨gx, ox, cx, hvx, _, _, x0⟩ := SlI.cell HX.out k hlt
        simp only [Value.slice.injEq] at hvx
        obtain ⟨rfl, -, rfl⟩ := hvx
        have hst := Lib.hid (orF_step (aOf ds) L k hlt)
        have hol := orF_lt (aOf ds) L HIL.out.lt k
        obtain ⟨i, hi, hxi, ha0, ha1⟩ := HIL.out (L[k]'hlt) (List.getElem_mem hlt)
        rw [hxi, aOf_eq ds i hi] at hst
        rw [hxi] at x0
        obtain ⟨g, off, cap', xa2, xc2, hv, _, _, c0, c1, c2, hx, _, _, _⟩ := HD.out.cells i hi
        simp only [Value.slice.injEq] at hv
        obtain ⟨rfl, -, rfl⟩ := hv
        clear hx hxi
        have hi2 : (i : Int) < (ds.length : Int) := by omega
        generalize ds[i] = d at c0 c1 c2 hst ha0 ha1
        obtain ⟨ac, hac⟩ : ∃ ac : Nat, d.acts = (ac : Int) := ⟨d.acts.toNat, by omega⟩
        rw [hac] at c1 ha1 hst
        rw [Int.toNat_natCast] at hst
        generalize orF (aOf ds) (L.take k) = T at hst hol
        have hbor := bits_or_nat T ac (by omega) (by omega)
        clear hac ha0
        go_wp2_with fail
        go_round
        case rel => exact ⟨k + 1, by omega, by go_num, by rw [hst.out]⟩
        case measure => simp [intOf]; omega
      · have hf := Lib.hid (show orF (aOf ds) (L.take k) = orF (aOf ds) L by rw [List.take_of_length_le (by omega)])
        go_wp2_with fail
        go_ret
        exact ⟨by rw [← hf.out]; rfl, hB3⟩
set_option maxRecDepth 100000 in
set_option maxHeartbeats 6400000 in
theorem specRoleActs_any (ds : List Rl) (n : Int) (v : Value) (w : World) (h : SlRl w v ds) (hlen : ds.length ≤ 1048576) : Calls Try.prog 40 #[v, .int .i64 n] w fun e w' => e = .returned (.int .i64 (actsR ds n)) ∧ Below w.heap.size w w' := by
  obtain ⟨a, cap, rfl, h1, h2⟩ := SlRl.shape h
  unfold maxLen at h2
  have H := Lib.hid h
  clear h
  have CR := fun wx h => specRolesWith_any ds n (.slice a ds.length cap) wx h hlen
  have HE := Lib.hid (actsR_eq ds n)
  have hLl := withR_len ds n
  have HIL := Lib.hid (withR_in ds n)
  generalize withR ds n = L at CR HE hLl HIL
  have HSUM := Lib.hid (orF_sum (aOf ds) L HIL.out.lt)
  go_enter Try.func40, Try.ntmps40
  go_wp2_with fail
  refine (CR _ H.out).mono ?_
  rintro e w1 ⟨vx, rfl, ox, b1⟩
  have HX := Lib.hid (show SlI w1 vx L from own_sl ox)
  have HD := Lib.hid (SlRl.below H.out b1)
  obtain ⟨xa, xc, rfl, hc1, hc2⟩ := SlF.shape (own_sl ox)
  unfold maxLen at hc2
  clear ox CR
  go_wp2_with fail
  go_loop [6, 7] (fun s i => ∃ b : Nat, b ≤ 4 ∧ i = .int .i64 b ∧ s = .int .i64 (sumBits (anyF (aOf ds) L) b : Nat)) (fun _ i => 4 - (intOf i).toNat)
  case atStart => exact ⟨0, Nat.zero_le _, rfl, rfl⟩
  case round =>
    obtain ⟨b, hb4, rfl, rfl⟩ := hrel
    by_cases hlb : b < 4
    · have hlb2 : (b : Int) ≤ 3 := by omega
      have hsum := sumBits_le (anyF (aOf ds) L) b (by omega)
      have hss := Lib.hid (show sumBits (anyF (aOf ds) L) (b + 1) = sumBits (anyF (aOf ds) L) b + if anyF (aOf ds) L b then 1 <<< b else 0 from rfl)
      generalize sumBits (anyF (aOf ds) L) b = s at hsum hss
      go_wp2_with fail
      go_loop [8, 9] (fun f i => ∃ j : Nat, j ≤ L.length ∧ i = .int .i64 j ∧ f = .bool (anyF (aOf ds) (L.take j) b)) (fun _ i => L.length - (intOf i).toNat)
      case atStart => exact ⟨0, Nat.zero_le _, rfl, rfl⟩
      case round =>
        obtain ⟨j, hj, rfl, rfl⟩ := hrel
        by_cases hlt : j < L.length
        · have hlt2 : (j : Int) < (L.length : Int) := by omega
          obtain ⟨gx, ox, cx, hvx, _, _, x0⟩ := SlI.cell HX.out j hlt
          simp only [Value.slice.injEq] at hvx
          obtain ⟨rfl, -, rfl⟩ := hvx
          have hst := Lib.hid (anyF_step (aOf ds) L b j hlt)
          obtain ⟨i, hi, hxi, ha0, ha1⟩ := HIL.out (L[j]'hlt) (List.getElem_mem hlt)
          rw [hxi, aOf_eq ds i hi] at hst
          rw [hxi] at x0
          obtain ⟨g, off, cap', xa2, xc2, hv, _, _, c0, c1, c2, hx, _, _, _⟩ := HD.out.cells i hi
          simp only [Value.slice.injEq] at hv
          obtain ⟨rfl, -, rfl⟩ := hv
          clear hx hxi
          have hi2 : (i : Int) < (ds.length : Int) := by omega
          generalize ds[i] = d at c0 c1 c2 hst ha0 ha1
          obtain ⟨ac, hac⟩ : ∃ ac : Nat, d.acts = (ac : Int) := ⟨d.acts.toNat, by omega⟩
          rw [hac] at c1 ha1 hst
          rw [Int.toNat_natCast] at hst
          have CL := fun wx => l12Act_any ac b wx (by omega) (by omega)
          clear hac ha0
          cases hfd : anyF (aOf ds) (L.take j) b
          · rw [hfd, Bool.false_or] at hst
            clear hfd
            generalize ac.testBit b = q at hst CL
            go_wp2_with ((go_at_call 66; refine (CL _).mono ?_; rintro e w' ⟨rfl, rfl⟩))
            go_round
            case rel => exact ⟨j + 1, by omega, by go_num, by rw [hst.out]⟩
            case measure => simp [intOf]; omega
          · rw [hfd, Bool.true_or] at hst
            clear hfd
            go_wp2_with fail
            go_round
            case rel => exact ⟨j + 1, by omega, by go_num, by rw [hst.out]⟩
            case measure => simp [intOf]; omega
        · have hf : anyF (aOf ds) (L.take j) b = anyF (aOf ds) L b := by rw [List.take_of_length_le (by omega)]
          rw [hf]
          clear hf
          cases hfd : anyF (aOf ds) L b
          · rw [hfd, if_neg (by simp)] at hss
            clear hfd
            go_wp2_with fail
            go_round
            case rel => exact ⟨b + 1, by omega, by go_num, by rw [hss.out]; rfl⟩
            case measure => simp [intOf]; omega
          · rw [hfd, if_pos rfl] at hss
            have hw := wrap64_pow b (by omega)
            have hp : (1 <<< b : Nat) ≤ 8 := by rcases (show b = 0 ∨ b = 1 ∨ b = 2 ∨ b = 3 by omega) with rfl | rfl | rfl | rfl <;> decide
            generalize (1 <<< b : Nat) = y at hss hp hw
            clear hfd
            go_wp2_with fail
            go_round
            case rel => exact ⟨b + 1, by omega, by go_num, by rw [hss.out]; go_num⟩
            case measure => simp [intOf]; omega
    · obtain rfl : b = 4 := by omega
      rw [HSUM.out]
      by_cases hz : L.length = 0
      · have hres := Lib.hid (show actsR ds n = -1 by rw [HE.out, if_pos hz])
        have hz2 : ((L.length : Nat) : Int) = 0 := by omega
        clear HE HSUM
        go_wp2_with fail
        go_ret
        exact ⟨by rw [hres.out]; rfl, b1⟩
      · have hres := Lib.hid (show actsR ds n = ((orF (aOf ds) L : Nat) : Int) by rw [HE.out, if_neg hz])
        have hz2 : ((L.length : Nat) : Int) ≠ 0 := by omega
        clear HE HSUM
        go_wp2_with fail
        go_ret
        exact ⟨by rw [hres.out]; rfl, b1⟩
end Go.Proofs.Ytlcjkehpdlgdoaa
