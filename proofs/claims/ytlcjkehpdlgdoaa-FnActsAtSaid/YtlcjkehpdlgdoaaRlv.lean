/-
  Valid roles: the program's and the reference's look. No condition.
-/
import Derived.Test.YtlcjkehpdlgdoaaRl
import Derived.Test.YtlcjkehpdlgdoaaMp
import Derived.Test.YtlcjkehpdlgdoaaRg
set_option linter.unusedSimpArgs false
set_option linter.unusedVariables false
namespace Go.Proofs.Ytlcjkehpdlgdoaa
open Go.RowKit Go.Maps
/-- The numbers ascend, each between the bounds. -/
def ascB : Int → Int → List Int → Bool
  | _, _, [] => true
  | lo, hi, x :: xs => inR x lo hi && ascB (x + 1) hi xs
theorem asc_iff (hi : Int) : ∀ (xs : List Int) (lo : Int), ascB lo hi xs = true ↔ (∀ j (h : j < xs.length), lo ≤ xs[j] ∧ xs[j] ≤ hi) ∧ ∀ j (h : j + 1 < xs.length), xs[j] < xs[j + 1]
  | [], lo => by simp [ascB]
  | x :: xs, lo => by
    simp only [ascB, Bool.and_eq_true, inR_iff]
    rw [asc_iff hi xs (x + 1)]
    constructor
    · rintro ⟨⟨h1, h2⟩, h3, h4⟩
      refine ⟨fun j hj => ?_, fun j hj => ?_⟩
      · cases j with
        | zero => exact ⟨h1, h2⟩
        | succ j =>
          have := h3 j (by simpa using hj)
          simp only [List.getElem_cons_succ]
          omega
      · cases j with
        | zero =>
          have := h3 0 (by simpa using hj)
          simp only [List.getElem_cons_zero, List.getElem_cons_succ]
          omega
        | succ j => exact h4 j (Nat.lt_of_succ_lt_succ hj)
    · rintro ⟨h1, h2⟩
      refine ⟨h1 0 (Nat.zero_lt_succ _), fun j hj => ?_, fun j hj => ?_⟩
      · have a := h1 (j + 1) (by simpa using hj)
        simp only [List.getElem_cons_succ] at a
        refine ⟨?_, a.2⟩
        have hlt : ∀ i (hi' : i < xs.length), x < xs[i] := fun i => by
          induction i with
          | zero => intro hi'; exact h2 0 (Nat.succ_lt_succ hi')
          | succ i ih =>
            intro hi'
            have q := ih (by omega)
            have q2 := h2 (i + 1) (by simpa using hi')
            simp only [List.getElem_cons_succ] at q2
            omega
        have := hlt j hj
        omega
      · exact h2 (j + 1) (Nat.succ_lt_succ hj)
/-- Number j is right behind those ahead of it. -/
def stepB (hi : Int) (xs : List Int) (j : Nat) : Bool := inR (xs.getD j 0) 0 hi && (decide (j = 0) || decide (xs.getD (j - 1) 0 < xs.getD j 0))
theorem asc_bad (hi : Int) (xs : List Int) (j : Nat) (h : j < xs.length) (hs : stepB hi xs j = false) : ascB 0 hi xs = false := by
  cases hc : ascB 0 hi xs
  · rfl
  · rw [asc_iff] at hc
    obtain ⟨h1, h2⟩ := hc
    have a := h1 j h
    have e : xs.getD j 0 = xs[j] := by rw [List.getD_eq_getElem?_getD, List.getElem?_eq_getElem h]; rfl
    have hin : inR (xs.getD j 0) 0 hi = true := by rw [e, inR_iff]; exact a
    unfold stepB at hs
    rw [hin, Bool.true_and] at hs
    cases j with
    | zero => simp at hs
    | succ j =>
      have b := h2 j h
      have e2 : xs.getD j 0 = xs[j] := by rw [List.getD_eq_getElem?_getD, List.getElem?_eq_getElem (by omega)]; rfl
      rw [Nat.add_sub_cancel, e, e2] at hs
      simp at hs
      omega
theorem asc_end (hi : Int) (xs : List Int) (h : ∀ j, j < xs.length → stepB hi xs j = true) : ascB 0 hi xs = true := by
  have hg : ∀ j (h : j < xs.length), xs.getD j 0 = xs[j] := fun j h => by rw [List.getD_eq_getElem?_getD, List.getElem?_eq_getElem h]; rfl
  rw [asc_iff]
  refine ⟨fun j hj => ?_, fun j hj => ?_⟩
  · have := h j hj
    unfold stepB at this
    rw [Bool.and_eq_true, inR_iff, hg j hj] at this
    exact this.1
  · have := h (j + 1) hj
    unfold stepB at this
    rw [Bool.and_eq_true, Nat.add_sub_cancel, hg j (by omega), hg (j + 1) hj] at this
    simpa using this.2
/-- A role is valid behind others. -/
def rlOk (m : Int) (pre : List ByteArray) (d : Rl) : Bool := nameOk d.nm.data.toList && !(pre.any fun x => decide (x = d.nm)) && inR d.acts 0 15 && ascB 0 m d.xs
def rlAt (ds : List Rl) (k : Nat) : Bool := match ds[k]? with | some d => rlOk (ds.length - 1) ((ds.take k).map Rl.nm) d | none => true
def rValid (ds : List Rl) : Bool := (List.range ds.length).all (rlAt ds) && decide (ds.length ≤ 8)
theorem rlAt_eq (ds : List Rl) (k : Nat) (h : k < ds.length) : rlAt ds k = rlOk (ds.length - 1) ((ds.take k).map Rl.nm) ds[k] := by
  unfold rlAt
  rw [List.getElem?_eq_getElem h]
theorem rValid_bad (ds : List Rl) (k : Nat) (h : k < ds.length) (hb : rlAt ds k = false) : rValid ds = false := by
  unfold rValid
  have : (List.range ds.length).all (rlAt ds) = false := by
    cases hc : (List.range ds.length).all (rlAt ds)
    · rfl
    · rw [List.all_eq_true] at hc
      have := hc k (by simpa using h)
      rw [hb] at this
      cases this
  rw [this, Bool.false_and]
theorem rValid_end (ds : List Rl) (h : ∀ k, k < ds.length → rlAt ds k = true) : rValid ds = decide (ds.length ≤ 8) := by
  unfold rValid
  have : (List.range ds.length).all (rlAt ds) = true := by
    rw [List.all_eq_true]
    exact fun k hk => h k (by simpa using hk)
  rw [this, Bool.true_and]
theorem names_snoc (ds : List Rl) (k : Nat) (h : k < ds.length) : (ds.take (k + 1)).map Rl.nm = (ds.take k).map Rl.nm ++ [ds[k].nm] := by
  rw [List.take_succ_eq_append_getElem h, List.map_append]
  rfl
set_option maxHeartbeats 1600000 in
theorem ascends_any (ns : List Int) (lo hi : Int) (v : Value) (w : World) (h : SlI w v ns) (hl0 : 0 ≤ lo) (hl1 : lo ≤ 1099511627776) (hh : hi ≤ 1099511627776) : Calls Try.prog 74 #[v, .int .i64 lo, .int .i64 hi] w fun e w' => e = .returned (.bool (ascB lo hi ns)) ∧ w = w' := by
  obtain ⟨a, cap, rfl, h1, h2⟩ := SlF.shape h
  unfold maxLen at h2
  have H := Lib.hid h
  clear h
  go_enter Try.func74, Try.ntmps74
  go_wp2_with fail
  go_loop [1, 11] (fun q i => ∃ (k : Nat) (l : Int), k ≤ ns.length ∧ i = .int .i64 k ∧ q = .int .i64 l ∧ 0 ≤ l ∧ l ≤ 1099511627777 ∧ Hid (ascB lo hi ns = ascB l hi (ns.drop k))) (fun _ i => ns.length - (intOf i).toNat)
  case atStart => exact ⟨0, lo, Nat.zero_le _, rfl, rfl, hl0, by omega, rfl⟩
  case round =>
    obtain ⟨k, l, hk, rfl, rfl, hg0, hg1, hasc⟩ := hrel
    by_cases hlt : k < ns.length
    · obtain ⟨g, off, c, hv, _, _, x0⟩ := SlI.cell H.out k hlt
      simp only [Value.slice.injEq] at hv
      obtain ⟨rfl, -, rfl⟩ := hv
      have hd := hasc.out
      rw [List.drop_eq_getElem_cons hlt] at hd
      have he : ascB lo hi ns = (inR ns[k] l hi && ascB (ns[k] + 1) hi (ns.drop (k + 1))) := hd
      have HE := Lib.hid he
      clear hd he
      generalize ns[k] = x at x0 HE
      have CI := fun wx => in_any x l hi wx
      cases hin : inR x l hi
      · rw [hin] at CI HE
        have hres := Lib.hid (show ascB lo hi ns = false from HE.out)
        clear hin HE
        go_wp2_with ((go_at_call 49; refine (CI _).mono ?_; rintro e w' ⟨rfl, rfl⟩))
        go_ret
        exact ⟨by rw [hres.out]; rfl, rfl⟩
      · rw [hin, Bool.true_and] at HE
        rw [hin] at CI
        rw [inR_iff] at hin
        go_wp2_with ((go_at_call 49; refine (CI _).mono ?_; rintro e w' ⟨rfl, rfl⟩))
        go_round
        case rel => exact ⟨k + 1, x + 1, by omega, by go_num, rfl, by omega, by omega, HE⟩
        case measure => simp [intOf]; omega
    · have he : ascB lo hi ns = true := by
        rw [hasc.out, List.drop_of_length_le (by omega)]
        rfl
      have hres := Lib.hid he
      clear he
      go_wp2_with fail
      go_ret
      exact ⟨by rw [hres.out]; rfl, rfl⟩
theorem mapLaw : Keyed Try.prog 9 := string_keyed Try.underlying9
theorem zeroB (w : World) : (zeroValue 4).run Try.prog w = .ok (.bool false) w := by kernel_rfl
set_option maxRecDepth 100000 in
set_option maxHeartbeats 6400000 in
theorem implRValid_any (ds : List Rl) (v : Value) (w : World) (h : SlRl w v ds) (hlen : ds.length ≤ 1048576) : Calls Try.prog 68 #[v] w fun e w' => e = .returned (.bool (rValid ds)) ∧ Below w.heap.size w w' := by
  obtain ⟨a, cap, rfl, h1, h2⟩ := SlRl.shape h
  unfold maxLen at h2
  have H := Lib.hid h
  clear h
  have hmm := @run_makeMap Try.prog
  go_enter Try.func68, Try.ntmps68
  go_wp2_with fail
  clear hmm
  go_loopw [9] (fun i wr => ∃ k : Nat, k ≤ ds.length ∧ i = .int .i64 k ∧ Hid (∀ j, j < k → rlAt ds j = true) ∧ Hid (wr.ownsMap Try.prog 9 (plainElem (H := Unit) Try.prog 4) w.heap.size k (seenD ((ds.take k).map Rl.nm))) ∧ Below w.heap.size w wr) (fun i _ => ds.length - (intOf i).toNat)
  case atStart => exact ⟨0, Nat.zero_le _, rfl, fun j hj => by omega, World.ownsMap_made _ _ _ _, (Below.refl _ _).alloc (Nat.le_refl _) _⟩
  case round =>
    obtain ⟨k, hk, rfl, hall, hown, hB⟩ := hrel
    by_cases hlt : k < ds.length
    · obtain ⟨g, off, cap', xa, xc, hv, _, _, c0, c1, c2, hx, hx1, hx2, hnm⟩ := (H.out.below hB).cells k hlt
      simp only [Value.slice.injEq] at hv
      obtain ⟨rfl, -, rfl⟩ := hv
      have hat := rlAt_eq ds k hlt
      have hsn := names_snoc ds k hlt
      have HX := Lib.hid (SlI.below hx (Below.al (Below.refl wr.heap.size wr) (.cells #[.string ds[k].nm, .int .i64 ds[k].acts, .slice xa ds[k].xs.length xc] 56)))
      have hm0 : (0 : Int) ≤ (ds.length : Int) - 1 := by omega
      clear hx
      generalize ds[k] = d at c0 c1 c2 HX hat hx1 hnm hsn
      have HSN := Lib.hid hsn
      obtain ⟨pre, hpre⟩ : ∃ pre, pre = (ds.take k).map Rl.nm := ⟨_, rfl⟩
      rw [← hpre] at hat hown HSN
      have hownA := hown.out.alloc (.cells #[.string d.nm, .int .i64 d.acts, .slice xa d.xs.length xc] 56)
      obtain ⟨sn, hlook, hsn2⟩ := lookup_bool hownA mapLaw Try.underlying87 Try.underlying4 (zeroB _) (WideMaps.keyOf_string_mk Try.underlying9 hnm)
      rw [seenD_at] at hsn2
      have hsn3 : (pre.any fun x => decide (x = d.nm)) = sn := by simpa using hsn2
      unfold rlOk at hat
      rw [hsn3] at hat
      have HA := Lib.hid hat
      have HOA := Lib.hid hownA
      have hBA := Below.al hB (.cells #[.string d.nm, .int .i64 d.acts, .slice xa d.xs.length xc] 56)
      clear hsn hpre hown hownA hsn2 hsn3 hat
      have KB := Bk.new (w := wr) (vs := #[.string d.nm, .int .i64 d.acts, .slice xa d.xs.length xc]) (t := 56)
      have CN := fun wx => implNameValid_any d.nm wx hnm
      have CI := fun wx => in_any d.acts 0 15 wx
      have CA := fun wx h => ascends_any d.xs 0 ((ds.length : Int) - 1) (.slice xa d.xs.length xc) wx h (by omega) (by omega) (by omega)
      have bad : ∀ q : Bool, rlAt ds k = (q && false) → rValid ds = false := fun q hq => rValid_bad ds k hlt (by rw [hq, Bool.and_false])
      cases hn : nameOk d.nm.data.toList
      · rw [hn] at CN HA
        have hres := Lib.hid (show rValid ds = false from rValid_bad ds k hlt (by rw [HA.out]; rfl))
        clear hn HA bad CI CA
        go_wp2_with ((go_at_call 55; refine (CN _).mono ?_; rintro e w' ⟨rfl, rfl⟩))
        go_ret
        exact ⟨by rw [hres.out]; rfl, hBA⟩
      · rw [hn] at CN HA
        clear hn
        cases sn
        · cases hi : inR d.acts 0 15
          · rw [hi] at CI HA
            have hres := Lib.hid (show rValid ds = false from rValid_bad ds k hlt (by rw [HA.out]; rfl))
            clear hi HA bad CA
            go_wp2_with (first | (go_at_call 55; refine (CN _).mono ?_; rintro e w' ⟨rfl, rfl⟩) | (go_at_call 49; refine (CI _).mono ?_; rintro e w' ⟨rfl, rfl⟩))
            go_ret
            exact ⟨by rw [hres.out]; rfl, hBA⟩
          · rw [hi] at CI HA
            clear hi
            cases ha : ascB 0 ((ds.length : Int) - 1) d.xs
            · rw [ha] at CA HA
              have hres := Lib.hid (show rValid ds = false from rValid_bad ds k hlt (by rw [HA.out]; rfl))
              clear ha HA bad
              go_wp2_with (first | (go_at_call 55; refine (CN _).mono ?_; rintro e w' ⟨rfl, rfl⟩) | (go_at_call 49; refine (CI _).mono ?_; rintro e w' ⟨rfl, rfl⟩) | (go_at_call 74; refine (CA _ HX.out).mono ?_; rintro e w' ⟨rfl, rfl⟩))
              go_ret
              exact ⟨by rw [hres.out]; rfl, hBA⟩
            · rw [ha] at CA HA
              have HALL := Lib.hid (show ∀ j, j < k + 1 → rlAt ds j = true from fun j hj => by
                rcases Nat.lt_or_ge j k with h | h
                · exact hall.out j h
                · obtain rfl : j = k := by omega
                  rw [HA.out]; rfl)
              clear ha HA bad hall
              go_wp2_with (first | (go_at_call 55; refine (CN _).mono ?_; rintro e w' ⟨rfl, rfl⟩) | (go_at_call 49; refine (CI _).mono ?_; rintro e w' ⟨rfl, rfl⟩) | (go_at_call 74; refine (CA _ HX.out).mono ?_; rintro e w' ⟨rfl, rfl⟩) | (at_mapUpdate; refine wpList_mapUpdate_own _ rfl _ _ _ 87 rfl 9 4 mapLaw Try.underlying87 _ w.heap.size k _ rfl HOA.out (by unfold maxLen; omega) _ _ _ rfl rfl (WideMaps.keyOf_string_mk Try.underlying9 hnm) _ [] (plainElem_bool Try.underlying4 true) ?_; intro w1 hown1 hgrow1; rw [seenD_snoc, ← HSN.out] at hown1; have HO1 := Lib.hid hown1; have hB1 : Below w.heap.size w w1 := hBA.grown hgrow1 hBA.size (fun j hj => by cases hj; exact Nat.le_refl _); clear hown1 hgrow1 HOA))
              go_roundw
              case rel => exact ⟨k + 1, by omega, by go_num, HALL, HO1, hB1⟩
              case measure => simp [intOf]; omega
        · have hres := Lib.hid (show rValid ds = false from rValid_bad ds k hlt (by rw [HA.out]; rfl))
          clear HA bad CI CA
          go_wp2_with ((go_at_call 55; refine (CN _).mono ?_; rintro e w' ⟨rfl, rfl⟩))
          go_ret
          exact ⟨by rw [hres.out]; rfl, hBA⟩
    · have hke : k = ds.length := by omega
      subst hke
      have hres := Lib.hid (rValid_end ds hall.out)
      clear hall hown
      go_wp2_with fail
      go_ret
      exact ⟨by show Ending.returned (.bool (decide ((ds.length : Int) ≤ 8))) = _; rw [hres.out, show decide ((ds.length : Int) ≤ 8) = decide (ds.length ≤ 8) from decide_eq_decide.2 (by omega)], hB⟩
end Go.Proofs.Ytlcjkehpdlgdoaa
