/-
  Things in a relation: plain, and the program's way. No condition.
-/
import Derived.Test.YtfeaclnbkmaeeaaTuv
import Derived.Test.YtfeaclnbkmaeeaaMem
set_option linter.unusedSimpArgs false
set_option linter.unusedVariables false
namespace Go.Proofs.Ytfeaclnbkmaeeaa
open Go.RowKit
theorem wrap64_pow (r : Nat) (h : r ≤ 62) : wrap64 (2 ^ r) = ((1 <<< r : Nat) : Int) := by
  have hp : 2 ^ r ≤ 2 ^ 62 := Nat.pow_le_pow_right (by omega) h
  have hq := Nat.two_pow_pos r
  have e : (2 : Int) ^ r = ((2 ^ r : Nat) : Int) := by simp
  rw [Nat.one_shiftLeft, e]
  generalize 2 ^ r = x at *
  unfold wrap64
  omega
/-- The tuple speaks of this thing and this relation. -/
def hitT (about : Int) (nm : ByteArray) (t : Tup) : Bool := (t.f0 == about) && (t.f1.toList == nm.toList)
def relStep (R : Int → ByteArray → Nat) (about : Int) (nm : ByteArray) (s : Nat) (t : Tup) : Nat :=
  if hitT about nm t then (if t.f3.toList.isEmpty then s ||| 1 <<< t.f2.toNat else s ||| R t.f2 t.f3) else s
/-- The set of all things in a relation, by at most so many tuples. -/
def relN (ds : List Tup) : Nat → Int → ByteArray → Nat
  | 0, _, _ => 0
  | m + 1, about, nm => ds.foldl (relStep (relN ds m) about nm) 0
def In7 (ds : List Tup) : Prop := ∀ d ∈ ds, 0 ≤ d.f2 ∧ d.f2 ≤ 6
theorem tValid_in7 {ds : List Tup} (h : tValid ds = true) : In7 ds := fun d hd => by
  simp only [tValid, Bool.and_eq_true, List.all_eq_true] at h
  have := h.1 d hd
  simp only [tOk, Bool.and_eq_true, inR_iff] at this
  exact this.1.1.2
theorem relStep_lt {R : Int → ByteArray → Nat} (hR : ∀ a n, R a n < 128) (about : Int) (nm : ByteArray) (s : Nat) (t : Tup) (h : 0 ≤ t.f2 ∧ t.f2 ≤ 6) (hs : s < 128) : relStep R about nm s t < 128 := by
  unfold relStep
  split
  · split
    · refine Nat.or_lt_two_pow (n := 7) hs ?_
      rw [Nat.one_shiftLeft]
      exact Nat.pow_lt_pow_right (by omega) (by omega)
    · exact Nat.or_lt_two_pow (n := 7) hs (hR _ _)
  · exact hs
theorem fold_lt {R : Int → ByteArray → Nat} (hR : ∀ a n, R a n < 128) (about : Int) (nm : ByteArray) : ∀ (ds : List Tup) (s : Nat), In7 ds → s < 128 → ds.foldl (relStep R about nm) s < 128
  | [], s, _, hs => hs
  | t :: ds, s, h, hs => fold_lt hR about nm ds _ (fun d hd => h d (List.mem_cons_of_mem _ hd)) (relStep_lt hR about nm s t (h t List.mem_cons_self) hs)
theorem relN_lt (ds : List Tup) (h : In7 ds) : ∀ (m : Nat) (about : Int) (nm : ByteArray), relN ds m about nm < 128
  | 0, _, _ => by simp [relN]
  | m + 1, about, nm => fold_lt (fun a n => relN_lt ds h m a n) about nm ds 0 h (by omega)
/-- The first k tuples. -/
def relTo (ds : List Tup) (m : Nat) (about : Int) (nm : ByteArray) (k : Nat) : Nat := (ds.take k).foldl (relStep (relN ds m) about nm) 0
theorem relTo_step (ds : List Tup) (m : Nat) (about : Int) (nm : ByteArray) (k : Nat) (h : k < ds.length) : relTo ds m about nm (k + 1) = relStep (relN ds m) about nm (relTo ds m about nm k) ds[k] := by
  unfold relTo
  rw [List.take_succ_eq_append_getElem h, List.foldl_append]
  rfl
theorem relTo_end (ds : List Tup) (m : Nat) (about : Int) (nm : ByteArray) (k : Nat) (h : ¬ k < ds.length) : relTo ds m about nm k = relN ds (m + 1) about nm := by
  unfold relTo
  rw [List.take_of_length_le (by omega)]
  rfl
theorem relTo_lt (ds : List Tup) (h : In7 ds) (m : Nat) (about : Int) (nm : ByteArray) (k : Nat) : relTo ds m about nm k < 128 :=
  fold_lt (fun a n => relN_lt ds h m a n) about nm _ 0 (fun d hd => h d (List.mem_of_mem_take hd)) (by omega)
set_option maxHeartbeats 3200000 in
theorem related_any (ds : List Tup) (h7 : In7 ds) : ∀ (m : Nat) (about : Int) (nm : ByteArray) (v : Value) (w : World), m ≤ 4 → SlT w v ds →
    Calls Try.prog 39 #[v, .int .i64 about, .string nm, .int .i64 m] w fun e w' => e = .returned (.int .i64 (relN ds m about nm : Nat)) ∧ Below w.heap.size w w' := by
  intro m
  induction m with
  | zero =>
    intro about nm v w _ h
    obtain ⟨a, cap, rfl, h1, h2⟩ := SlF.shape h
    unfold maxLen at h2
    have H := Lib.hid h
    clear h
    go_enter Try.func39, Try.ntmps39
    go_wp2_with fail
    go_loopw [9, 14] (fun s i wr => ∃ k : Nat, k ≤ ds.length ∧ i = .int .i64 k ∧ s = .int .i64 0 ∧ Below w.heap.size w wr) (fun _ i _ => ds.length - (intOf i).toNat)
    case atStart => exact ⟨0, Nat.zero_le _, rfl, rfl, Below.refl _ _⟩
    case round =>
      obtain ⟨k, hk, rfl, rfl, hB⟩ := hrel
      by_cases hlt : k < ds.length
      · obtain ⟨g, off, cap', hv, _, _, c0, c1, c2, c3⟩ := (H.out.below hB).cells k hlt
        simp only [Value.slice.injEq] at hv
        obtain ⟨rfl, -, rfl⟩ := hv
        generalize ds[k] = d at c0 c1 c2 c3
        have hxa := fun o => Below.al hB o
        go_wp2_with fail
        go_roundw
        case rel => exact ⟨k + 1, by omega, by go_num, rfl, hxa _⟩
        case measure => simp [intOf]; omega
      · go_wp2_with fail
        go_ret
        exact ⟨rfl, hB⟩
  | succ m ih =>
    intro about nm v w hm h
    obtain ⟨a, cap, rfl, h1, h2⟩ := SlF.shape h
    unfold maxLen at h2
    have H := Lib.hid h
    have IH := Lib.hid ih
    have H7 := Lib.hid h7
    clear h ih h7
    have em : ((m + 1 : Nat) : Int) = (m : Int) + 1 := by omega
    rw [em]
    have hz : (((m : Int) + 1) == 0) = false := by simp; omega
    clear em
    go_enter Try.func39, Try.ntmps39
    go_wp2_with fail
    go_loopw [9, 14] (fun s i wr => ∃ k : Nat, k ≤ ds.length ∧ i = .int .i64 k ∧ s = .int .i64 (relTo ds m about nm k : Nat) ∧ Below w.heap.size w wr) (fun _ i _ => ds.length - (intOf i).toNat)
    case atStart => exact ⟨0, Nat.zero_le _, rfl, rfl, Below.refl _ _⟩
    case round =>
      obtain ⟨k, hk, rfl, rfl, hB⟩ := hrel
      by_cases hlt : k < ds.length
      · obtain ⟨g, off, cap', hv, _, _, c0, c1, c2, c3⟩ := (H.out.below hB).cells k hlt
        simp only [Value.slice.injEq] at hv
        obtain ⟨rfl, -, rfl⟩ := hv
        have hs := Lib.hid (relTo_step ds m about nm k hlt)
        have hS0 := relTo_lt ds H7.out m about nm k
        have hd := H7.out ds[k] (List.getElem_mem hlt)
        generalize ds[k] = d at c0 c1 c2 c3 hs hd
        generalize hS : relTo ds m about nm k = S at *
        have hSH := Lib.hid hS
        clear hS
        have hxa := fun o => Below.al hB o
        cases p1 : d.f0 == about
        · have n1 : (d.f0 != about) = true := by show (!(d.f0 == about)) = true; rw [p1]; rfl
          have hf := Lib.hid (hs.out.trans (show _ = S from by simp [relStep, hitT, p1]))
          clear hs
          go_wp2_with fail
          go_roundw
          case rel => exact ⟨k + 1, by omega, by go_num, by rw [hf.out], hxa _⟩
          case measure => simp [intOf]; omega
        · have n1 : (d.f0 != about) = false := by show (!(d.f0 == about)) = false; rw [p1]; rfl
          cases p2 : d.f1.toList == nm.toList
          · have n2 : (d.f1.toList != nm.toList) = true := by show (!(d.f1.toList == nm.toList)) = true; rw [p2]; rfl
            have hf := Lib.hid (hs.out.trans (show _ = S from by simp [relStep, hitT, p1, p2]))
            clear hs
            go_wp2_with fail
            go_roundw
            case rel => exact ⟨k + 1, by omega, by go_num, by rw [hf.out], hxa _⟩
            case measure => simp [intOf]; omega
          · have n2 : (d.f1.toList != nm.toList) = false := by show (!(d.f1.toList == nm.toList)) = false; rw [p2]; rfl
            cases p3 : d.f3.toList.isEmpty
            · have hf := Lib.hid (hs.out.trans (show _ = S ||| relN ds m d.f2 d.f3 from by simp [relStep, hitT, p1, p2, p3]))
              clear hs
              go_wp2_with fail
              refine (IH.out d.f2 d.f3 _ _ (by omega) ((H.out.below hB).below (Below.al (Below.refl _ _) _))).mono ?_
              rintro e w2 ⟨rfl, b2⟩
              have hB2 := Below.via b2 (hxa _)
              have hr := relN_lt ds H7.out m d.f2 d.f3
              generalize relN ds m d.f2 d.f3 = R at *
              have hbor := bits_or_nat S R (by omega) (by omega)
              go_wp2_with fail
              go_roundw
              case rel => exact ⟨k + 1, by omega, by go_num, by rw [hf.out], hB2⟩
              case measure => simp [intOf]; omega
            · have hf := Lib.hid (hs.out.trans (show _ = S ||| 1 <<< d.f2.toNat from by simp [relStep, hitT, p1, p2, p3]))
              clear hs
              obtain ⟨r, hr⟩ : ∃ r : Nat, d.f2 = (r : Int) := ⟨d.f2.toNat, by omega⟩
              rw [hr] at c2 hf hd
              have hr7 : r ≤ 6 := by omega
              have hw := wrap64_pow r (by omega)
              have hbor := bits_or_nat S (1 <<< r) (by omega) (by rcases (show r = 0 ∨ r = 1 ∨ r = 2 ∨ r = 3 ∨ r = 4 ∨ r = 5 ∨ r = 6 by omega) with rfl | rfl | rfl | rfl | rfl | rfl | rfl <;> decide)
              rw [← hw] at hbor
              clear hw
              go_wp2_with fail
              go_roundw
              case rel => exact ⟨k + 1, by omega, by go_num, by rw [hf.out]; rfl, hxa _⟩
              case measure => simp [intOf]; omega
      · have hf := Lib.hid (relTo_end ds m about nm k hlt)
        go_wp2_with fail
        go_ret
        exact ⟨by rw [hf.out]; rfl, hB⟩
end Go.Proofs.Ytfeaclnbkmaeeaa
