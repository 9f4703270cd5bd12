/-
  A region that draws its order, walked by invariants: each operation, whenever it comes up, leaves a value of its own kind and a world of the class. No condition.
-/
import Derived.Still
import Derived.StillTail
import Derived.WalkKit
import Derived.KernelRfl
set_option linter.unusedSimpArgs false
set_option linter.unusedVariables false
namespace Go.Proofs.YtamhnhojfhlanaaDoor
open Go
section
variable {P : Program} {ops : Array Oper}

/-- What is asked once an operation has been carried out. -/
def invUpon (P : Program) (post : Value → World → Prop) : Result Next → Prop
  | .ok (.value u) w' => post u w'
  | .ok .skip w' => post undef w'
  | .ok (.enter f args) w' => Calls P f args w' (fun e w'' => ∃ v, e = .returned v ∧ post v w'')
  | _ => False
def invAt (P : Program) (o : Oper) (a : Act) (w : World) (post : Value → World → Prop) : Prop := invUpon P post ((execOp a.eval o).run P w)
theorem invAt_wp {o : Oper} {a : Act} {w : World} {post : Value → World → Prop} {K : Act → World → Prop} {Q' : Exit → Act → World → Prop} (h : ∀ v w', post v w' → K (a.put o.dst v) w') (hh : invAt P o a w post) : o.wp P a w K Q' := by
  unfold invAt at hh
  unfold Oper.wp
  generalize (execOp a.eval o).run P w = r at *
  cases r with
  | ok n w' =>
    cases n <;> simp only [invUpon] at hh <;> simp only [Oper.upon]
    case value u => exact h _ _ hh
    case skip => exact h _ _ hh
    case enter f args => exact hh.mono fun e w'' ⟨v, he, hp⟩ => by subst he; exact h _ _ hp
  | halt x w' => simp only [invUpon] at hh

/-- The chosen operations' values, put in the order of the text. -/
def fillAt (s : Nat → Bool) (vs : Nat → Value) : Nat → List Oper → Act → Act
  | _, [], a => a
  | k, o :: l, a => fillAt s vs (k + 1) l (if s k then a.put o.dst (vs k) else a)

/-- Two frames that hold the same at some slots. -/
def Agree (S : List Tmp) (a a' : Act) : Prop := a.tmps.size = a'.tmps.size ∧ ∀ t ∈ S, a.tmps[t]? = a'.tmps[t]?
theorem Agree.refl (S : List Tmp) (a : Act) : Agree S a a := ⟨rfl, fun _ _ => rfl⟩
theorem Agree.trans {S : List Tmp} {a b c : Act} (h : Agree S a b) (k : Agree S b c) : Agree S a c := ⟨h.1.trans k.1, fun t ht => (h.2 t ht).trans (k.2 t ht)⟩
theorem Agree.put {S : List Tmp} {a b : Act} (h : Agree S a b) (d : Option Tmp) (v : Value) : Agree S (a.put d v) (b.put d v) := by
  cases d with
  | none => exact h
  | some d =>
    refine ⟨by simp [Act.put, h.1], fun t ht => ?_⟩
    simp only [Act.put, Array.getElem?_setIfInBounds, h.1, h.2 t ht]
theorem Agree.put_out {S : List Tmp} {a b : Act} (h : Agree S a b) (d : Option Tmp) (v : Value) (hd : ∀ t, d = some t → t ∉ S) : Agree S a (b.put d v) := by
  cases d with
  | none => exact h
  | some d =>
    refine ⟨by simp [Act.put, h.1], fun t ht => ?_⟩
    have hne : d ≠ t := fun e => hd d rfl (e ▸ ht)
    simp only [Act.put, Array.getElem?_setIfInBounds_ne hne, h.2 t ht]
theorem Agree.exec {a a' : Act} (o : Oper) (hs : ∀ cs b, o.op ≠ .select cs b) (h : Agree (o.looksAt ops) a a') : execOp a.eval o = execOp a'.eval o :=
  execOp_congr o hs fun x hx => by
    cases x with
    | tmp t =>
      have := h.2 t (List.mem_append_left _ (List.mem_filterMap.2 ⟨.tmp t, by simpa using hx, rfl⟩))
      simp only [Act.eval, Array.getD_eq_getD_getElem?, this]
    | _ => rfl
theorem Agree.wanted {a a' : Act} (o : Oper) (h : Agree (o.looksAt ops) a a') : Region.wanted o (yielded ops a.tmps) = Region.wanted o (yielded ops a'.tmps) := by
  unfold Region.wanted
  cases hg : o.guard with
  | none => rfl
  | some gw =>
    obtain ⟨g, want⟩ := gw
    have hy : yielded ops a.tmps g = yielded ops a'.tmps g := by
      unfold yielded
      cases ht : (ops[g]?).bind (·.dst) with
      | none => rfl
      | some t =>
        have := h.2 t (by simp [Oper.looksAt, hg, ht])
        simp only [Option.bind_some, this]
    simp only [hy]

variable {s : Nat → Bool} {vs : Nat → Value} {S : List Tmp}
theorem fill_late : ∀ (l : List Oper) (k : Nat) (a b : Act), Agree S a b → (∀ j o, l[j]? = some o → s (k + j) = true → ∀ d, o.dst = some d → d ∉ S) → Agree S a (fillAt s vs k l b)
  | [], _, _, _, h, _ => h
  | o :: l, k, a, b, h, hl => by
    refine fill_late l (k + 1) a _ ?_ (fun j o' hj hs => hl (j + 1) o' (by simpa using hj) (by rw [← hs]; congr 1; omega))
    cases hk : s k with
    | false => simpa using h
    | true => exact h.put_out _ _ (hl 0 o rfl (by simpa using hk))
theorem fill_early : ∀ (l : List Oper) (k : Nat) (a b : Act), Agree S a b → (∀ j o, l[j]? = some o → s (k + j) = false → ∀ d, o.dst = some d → d ∉ S) → Agree S (fillAt s vs k l a) (fillAt (fun _ => true) vs k l b)
  | [], _, _, _, h, _ => h
  | o :: l, k, a, b, h, hl => by
    refine fill_early l (k + 1) _ _ ?_ (fun j o' hj hs => hl (j + 1) o' (by simpa using hj) (by rw [← hs]; congr 1; omega))
    cases hk : s k with
    | false => exact h.put_out _ _ (hl 0 o rfl (by simpa using hk))
    | true => exact h.put _ _
theorem fill_put (x : Option Tmp) (v : Value) : ∀ (l : List Oper) (k : Nat) (a : Act), (∀ j o, l[j]? = some o → s (k + j) = true → ∀ d, x = some d → o.dst ≠ some d) → (fillAt s vs k l a).put x v = fillAt s vs k l (a.put x v)
  | [], _, _, _ => rfl
  | o :: l, k, a, hl => by
    have ih := fill_put x v l (k + 1) (if s k then a.put o.dst (vs k) else a) (fun j o' hj hs => hl (j + 1) o' (by simpa using hj) (by rw [← hs]; congr 1; omega))
    show (fillAt s vs (k + 1) l _).put x v = fillAt s vs (k + 1) l _
    rw [ih]
    cases hk : s k with
    | false => rfl
    | true =>
      simp only [if_true]
      rw [Act.put_comm a v (vs k) (hl 0 o rfl (by simpa using hk))]
theorem fill_congr {s' : Nat → Bool} {vs' : Nat → Value} : ∀ (l : List Oper) (k : Nat) (a : Act), (∀ j, k ≤ j → j < k + l.length → s j = s' j ∧ (s j = true → vs j = vs' j)) → fillAt s vs k l a = fillAt s' vs' k l a
  | [], _, _, _ => rfl
  | o :: l, k, a, hl => by
    have h0 := hl k (by omega) (by simp)
    have e : (if s k then a.put o.dst (vs k) else a) = (if s' k then a.put o.dst (vs' k) else a) := by
      rw [← h0.1]
      cases hk : s k with
      | false => rfl
      | true => simp only [if_true]; rw [h0.2 hk]
    show fillAt s vs (k + 1) l _ = fillAt s' vs' (k + 1) l _
    rw [e]
    exact fill_congr l (k + 1) _ (fun j h1 h2 => hl j (by omega) (by simp at h2 ⊢; omega))
theorem fill_append : ∀ (l l' : List Oper) (k : Nat) (a : Act), fillAt s vs k (l ++ l') a = fillAt s vs (k + l.length) l' (fillAt s vs k l a)
  | [], _, _, _ => rfl
  | o :: l, l', k, a => by
    have := fill_append l l' (k + 1) (if s k then a.put o.dst (vs k) else a)
    simp only [List.cons_append, fillAt, List.length_cons, this]
    congr 1
    omega

/-- What is known of the operations that this one waits for. -/
def depsOk (hs : List (World → Prop)) (w : World) : List Edge → Prop
  | [] => True
  | e :: es => (Region.binds .any e = true → hs.getD e.on (fun _ => True) w) ∧ depsOk hs w es
def allOk (w : World) : List (World → Prop) → Prop
  | [] => True
  | h :: hs => h w ∧ allOk w hs
/-- Those that have come up, and one more. -/
def upd (s : Nat → Bool) (i : Nat) : Nat → Bool := fun j => if j = i then true else s j
/-- What has come up has come up behind all that it waits for. -/
def closedS (ops : Array Oper) (s : Nat → Bool) : Prop := ∀ j oj, ops[j]? = some oj → s j = true → ∀ e ∈ oj.after, Region.binds .any e = true → s e.on = true
/-- Operation j waits for i, at once or through others. -/
def waits (ops : Array Oper) : Nat → Nat → Nat → Bool
  | 0, j, i => j == i
  | n + 1, j, i => j == i || match ops[j]? with
    | none => false
    | some oj => oj.after.toList.any fun e => Region.binds .any e && waits ops n e.on i
theorem waits_s {s : Nat → Bool} (h : closedS ops s) : ∀ (n j i : Nat), waits ops n j i = true → s j = true → s i = true
  | 0, j, i, hw, hj => by simp only [waits, beq_iff_eq] at hw; exact hw ▸ hj
  | n + 1, j, i, hw, hj => by
    simp only [waits, Bool.or_eq_true, beq_iff_eq] at hw
    rcases hw with hw | hw
    · exact hw ▸ hj
    · cases ho : ops[j]? with
      | none => rw [ho] at hw; cases hw
      | some oj =>
        rw [ho] at hw
        simp only [List.any_eq_true, Bool.and_eq_true] at hw
        obtain ⟨e, he, hb, hw⟩ := hw
        exact waits_s h n e.on i hw (h j oj ho hj e (by simpa using he) hb)
theorem not_yet {s : Nat → Bool} (h : closedS ops s) {i : Nat} (hi : s i = false) (n j : Nat) (hw : waits ops n j i = true) : s j = false := by
  cases hj : s j with
  | false => rfl
  | true => rw [waits_s h n j i hw hj] at hi; cases hi
/-- One operation, whenever it comes up. -/
def invStep (P : Program) (ops : Array Oper) (G : (Nat → Bool) → Nat → World → Prop) (R : World → World → Prop) (F : Value → World → Prop) (i : Nat) (s : Nat → Bool) (o : Oper) (a : Act) (w : World) (n : Nat) : Prop :=
  if Region.wanted o (yielded ops a.tmps) then invAt P o a w (fun v w' => G (upd s i) (n + 1) w' ∧ R w w' ∧ F v w') else G (upd s i) (n + 1) w ∧ F undef w
def anyV : Value → World → Prop := fun _ _ => True
/-- The walk: each operation by itself; its value is known by its own fact alone. -/
def wpInv (P : Program) (ops : Array Oper) (N : Nat) (G : (Nat → Bool) → Nat → World → Prop) (R : World → World → Prop) (w0 : World) (Q : Act → World → Prop) : List Oper → List (Value → World → Prop) → List (World → Prop) → Act → Prop
  | [], _, hs, a => ∀ w n s, n ≤ N → G s n w → R w0 w → allOk w hs → Q a w
  | o :: l, Fs, hs, a => (∀ w n s, n < N → closedS ops s → s hs.length = false → G s n w → R w0 w → depsOk hs w o.after.toList → invStep P ops G R (Fs.headD anyV) hs.length s o a w n) ∧
      ∀ v, wpInv P ops N G R w0 Q l Fs.tail (hs ++ [Fs.headD anyV v]) (a.put o.dst v)

theorem depsOk_mk {hs : List (World → Prop)} {w : World} : ∀ (es : List Edge), (∀ e ∈ es, Region.binds .any e = true → hs.getD e.on (fun _ => True) w) → depsOk hs w es
  | [], _ => trivial
  | e :: es, h => ⟨h e (by simp), depsOk_mk es fun e' he => h e' (by simp [he])⟩
theorem allOk_mk {w : World} : ∀ (hs : List (World → Prop)), (∀ i, i < hs.length → hs.getD i (fun _ => True) w) → allOk w hs
  | [], _ => trivial
  | h :: hs, k => ⟨by simpa using k 0 (by simp), allOk_mk hs fun i hi => by simpa using k (i + 1) (by simpa using hi)⟩

theorem wpInv_at {N : Nat} {G : (Nat → Bool) → Nat → World → Prop} {R : World → World → Prop} {w0 : World} {Q : Act → World → Prop} (Fs0 : List (Value → World → Prop)) (vs : Nat → Value) : ∀ (l : List Oper) (k : Nat) (hs : List (World → Prop)) (a : Act),
    hs.length = k → (∀ i w, i < k → Fs0.getD i anyV (vs i) w → hs.getD i (fun _ => True) w) → wpInv P ops N G R w0 Q l (Fs0.drop k) hs a →
    (∀ j o, l[j]? = some o → ∀ w n s, n < N → closedS ops s → s (k + j) = false → G s n w → R w0 w → (∀ e ∈ o.after, Region.binds .any e = true → e.on < k + j → Fs0.getD e.on anyV (vs e.on) w) → invStep P ops G R (Fs0.getD (k + j) anyV) (k + j) s o (fillAt (fun _ => true) vs k (l.take j) a) w n) ∧
    (∀ w n s, n ≤ N → G s n w → R w0 w → (∀ i, i < k + l.length → Fs0.getD i anyV (vs i) w) → Q (fillAt (fun _ => true) vs k l a) w)
  | [], k, hs, a, hk, hh, h => by
    refine ⟨fun j o hj => by simp at hj, fun w n s hn hG hR hF => h w n s hn hG hR (allOk_mk _ fun i hi => hh i w (by omega) (hF i (by simp; omega)))⟩
  | o :: l, k, hs, a, hk, hh, h => by
    obtain ⟨h1, h2⟩ := h
    have hd : (Fs0.drop k).headD anyV = Fs0.getD k anyV := by
      rw [List.headD_eq_head?_getD, List.head?_drop]; simp
    have ht : (Fs0.drop k).tail = Fs0.drop (k + 1) := by simp
    rw [hd] at h1 h2
    rw [ht] at h2
    have ih := wpInv_at Fs0 vs l (k + 1) (hs ++ [Fs0.getD k anyV (vs k)]) (a.put o.dst (vs k)) (by simp [hk]) (fun i w hi hF => by
      by_cases hik : i = k
      · subst hik
        rw [List.getD_eq_getElem?_getD, List.getElem?_append_right (by omega), hk]
        simpa using hF
      · rw [List.getD_eq_getElem?_getD, List.getElem?_append_left (by omega)]
        have := hh i w (by omega) hF
        rwa [List.getD_eq_getElem?_getD] at this) (h2 (vs k))
    refine ⟨fun j o' hj w n s hn hcl hsj hG hR hF => ?_, fun w n s hn hG hR hF => ?_⟩
    · cases j with
      | zero =>
        simp only [List.getElem?_cons_zero, Option.some.injEq] at hj
        subst hj
        have h1' := h1 w n s hn hcl (by rw [hk]; exact hsj) hG hR
        rw [hk] at h1'
        refine h1' (depsOk_mk _ fun e he hb => ?_)
        by_cases hlt : e.on < k
        · exact hh _ _ hlt (hF e (by simpa using he) hb (by omega))
        · rw [List.getD_eq_getElem?_getD, List.getElem?_eq_none (by omega)]; trivial
      | succ j =>
        have := ih.1 j o' (by simpa using hj) w n s hn hcl (by rw [show k + 1 + j = k + (j + 1) from by omega]; exact hsj) hG hR (fun e he hb hlt => hF e he hb (by omega))
        rw [show k + 1 + j = k + (j + 1) from by omega] at this
        exact this
    · exact ih.2 w n s hn hG hR (fun i hi => hF i (by simp at hi ⊢; omega))

/-- The closed question: every two operations are in order by an edge, or apart. -/
def lexI (ops : Array Oper) : Bool :=
  Region.noSelect ops && (List.range ops.size).all fun j => match ops[j]? with
    | none => true
    | some oj => (oj.after.all fun e => !Region.binds .any e || decide (e.on < j)) && (List.range j).all fun i => match ops[i]? with
      | none => true
      | some oi => (oj.after.any fun e => Region.binds .any e && e.on == i) || oi.apart ops oj
theorem lexI_spec (h : lexI ops = true) : (∀ (j : Nat) (o : Oper) cs b, ops[j]? = some o → o.op ≠ .select cs b) ∧ (∀ j oj, ops[j]? = some oj → (∀ e ∈ oj.after, Region.binds .any e = true → e.on < j) ∧
    ∀ i oi, i < j → ops[i]? = some oi → (∃ e ∈ oj.after, Region.binds .any e = true ∧ e.on = i) ∨ oi.apart ops oj = true) := by
  simp only [lexI, Bool.and_eq_true, List.all_eq_true, List.mem_range] at h
  refine ⟨Region.noSelect_spec h.1, fun j oj hj => ?_⟩
  have hlt : j < ops.size := (Array.getElem?_eq_some_iff.1 hj).1
  have := h.2 j hlt
  simp only [hj, Bool.and_eq_true, List.all_eq_true, List.mem_range, Array.all_eq_true_iff_forall_mem] at this
  refine ⟨fun e he hb => ?_, fun i oi hi ho => ?_⟩
  · have := this.1 e he
    simpa [hb] using this
  · have := this.2 i hi
    simp only [ho, Bool.or_eq_true] at this
    rcases this with h1 | h2
    · rw [← Array.any_toList, List.any_eq_true] at h1
      obtain ⟨e, he, hb⟩ := h1
      simp only [Bool.and_eq_true, beq_iff_eq] at hb
      exact .inl ⟨e, by simpa using he, hb.1, hb.2⟩
    · exact .inr h2
theorem apart_symm {x y : Oper} (h : x.apart ops y = true) : (∀ d, x.dst = some d → d ∉ y.looksAt ops) ∧ (∀ d, y.dst = some d → d ∉ x.looksAt ops) ∧ (∀ d, x.dst = some d → y.dst ≠ some d) :=
  ⟨(Oper.apart_spec h).1, (Oper.apart_spec h).2.2, (Oper.apart_spec h).2.1⟩

/-- Those that have not come up. -/
def unl (ops : Array Oper) (listed : Array Bool) : List Nat := (List.range ops.size).filter fun j => !listed.getD j true
theorem unl_set {listed : Array Bool} {i : Nat} (hi : i < ops.size) (hsz : listed.size = ops.size) (hu : listed.getD i true = false) : (unl ops (listed.setIfInBounds i true)).length < (unl ops listed).length := by
  have e : unl ops (listed.setIfInBounds i true) = (unl ops listed).filter fun j => decide (j ≠ i) := by
    unfold unl
    rw [List.filter_filter]
    apply List.filter_congr
    intro j hj
    by_cases hji : j = i
    · subst hji
      have : j < listed.size := by omega
      simp [this]
    · rw [getD_set_ne true (Ne.symm hji)]; simp [hji]
  rw [e]
  refine (List.length_filter_lt_length_iff_exists).2 ⟨i, ?_, by simp⟩
  unfold unl
  rw [List.mem_filter]
  exact ⟨List.mem_range.2 hi, by simp [hu]⟩
theorem getD_both {listed : Array Bool} {j : Nat} (h : j < listed.size) (b c : Bool) : listed.getD j b = listed.getD j c := by
  simp [h]

structure InvState (ops : Array Oper) (N : Nat) (G : (Nat → Bool) → Nat → World → Prop) (R : World → World → Prop) (w0 : World) (a0 : Act) (Fs : List (Value → World → Prop)) (fuel : Nat) (listed : Array Bool) (a : Act) (w : World) : Prop where
  size : listed.size = ops.size
  few : (unl ops listed).length ≤ fuel
  closed : ∀ j oj, ops[j]? = some oj → listed.getD j false = true → ∀ e ∈ oj.after, Region.binds .any e = true → listed.getD e.on false = true
  vals : ∃ (vs : Nat → Value) (n : Nat), a = fillAt (fun i => listed.getD i false) vs 0 ops.toList a0 ∧ (∀ i, i < ops.size → listed.getD i false = true → Fs.getD i anyV (vs i) w) ∧ G (fun i => listed.getD i false) n w ∧ n + fuel ≤ N ∧ R w0 w

theorem wpAny_of_inv {N : Nat} {G : (Nat → Bool) → Nat → World → Prop} {R : World → World → Prop} {w0 : World} {a0 : Act} {Fs : List (Value → World → Prop)} {Q : Exit → Act → World → Prop} (hlex : lexI ops = true)
    (hRr : ∀ a, R a a) (hRt : ∀ {a b c}, R a b → R b c → R a c) (hst : ∀ F ∈ Fs, ∀ v w w', R w w' → F v w → F v w')
    (h : wpInv P ops N G R w0 (fun a w => Q .normal a w) ops.toList Fs [] a0) : ∀ (fuel : Nat) (listed : Array Bool) (a : Act) (w : World), InvState ops N G R w0 a0 Fs fuel listed a w → wpAny P .any ops Q fuel listed a w := by
  obtain ⟨hsel, hedge⟩ := lexI_spec hlex
  have hst' : ∀ i v w w', R w w' → Fs.getD i anyV v w → Fs.getD i anyV v w' := fun i v w w' hR hF => by
    rw [List.getD_eq_getElem?_getD] at hF ⊢
    cases hi : Fs[i]? with
    | none => trivial
    | some F =>
      simp only [hi, Option.getD_some] at hF ⊢
      exact hst F (List.mem_of_getElem? hi) _ _ _ hR hF
  -- where nothing is ready, all have come up
  have hall : ∀ (listed : Array Bool), listed.size = ops.size → Region.ready .any ops listed = [] → ∀ i, i < ops.size → listed.getD i false = true := by
    intro listed hsz hr i
    induction i using Nat.strongRecOn with
    | ind i ih =>
      intro hi
      cases hb : listed.getD i false with
      | true => rfl
      | false =>
        have : i ∈ Region.ready .any ops listed := by
          obtain ⟨oi, hoi⟩ : ∃ o, ops[i]? = some o := ⟨ops[i], by simp [hi]⟩
          refine mem_ready.2 ⟨by rw [getD_both (by omega) true false]; exact hb, oi, hoi, fun e he hbd => ?_⟩
          have hlt := (hedge i oi hoi).1 e he hbd
          exact ih e.on hlt (by omega)
        rw [hr] at this; cases this
  have hend : ∀ (fuel : Nat) (listed : Array Bool) (a : Act) (w : World), InvState ops N G R w0 a0 Fs fuel listed a w → Region.ready .any ops listed = [] → Q .normal a w := by
    intro fuel listed a w hS hr
    have ha := hall listed hS.size hr
    obtain ⟨vs, n, rfl, hF, hG, hn, hR⟩ := hS.vals
    have e := (wpInv_at Fs vs ops.toList 0 [] a0 rfl (fun i w hi => by omega) h).2 w n _ (by omega) hG hR (fun i hi => hF i (by simpa using hi) (ha i (by simpa using hi)))
    rw [fill_congr (s' := fun _ => true) (vs' := vs) ops.toList 0 a0 (fun j _ hj => ⟨ha j (by simpa using hj), fun _ => rfl⟩)]
    exact e
  intro fuel
  induction fuel with
  | zero =>
    intro listed a w hS
    have hr : Region.ready .any ops listed = [] := by
      cases hr : Region.ready .any ops listed with
      | nil => rfl
      | cons i is =>
        have hm : i ∈ Region.ready .any ops listed := by rw [hr]; simp
        obtain ⟨h0, o, ho, _⟩ := mem_ready.1 hm
        have : i ∈ unl ops listed := by
          unfold unl
          exact List.mem_filter.2 ⟨List.mem_range.2 (Array.getElem?_eq_some_iff.1 ho).1, by simp [h0]⟩
        have hl := hS.few
        have : 0 < (unl ops listed).length := List.length_pos_of_mem this
        omega
    exact ⟨hr, hend 0 listed a w hS hr⟩
  | succ fuel ih =>
    intro listed a w hS
    refine ⟨hend _ listed a w hS, fun i hi => ?_⟩
    obtain ⟨h0, o, ho, hdep⟩ := mem_ready.1 hi
    have hil : i < ops.size := (Array.getElem?_eq_some_iff.1 ho).1
    have h0' : listed.getD i false = false := by rw [getD_both (by have := hS.size; omega) false true]; exact h0
    obtain ⟨vs, n, ha, hF, hG, hn, hR⟩ := hS.vals
    -- the text's frame ahead of this operation, and the one that stands, look alike to it
    have hsplit : ops.toList = ops.toList.take i ++ o :: ops.toList.drop (i + 1) := by
      have hi' : ops.toList[i]? = some o := by simpa using ho
      obtain ⟨hlt', he'⟩ := List.getElem?_eq_some_iff.1 hi'
      have := List.drop_eq_getElem_cons hlt'
      rw [he'] at this
      rw [← this]
      simp
    have hlen : (ops.toList.take i).length = i := by simp; omega
    have hbefore : ∀ j oj, (ops.toList.take i)[j]? = some oj → listed.getD (0 + j) false = false → oj.apart ops o = true := by
      intro j oj hj hl
      have hji : j < i := by
        have := (List.getElem?_eq_some_iff.1 hj).1
        omega
      have hoj : ops[j]? = some oj := by
        rw [List.getElem?_take_of_lt hji] at hj
        simpa using hj
      rcases (hedge i o ho).2 j oj hji hoj with ⟨e, he, hb, hon⟩ | hap
      · have := hdep e he hb
        rw [hon] at this
        rw [Nat.zero_add, this] at hl
        cases hl
      · exact hap
    have hafter : ∀ j oj, (ops.toList.drop (i + 1))[j]? = some oj → listed.getD (i + 1 + j) false = true → o.apart ops oj = true := by
      intro j oj hj hl
      have hoj : ops[i + 1 + j]? = some oj := by
        rw [List.getElem?_drop] at hj
        simpa using hj
      rcases (hedge (i + 1 + j) oj hoj).2 i o (by omega) ho with ⟨e, he, hb, hon⟩ | hap
      · have := hS.closed _ oj hoj hl e he hb
        rw [hon, h0'] at this
        cases this
      · exact hap
    have ha1 : a = fillAt (fun i => listed.getD i false) vs (i + 1) (ops.toList.drop (i + 1)) (fillAt (fun i => listed.getD i false) vs 0 (ops.toList.take i) a0) := by
      rw [ha]
      conv => lhs; rw [hsplit]
      rw [fill_append, hlen]
      simp only [fillAt, Nat.zero_add, h0', Bool.false_eq_true, if_false]
    have hag : Agree (o.looksAt ops) (fillAt (fun _ => true) vs 0 (ops.toList.take i) a0) a := by
      rw [ha1]
      refine fill_late _ _ _ _ ?_ (fun j oj hj hl d hd => (apart_symm (hafter j oj hj hl)).2.1 d hd)
      have := fill_early (vs := vs) (s := fun i => listed.getD i false) (S := o.looksAt ops) (ops.toList.take i) 0 a0 a0 (Agree.refl _ _) (fun j oj hj hl d hd => (apart_symm (hbefore j oj hj hl)).1 d hd)
      exact ⟨this.1.symm, fun t ht => (this.2 t ht).symm⟩
    have hob := (wpInv_at Fs vs ops.toList 0 [] a0 rfl (fun i w hi => by omega) h).1 i o (by simpa using ho) w n (fun i => listed.getD i false) (by omega) hS.closed (by simpa using h0') hG hR (fun e he hb hlt => hF e.on (by omega) (hdep e he hb))
    simp only [Nat.zero_add] at hob
    -- behind it
    have hput : ∀ v, a.put o.dst v = fillAt (fun j => (listed.setIfInBounds i true).getD j false) (fun j => if j = i then v else vs j) 0 ops.toList a0 := by
      intro v
      rw [ha1, fill_put o.dst v _ _ _ (fun j oj hj hl d hd => (apart_symm (hafter j oj hj hl)).2.2 d hd)]
      conv => rhs; rw [hsplit]
      rw [fill_append, hlen]
      have hii : (listed.setIfInBounds i true).getD i false = true := by
        have : i < listed.size := by have := hS.size; omega
        simp [this]
      simp only [fillAt, Nat.zero_add, hii, if_true]
      rw [fill_congr (s' := fun j => (listed.setIfInBounds i true).getD j false) (vs' := fun j => if j = i then v else vs j) (ops.toList.drop (i + 1)) (i + 1) _ (fun j hj _ => ⟨(getD_set_ne false (by omega)).symm, fun _ => by simp [show j ≠ i from by omega]⟩),
        fill_congr (s' := fun j => (listed.setIfInBounds i true).getD j false) (vs' := fun j => if j = i then v else vs j) (ops.toList.take i) 0 _ (fun j _ hj => ⟨(getD_set_ne false (by omega)).symm, fun _ => by simp [show j ≠ i from by omega]⟩)]
    have hup : upd (fun i => listed.getD i false) i = fun j => (listed.setIfInBounds i true).getD j false := by
      funext j
      unfold upd
      by_cases hji : j = i
      · subst hji
        have : j < listed.size := by have := hS.size; omega
        simp [this]
      · rw [if_neg hji, getD_set_ne false (Ne.symm hji)]
    unfold invStep at hob
    rw [hup] at hob
    have hnext : ∀ v w' n', G (fun j => (listed.setIfInBounds i true).getD j false) n' w' → n' + fuel ≤ N → R w w' → Fs.getD i anyV v w' → wpAny P .any ops Q fuel (listed.setIfInBounds i true) (a.put o.dst v) w' := by
      intro v w' n' hG' hn' hR' hF'
      refine ih _ _ _ ⟨by simp [hS.size], ?_, ?_, ⟨fun j => if j = i then v else vs j, n', hput v, ?_, hG', hn', hRt hR hR'⟩⟩
      · have := unl_set (ops := ops) hil hS.size h0
        have := hS.few
        omega
      · intro j oj hoj hl e he hb
        by_cases hji : j = i
        · subst hji
          rw [ho] at hoj
          cases hoj
          exact getD_set_true (hdep e he hb)
        · rw [getD_set_ne false (Ne.symm hji)] at hl
          exact getD_set_true (hS.closed j oj hoj hl e he hb)
      · intro j hj hl
        by_cases hji : j = i
        · subst hji; simpa using hF'
        · rw [getD_set_ne false (Ne.symm hji)] at hl
          simp only [if_neg hji]
          exact hst' _ _ _ _ hR' (hF j hj hl)
    unfold wpOp
    simp only [ho]
    rw [← hag.wanted o]
    split
    · rename_i hw
      rw [if_pos hw] at hob
      refine .inl ?_
      have : invAt P o a w (fun v w' => G (fun j => (listed.setIfInBounds i true).getD j false) (n + 1) w' ∧ R w w' ∧ Fs.getD i anyV v w') := by
        unfold invAt at hob ⊢
        rw [← hag.exec o (fun cs b => hsel i o cs b ho)]
        exact hob
      exact invAt_wp (fun v w' ⟨h1, h2, h3⟩ => hnext v w' (n + 1) h1 (by omega) h2 h3) this
    · rename_i hw
      rw [if_neg hw] at hob
      exact hnext undef w (n + 1) hob.1 (by omega) (hRr w) hob.2
/-- **A region that draws its order, by invariants.** -/
theorem wp_region_inv {G : (Nat → Bool) → Nat → World → Prop} {R : World → World → Prop} {w : World} {a : Act} {id : Nat} {l : List Oper} {Fs : List (Value → World → Prop)} {Q : Exit → Act → World → Prop} (hm : P.follows .mixedOrders = true) (hlex : lexI l.toArray = true)
    (hRr : ∀ a, R a a) (hRt : ∀ {a b c}, R a b → R b c → R a c) (hst : ∀ F ∈ Fs, ∀ v w w', R w w' → F v w → F v w') (hG : ∀ s, (∀ i, s i = false) → G s 0 w.drew)
    (h : wpInv P l.toArray l.length G R w.drew (fun a w => Q .normal a w) l Fs [] a) : (Code.region id l.toArray true).wp P Q a w := by
  refine wp_region_any hm (wpAny_of_inv (N := l.length) (G := G) (R := R) (w0 := w.drew) (a0 := a) (Fs := Fs) hlex hRr hRt hst (by simpa using h) _ _ _ _ ⟨by simp, ?_, ?_, ⟨fun _ => undef, 0, ?_, ?_, hG _ (fun i => ?_), by simp, hRr _⟩⟩)
  · unfold unl
    exact Nat.le_trans (List.length_filter_le _ _) (by simp)
  · intro j oj hj hl
    simp [Array.getElem?_replicate] at hl
    split at hl <;> simp at hl
  · have : ∀ (l : List Oper) (k : Nat) (a : Act), fillAt (fun _ => false) (fun _ => undef) k l a = a := by
      intro l
      induction l with
      | nil => intros; rfl
      | cons o l ih => intro k a; simp only [fillAt, Bool.false_eq_true, if_false]; exact ih _ _
    refine ((fill_congr (s' := fun _ => false) (vs' := fun _ => undef) l.toArray.toList 0 a (fun j _ _ => ⟨?_, fun _ => rfl⟩)).trans (this _ _ _)).symm
    simp only [Array.getD_eq_getD_getElem?, Array.getElem?_replicate]
    split <;> rfl
  · intro i hi hl
    simp [Array.getElem?_replicate] at hl
    split at hl <;> simp at hl
  · simp only [Array.getD_eq_getD_getElem?, Array.getElem?_replicate]
    split <;> rfl
theorem wpAny_more {Q : Exit → Act → World → Prop} : ∀ (g : Nat) (listed : Array Bool) (a : Act) (w : World), wpAny P .any ops Q g listed a w → wpAny P .any ops Q (g + 1) listed a w
  | 0, listed, a, w, h => ⟨fun _ => h.2, fun i hi => by rw [h.1] at hi; cases hi⟩
  | g + 1, listed, a, w, h => ⟨h.1, fun i hi => wpOp_mono (fun a' w' => wpAny_more g _ a' w') (h.2 i hi)⟩
theorem wpAny_more' {Q : Exit → Act → World → Prop} (f g : Nat) (listed : Array Bool) (a : Act) (w : World) (h : wpAny P .any ops Q g listed a w) : wpAny P .any ops Q (f + g) listed a w := by
  induction f with
  | zero => simpa using h
  | succ f ih => rw [show f + 1 + g = f + g + 1 from by omega]; exact wpAny_more _ _ _ _ ih
/-- Those of the head that have not come up. -/
def unlN (n0 : Nat) (listed : Array Bool) : List Nat := (List.range n0).filter fun j => !listed.getD j true
theorem unlN_set {n0 : Nat} {listed : Array Bool} {i : Nat} (hi : i < n0) (hsz : n0 ≤ listed.size) (hu : listed.getD i true = false) : (unlN n0 (listed.setIfInBounds i true)).length < (unlN n0 listed).length := by
  have e : unlN n0 (listed.setIfInBounds i true) = (unlN n0 listed).filter fun j => decide (j ≠ i) := by
    unfold unlN
    rw [List.filter_filter]
    apply List.filter_congr
    intro j hj
    by_cases hji : j = i
    · subst hji
      have : j < listed.size := by omega
      simp [this]
    · rw [getD_set_ne true (Ne.symm hji)]; simp [hji]
  rw [e]
  refine (List.length_filter_lt_length_iff_exists).2 ⟨i, ?_, by simp⟩
  unfold unlN
  rw [List.mem_filter]
  exact ⟨List.mem_range.2 hi, by simp [hu]⟩
/-- The head has come up, and nothing else. -/
def headDone (m n0 : Nat) : Array Bool := ((List.range m).map fun i => decide (i < n0)).toArray
structure InvStateT (ops : Array Oper) (N n0 : Nat) (G : (Nat → Bool) → Nat → World → Prop) (R : World → World → Prop) (w0 : World) (a0 : Act) (Fs : List (Value → World → Prop)) (fuel : Nat) (listed : Array Bool) (a : Act) (w : World) : Prop where
  head : HeadInv .any ops n0 listed
  few : (unlN n0 listed).length ≤ fuel
  vals : ∃ (vs : Nat → Value) (n : Nat), a = fillAt (fun i => listed.getD i false) vs 0 (ops.toList.take n0) a0 ∧ (∀ i, i < n0 → listed.getD i false = true → Fs.getD i anyV (vs i) w) ∧ G (fun i => listed.getD i false) n w ∧ n + fuel ≤ N ∧ R w0 w
theorem wpAny_of_invT {N n0 : Nat} {G : (Nat → Bool) → Nat → World → Prop} {R : World → World → Prop} {w0 : World} {a0 : Act} {Fs : List (Value → World → Prop)} {Q : Exit → Act → World → Prop} (hlex : lexI ops = true)
    (hn0 : n0 < ops.size) (hsink : Region.sinkB .any ops n0 = true) (hchain : Region.chainB .any ops n0 = true) (hseq : Region.seqB .any ops (ops.size - n0) n0 (headDone ops.size n0) = true)
    (hRr : ∀ a, R a a) (hRt : ∀ {a b c}, R a b → R b c → R a c) (hst : ∀ F ∈ Fs, ∀ v w w', R w w' → F v w → F v w')
    (h : wpInv P ops N G R w0 (fun a w => wpList P ops Q (ops.toList.drop n0) a w) (ops.toList.take n0) Fs [] a0) : ∀ (fuel : Nat) (listed : Array Bool) (a : Act) (w : World), InvStateT ops N n0 G R w0 a0 Fs fuel listed a w → wpAny P .any ops Q (fuel + (ops.size - n0)) listed a w := by
  obtain ⟨hsel, hedge⟩ := lexI_spec hlex
  have hTlen : (ops.toList.take n0).length = n0 := by simp; omega
  have hst' : ∀ i v w w', R w w' → Fs.getD i anyV v w → Fs.getD i anyV v w' := fun i v w w' hR hF => by
    rw [List.getD_eq_getElem?_getD] at hF ⊢
    cases hi : Fs[i]? with
    | none => trivial
    | some F =>
      simp only [hi, Option.getD_some] at hF ⊢
      exact hst F (List.mem_of_getElem? hi) _ _ _ hR hF
  -- where all of the head has come up
  have hend : ∀ (fuel : Nat) (listed : Array Bool) (a : Act) (w : World), InvStateT ops N n0 G R w0 a0 Fs fuel listed a w → (∀ i, i < n0 → listed.getD i false = true) → wpAny P .any ops Q (fuel + (ops.size - n0)) listed a w := by
    intro fuel listed a w hS ha
    obtain ⟨vs, n, rfl, hF, hG, hn, hR⟩ := hS.vals
    have e := (wpInv_at Fs vs (ops.toList.take n0) 0 [] a0 rfl (fun i w hi => by omega) h).2 w n _ (by omega) hG hR (fun i hi => hF i (by rw [hTlen] at hi; omega) (ha i (by rw [hTlen] at hi; omega)))
    rw [fill_congr (s' := fun _ => true) (vs' := vs) (ops.toList.take n0) 0 a0 (fun j _ hj => ⟨ha j (by rw [hTlen] at hj; omega), fun _ => rfl⟩)]
    have hls : listed = headDone ops.size n0 := by
      apply Array.ext
      · simp [headDone, hS.head.size]
      · intro i h1 h2
        have hsz := hS.head.size
        simp only [headDone, List.getElem_toArray, List.getElem_map, List.getElem_range]
        by_cases hi : i < n0
        · have := ha i hi
          simp [h1] at this
          simp [this, hi]
        · have := hS.head.tail i (by omega) (by omega)
          simp [h1] at this
          simp [this, hi]
    rw [hls]
    refine wpAny_more' _ _ _ _ _ ?_
    have hdl : (ops.toList.drop n0).length = ops.size - n0 := by simp
    have := wpAny_of_seq (P := P) (md := .any) (Q' := Q) (ops.toList.drop n0) n0 (headDone ops.size n0) _ w (fun j => by simp [List.getElem?_drop]) (by rw [hdl]; exact hseq) e
    rwa [hdl] at this
  intro fuel
  induction fuel with
  | zero =>
    intro listed a w hS
    refine hend 0 listed a w hS (fun i hi => ?_)
    cases hb : listed.getD i false with
    | true => rfl
    | false =>
      have : i ∈ unlN n0 listed := by
        unfold unlN
        exact List.mem_filter.2 ⟨List.mem_range.2 hi, by rw [getD_both (by have := hS.head.size; omega) true false]; simp [hb]⟩
      have hl := hS.few
      have : 0 < (unlN n0 listed).length := List.length_pos_of_mem this
      omega
  | succ fuel ih =>
    intro listed a w hS
    by_cases hall : ∀ i, i < n0 → listed.getD i false = true
    · exact hend _ listed a w hS hall
    obtain ⟨i0, hi0, hu0⟩ : ∃ i, i < n0 ∧ listed.getD i false = false := by
      apply Classical.byContradiction
      intro hno
      exact hall fun i hi => by
        cases hb : listed.getD i false with
        | true => rfl
        | false => exact absurd ⟨i, hi, hb⟩ hno
    have hlow := tail_waits hsink hchain hn0 hS.head (n0 - i0) i0 rfl hi0 (getD_in (by have := hS.head.size; omega) hu0)
    rw [show fuel + 1 + (ops.size - n0) = fuel + (ops.size - n0) + 1 from by omega]
    refine ⟨fun hr => ?_, fun i hi => ?_⟩
    · -- something of the head is ready
      exfalso
      have : ∀ i, i < n0 → listed.getD i false = true := by
        intro i
        induction i using Nat.strongRecOn with
        | ind i ihi =>
          intro hi
          cases hb : listed.getD i false with
          | true => rfl
          | false =>
            have : i ∈ Region.ready .any ops listed := by
              obtain ⟨oi, hoi⟩ : ∃ o, ops[i]? = some o := ⟨ops[i]'(by omega), by simp⟩
              have hsz := hS.head.size
              refine mem_ready.2 ⟨by rw [getD_both (by omega) true false]; exact hb, oi, hoi, fun e he hbd => ?_⟩
              have hlt := (hedge i oi hoi).1 e he hbd
              exact ihi e.on hlt (by omega)
            rw [hr] at this; cases this
      exact hall this
    have hin : i < n0 := by
      apply Classical.byContradiction
      intro hno
      exact hlow i (by omega) hi
    obtain ⟨h0, o, ho, hdep⟩ := mem_ready.1 hi
    have hil : i < ops.size := (Array.getElem?_eq_some_iff.1 ho).1
    have hsz := hS.head.size
    have h0' : listed.getD i false = false := by rw [getD_both (by omega) false true]; exact h0
    obtain ⟨vs, n, ha, hF, hG, hn, hR⟩ := hS.vals
    have hoT : (ops.toList.take n0)[i]? = some o := by rw [List.getElem?_take_of_lt hin]; simpa using ho
    have hsplit : ops.toList.take n0 = (ops.toList.take n0).take i ++ o :: (ops.toList.take n0).drop (i + 1) := by
      obtain ⟨hlt', he'⟩ := List.getElem?_eq_some_iff.1 hoT
      have := List.drop_eq_getElem_cons hlt'
      rw [he'] at this
      rw [← this]
      simp
    have hlen : ((ops.toList.take n0).take i).length = i := by simp; omega
    have hbefore : ∀ j oj, ((ops.toList.take n0).take i)[j]? = some oj → listed.getD (0 + j) false = false → oj.apart ops o = true := by
      intro j oj hj hl
      have hji : j < i := by
        have := (List.getElem?_eq_some_iff.1 hj).1
        omega
      have hoj : ops[j]? = some oj := by
        rw [List.getElem?_take_of_lt hji, List.getElem?_take_of_lt (by omega)] at hj
        simpa using hj
      rcases (hedge i o ho).2 j oj hji hoj with ⟨e, he, hb, hon⟩ | hap
      · have := hdep e he hb
        rw [hon] at this
        rw [Nat.zero_add, this] at hl
        cases hl
      · exact hap
    have hafter : ∀ j oj, ((ops.toList.take n0).drop (i + 1))[j]? = some oj → listed.getD (i + 1 + j) false = true → o.apart ops oj = true := by
      intro j oj hj hl
      have hoj : ops[i + 1 + j]? = some oj := by
        rw [List.getElem?_drop] at hj
        have hlt2 : i + 1 + j < n0 := by
          have := (List.getElem?_eq_some_iff.1 hj).1
          rw [hTlen] at this
          exact this
        rw [List.getElem?_take_of_lt hlt2] at hj
        simpa using hj
      rcases (hedge (i + 1 + j) oj hoj).2 i o (by omega) ho with ⟨e, he, hb, hon⟩ | hap
      · have := hS.head.closed _ oj hoj hl e he hb
        rw [hon, h0'] at this
        cases this
      · exact hap
    have ha1 : a = fillAt (fun i => listed.getD i false) vs (i + 1) ((ops.toList.take n0).drop (i + 1)) (fillAt (fun i => listed.getD i false) vs 0 ((ops.toList.take n0).take i) a0) := by
      rw [ha]
      conv => lhs; rw [hsplit]
      rw [fill_append, hlen]
      simp only [fillAt, Nat.zero_add, h0', Bool.false_eq_true, if_false]
    have hag : Agree (o.looksAt ops) (fillAt (fun _ => true) vs 0 ((ops.toList.take n0).take i) a0) a := by
      rw [ha1]
      refine fill_late _ _ _ _ ?_ (fun j oj hj hl d hd => (apart_symm (hafter j oj hj hl)).2.1 d hd)
      have := fill_early (vs := vs) (s := fun i => listed.getD i false) (S := o.looksAt ops) ((ops.toList.take n0).take i) 0 a0 a0 (Agree.refl _ _) (fun j oj hj hl d hd => (apart_symm (hbefore j oj hj hl)).1 d hd)
      exact ⟨this.1.symm, fun t ht => (this.2 t ht).symm⟩
    have hob := (wpInv_at Fs vs (ops.toList.take n0) 0 [] a0 rfl (fun i w hi => by omega) h).1 i o hoT w n (fun i => listed.getD i false) (by omega) hS.head.closed (by simpa using h0') hG hR (fun e he hb hlt => hF e.on (by omega) (hdep e he hb))
    simp only [Nat.zero_add] at hob
    have hput : ∀ v, a.put o.dst v = fillAt (fun j => (listed.setIfInBounds i true).getD j false) (fun j => if j = i then v else vs j) 0 (ops.toList.take n0) a0 := by
      intro v
      rw [ha1, fill_put o.dst v _ _ _ (fun j oj hj hl d hd => (apart_symm (hafter j oj hj hl)).2.2 d hd)]
      conv => rhs; rw [hsplit]
      rw [fill_append, hlen]
      have hii : (listed.setIfInBounds i true).getD i false = true := by
        have : i < listed.size := by omega
        simp [this]
      simp only [fillAt, Nat.zero_add, hii, if_true]
      rw [fill_congr (s' := fun j => (listed.setIfInBounds i true).getD j false) (vs' := fun j => if j = i then v else vs j) ((ops.toList.take n0).drop (i + 1)) (i + 1) _ (fun j hj _ => ⟨(getD_set_ne false (by omega)).symm, fun _ => by simp [show j ≠ i from by omega]⟩),
        fill_congr (s' := fun j => (listed.setIfInBounds i true).getD j false) (vs' := fun j => if j = i then v else vs j) ((ops.toList.take n0).take i) 0 _ (fun j _ hj => ⟨(getD_set_ne false (by omega)).symm, fun _ => by simp [show j ≠ i from by omega]⟩)]
    have hup : upd (fun i => listed.getD i false) i = fun j => (listed.setIfInBounds i true).getD j false := by
      funext j
      unfold upd
      by_cases hji : j = i
      · subst hji
        have : j < listed.size := by omega
        simp [this]
      · rw [if_neg hji, getD_set_ne false (Ne.symm hji)]
    unfold invStep at hob
    rw [hup] at hob
    have hnext : ∀ v w' n', G (fun j => (listed.setIfInBounds i true).getD j false) n' w' → n' + fuel ≤ N → R w w' → Fs.getD i anyV v w' → wpAny P .any ops Q (fuel + (ops.size - n0)) (listed.setIfInBounds i true) (a.put o.dst v) w' := by
      intro v w' n' hG' hn' hR' hF'
      refine ih _ _ _ ⟨hS.head.set hi hin, ?_, ⟨fun j => if j = i then v else vs j, n', hput v, ?_, hG', hn', hRt hR hR'⟩⟩
      · have := unlN_set (n0 := n0) hin (by omega) h0
        have := hS.few
        omega
      · intro j hj hl
        by_cases hji : j = i
        · subst hji; simpa using hF'
        · rw [getD_set_ne false (Ne.symm hji)] at hl
          simp only [if_neg hji]
          exact hst' _ _ _ _ hR' (hF j hj hl)
    unfold wpOp
    simp only [ho]
    rw [← hag.wanted o]
    split
    · rename_i hw
      rw [if_pos hw] at hob
      refine .inl ?_
      have : invAt P o a w (fun v w' => G (fun j => (listed.setIfInBounds i true).getD j false) (n + 1) w' ∧ R w w' ∧ Fs.getD i anyV v w') := by
        unfold invAt at hob ⊢
        rw [← hag.exec o (fun cs b => hsel i o cs b ho)]
        exact hob
      exact invAt_wp (fun v w' ⟨h1, h2, h3⟩ => hnext v w' (n + 1) h1 (by omega) h2 h3) this
    · rename_i hw
      rw [if_neg hw] at hob
      exact hnext undef w (n + 1) hob.1 (by omega) (hRr w) hob.2
def tailB (ops : Array Oper) (n0 : Nat) : Bool := lexI ops && decide (n0 < ops.size) && Region.sinkB .any ops n0 && Region.chainB .any ops n0 && Region.seqB .any ops (ops.size - n0) n0 (headDone ops.size n0)
/-- **The same, where the last operations wait for all ahead of them: they are walked in the order of the text.** -/
theorem wp_region_invT (n0 : Nat) {G : (Nat → Bool) → Nat → World → Prop} {R : World → World → Prop} {w : World} {a : Act} {id : Nat} {l : List Oper} {Fs : List (Value → World → Prop)} {Q : Exit → Act → World → Prop} (hm : P.follows .mixedOrders = true) (hB : tailB l.toArray n0 = true)
    (hRr : ∀ a, R a a) (hRt : ∀ {a b c}, R a b → R b c → R a c) (hst : ∀ F ∈ Fs, ∀ v w w', R w w' → F v w → F v w') (hG : ∀ s, (∀ i, s i = false) → G s 0 w.drew)
    (h : wpInv P l.toArray n0 G R w.drew (fun a w => wpList P l.toArray Q (l.drop n0) a w) (l.take n0) Fs [] a) : (Code.region id l.toArray true).wp P Q a w := by
  simp only [tailB, Bool.and_eq_true, decide_eq_true_eq] at hB
  obtain ⟨⟨⟨⟨hlex, hn⟩, hs⟩, hc⟩, hq⟩ := hB
  have inv0 : HeadInv .any l.toArray n0 (Array.replicate l.toArray.size false) :=
    ⟨by simp, fun j oj _ hl => (by rw [getD_replicate_false] at hl; cases hl), fun t _ ht => getD_in (by simpa using ht) (getD_replicate_false _ _)⟩
  refine wp_region_any hm ?_
  have := wpAny_of_invT (N := n0) (n0 := n0) (G := G) (R := R) (w0 := w.drew) (a0 := a) (Fs := Fs) hlex hn hs hc hq hRr hRt hst (by simpa using h) n0 (Array.replicate l.toArray.size false) a w.drew ⟨inv0, ?_, ⟨fun _ => undef, 0, ?_, ?_, hG _ (fun i => getD_replicate_false _ _), by simp, hRr _⟩⟩
  · rwa [show n0 + (l.toArray.size - n0) = l.toArray.size by omega] at this
  · unfold unlN
    exact Nat.le_trans (List.length_filter_le _ _) (by simp)
  · have hz : ∀ (l : List Oper) (k : Nat) (a : Act), fillAt (fun _ => false) (fun _ => undef) k l a = a := by
      intro l
      induction l with
      | nil => intros; rfl
      | cons o l ih => intro k a; simp only [fillAt, Bool.false_eq_true, if_false]; exact ih _ _
    exact ((fill_congr (s' := fun _ => false) (vs' := fun _ => undef) _ 0 a (fun j _ _ => ⟨getD_replicate_false _ _, fun _ => rfl⟩)).trans (hz _ _ _)).symm
  · intro i hi hl
    rw [getD_replicate_false] at hl
    cases hl
end
end Go.Proofs.YtamhnhojfhlanaaDoor
