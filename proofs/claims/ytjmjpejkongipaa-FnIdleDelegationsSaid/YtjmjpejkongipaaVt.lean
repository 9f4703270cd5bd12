/-
  Delegated acts: the program's function, and whom the reference lets an act reach. No condition.
-/
import Derived.Test.YtjmjpejkongipaaVs
import Derived.Test.YtjmjpejkongipaaBi
set_option linter.unusedSimpArgs false
set_option linter.unusedVariables false
namespace Go.Proofs.Ytjmjpejkongipaa
open Go.RowKit
def natsOf (ns : List Int) : List Nat := ns.map Int.toNat
/-- The acts that everyone has in the end. -/
def delR (ns : List Int) (ds : List Deleg) : List Int := if ownsOk ns && dValid ds then toI (itN ds 7 (natsOf ns)) else []
theorem nats_ok (ns : List Int) (h : ownsOk ns = true) : toI (natsOf ns) = ns ∧ (natsOf ns).length = 7 ∧ ∀ x ∈ natsOf ns, x < 16 := by
  simp only [ownsOk, Bool.and_eq_true, decide_eq_true_eq, List.all_eq_true, inR_iff] at h
  obtain ⟨h1, h2⟩ := h
  refine ⟨?_, by simp [natsOf, h1], fun x hx => ?_⟩
  · unfold toI natsOf
    rw [List.map_map]
    refine List.ext_getElem (by simp) fun i a b => ?_
    simp only [List.getElem_map, Function.comp]
    have := h2 ns[i] (List.getElem_mem b)
    omega
  · obtain ⟨y, hy, rfl⟩ := List.mem_map.1 hx
    have := h2 y hy
    omega
/-- A row of numbers that the call made. -/
def NewN (ns : List Int) (w : World) (e : Ending) (w' : World) : Prop := ∃ v : Value, e = .returned v ∧ w'.ownsRow w.heap.size 3 1 v ns.length (cellsI ns) ∧ Below w.heap.size w w'
set_option maxHeartbeats 3200000 in
theorem implDA_any (ns : List Int) (ds : List Deleg) (v u : Value) (w : World) (h : SlI w v ns) (hd : SlD w u ds) : Calls Try.prog 18 #[v, u] w (NewN (delR ns ds) w) := by
  obtain ⟨a, cap, rfl, h1, h2⟩ := SlF.shape h
  obtain ⟨a2, cap2, rfl, h3, h4⟩ := SlD.shape hd
  have H := Lib.hid h
  have HD := Lib.hid hd
  clear h hd
  have CO := fun wx h => ownsValid_any ns (.slice a ns.length cap) wx h
  have CD := fun wx h => implDValid_any ds (.slice a2 ds.length cap2) wx h
  cases ho : ownsOk ns
  · have e : delR ns ds = [] := by simp [delR, ho]
    rw [e]
    rw [ho] at CO
    clear e ho
    go_enter Try.func18, Try.ntmps18
    go_wp2_with fail
    refine (CO _ H.out).mono ?_
    rintro e w1 ⟨rfl, b1⟩
    go_wp2_with fail
    go_ret
    exact ⟨_, rfl, World.ownsRow_nil _ _ _ _, b1⟩
  · rw [ho] at CO
    cases hv : dValid ds
    · have e : delR ns ds = [] := by simp [delR, hv]
      rw [e]
      rw [hv] at CD
      clear e ho hv
      go_enter Try.func18, Try.ntmps18
      go_wp2_with fail
      refine (CO _ H.out).mono ?_
      rintro e w1 ⟨rfl, b1⟩
      go_wp2_with fail
      refine (CD _ (SlD.below HD.out b1)).mono ?_
      rintro e w2 ⟨rfl, b2⟩
      have hB2 := Below.via b2 b1
      go_wp2_with fail
      go_ret
      exact ⟨_, rfl, World.ownsRow_nil _ _ _ _, hB2⟩
    · have e : delR ns ds = toI (itN ds 7 (natsOf ns)) := by simp [delR, ho, hv]
      obtain ⟨n1, n2, n3⟩ := nats_ok ns ho
      have hl7 : (delR ns ds).length = 7 := by rw [e, toI_len, itN_len, n2]
      have CE := Lib.hid (fun wx h hd => delegated_any (natsOf ns) ds (.slice a ns.length cap) (.slice a2 ds.length cap2) wx (n1.symm ▸ h) hd n2 n3 hv)
      rw [← e] at CE
      rw [hv] at CD
      have HL7 := Lib.hid hl7
      generalize delR ns ds = X at CE HL7
      clear e ho hv n1 n2 n3 hl7
      go_enter Try.func18, Try.ntmps18
      go_wp2_with fail
      refine (CO _ H.out).mono ?_
      rintro e w1 ⟨rfl, b1⟩
      go_wp2_with fail
      refine (CD _ (SlD.below HD.out b1)).mono ?_
      rintro e w2 ⟨rfl, b2⟩
      have hB2 := Below.via b2 b1
      go_wp2_with fail
      refine (CE.out _ (SlI.below H.out hB2) (SlD.below HD.out hB2)).mono ?_
      rintro e w3 ⟨vx, rfl, hox, b3⟩
      have hB3 := Below.via b3 hB2
      have HOX := Lib.hid (own_lo hox hB2.size)
      clear hox
      go_wp2_with fail
      go_ret
      exact ⟨vx, rfl, by rw [HL7.out]; exact HOX.out, hB3⟩
theorem l28Valid_any (ns : List Int) (v : Value) (w : World) (h : SlI w v ns) : Calls Try.prog 36 #[v] w fun e w' => e = .returned (.bool (ownsOk ns)) ∧ Below w.heap.size w w' := by
  obtain ⟨a, cap, rfl, h1, h2⟩ := SlF.shape h
  unfold maxLen at h2
  have H := Lib.hid h
  clear h
  go_enter Try.func36, Try.ntmps36
  go_wp2_with fail
  go_loopw [3] (fun i wr => ∃ k : Nat, k ≤ ns.length ∧ i = .int .i64 k ∧ Hid (∀ j (h : j < ns.length), j < k → inR ns[j] 0 15 = true) ∧ wr = w) (fun i _ => ns.length - (intOf i).toNat)
  case atStart => exact ⟨0, Nat.zero_le _, rfl, fun j _ h => by omega, rfl⟩
  case round =>
    obtain ⟨k, hk, rfl, ha, rfl⟩ := hrel
    by_cases hlt : k < ns.length
    · have hlt2 : (k : Int) < (ns.length : Int) := by omega
      obtain ⟨g, off, cap', hv, _, _, c0⟩ := SlI.cell H.out k hlt
      simp only [Value.slice.injEq] at hv
      obtain ⟨rfl, -, rfl⟩ := hv
      cases hq : inR ns[k] 0 15
      · have hf := Lib.hid (show ownsOk ns = false by
          cases e : ownsOk ns
          · rfl
          · simp only [ownsOk, Bool.and_eq_true, List.all_eq_true] at e
            rw [e.2 ns[k] (List.getElem_mem hlt)] at hq
            cases hq)
        generalize ns[k] = x at c0 hq
        go_wp2_with ((go_at_call 28; refine (l1In_any _ _ _ _).mono ?_; rintro e w' ⟨rfl, rfl⟩))
        go_ret
        exact ⟨by rw [hf.out]; rfl, Below.refl _ _⟩
      · have hn := Lib.hid (show ∀ j (h : j < ns.length), j < k + 1 → inR ns[j] 0 15 = true from fun j h hj => by
          rcases Nat.lt_succ_iff_lt_or_eq.1 hj with h1 | rfl
          · exact ha.out j h h1
          · exact hq)
        generalize ns[k] = x at c0 hq
        go_wp2_with ((go_at_call 28; refine (l1In_any _ _ _ _).mono ?_; rintro e w' ⟨rfl, rfl⟩))
        go_roundw
        case rel => first | exact ⟨k + 1, by omega, by go_num, hn, rfl⟩ | exact ⟨k + 1, by omega, by go_num, hn⟩ | exact ⟨k + 1, by omega, by go_num, hn, trivial⟩
        case measure => simp [intOf]; omega
    · have hf := Lib.hid (show ownsOk ns = decide ((ns.length : Int) = 7) by
        have e : (ns.all fun n => inR n 0 15) = true := List.all_eq_true.2 fun x hx => by
          obtain ⟨i, hi, rfl⟩ := List.mem_iff_getElem.1 hx
          exact ha.out i hi (by omega)
        unfold ownsOk
        rw [e, Bool.and_true, Bool.eq_iff_iff]
        simp only [decide_eq_true_eq]
        omega)
      have hlt2 : ¬ (k : Int) < (ns.length : Int) := by omega
      go_wp2_with fail
      go_ret
      exact ⟨by rw [hf.out]; first | rfl | simp, Below.refl _ _⟩
/-- Truths as cells. -/
def bl (B : List Bool) : Array Value := (B.map Value.bool).toArray
theorem bl_size (B : List Bool) : (bl B).size = B.length := by simp [bl]
theorem bl_get (B : List Bool) (i : Nat) (h : i < B.length) : (bl B)[i]? = some (.bool (B.getD i false)) := by
  simp only [bl, List.getElem?_toArray, List.getElem?_map]
  rw [List.getD_eq_getElem?_getD, List.getElem?_eq_getElem h]; rfl
theorem bl_set (B : List Bool) (i : Nat) (x : Bool) : (bl B).setIfInBounds i (.bool x) = bl (B.set i x) := by simp [bl, List.map_set]
def initB (a : Nat) (os : List Nat) (k : Nat) : List Bool := (List.range 7).map fun i => decide (i < k) && (os.getD i 0).testBit a
theorem initB_len (a : Nat) (os : List Nat) (k : Nat) : (initB a os k).length = 7 := by simp [initB]
theorem initB_step (a : Nat) (os : List Nat) (k : Nat) (hk : k < 7) : (initB a os k).set k ((os.getD k 0).testBit a) = initB a os (k + 1) := by
  refine List.ext_getElem (by simp [initB]) fun i h1 h2 => ?_
  rw [List.getElem_set]
  by_cases h : k = i
  · subst h
    simp [initB]
  · rw [if_neg h]
    simp only [initB, List.getElem_map, List.getElem_range]
    congr 1
    rw [Bool.eq_iff_iff]
    simp only [decide_eq_true_eq]
    omega
theorem initB_end (a : Nat) (os : List Nat) (h : os.length = 7) : initB a os 7 = bitsN a os := by
  refine List.ext_getElem (by simp [initB, bitsN, h]) fun i h1 h2 => ?_
  rw [initB_len] at h1
  simp only [initB, bitsN, List.getElem_map, List.getElem_range]
  rw [List.getD_eq_getElem?_getD, List.getElem?_eq_getElem (by omega)]
  simp [h1]
theorem passB_step (a : Nat) (ds : List Deleg) (B : List Bool) (k : Nat) (h : k < ds.length) : passB a (ds.take (k + 1)) B = dstB a (passB a (ds.take k) B) ds[k] := by
  unfold passB
  rw [List.take_succ_eq_append_getElem h, List.foldl_append]
  rfl
theorem passB_end (a : Nat) (ds : List Deleg) (B : List Bool) (k : Nat) (h : ¬ k < ds.length) : passB a (ds.take k) B = passB a ds B := by
  rw [List.take_of_length_le (by omega)]
def ReachB (B : List Bool) (w : World) (e : Ending) (w' : World) : Prop := ∃ g, e = .returned (.slice (some ⟨g, 0, none⟩) 7 7) ∧ w.heap.size ≤ g ∧ Bk w' g (bl B) 4 ∧ Below w.heap.size w w'
set_option maxRecDepth 100000 in
set_option maxHeartbeats 6400000 in
theorem reach_any (os : List Nat) (ds : List Deleg) (a : Nat) (v u : Value) (w : World) (h : SlI w v (toI os)) (hd : SlD w u ds) (hl : os.length = 7) (hb : ∀ x ∈ os, x < 16) (hv : dValid ds = true) (ha : a ≤ 3) :
    Calls Try.prog 37 #[v, u, .int .i64 a] w (ReachB (itB a ds 7 (bitsN a os)) w) := by
  obtain ⟨hd10, hdf⟩ := dValid_of hv
  have HF := Lib.hid hdf
  have HD := Lib.hid hd
  have HI := Lib.hid h
  obtain ⟨a2, cap2, rfl, h3, h4⟩ := SlD.shape hd
  obtain ⟨a1, cap1, rfl, h5, h6⟩ := SlF.shape h
  rw [toI_len, hl] at h5 ⊢
  unfold maxLen at h4 h6
  have hmk : ∀ w : World, (Instr.makeSlice 54 (.int .i64 7) (.int .i64 7)).run Try.prog w = .ok (.slice (some ⟨w.heap.size, 0, none⟩) 7 7) (w.alloc (.cells (bl (List.replicate 7 false)) 4)) := fun w => by kernel_rfl
  have HG := Lib.hid (get16 os hb)
  have HE := Lib.hid (initB_end a os hl)
  have HL := Lib.hid (show (bitsN a os).length = 7 by simp [bitsN, hl])
  have HLO := Lib.hid hl
  have K0 := Lib.hid (Bk.new (w := w) (vs := bl (List.replicate 7 false)) (t := 4))
  have B0 := Below.al (Below.refl w.heap.size w) (.cells (bl (List.replicate 7 false)) 4)
  have hi0 := Lib.hid (show List.replicate 7 false = initB a os 0 by simp [initB]; rfl)
  clear hv hdf hd h hb hl
  go_enter Try.func37, Try.ntmps37
  go_wp2_with fail
  go_loopw [8] (fun i wr => ∃ k : Nat, k ≤ 7 ∧ i = .int .i64 k ∧ Hid (Bk wr w.heap.size (bl (initB a os k)) 4) ∧ Hid (Below w.heap.size w wr)) (fun i _ => 7 - (intOf i).toNat)
  case atStart => exact ⟨0, by omega, rfl, hi0.out ▸ K0.out, B0⟩
  case round =>
    clear K0 B0 hi0
    obtain ⟨k, hk, rfl, hK, hB⟩ := hrel
    by_cases hlt : k < 7
    · have hlt2 : (k : Int) < 7 := by omega
      obtain ⟨g1, o1, cx1, hvv, _, _, c0⟩ := SlI.cell (SlI.below HI.out hB.out) k (by rw [toI_len, HLO.out]; exact hlt)
      rw [toI_len, HLO.out] at hvv
      simp only [Value.slice.injEq] at hvv
      obtain ⟨rfl, -, rfl⟩ := hvv
      rw [toI_get] at c0
      have hx := HG.out k
      have hst := Lib.hid (initB_step a os k hlt)
      generalize os.getD k 0 = x at c0 hx hst
      have CL := fun wx => l12Act_any x a wx (by omega) (by omega)
      have KK := hK.out
      have kf := KK.free
      have ky := KK.lt
      have kc := KK.cell
      have kd := (kc k).trans (bl_get _ k (by rw [initB_len]; exact hlt))
      have KS := Lib.hid (hst.out ▸ bl_set (initB a os k) k (x.testBit a) ▸ KK.same k (.bool (x.testBit a)))
      have BS := Lib.hid (hB.out.setCell (p := ⟨w.heap.size, k, none⟩) (Nat.le_refl _) (.bool (x.testBit a)))
      clear hK KK kc hst
      go_wp2_with fail
      refine (CL _).mono ?_
      rintro e w' ⟨rfl, rfl⟩
      go_wp2_with fail
      go_roundw
      case rel => exact ⟨k + 1, by omega, by go_num, KS, BS⟩
      case measure => simp [intOf]; omega
    · obtain rfl : k = 7 := by omega
      rw [HE.out] at hK
      go_wp2_with fail
      go_loopw [9] (fun i wr => ∃ n : Nat, n ≤ 7 ∧ i = .int .i64 n ∧ Hid (Bk wr w.heap.size (bl (itB a ds n (bitsN a os))) 4) ∧ Hid (Below w.heap.size w wr)) (fun i _ => 7 - (intOf i).toNat)
      case atStart => exact ⟨0, by omega, rfl, hK.out, hB.out⟩
      case round =>
        clear hK hB
        obtain ⟨n, hn, rfl, hK, hB⟩ := hrel
        by_cases hn7 : n < 7
        · have hn72 : (n : Int) < 7 := by omega
          have hBl := Lib.hid ((itB_len a ds (bitsN a os) n).trans HL.out)
          have hnx : Hid (passB a ds (itB a ds n (bitsN a os)) = itB a ds (n + 1) (bitsN a os)) := Lib.hid rfl
          generalize itB a ds n (bitsN a os) = B at hK hBl hnx
          go_wp2_with fail
          go_loopw [10] (fun i wr => ∃ k : Nat, k ≤ ds.length ∧ i = .int .i64 k ∧ Hid (Bk wr w.heap.size (bl (passB a (ds.take k) B)) 4) ∧ Hid (Below w.heap.size w wr)) (fun i _ => ds.length - (intOf i).toNat)
          case atStart => exact ⟨0, Nat.zero_le _, rfl, hK.out, hB.out⟩
          case round =>
            clear hK hB
            obtain ⟨k, hk, rfl, hK, hB⟩ := hrel
            by_cases hlt : k < ds.length
            · have hlt2 : (k : Int) < (ds.length : Int) := by omega
              obtain ⟨g2, off, cx, hvv, _, _, c0, c1, c2⟩ := SlD.cells (SlD.below HD.out hB.out) k hlt
              simp only [Value.slice.injEq] at hvv
              obtain ⟨rfl, -, rfl⟩ := hvv
              have hst := Lib.hid (passB_step a ds B k hlt)
              have hdk := HF.out ds[k] (List.getElem_mem hlt)
              have hPl := Lib.hid ((passB_grow a (ds.take k) B).1.trans hBl.out)
              generalize ds[k] = d at c0 c1 c2 hst hdk
              generalize passB a (ds.take k) B = P at hK hst hPl
              obtain ⟨f, hf⟩ : ∃ f : Nat, d.f0 = f := ⟨d.f0.toNat, by omega⟩
              obtain ⟨t, ht⟩ : ∃ t : Nat, d.f1 = t := ⟨d.f1.toNat, by omega⟩
              obtain ⟨ac, hac⟩ : ∃ ac : Nat, d.f2 = ac := ⟨d.f2.toNat, by omega⟩
              rw [hf] at c0 hdk
              rw [ht] at c1 hdk
              rw [hac] at c2 hdk
              have hf7 : (f : Int) < 7 := by omega
              have ht7 : (t : Int) < 7 := by omega
              have hds := Lib.hid (show dstB a P d = if P.getD f false && ac.testBit a then P.set t true else P by unfold dstB; rw [hf, ht, hac]; rfl)
              have KK := hK.out
              have kf := KK.free
              have ky := KK.lt
              have kd := (KK.cell f).trans (bl_get P f (by rw [hPl.out]; omega))
              have ke := (KK.cell t).trans (bl_get P t (by rw [hPl.out]; omega))
              have KS := Lib.hid (bl_set P t true ▸ KK.same t (.bool true))
              have BS := Lib.hid (hB.out.setCell (p := ⟨w.heap.size, t, none⟩) (Nat.le_refl _) (.bool true))
              have CL := fun wx => l12Act_any ac a wx (by omega) (by omega)
              clear KK hf ht hac
              cases hx : P.getD f false
              · rw [hx] at kd
                rw [hx, Bool.false_and] at hds
                have hz := Lib.hid (hds.out.trans (if_neg (by simp)))
                clear hds hx KS BS
                go_wp2_with fail
                go_roundw
                case rel => first | exact ⟨k + 1, by omega, by go_num, by rw [hst.out, hz.out]; exact hK, hB⟩ | exact ⟨k + 1, by omega, by go_num, by rw [hst.out, hz.out]; exact hK⟩ | ((repeat apply Exists.intro); exact ⟨⟨k + 1, by omega, by go_num, by rw [hst.out, hz.out]; exact hK, hB⟩, rfl⟩)
                case measure => simp [intOf]; omega
              · rw [hx] at kd
                rw [hx, Bool.true_and] at hds
                clear hx
                cases hy : ac.testBit a
                · rw [hy] at CL
                  rw [hy] at hds
                  have hz := Lib.hid (hds.out.trans (if_neg (by simp)))
                  clear hds hy KS BS
                  go_wp2_with fail
                  refine (CL _).mono ?_
                  rintro e w' ⟨rfl, rfl⟩
                  go_wp2_with fail
                  go_roundw
                  case rel => first | exact ⟨k + 1, by omega, by go_num, by rw [hst.out, hz.out]; exact hK, hB⟩ | exact ⟨k + 1, by omega, by go_num, by rw [hst.out, hz.out]; exact hK⟩ | ((repeat apply Exists.intro); exact ⟨⟨k + 1, by omega, by go_num, by rw [hst.out, hz.out]; exact hK, hB⟩, rfl⟩)
                  case measure => simp [intOf]; omega
                · rw [hy] at CL
                  rw [hy] at hds
                  have hz := Lib.hid (hds.out.trans (if_pos rfl))
                  clear hds hy hK hB
                  go_wp2_with fail
                  refine (CL _).mono ?_
                  rintro e w' ⟨rfl, rfl⟩
                  go_wp2_with fail
                  go_roundw
                  case rel => first | exact ⟨k + 1, by omega, by go_num, by rw [hst.out, hz.out]; exact KS, BS⟩ | ((repeat apply Exists.intro); exact ⟨⟨k + 1, by omega, by go_num, by rw [hst.out, hz.out]; exact KS, BS⟩, rfl⟩)
                  case measure => simp [intOf]; omega
            · obtain rfl : k = ds.length := by omega
              have hlt2 : ¬ ((ds.length : Nat) : Int) < (ds.length : Int) := by omega
              have he := Lib.hid (passB_end a ds B ds.length hlt)
              rw [he.out, hnx.out] at hK
              go_wp2_with fail
              go_roundw
              case rel => first | exact ⟨n + 1, by omega, by go_num, hK, hB⟩ | exact ⟨n + 1, by omega, by go_num, hK⟩
              case measure => simp [intOf]; omega
        · obtain rfl : n = 7 := by omega
          have hB2 := hB.out
          go_wp2_with fail
          go_ret
          exact ⟨w.heap.size, rfl, Nat.le_refl _, hK.out, hB2⟩
end Go.Proofs.Ytjmjpejkongipaa
