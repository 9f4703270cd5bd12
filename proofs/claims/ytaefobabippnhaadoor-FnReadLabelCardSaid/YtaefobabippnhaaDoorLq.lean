/-
  Texts of labels: the program's way and the reference's. Condition: the levels' names lie as they were laid.
-/
import Derived.Test.YtaefobabippnhaaDoorLp
import Derived.Test.YtaefobabippnhaaDoorL
import Derived.Test.YtaefobabippnhaaDoorMem
import Derived.Test.YtaefobabippnhaaDoorBi
import Derived.Test.YtaefobabippnhaaDoorUb
import Derived.Test.YtaefobabippnhaaDoorSj
set_option linter.unusedSimpArgs false
set_option linter.unusedVariables false
namespace Go.Proofs.YtaefobabippnhaaDoor
open Go.RowKit
/-- The levels' names, as they were laid. -/
def LvN (w : World) : Prop := ∃ (g off c : Nat), w.cell? ⟨0, 0, none⟩ = some (.slice (some ⟨g, off, none⟩) 4 c) ∧ 4 ≤ c ∧ c ≤ maxLen ∧ ∀ i, i < 4 → w.cell? ⟨g, off + i, none⟩ = some (.string ⟨(lvName i).toArray⟩)
theorem LvN.below {w w' : World} (h : LvN w) (b : Below w.heap.size w w') : LvN w' := by
  obtain ⟨g, off, c, h1, h2, h3, h4⟩ := h
  exact ⟨g, off, c, (b.cell (World.block_lt_of_cell? _ _ h1)).trans h1, h2, h3, fun i hi => (b.cell (World.block_lt_of_cell? _ _ (h4 i hi))).trans (h4 i hi)⟩
def cellsS (xs : List ByteArray) : List Value := xs.map Value.string
theorem cellsS_one (xs : List ByteArray) : ∀ u ∈ cellsS xs, u.oneCell' = true := fun u hu => by
  obtain ⟨s, _, rfl⟩ := List.mem_map.1 hu
  rfl
theorem infoS : (Tryd.prog.info? 9).map (fun i => (i.zero, i.size, i.bytes)) = some (some (.string ByteArray.empty), 1, 16) := by kernel_rfl
/-- The words of a label's text. -/
def wordsTo (nm : ByteArray) (L : List Int) (k : Nat) : List ByteArray := nm :: (L.take k).map fun x => Utf8.encode (97 + x)
theorem wordsTo_step (nm : ByteArray) (L : List Int) (k : Nat) (h : k < L.length) : wordsTo nm L (k + 1) = wordsTo nm L k ++ [Utf8.encode (97 + L[k])] := by
  unfold wordsTo
  rw [List.take_succ_eq_append_getElem h, List.map_append]
  rfl
theorem wordsTo_len (nm : ByteArray) (L : List Int) (k : Nat) (h : k ≤ L.length) : (wordsTo nm L k).length = k + 1 := by
  simp [wordsTo, h]
theorem all_joins : (List.range 4).all (fun l => (List.range 32).all fun a => decide (Lib.join ((wordsTo ⟨(lvName l).toArray⟩ (bitsTo a 5) 5).map (·.data.toList)) [43] = labT l a)) = true := by decide +kernel
theorem join_lab (l a : Nat) (hl : l < 4) (ha : a < 32) : Lib.join ((wordsTo ⟨(lvName l).toArray⟩ (bitsTo a 5) 5).map (·.data.toList)) [43] = labT l a := by
  have h := all_joins
  rw [List.all_eq_true] at h
  have h1 := h l (by simpa using hl)
  rw [List.all_eq_true] at h1
  exact of_decide_eq_true (h1 a (by simpa using ha))
set_option maxRecDepth 100000 in
set_option maxHeartbeats 6400000 in
theorem implLabelText_any (l a : Int) (w : World) (hN : LvN w) : Calls Tryd.prog 9 #[.agg #[.int .i64 l, .int .i64 a]] w fun e w' => e = .returned (.string (labS l a)) ∧ Below w.heap.size w w' := by
  have HN := Lib.hid hN
  clear hN
  have hB0 := Below.al (Below.refl w.heap.size w) (.cells #[.int .i64 l, .int .i64 a] 25)
  have k1 := Bk.new (w := w) (vs := #[.int .i64 l, .int .i64 a]) (t := 25)
  have x1 := k1.cell
  have CV := fun wx => implLabelValid_any l a wx
  cases hv : labIn l a
  · have e : labS l a = ⟨#[]⟩ := by simp [labS, labTx, hv]
    rw [e]
    rw [show labValid l a = false from hv] at CV
    clear e hv
    go_enter Tryd.func9, Tryd.ntmps9
    go_wp2_with fail
    refine (CV _).mono ?_
    rintro e w1 ⟨rfl, b1⟩
    go_wp2_with fail
    go_ret
    exact ⟨rfl, Below.via b1 hB0⟩
  · rw [show labValid l a = true from hv] at CV
    simp only [labIn, Bool.and_eq_true, inR_iff] at hv
    obtain ⟨⟨l0, l1⟩, a0, a1⟩ := hv
    obtain ⟨m, rfl⟩ : ∃ m : Nat, l = (m : Int) := ⟨l.toNat, by omega⟩
    obtain ⟨n, rfl⟩ : ∃ n : Nat, a = (n : Int) := ⟨a.toNat, by omega⟩
    have hm : m < 4 := by omega
    have hn : n < 32 := by omega
    have hb5 : bitsTo n 63 = bitsTo n 5 := bitsTo_end n 5 58 (by omega)
    have hll := bitsTo_len n 5
    have HJ := Lib.hid (show ∀ j, (bitsTo n 5).length ≤ j → j ≤ 5 → (⟨(Lib.join ((wordsTo ⟨(lvName m).toArray⟩ (bitsTo n 5) j).map (·.data.toList)) [43]).toArray⟩ : ByteArray) = labS m n from fun j hj hj5 => by
      have e : wordsTo ⟨(lvName m).toArray⟩ (bitsTo n 5) j = wordsTo ⟨(lvName m).toArray⟩ (bitsTo n 5) 5 := by
        unfold wordsTo
        rw [List.take_of_length_le hj, List.take_of_length_le hll]
      rw [e, join_lab m n hm hn]
      unfold labS
      rw [labTx_eq m n hm hn])
    have HX5 := Lib.hid (show ∀ x ∈ bitsTo n 5, ∃ y : Nat, x = (y : Int) ∧ y < 5 from fun x hx => by
      unfold bitsTo at hx
      obtain ⟨y, hy, rfl⟩ := List.mem_map.1 hx
      exact ⟨y, rfl, by simpa using (List.mem_filter.1 hy).1⟩)
    have HLS := Lib.hid (labS_size m n)
    have HB5 := Lib.hid hb5
    clear hb5
    generalize bitsTo n 5 = L at HJ HX5 hll HB5
    have hm4 : (m : Int) < 4 := by omega
    go_enter Tryd.func9, Tryd.ntmps9
    go_wp2_with fail
    refine (CV _).mono ?_
    rintro e w1 ⟨rfl, b1⟩
    have hB1 := Below.via b1 hB0
    have k2 := k1.below b1
    obtain ⟨g, off, c, n0, n1, n2, n3⟩ := LvN.below HN.out hB1
    have n4 := n3 m hm
    obtain ⟨nm, hnm⟩ : ∃ nm : ByteArray, nm = ⟨(lvName m).toArray⟩ := ⟨_, rfl⟩
    rw [← hnm] at n4 HJ
    have HNM := Lib.hid hnm
    have KA := Lib.hid (k2.alloc (.cells #[.string nm] 9))
    have hBA := Below.al hB1 (.cells #[.string nm] 9)
    have OW := Lib.hid (show (w1.alloc (.cells #[.string nm] 9)).ownsRow w.heap.size 9 1 (.slice (some ⟨w1.heap.size, 0, none⟩) 1 1) 1 (cellsS (wordsTo nm L 0)) from own_of_bk Bk.new (by have := hB1.size; omega) (by unfold maxLen; omega) rfl rfl (fun j hj => by obtain rfl : j = 0 := (by omega); rfl))
    have z1 := hB1.size
    clear x1 k1 hnm n3
    have x2 := k2.cell
    have y2 := k2.lt
    clear b1 CV
    go_wp2_with fail
    refine (members_any n _ (by omega)).mono ?_
    rintro e w2 ⟨vx, rfl, ox, b2⟩
    rw [HB5.out] at ox
    have hB2 := Below.via b2 hBA
    have O2 := Lib.hid (own_below OW.out b2)
    have HX := Lib.hid (show SlI w2 vx L from own_sl ox)
    obtain ⟨xa, xc, rfl, hx1, hx2⟩ := SlF.shape (own_sl ox)
    unfold maxLen at hx2
    have hxb : ∀ j, Value.ownBlock (.slice xa L.length xc) = some j → w1.heap.size < j ∧ j < w2.heap.size := fun j hj => by
      have := ox.lt j hj
      simp only [World.size_alloc] at this
      omega
    have OXX := Lib.hid (show w2.ownsRow (w1.heap.size + 1) 3 1 (.slice xa L.length xc) L.length (cellsI L) by simpa [World.size_alloc] using ox)
    clear ox n0 n4 x2 OW b2 hB1 hBA hxb
    go_wp2_with fail
    go_loopw [3, 19] (fun v i wr => ∃ k : Nat, k ≤ L.length ∧ i = .int .i64 k ∧ Hid (v ≠ .slice none 0 0) ∧ Hid (wr.ownsRow w.heap.size 9 1 v (k + 1) (cellsS (wordsTo nm L k))) ∧ Hid (wr.ownsRow (w1.heap.size + 1) 3 1 (.slice xa L.length xc) L.length (cellsI L)) ∧ Hid (∀ j, Value.ownBlock v = some j → ∀ j', Value.ownBlock (.slice xa L.length xc) = some j' → j' ≠ j) ∧ Below w.heap.size w wr) (fun _ i _ => L.length - (intOf i).toNat)
    case atStart => exact ⟨0, Nat.zero_le _, rfl, by simp [Hid], O2.out, OXX.out, fun j hj j' hj' => by
      have e : w1.heap.size = j := Option.some.inj hj
      have := own_gt OXX.out j' hj'
      omega, hB2⟩
    case round =>
      clear hB2 O2 OXX
      obtain ⟨k, hk, rfl, hvn, hO, hX, hsp, hB⟩ := hrel
      obtain ⟨vo, rfl⟩ : ∃ vo : Value, vo = u3 := ⟨_, rfl⟩
      have hz := hB.size
      by_cases hlt : k < L.length
      · have hlt2 : (k : Int) < (L.length : Int) := by omega
        obtain ⟨gx, ox, cx, hvx, _, _, x0⟩ := SlI.cell (show SlI wr (.slice xa L.length xc) L from own_sl hX.out) k hlt
        simp only [Value.slice.injEq] at hvx
        obtain ⟨rfl, -, rfl⟩ := hvx
        obtain ⟨y, hy, hy5⟩ := HX5.out (L[k]'hlt) (List.getElem_mem hlt)
        have hst := Lib.hid (show wordsTo nm L (k + 1) = wordsTo nm L k ++ [Utf8.encode (97 + (y : Int))] by rw [wordsTo_step nm L k hlt, hy])
        rw [hy] at x0
        clear hy
        obtain ⟨t, ht⟩ : ∃ t, t = Utf8.encode (97 + (y : Int)) := ⟨_, rfl⟩
        have HT := Lib.hid ht
        have hcv : ∀ wx, (convert 21 9 (.int .i32 (97 + (y : Int)))).run Tryd.prog wx = .ok (.string t) wx := fun wx => by
          rw [ht]
          exact run_convert_int_string wx 21 9 .i32 _ (by kernel_rfl) Tryd.underlying9
        clear ht
        go_wp2_with (at_builtin; refine Hid.out ?_); refine Lib.hid ?_
        refine wpList_appS (s := .tmp 23) (x := .tmp 28) rfl 38 9 (.string ByteArray.empty) 1 16 rfl Tryd.underlying38 infoS rfl (by decide) (by decide) w.heap.size vo (k + 1) (cellsS (wordsTo nm L k)) (by rfl) (own_alloc hO.out _) (.slice (some ⟨wr.heap.size, 0, none⟩) 1 1) 1 [.string t] (by rfl) (slF_bk (k := 1) (n := 1) (cs := [.string t]) (bk_atb rfl) rfl (by omega)) (cellsS_one [t]) (by omega) (by simp only [World.size_alloc]; omega) ?_
        intro v8 w8 o8 g8 l8 nn8
        have b8 : Below w.heap.size w w8 := Below.grown (Below.al hB _) g8 (by simp only [World.size_alloc]; omega) (own_gt hO.out)
        have O8 := Lib.hid (show w8.ownsRow w.heap.size 9 1 v8 (k + 1 + 1) (cellsS (wordsTo nm L (k + 1))) by
          rw [hst.out, ← HT.out]
          unfold cellsS at o8 ⊢
          rw [List.map_append]
          exact o8)
        have N8 := Lib.hid (nn8 hvn.out)
        have X8 := Lib.hid (own_gby2 (own_alloc hX.out _) g8 (fun j h1 h2 => hsp.out j h2 j h1 rfl))
        have hsp8 := Lib.hid (show ∀ j, Value.ownBlock v8 = some j → ∀ j', Value.ownBlock (.slice (some ⟨gx, ox, none⟩) L.length xc) = some j' → j' ≠ j from fun j h1 j' h2 => by
          rcases l8 with e | e
          · exact hsp.out j (e ▸ h1) j' h2
          · have q := (World.ownsRow.lt hX.out j' h2).2
            rw [e] at h1
            have q2 := Option.some.inj h1
            simp only [World.size_alloc] at q2
            omega)
        clear o8 g8 nn8 l8 hcv
        go_wp2_with fail
        go_roundw
        case rel => first | exact ⟨k + 1, by omega, by go_num, N8, O8, X8, hsp8, b8⟩ | ((repeat apply Exists.intro); exact ⟨⟨k + 1, by omega, by go_num, N8, O8, X8, hsp8, b8⟩, rfl⟩)
        case measure => simp [intOf]; omega
      · have hJ := HJ.out k (by omega) (by omega)
        have hwl := wordsTo_len nm L k hk
        obtain ⟨g2, c2, rfl, hg2, hc2, hc3, hcell⟩ := own_ad hO.out hvn.out
        unfold maxLen at hc3
        have hgl := (hO.out.lt g2 rfl).2
        have HC := Lib.hid (show ∀ (j : Nat) x, (wordsTo nm L k)[j]? = some x → wr.cell? ⟨g2, 0 + j, none⟩ = some (.string x) from fun j x hx => by
          have := hcell j (.string x) (by unfold cellsS; rw [List.getElem?_map, hx]; rfl)
          rw [addr_add] at this
          exact this)
        have hjl : (Lib.join ((wordsTo nm L k).map (·.data.toList)) ([43] : List UInt8)).length ≤ 140737488355328 := by
          have q := HLS.out
          rw [← hJ] at q
          have q2 : (Lib.join ((wordsTo nm L k).map (·.data.toList)) ([43] : List UInt8)).length ≤ 16 := by
            have e : ((⟨(Lib.join ((wordsTo nm L k).map (·.data.toList)) [43]).toArray⟩ : ByteArray)).size = (Lib.join ((wordsTo nm L k).map (·.data.toList)) [43]).length := by simp [ByteArray.size]
            omega
          omega
        have HCJ := Lib.hid (Tryd.strings_Join g2 0 c2 (wordsTo nm L k) ⟨#[43]⟩ wr HC.out hgl (by rw [hwl]; omega) (by rw [hwl]; omega) hjl)
        have HRES := Lib.hid hJ
        rw [hwl] at HCJ
        clear hcell hjl hJ hwl
        go_wp2_with fail
        refine HCJ.out.mono ?_
        rintro e w9 ⟨rfl, b9⟩
        have hB9 := Below.via b9 hB
        go_wp2_with fail
        go_ret
        exact ⟨by rw [← HRES.out]; rfl, hB9⟩
end Go.Proofs.YtaefobabippnhaaDoor
