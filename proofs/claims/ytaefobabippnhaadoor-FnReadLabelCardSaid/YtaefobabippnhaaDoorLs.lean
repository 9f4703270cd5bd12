/-
  Texts of labels: the reference's way. No condition.
-/
import Derived.Test.YtaefobabippnhaaDoorLq
set_option linter.unusedSimpArgs false
set_option linter.unusedVariables false
namespace Go.Proofs.YtaefobabippnhaaDoor
open Go.RowKit
theorem one_string (x : Int) (w : World) : (convert 32 9 (.slice (some ⟨w.heap.size, 0, none⟩) 1 1)).run Tryd.prog (w.alloc (.cells #[.int .u8 x] 5)) = .ok (.string (strOfNums [x])) (w.alloc (.cells #[.int .u8 x] 5)) :=
  run_convert_bytes_arg _ 32 5 Tryd.underlying32 Tryd.underlying5 w.heap.size 0 1 1 [x] rfl (fun i hi => by
    obtain rfl : i = 0 := by omega
    simp [World.cell?_alloc_new]) 9 Tryd.underlying9
theorem one_list (k : Nat) : (strOfNums [(97 + (k : Int))]).data.toList = [UInt8.ofNat (97 + k)] := by
  unfold strOfNums
  have e : (97 + (k : Int)).toNat = 97 + k := by omega
  simp [e]
theorem app_list (a b : ByteArray) : (a ++ b).data.toList = a.data.toList ++ b.data.toList := by simp
set_option maxRecDepth 100000 in
set_option maxHeartbeats 6400000 in
theorem specLabelText_any (l a : Int) (w : World) : Calls Tryd.prog 7 #[.agg #[.int .i64 l, .int .i64 a]] w fun e w' => e = .returned (.string (labS l a)) ∧ Below w.heap.size w w' := by
  have hB0 := Below.al (Below.refl w.heap.size w) (.cells #[.int .i64 l, .int .i64 a] 25)
  have k1 := Bk.new (w := w) (vs := #[.int .i64 l, .int .i64 a]) (t := 25)
  have x1 := k1.cell
  have CV := fun wx => specLabelValid_any l a wx
  cases hv : labIn l a
  · have e : labS l a = ⟨#[]⟩ := by simp [labS, labTx, hv]
    rw [e]
    rw [show labValid l a = false from hv] at CV
    clear e hv
    go_enter Tryd.func7, Tryd.ntmps7
    go_wp2_with fail
    refine (CV _).mono ?_
    rintro e w1 ⟨rfl, b1⟩
    go_wp2_with fail
    go_ret
    exact ⟨rfl, Below.via b1 hB0⟩
  · rw [show labValid l a = true from hv] at CV
    simp only [labIn, Bool.and_eq_true, inR_iff] at hv
    obtain ⟨⟨l0, l1⟩, a0, a1⟩ := hv
    obtain ⟨m, rfl⟩ : ∃ m : Nat, l = (m : Int) := ⟨l.toNat, by omega⟩
    obtain ⟨n, rfl⟩ : ∃ n : Nat, a = (n : Int) := ⟨a.toNat, by omega⟩
    have hm : m < 4 := by omega
    have hn : n < 32 := by omega
    have HL := Lib.hid (show ∀ s : ByteArray, s.data.toList = lvName m ++ arTo n 5 → s = labS m n from fun s hs => by
      unfold labS
      rw [labTx_eq m n hm hn]
      unfold labT
      rw [← hs])
    have HNM := Lib.hid (show (m = 0 ∧ lvName m = [111, 112, 101, 110]) ∨ (m = 1 ∧ lvName m = [105, 110, 110, 101, 114]) ∨ (m = 2 ∧ lvName m = [115, 101, 99, 114, 101, 116]) ∨ (m = 3 ∧ lvName m = [116, 111, 112]) by
      rcases (show m = 0 ∨ m = 1 ∨ m = 2 ∨ m = 3 by omega) with rfl | rfl | rfl | rfl
      · exact .inl ⟨rfl, rfl⟩
      · exact .inr (.inl ⟨rfl, rfl⟩)
      · exact .inr (.inr (.inl ⟨rfl, rfl⟩))
      · exact .inr (.inr (.inr ⟨rfl, rfl⟩)))
    have hconv := one_string
    go_enter Tryd.func7, Tryd.ntmps7
    go_wp2_with fail
    refine (CV _).mono ?_
    rintro e w1 ⟨rfl, b1⟩
    have hB1 := Below.via b1 hB0
    have k2 := k1.below b1
    clear x1 k1 b1 CV
    have x2 := k2.cell
    have y2 := k2.lt
    have z1 := hB1.size
    rcases HNM.out with ⟨rfl, hnm⟩ | ⟨rfl, hnm⟩ | ⟨rfl, hnm⟩ | ⟨rfl, hnm⟩
    all_goals
      have HN := Lib.hid hnm
      clear hnm HNM
      have hBX := fun o => Below.al hB1 o
      go_wp2_with fail
      go_loopw [3, 4] (fun v i wr => ∃ (k : Nat) (o : ByteArray), k ≤ 5 ∧ i = .int .i64 k ∧ v = .string o ∧ Hid (o.data.toList = lvName _ ++ arTo n k) ∧ o.size ≤ 6 + 2 * k ∧ Hid (Bk wr w.heap.size #[.int .i64 _, .int .i64 n] 25) ∧ Below w.heap.size w wr) (fun _ i _ => 5 - (intOf i).toNat)
      case atStart => exact ⟨0, _, Nat.zero_le _, rfl, rfl, by rw [Hid, HN.out]; rfl, by show (_ : Nat) ≤ 6; decide, k2.alloc _, hBX _⟩
      case round =>
        clear x2 y2 k2 hB1 hBX
        obtain ⟨k, o, hk, rfl, rfl, ho, hsz, hK, hB⟩ := hrel
        have hz := hB.size
        have x2 := hK.out.cell
        have y2 := hK.out.lt
        by_cases hlt : k < 5
        · have hlt2 : (k : Int) < 5 := by omega
          have HSTEP := Lib.hid (show arTo n (k + 1) = arTo n k ++ if n.testBit k then [43, UInt8.ofNat (97 + k)] else [] from rfl)
          have CA := fun wx => l12Act_any n k wx (by omega) (by omega)
          cases hb : n.testBit k
          · have HB := Lib.hid hb
            rw [hb] at CA
            clear hb
            go_wp2_with fail
            refine (CA _).mono ?_
            rintro e w3 ⟨rfl, rfl⟩
            go_wp2_with fail
            refine ⟨⟨k + 1, o, by omega, by go_num, rfl, by
              have e := HSTEP.out
              rw [HB.out] at e
              rw [Hid, e, ho.out]
              simp, by omega, hK, hB⟩, ?_⟩
            simp [intOf]
            omega
          · have HB := Lib.hid hb
            rw [hb] at CA
            clear hb
            have hal := fun o => Below.al hB o
            have hone : (strOfNums [97 + (k : Int)]).size = 1 := strOfNums_size _
            go_wp2_with fail
            refine (CA _).mono ?_
            rintro e w3 ⟨rfl, rfl⟩
            go_wp2_with fail
            refine ⟨⟨k + 1, _, by omega, by go_num, rfl, by
              have e := HSTEP.out
              rw [HB.out] at e
              rw [Hid, e, app_list, app_list, ho.out, one_list]
              simp, by rw [ByteArray.size_append, ByteArray.size_append, strOfNums_size]; show o.size + 1 + 1 ≤ _; omega, hK.out.alloc _, hal _⟩, ?_⟩
            simp [intOf]
            omega
        · have hk5 : ¬ (k : Int) < 5 := by omega
          have HO := Lib.hid (HL.out o (by rw [ho.out, show k = 5 by omega]))
          go_wp2_with fail
          go_ret
          exact ⟨by rw [HO.out]; rfl, hB⟩
end Go.Proofs.YtaefobabippnhaaDoor
