/-
  The law on idle delegations, walked. Condition: the bytes can be read.
-/
import Derived.Test.YtjmjpejkongipaaVi
import Derived.Test.YtjmjpejkongipaaVh
import Derived.Test.YtjmjpejkongipaaVw
set_option linter.unusedSimpArgs false
set_option linter.unusedVariables false
namespace Go.Proofs.Ytjmjpejkongipaa
open Go.RowKit
theorem drawIdle_any (a : Option Addr) (len cap : Nat) (w : World) (h : Bytes w a len cap) : Calls Try.prog 27 #[.slice a len cap] w (DgD w) := by
  have H := Lib.hid h
  clear h
  go_enter Try.func27, Try.ntmps27
  go_wp2_with fail
  refine (drawDA_any a len cap _ H.out).mono ?_
  rintro e w1 ⟨g, off, c, g2, c2, xs, ds, rfl, hs, hd, hl8, b1⟩
  have HS := Lib.hid hs
  have HD := Lib.hid hd
  clear hs hd
  go_wp2_with fail
  go_ret2
  exact ⟨g, off, c, g2, c2, xs, ds, rfl, HS.out, HD.out, hl8, b1⟩
theorem idle_split (ns : List Int) (ds : List Deleg) (k n : Nat) (h : k ≤ n) : idleTo ns ds n = idleTo ns ds k ++ ((List.range' k (n - k)).filter (idleB ns ds)).map (fun (i : Nat) => (i : Int)) := by
  obtain ⟨d, rfl⟩ : ∃ d, n = k + d := ⟨n - k, by omega⟩
  have e : List.range (k + d) = List.range k ++ List.range' k d := by rw [List.range_add, List.range'_eq_map_range]
  unfold idleTo
  rw [Nat.add_sub_cancel_left, e, List.filter_append, List.map_append]
/-- The next one. -/
theorem idle_next (ns : List Int) (ds : List Deleg) (k n : Nat) (h : k < n) : (∀ (hl : (idleTo ns ds k).length < (idleTo ns ds n).length), ((idleTo ns ds n)[(idleTo ns ds k).length]'hl == (k : Int)) = idleB ns ds k) ∧ (idleB ns ds k = true → (idleTo ns ds k).length < (idleTo ns ds n).length) := by
  have hs := idle_split ns ds k n (by omega)
  obtain ⟨m, hm⟩ : ∃ m, n - k = m + 1 := ⟨n - k - 1, by omega⟩
  rw [hm, List.range'_succ] at hs
  refine ⟨fun hl => ?_, fun ht => ?_⟩
  · have e : (idleTo ns ds n)[(idleTo ns ds k).length]? = ((k :: List.range' (k + 1) m).filter (idleB ns ds) |>.map (fun (i : Nat) => (i : Int)))[0]? := by
      rw [hs, List.getElem?_append_right (by omega)]
      simp
    rw [List.getElem?_eq_getElem hl] at e
    cases ht : idleB ns ds k
    · rw [List.filter_cons_of_neg (by simp [ht])] at e
      have hmem : (idleTo ns ds n)[(idleTo ns ds k).length]'hl ∈ ((List.range' (k + 1) m).filter (idleB ns ds)).map (fun (i : Nat) => (i : Int)) := List.mem_of_getElem? e.symm
      obtain ⟨o, ho, heq⟩ := List.mem_map.1 hmem
      have := (List.mem_filter.1 ho).1
      rw [List.mem_range'_1] at this
      rw [← heq]
      simp
      omega
    · rw [List.filter_cons_of_pos ht] at e
      simp at e
      rw [e]
      simp
  · rw [hs, List.length_append, List.filter_cons_of_pos ht]
    simp
set_option maxRecDepth 100000 in
set_option maxHeartbeats 12800000 in
theorem idleDelegations_walk (a : Option Addr) (len cap : Nat) (w : World) (h : Bytes w a len cap) : Calls Try.prog 8 #[.slice a len cap] w fun e w' => e = .returned (.bool true) ∧ Below w.heap.size w w' := by
  have h1 := h.1
  have h2 := h.2.1
  unfold maxLen at h2
  have H := Lib.hid h
  clear h
  by_cases hl : 1048576 < len
  · go_enter Try.func8, Try.ntmps8
    go_wp2_with fail
    go_ret
    exact ⟨rfl, Below.refl _ _⟩
  · have hmk1 : ∀ w : World, (Instr.buildSlice 25 0 #[]).run Try.prog w = .ok (.slice (some ⟨w.heap.size, 0, none⟩) 0 0) (w.alloc (.cells #[] 32)) := fun w => by kernel_rfl
    go_enter Try.func8, Try.ntmps8
    go_wp2_with fail
    refine (drawIdle_any a len cap _ H.out).mono ?_
    rintro e w1 ⟨g, off, c, g2, c2, xs, ds, rfl, hs, hd, hl8, b1⟩
    obtain ⟨_, _, e3, h3, h4⟩ := SlD.shape hd
    simp only [Value.slice.injEq] at e3
    obtain ⟨-, -, rfl⟩ := e3
    unfold maxLen at h4
    have HS1 := Lib.hid hs
    have HD1 := Lib.hid hd
    clear hs hd
    have CI := fun wx h hm => implIdle_any xs ds (.slice (some ⟨g, off, none⟩) xs.length c) (.slice (some ⟨g2, 0, none⟩) ds.length c2) wx h hm
    have CS := fun wx h hm => specIdle_any xs ds (.slice (some ⟨g, off, none⟩) xs.length c) (.slice (some ⟨g2, 0, none⟩) ds.length c2) wx h hm
    have CD := fun wx h hm => implDA_any xs ds (.slice (some ⟨g, off, none⟩) xs.length c) (.slice (some ⟨g2, 0, none⟩) ds.length c2) wx h hm
    cases hok : ownsOk xs && dValid ds
    · have hR : delR xs ds = [] := by simp [delR, hok]
      have hQ : idleR xs ds = [] := by simp [idleR, hok]
      rw [hQ] at CI CS
      rw [hR] at CD
      clear hR hQ hok
      go_wp2_with fail
      refine (CI _ HS1.out HD1.out).mono ?_
      rintro e w2 ⟨v2, rfl, ho2, b2⟩
      go_wp2_with fail
      refine (CS _ (SlI.below HS1.out b2) (SlD.below HD1.out b2)).mono ?_
      rintro e w3 ⟨v3, rfl, ho3, b3⟩
      have b13 := Below.via b3 b2
      have hB3 := Below.via b13 b1
      have O2 := Lib.hid (own_sl (own_below ho2 b3))
      have O3 := Lib.hid (own_sl ho3)
      clear ho2 ho3
      obtain ⟨xa, xc, rfl, _, _⟩ := SlF.shape O2.out
      go_wp2_with fail
      refine (sameInts_any [] [] _ _ _ O2.out O3.out).mono ?_
      rintro e w4 ⟨rfl, b4⟩
      have hB4 := Below.via b4 hB3
      have b14 := Below.via b4 b13
      go_wp2_with fail
      refine (CD _ (SlI.below HS1.out b14) (SlD.below HD1.out b14)).mono ?_
      rintro e w5 ⟨v5, rfl, ho5, b5⟩
      have hB5 := Below.via b5 hB4
      have O5 := Lib.hid (own_sl ho5)
      clear ho5
      obtain ⟨ya, yc, rfl, _, _⟩ := SlF.shape O5.out
      go_wp2_with ((go_at_call 15; refine (alive_any _).mono ?_; rintro e w' ⟨rfl, rfl⟩))
      go_ret
      exact ⟨rfl, hB5⟩
    · rw [Bool.and_eq_true] at hok
      obtain ⟨ho, hv⟩ := hok
      have e : idleR xs ds = idleTo xs ds ds.length := by simp [idleR, ho, hv]
      rw [e] at CI CS
      have hl7 : ∀ es, dValid es = true → (delR xs es).length = 7 := fun es he => by
        rw [delR, if_pos (by rw [ho, he]; rfl), toI_len, itN_len, (nats_ok xs ho).2.1]
      have HL7 := Lib.hid (hl7 ds hv)
      have HE7 := Lib.hid (fun k => hl7 _ (dValid_erase ds k hv))
      have CE := Lib.hid (fun k u wx h hd => implDA_any xs (ds.eraseIdx k) (.slice (some ⟨g, off, none⟩) xs.length c) u wx h hd)
      have HIB := Lib.hid (fun k => (show idleB xs ds k = decide (delR xs (ds.eraseIdx k) = delR xs ds) from rfl))
      have HNX := Lib.hid (fun k (h : k < ds.length) => idle_next xs ds k ds.length h)
      have HLE := Lib.hid (fun k => idleTo_len xs ds k)
      have hXl := idleTo_len xs ds ds.length
      obtain ⟨X, hX⟩ : ∃ X, idleTo xs ds ds.length = X := ⟨_, rfl⟩
      rw [hX] at CI CS hXl HNX
      have HXE := Lib.hid hX
      clear e ho hv hl7 hX
      generalize delR xs ds = Z at CD HL7 HIB
      go_wp2_with fail
      refine (CI _ HS1.out HD1.out).mono ?_
      rintro e w2 ⟨v2, rfl, ho2, b2⟩
      go_wp2_with fail
      refine (CS _ (SlI.below HS1.out b2) (SlD.below HD1.out b2)).mono ?_
      rintro e w3 ⟨v3, rfl, ho3, b3⟩
      have b13 := Below.via b3 b2
      have hB3 := Below.via b13 b1
      have O2 := Lib.hid (show SlI w3 v2 X from own_sl (own_below ho2 b3))
      have O3 := Lib.hid (own_sl ho3)
      clear ho2 ho3
      obtain ⟨xa, xc, rfl, hx1, hx2⟩ := SlF.shape O2.out
      unfold maxLen at hx2
      go_wp2_with fail
      refine (sameInts_any X X _ _ _ O2.out O3.out).mono ?_
      rintro e w4 ⟨rfl, b4⟩
      rw [decide_eq_true rfl]
      have hB4 := Below.via b4 hB3
      have b14 := Below.via b4 b13
      go_wp2_with fail
      refine (CD _ (SlI.below HS1.out b14) (SlD.below HD1.out b14)).mono ?_
      rintro e w5 ⟨v5, rfl, ho5, b5⟩
      have hB5 := Below.via b5 hB4
      have b15 := Below.via b5 b14
      have HZ5 := Lib.hid (show SlI w5 v5 Z from own_sl ho5)
      rw [HL7.out] at ho5
      obtain ⟨za, zc, rfl, hz1, hz2⟩ := SlF.shape (own_sl ho5)
      have HX5 := Lib.hid (SlI.below O2.out (Below.via b5 b4))
      have HS5 := Lib.hid (SlI.below HS1.out b15)
      have HD5 := Lib.hid (SlD.below HD1.out b15)
      clear ho5 CI CS CD O2 O3 HS1 HD1 b1 b2 b3 b4 b5 b13 b14 b15
      go_wp2_with fail
      go_loopw [7, 8] (fun q i wr => ∃ k : Nat, k ≤ ds.length ∧ i = .int .i64 k ∧ q = .int .i64 ((idleTo xs ds k).length : Nat) ∧ Hid (Below w5.heap.size w5 wr) ∧ Below w.heap.size w wr) (fun _ i _ => ds.length - (intOf i).toNat)
      case atStart => exact ⟨0, Nat.zero_le _, rfl, rfl, Below.refl _ _, hB5⟩
      case round =>
        clear hB5
        obtain ⟨k, hk, rfl, rfl, hBo, hB⟩ := hrel
        have hkl := HLE.out k
        by_cases hlt : k < ds.length
        · have hlt2 : (k : Int) < (ds.length : Int) := by omega
          have hz := hB.size
          have q1 : (0 : Int) ≤ (k : Int) + 1 := by omega
          have q2 : (k : Int) + 1 ≤ (ds.length : Int) := by omega
          have q3 : ((k : Int) + 1).toNat = k + 1 := by omega
          have q5 : IntKind.i64.wrap ((k : Int) + 1) = (k : Int) + 1 := IntWalk.i64_in _ (by omega)
          have q4 : (k : Int) ≤ (c2 : Int) := by omega
          have HDr := Lib.hid (SlD.below HD5.out hBo.out)
          have HSr := Lib.hid (SlI.below HS5.out hBo.out)
          obtain ⟨a3, c3, ha3, hc3, hs3⟩ := region6 ds k ds.length rfl hlt (some ⟨g2, 0, none⟩) c2 wr HDr.out
          simp only [Option.map_some, addr_add, Nat.zero_add] at ha3
          have HS3 := Lib.hid hs3
          have HS2 := Lib.hid (SlF.take0 HDr.out k hk)
          have ht1 : (cellsD ds).take (k * 3) ++ (cellsD ds).drop ((k + 1) * 3) = cellsD (ds.eraseIdx k) := cellsD_erase ds k hlt
          have HT1 := Lib.hid ht1
          have HON := Lib.hid (show (wr.drew.alloc (.cells #[] 32)).ownsRow wr.heap.size 32 3 (.slice (some ⟨wr.heap.size, 0, none⟩) 0 0) 0 [] from own_made wr.drew _ _ _ (Nat.le_refl _))
          have HBD : Below wr.heap.size wr (wr.drew.alloc (.cells #[] 32)) := (Below.al (Below.refl wr.heap.size wr) (.cells #[] 32)).drew
          have hlen : k + (ds.length - (k + 1)) = ds.length - 1 := by omega
          subst hc3
          have hone := Lib.hid (cellsD_one1 ds)
          clear hs3 ht1
          go_wp2_with fail
          go_region_law
            (first
              | (refine step_appS (by rfl) (.tmp 47) (.tmp 50) 25 32 (.agg #[.int .i64 0, .int .i64 0, .int .i64 0]) 3 24 (by rfl) Try.underlying25 infoDg rfl (by decide) (by decide) wr.heap.size (.slice (some ⟨wr.heap.size, 0, none⟩) 0 0) 0 [] (by rfl) HON.out (.slice (some ⟨g2, 0, none⟩) k c2) k ((cellsD ds).take (k * 3)) (by rfl) (SlF.below HS2.out HBD) (fun u hu => hone.out u (List.mem_of_mem_take hu)) (by omega) (by simp) ?_; intro v4 w4' o4 g4 _ nn4; have b4 : Below wr.heap.size wr w4' := Below.grown HBD g4 (by simp) (own_gt HON.out); have O4 := Lib.hid o4; clear o4 g4 nn4)
              | (refine step_appS (by rfl) (.tmp 51) (.tmp 55) 25 32 (.agg #[.int .i64 0, .int .i64 0, .int .i64 0]) 3 24 (by rfl) Try.underlying25 infoDg rfl (by decide) (by decide) wr.heap.size v4 (0 + k) ([] ++ (cellsD ds).take (k * 3)) (by rfl) O4.out (.slice a3 (ds.length - (k + 1)) (c2 - (k + 1))) (ds.length - (k + 1)) ((cellsD ds).drop ((k + 1) * 3)) (by rfl) (SlF.below HS3.out b4) (fun u hu => hone.out u (List.mem_of_mem_drop hu)) (by omega) (by have := b4.size; omega) ?_; intro v5 w5' o5 g5 _ nn5; have b5 : Below wr.heap.size wr w5' := Below.grown b4 g5 (by have := b4.size; omega) (own_gt O4.out); rw [Nat.zero_add, List.nil_append, HT1.out, hlen] at o5; have O5 := Lib.hid o5; have HE5 := Lib.hid (show SlD w5' v5 (ds.eraseIdx k) by unfold SlD; rw [List.length_eraseIdx_of_lt hlt]; exact own_sl o5); clear o5 g5 nn5)
              | (go_simp; go_at_call 18; (with_reducible refine (CE.out k _ _ (SlI.below HSr.out b5) HE5.out).mono ?_); rintro e w6 ⟨v6, rfl, o6, b6⟩))
          all_goals
            have b56 := Below.via b6 b5
            have hB6 := Below.via b56 hB
            have hBo6 := Below.via b56 hBo.out
            have HX6 := Lib.hid (SlI.below HX5.out hBo6)
            have HZ6 := Lib.hid (SlI.below HZ5.out hBo6)
            have HY6 := Lib.hid (show SlI w6 v6 (delR xs (ds.eraseIdx k)) from own_sl o6)
            have HIk := HIB.out k
            have hnx := HNX.out k hlt
            generalize delR xs (ds.eraseIdx k) = Y at HY6 HIk
            have CQ : ∀ v u wx, SlI wx v Y → SlI wx u Z → Calls Try.prog 24 #[v, u] wx fun e w' => e = .returned (.bool (idleB xs ds k)) ∧ Below wx.heap.size wx w' := fun v u wx h h' => by rw [HIk]; exact sameInts_any Y Z v u wx h h'
            clear HIk o6 b5 b4 hBo HBD HON HS2 HS3 HT1 O4 O5 HE5 HDr HSr
            obtain ⟨hn1, hn2⟩ := hnx
            cases hb : idleB xs ds k
            · rw [hb] at CQ hn1 hn2
              have hst := Lib.hid (idleTo_no xs ds k hb)
              clear hb hn2
              by_cases hat : (idleTo xs ds k).length < X.length
              · have hat2 : ((idleTo xs ds k).length : Int) < (X.length : Int) := by omega
                have hne := hn1 hat
                obtain ⟨gx, ox, cx, hvx, _, _, x0⟩ := SlI.cell HX6.out (idleTo xs ds k).length hat
                simp only [Value.slice.injEq] at hvx
                obtain ⟨rfl, -, rfl⟩ := hvx
                generalize X[(idleTo xs ds k).length]'hat = y at x0 hne
                clear hn1
                go_wp2_with fail
                refine (CQ _ _ _ HY6.out HZ6.out).mono ?_
                rintro e w7 ⟨rfl, b7⟩
                have hB7 := Below.via b7 hB6
                have hBo7 := Lib.hid (Below.via b7 hBo6)
                go_wp2_with fail
                go_roundw
                case rel => first | exact ⟨k + 1, by omega, by go_num, by rw [hst.out], hBo7, hB7⟩ | ((repeat apply Exists.intro); exact ⟨⟨k + 1, by omega, by go_num, by rw [hst.out], hBo7, hB7⟩, rfl⟩)
                case measure => simp [intOf]; omega
              · have hat2 : ¬ ((idleTo xs ds k).length : Int) < (X.length : Int) := by omega
                clear hn1
                go_wp2_with fail
                refine (CQ _ _ _ HY6.out HZ6.out).mono ?_
                rintro e w7 ⟨rfl, b7⟩
                have hB7 := Below.via b7 hB6
                have hBo7 := Lib.hid (Below.via b7 hBo6)
                go_wp2_with fail
                go_roundw
                case rel => first | exact ⟨k + 1, by omega, by go_num, by rw [hst.out], hBo7, hB7⟩ | ((repeat apply Exists.intro); exact ⟨⟨k + 1, by omega, by go_num, by rw [hst.out], hBo7, hB7⟩, rfl⟩)
                case measure => simp [intOf]; omega
            · rw [hb] at CQ hn1 hn2
              have hst := Lib.hid (idleTo_yes xs ds k hb)
              have hat := hn2 rfl
              have hat2 : ((idleTo xs ds k).length : Int) < (X.length : Int) := by omega
              have hne := hn1 hat
              obtain ⟨gx, ox, cx, hvx, _, _, x0⟩ := SlI.cell HX6.out (idleTo xs ds k).length hat
              simp only [Value.slice.injEq] at hvx
              obtain ⟨rfl, -, rfl⟩ := hvx
              generalize X[(idleTo xs ds k).length]'hat = y at x0 hne
              obtain rfl : y = (k : Int) := by simpa using hne
              clear hn1 hn2 hb hne
              go_wp2_with fail
              refine (CQ _ _ _ HY6.out HZ6.out).mono ?_
              rintro e w7 ⟨rfl, b7⟩
              have hB7 := Below.via b7 hB6
              have hBo7 := Lib.hid (Below.via b7 hBo6)
              have hst2 := Lib.hid (show (idleTo xs ds (k + 1)).length = (idleTo xs ds k).length + 1 by rw [hst.out, List.length_append]; rfl)
              go_wp2_with fail
              go_roundw
              case rel => first | exact ⟨k + 1, by omega, by go_num, by rw [hst2.out]; go_num, hBo7, hB7⟩ | ((repeat apply Exists.intro); exact ⟨⟨k + 1, by omega, by go_num, by rw [hst2.out]; go_num, hBo7, hB7⟩, rfl⟩)
              case measure => simp [intOf]; omega
        · obtain rfl : k = ds.length := by omega
          have hlt2 : ¬ ((ds.length : Nat) : Int) < (ds.length : Int) := by omega
          rw [HXE.out]
          go_wp2_with fail
          go_ret
          exact ⟨rfl, hB⟩
end Go.Proofs.Ytjmjpejkongipaa
