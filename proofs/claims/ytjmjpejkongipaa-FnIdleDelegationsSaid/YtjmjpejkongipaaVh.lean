/-
  Idle delegations: the program's way. No condition.
-/
import Derived.Test.YtjmjpejkongipaaVg
import Derived.Test.YtjmjpejkongipaaVd
set_option linter.unusedSimpArgs false
set_option linter.unusedVariables false
namespace Go.Proofs.Ytjmjpejkongipaa
open Go.RowKit
set_option maxRecDepth 100000 in
set_option maxHeartbeats 6400000 in
theorem implIdle_any (ns : List Int) (ds : List Deleg) (v u : Value) (w : World) (h : SlI w v ns) (hd : SlD w u ds) : Calls Try.prog 26 #[v, u] w (NewN (idleR ns ds) w) := by
  obtain ⟨a, cap, rfl, h1, h2⟩ := SlF.shape h
  obtain ⟨a2, cap2, rfl, h3, h4⟩ := SlD.shape hd
  have H := Lib.hid h
  have HD := Lib.hid hd
  clear h hd
  have CO := fun wx h => ownsValid_any ns (.slice a ns.length cap) wx h
  have CD := fun wx h => implDValid_any ds (.slice a2 ds.length cap2) wx h
  cases ho : ownsOk ns
  · have e : idleR ns ds = [] := by simp [idleR, ho]
    rw [e]
    rw [ho] at CO
    clear e ho
    go_enter Try.func26, Try.ntmps26
    go_wp2_with fail
    refine (CO _ H.out).mono ?_
    rintro e w1 ⟨rfl, b1⟩
    go_wp2_with fail
    go_ret
    exact ⟨_, rfl, World.ownsRow_nil _ _ _ _, b1⟩
  · rw [ho] at CO
    cases hv : dValid ds
    · have e : idleR ns ds = [] := by simp [idleR, hv]
      rw [e]
      rw [hv] at CD
      clear e ho hv
      go_enter Try.func26, Try.ntmps26
      go_wp2_with fail
      refine (CO _ H.out).mono ?_
      rintro e w1 ⟨rfl, b1⟩
      go_wp2_with fail
      refine (CD _ (SlD.below HD.out b1)).mono ?_
      rintro e w2 ⟨rfl, b2⟩
      have hB2 := Below.via b2 b1
      go_wp2_with fail
      go_ret
      exact ⟨_, rfl, World.ownsRow_nil _ _ _ _, hB2⟩
    · have e : idleR ns ds = idleTo ns ds ds.length := by simp [idleR, ho, hv]
      rw [e]
      obtain ⟨n1, n2, n3⟩ := nats_ok ns ho
      have CE := Lib.hid (fun k u wx h hd => delegated_any (natsOf ns) (ds.eraseIdx k) (.slice a ns.length cap) u wx (n1.symm ▸ h) hd n2 n3 (dValid_erase ds k hv))
      have CF := Lib.hid (fun wx h hd => delegated_any (natsOf ns) ds (.slice a ns.length cap) (.slice a2 ds.length cap2) wx (n1.symm ▸ h) hd n2 n3 hv)
      have HIB := Lib.hid (fun k => idleB_eq ns ds k ho hv)
      have HL7 := Lib.hid (fun es => (toI_len (itN es 7 (natsOf ns))).trans ((itN_len es (natsOf ns) 7).trans n2))
      have h10 := (dValid_of hv).1
      have HLE := Lib.hid (fun k => idleTo_len ns ds k)
      rw [hv] at CD
      clear e ho hv n1 n2 n3
      go_enter Try.func26, Try.ntmps26
      go_wp2_with fail
      refine (CO _ H.out).mono ?_
      rintro e w1 ⟨rfl, b1⟩
      go_wp2_with fail
      refine (CD _ (SlD.below HD.out b1)).mono ?_
      rintro e w2 ⟨rfl, b2⟩
      have hB2 := Below.via b2 b1
      clear CO CD b1 b2
      go_wp2_with fail
      go_loopw [5, 18] (fun v i wr => ∃ k : Nat, k ≤ ds.length ∧ i = .int .i64 k ∧ Hid (wr.ownsRow w.heap.size 3 1 v (idleTo ns ds k).length (cellsI (idleTo ns ds k))) ∧ Below w.heap.size w wr) (fun _ i _ => ds.length - (intOf i).toNat)
      case atStart => exact ⟨0, Nat.zero_le _, rfl, World.ownsRow_nil _ _ _ _, hB2⟩
      case round =>
        clear hB2
        obtain ⟨k, hk, rfl, hO, hB⟩ := hrel
        obtain ⟨vo, rfl⟩ : ∃ vo : Value, vo = u5 := ⟨_, rfl⟩
        by_cases hlt : k < ds.length
        · have hlt2 : (k : Int) < (ds.length : Int) := by omega
          have hz := hB.size
          go_wp2_with fail
          refine (cloneD_any ds _ _ (SlD.below HD.out hB) (by omega) (by omega)).mono ?_
          rintro e w3 ⟨v3, rfl, hv3, o3, b3⟩
          obtain ⟨g, c, rfl, hg, _, _, _⟩ := own_ad o3 hv3
          have O3 := Lib.hid o3
          have hO3 := Lib.hid (own_below hO.out b3)
          have hB3 := Below.via b3 hB
          have hgo := Lib.hid (fun j (hj : Value.ownBlock vo = some j) => (World.ownsRow.lt hO.out j hj).2)
          clear hv3 o3 hO hB
          go_wp2_with fail
          refine (delD_any ds _ g c ds.length k _ rfl O3.out hlt).mono ?_
          rintro e w4 ⟨rfl, o4, g4⟩
          have hB4 : Below w.heap.size w w4 := Below.grown hB3 g4 (by have := hB3.size; omega) (fun j hj => by cases hj; omega)
          have hO4 := Lib.hid (own_gby2 hO3.out g4 (fun j h1 h2 => by have q := hgo.out j h1; have e := Option.some.inj h2; omega))
          have HE4 := Lib.hid (show SlD w4 (.slice (some ⟨g, 0, none⟩) (ds.length - 1) c) (ds.eraseIdx k) by unfold SlD; rw [List.length_eraseIdx_of_lt hlt]; exact own_sl o4)
          clear O3 hO3 g4 o4 hgo
          go_wp2_with fail
          refine (CE.out k _ _ (SlI.below H.out hB4) HE4.out).mono ?_
          rintro e w5 ⟨v5, rfl, o5, b5⟩
          have hB5 := Below.via b5 hB4
          have O5 := Lib.hid o5
          have hO5 := Lib.hid (own_below hO4.out b5)
          clear o5 hO4
          go_wp2_with fail
          refine (CF.out _ (SlI.below H.out hB5) (SlD.below HD.out hB5)).mono ?_
          rintro e w6 ⟨v6, rfl, o6, b6⟩
          have hB6 := Below.via b6 hB5
          have hO6 := Lib.hid (own_below hO5.out b6)
          have S5 := Lib.hid (show SlI w6 v5 (toI (itN (ds.eraseIdx k) 7 (natsOf ns))) by unfold SlI; rw [HL7.out]; exact own_sl (own_below O5.out b6))
          have S6 := Lib.hid (show SlI w6 v6 (toI (itN ds 7 (natsOf ns))) by unfold SlI; rw [HL7.out]; exact own_sl o6)
          have CQ := Lib.hid (equalI_any _ _ _ _ _ S5.out S6.out (by rw [HL7.out, HL7.out]))
          rw [← HIB.out k] at CQ
          clear o6 hO5 O5 S5 S6 HE4
          cases hb : idleB ns ds k
          · rw [hb] at CQ
            have hst := Lib.hid (idleTo_no ns ds k hb)
            clear hb
            go_wp2_with fail
            refine CQ.out.mono ?_
            rintro e w7 ⟨rfl, b7⟩
            have hB7 := Below.via b7 hB6
            have hO7 := Lib.hid (own_below hO6.out b7)
            go_wp2_with fail
            go_roundw
            case rel => first | exact ⟨k + 1, by omega, by go_num, by rw [hst.out]; exact hO7, hB7⟩ | ((repeat apply Exists.intro); exact ⟨⟨k + 1, by omega, by go_num, by rw [hst.out]; exact hO7, hB7⟩, rfl⟩)
            case measure => simp [intOf]; omega
          · rw [hb] at CQ
            have hst := Lib.hid (idleTo_yes ns ds k hb)
            have hle := HLE.out k
            clear hb
            go_wp2_with fail
            refine CQ.out.mono ?_
            rintro e w7 ⟨rfl, b7⟩
            have hB7 := Below.via b7 hB6
            have hO7 := Lib.hid (own_below hO6.out b7)
            have hz7 := hB7.size
            go_wp2_with (at_builtin; refine Hid.out ?_); refine Lib.hid ?_
            refine wpList_appS (s := .tmp 34) (x := .tmp 36) rfl 35 3 (.int .i64 0) 1 8 rfl Try.underlying35 infoI rfl (by decide) (by decide) w.heap.size vo (idleTo ns ds k).length (cellsI (idleTo ns ds k)) (by rfl) (own_alloc hO7.out _) (.slice (some ⟨w7.heap.size, 0, none⟩) 1 1) 1 [.int .i64 k] (by rfl) (slF_bk (k := 1) (n := 1) (cs := [.int .i64 k]) (bk_atb rfl) rfl (by omega)) (one_int _) (by omega) (by simp only [World.size_alloc]; omega) ?_
            intro v8 w8 o8 g8 _ _
            have b8 : Below w.heap.size w w8 := Below.grown (Below.al hB7 _) g8 (by simp only [World.size_alloc]; omega) (own_gt hO7.out)
            have O8 := Lib.hid (show w8.ownsRow w.heap.size 3 1 v8 (idleTo ns ds (k + 1)).length (cellsI (idleTo ns ds (k + 1))) by rw [hst.out, cellsI_app, List.length_append]; exact o8)
            clear o8 g8
            go_wp2_with fail
            go_roundw
            case rel => first | exact ⟨k + 1, by omega, by go_num, O8, b8⟩ | ((repeat apply Exists.intro); exact ⟨⟨k + 1, by omega, by go_num, O8, b8⟩, rfl⟩)
            case measure => simp [intOf]; omega
        · obtain rfl : k = ds.length := by omega
          have hlt2 : ¬ ((ds.length : Nat) : Int) < (ds.length : Int) := by omega
          go_wp2_with fail
          go_ret
          exact ⟨vo, rfl, hO.out, hB⟩
end Go.Proofs.Ytjmjpejkongipaa
