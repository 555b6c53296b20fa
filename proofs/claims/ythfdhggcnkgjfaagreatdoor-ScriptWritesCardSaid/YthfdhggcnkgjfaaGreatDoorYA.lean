/- The line's numbers, ways and texts. -/
import Derived.Test.YthfdhggcnkgjfaaGreatDoorXG
import Derived.Test.YthfdhggcnkgjfaaGreatDoorPlainU
namespace Go.Proofs.YthfdhggcnkgjfaaGreatDoor
open Go.RowKit
set_option linter.unusedVariables false
set_option linter.unusedSimpArgs false
theorem numV_le (m : Nat) (ws : List (List UInt8)) : numV m ws ≤ m := by
  unfold numV
  cases h : numP 10 m (ws.headD []) with
  | none => exact Nat.zero_le _
  | some n => exact numP_le h
set_option maxHeartbeats 2000000 in
theorem greatW (wb : Nat) (ws : List (List UInt8)) (bad : Bool) (w : World) (h : WS w wb ws bad) :
    Calls Tryz.prog 29 #[.pointer (some ⟨wb, 0, none⟩)] w fun e w' => e = .returned (.int .i64 (numV 1073741824 ws : Int)) ∧ WS w' wb ws.tail (bad || numBad 1073741824 ws) ∧ Kept (fun i => i = wb) w w' := by
  have HN := Lib.hid (next_any wb ws bad w h)
  clear h
  go_enter Tryz.func29, Tryz.ntmps29
  go_wp2_with fail
  refine HN.out.mono ?_
  rintro e w1 ⟨⟨p, rfl, hp, hps⟩, hw1, hk1⟩
  have HC := Lib.hid (numW wb ws.tail (bad || ws.isEmpty) p 1073741824 w1 hw1 (by omega) hps)
  rw [hp] at HC
  have HK1 := Lib.hid hk1
  have HPV := Lib.hid (show (numP 10 1073741824 (ws.headD [])).getD 0 = numV 1073741824 ws from rfl)
  obtain ⟨v, hv⟩ : ∃ v, (numP 10 1073741824 (ws.headD [])).getD 0 = v := ⟨_, rfl⟩
  rw [hv] at HC HPV
  clear hw1 hk1 hp hv
  go_wp2_with fail
  refine HC.out.mono ?_
  rintro e w2 ⟨rfl, hw2, hk2⟩
  have HW2 := Lib.hid hw2
  have HK2 := Lib.hid (HK1.out.then hk2 (fun i _ h => h))
  clear hw2 hk2
  go_wp2_with fail
  go_ret
  refine ⟨ret_int (by rw [← HPV.out]), ?_, HK2.out⟩
  have := HW2.out
  rw [Bool.or_assoc] at this
  exact this
set_option maxHeartbeats 2000000 in
theorem smallW (wb : Nat) (ws : List (List UInt8)) (bad : Bool) (w : World) (h : WS w wb ws bad) :
    Calls Tryz.prog 51 #[.pointer (some ⟨wb, 0, none⟩)] w fun e w' => e = .returned (.int .i64 (numV 255 ws : Int)) ∧ WS w' wb ws.tail (bad || numBad 255 ws) ∧ Kept (fun i => i = wb) w w' := by
  have HN := Lib.hid (next_any wb ws bad w h)
  clear h
  go_enter Tryz.func51, Tryz.ntmps51
  go_wp2_with fail
  refine HN.out.mono ?_
  rintro e w1 ⟨⟨p, rfl, hp, hps⟩, hw1, hk1⟩
  have HC := Lib.hid (numW wb ws.tail (bad || ws.isEmpty) p 255 w1 hw1 (by omega) hps)
  rw [hp] at HC
  have HK1 := Lib.hid hk1
  have HPV := Lib.hid (show (numP 10 255 (ws.headD [])).getD 0 = numV 255 ws from rfl)
  obtain ⟨v, hv⟩ : ∃ v, (numP 10 255 (ws.headD [])).getD 0 = v := ⟨_, rfl⟩
  rw [hv] at HC HPV
  clear hw1 hk1 hp hv
  go_wp2_with fail
  refine HC.out.mono ?_
  rintro e w2 ⟨rfl, hw2, hk2⟩
  have HW2 := Lib.hid hw2
  have HK2 := Lib.hid (HK1.out.then hk2 (fun i _ h => h))
  clear hw2 hk2
  go_wp2_with fail
  go_ret
  refine ⟨ret_int (by rw [← HPV.out]), ?_, HK2.out⟩
  have := HW2.out
  rw [Bool.or_assoc] at this
  exact this
set_option maxHeartbeats 2000000 in
theorem flagsW (wb : Nat) (ws : List (List UInt8)) (bad : Bool) (w : World) (h : WS w wb ws bad) :
    Calls Tryz.prog 30 #[.pointer (some ⟨wb, 0, none⟩)] w fun e w' => e = .returned (.int .u8 (numV 255 ws : Int)) ∧ WS w' wb ws.tail (bad || numBad 255 ws) ∧ Kept (fun i => i = wb) w w' := by
  have HN := Lib.hid (smallW wb ws bad w h)
  have HV := Lib.hid (numV_le 255 ws)
  generalize numV 255 ws = v at HN HV
  have hv := HV.out
  clear h
  go_enter Tryz.func30, Tryz.ntmps30
  go_wp2_with fail
  refine HN.out.mono ?_
  rintro e w1 ⟨rfl, hw1, hk1⟩
  go_wp2_with fail
  go_ret
  exact ⟨rfl, hw1, hk1⟩
set_option maxHeartbeats 2000000 in
theorem longW (wb : Nat) (ws : List (List UInt8)) (bad : Bool) (w : World) (h : WS w wb ws bad) :
    Calls Tryz.prog 31 #[.pointer (some ⟨wb, 0, none⟩)] w fun e w' => e = .returned (.int .u32 (numV 1073741824 ws : Int)) ∧ WS w' wb ws.tail (bad || numBad 1073741824 ws) ∧ Kept (fun i => i = wb) w w' := by
  have HN := Lib.hid (greatW wb ws bad w h)
  have HV := Lib.hid (numV_le 1073741824 ws)
  generalize numV 1073741824 ws = v at HN HV
  have hv := HV.out
  clear h
  go_enter Tryz.func31, Tryz.ntmps31
  go_wp2_with fail
  refine HN.out.mono ?_
  rintro e w1 ⟨rfl, hw1, hk1⟩
  go_wp2_with fail
  go_ret
  exact ⟨rfl, hw1, hk1⟩

theorem wayP_eq (w : List UInt8) : wayP w = if w = turnsT then some 1 else if w = weightsT then some 2 else if w = loadsT then some 3 else if w = drawsT then some 4 else none := by
  have e : wayP w = if drawsT = w then some 4 else if loadsT = w then some 3 else if weightsT = w then some 2 else if turnsT = w then some 1 else none := by
    unfold wayP
    simp [wayU, wayN]
  rw [e]
  by_cases h1 : w = turnsT
  · subst h1; decide
  by_cases h2 : w = weightsT
  · subst h2; decide
  by_cases h3 : w = loadsT
  · subst h3; decide
  by_cases h4 : w = drawsT
  · subst h4; decide
  rw [if_neg (fun e => h4 e.symm), if_neg (fun e => h3 e.symm), if_neg (fun e => h2 e.symm), if_neg (fun e => h1 e.symm), if_neg h1, if_neg h2, if_neg h3, if_neg h4]
/-- policy.Name. -/
def polN (n : Int) : List UInt8 := if n = 1 then turnsT else if n = 2 then weightsT else if n = 3 then loadsT else if n = 4 then drawsT else []
theorem polName_any (n : Int) (w : World) : Calls Tryz.prog 65 #[.int .i64 n] w fun e w' => e = .returned (.string ⟨(polN n).toArray⟩) ∧ w' = w := by
  by_cases h1 : n = 1
  · subst h1; go_enter Tryz.func65, Tryz.ntmps65; go_wp2_with fail; go_ret; exact ⟨rfl, rfl⟩
  by_cases h2 : n = 2
  · subst h2; go_enter Tryz.func65, Tryz.ntmps65; go_wp2_with fail; go_ret; exact ⟨rfl, rfl⟩
  by_cases h3 : n = 3
  · subst h3; go_enter Tryz.func65, Tryz.ntmps65; go_wp2_with fail; go_ret; exact ⟨rfl, rfl⟩
  by_cases h4 : n = 4
  · subst h4; go_enter Tryz.func65, Tryz.ntmps65; go_wp2_with fail; go_ret; exact ⟨rfl, rfl⟩
  have q1 : (n == 1) = false := beq_eq_false_iff_ne.2 h1
  have q2 : (n == 2) = false := beq_eq_false_iff_ne.2 h2
  have q3 : (n == 3) = false := beq_eq_false_iff_ne.2 h3
  have q4 : (n == 4) = false := beq_eq_false_iff_ne.2 h4
  have e : polN n = [] := by unfold polN; rw [if_neg h1, if_neg h2, if_neg h3, if_neg h4]
  rw [e]
  clear e
  go_enter Tryz.func65, Tryz.ntmps65
  go_wp2_with fail
  go_ret
  exact ⟨rfl, rfl⟩
theorem polN_w (k : Nat) (h1 : 1 ≤ k) (h4 : k ≤ 4) : polN (k : Int) = wayN k := by
  obtain rfl | rfl | rfl | rfl : k = 1 ∨ k = 2 ∨ k = 3 ∨ k = 4 := by omega
  all_goals rfl
/-- The first way from the k-th on that has the name. -/
theorem wayP_first (w : List UInt8) : (∃ k : Nat, 1 ≤ k ∧ k ≤ 4 ∧ wayN k = w ∧ wayP w = some k) ∨ ((∀ k : Nat, 1 ≤ k → k ≤ 4 → wayN k ≠ w) ∧ wayP w = none) := by
  by_cases h1 : w = turnsT
  · subst h1; exact .inl ⟨1, by omega, by omega, rfl, by decide⟩
  by_cases h2 : w = weightsT
  · subst h2; exact .inl ⟨2, by omega, by omega, rfl, by decide⟩
  by_cases h3 : w = loadsT
  · subst h3; exact .inl ⟨3, by omega, by omega, rfl, by decide⟩
  by_cases h4 : w = drawsT
  · subst h4; exact .inl ⟨4, by omega, by omega, rfl, by decide⟩
  refine .inr ⟨fun k hk1 hk4 e => ?_, by rw [wayP_eq, if_neg h1, if_neg h2, if_neg h3, if_neg h4]⟩
  obtain rfl | rfl | rfl | rfl : k = 1 ∨ k = 2 ∨ k = 3 ∨ k = 4 := by omega
  · exact h1 e.symm
  · exact h2 e.symm
  · exact h3 e.symm
  · exact h4 e.symm
theorem wayN_inj {j k : Nat} (hj1 : 1 ≤ j) (hj4 : j ≤ 4) (hk1 : 1 ≤ k) (hk4 : k ≤ 4) (h : wayN j = wayN k) : j = k := by
  obtain rfl | rfl | rfl | rfl : k = 1 ∨ k = 2 ∨ k = 3 ∨ k = 4 := by omega
  all_goals
    obtain rfl | rfl | rfl | rfl : j = 1 ∨ j = 2 ∨ j = 3 ∨ j = 4 := by omega
    all_goals first | rfl | (exact absurd h (by decide))
set_option maxHeartbeats 2000000 in
theorem polOf_any (s : ByteArray) (w : World) : Calls Tryz.prog 72 #[.string s] w fun e w' => e = .returned (.int .i64 (((wayP s.data.toList).getD 0 : Nat) : Int)) ∧ w' = w := by
  have HSL := Lib.hid (show s.toList = s.data.toList by rw [Lib.toList_data])
  go_enter Tryz.func72, Tryz.ntmps72
  go_wp2_with fail
  go_loop [3] (fun i => ∃ k : Nat, 1 ≤ k ∧ k ≤ 5 ∧ i = .int .i64 (k : Int) ∧ ∀ j, 1 ≤ j → j < k → wayN j ≠ s.data.toList) (fun i => 5 - (intOf i).toNat)
  case atStart => exact ⟨1, by omega, by omega, rfl, fun j h1 h2 => by omega⟩
  case round =>
    obtain ⟨k, hk1, hk5, rfl, hno⟩ := hrel
    have k0 : (1 : Int) ≤ (k : Int) := by omega
    have HNO := Lib.hid hno
    clear hno
    by_cases hk4 : k ≤ 4
    · have kI : (k : Int) ≤ 4 := by omega
      have HPN := Lib.hid (polName_any (k : Int) w)
      rw [polN_w k hk1 hk4] at HPN
      obtain ⟨ns, hns⟩ : ∃ ns : ByteArray, ns = ⟨(wayN k).toArray⟩ := ⟨_, rfl⟩
      rw [← hns] at HPN
      have HNS := Lib.hid (show ns.toList = wayN k by rw [hns, Lib.toList_data])
      clear hns
      obtain ⟨q, hq⟩ : ∃ q : Bool, (ns.toList == s.toList) = q := ⟨_, rfl⟩
      go_wp2_with fail
      refine HPN.out.mono ?_
      rintro e w1 ⟨rfl, rfl⟩
      by_cases hw : wayN k = s.data.toList
      · have HV := Lib.hid (show wayP s.data.toList = some k by
          rcases wayP_first s.data.toList with ⟨j, h1, h4, h5, h6⟩ | ⟨h1, h2⟩
          · rw [h6, wayN_inj h1 h4 hk1 hk4 (h5.trans hw.symm)]
          · exact absurd hw (h1 k hk1 hk4))
        have e1 : (ns.toList == s.toList) = true := by rw [HNS.out, HSL.out, hw]; simp
        clear hw hq
        go_wp2_with fail
        go_ret
        exact ⟨ret_int (by rw [HV.out]; rfl), rfl⟩
      · have e1 : (ns.toList == s.toList) = false := by rw [HNS.out, HSL.out]; exact beq_eq_false_iff_ne.2 hw
        have HN2 := Lib.hid (show ∀ j, 1 ≤ j → j < k + 1 → wayN j ≠ s.data.toList from fun j h1 h2 => by
          by_cases hj : j = k
          · subst hj; exact hw
          · exact HNO.out j h1 (by omega))
        clear hw hq
        go_wp2_with fail
        go_round
        case rel => exact ⟨k + 1, by omega, by omega, by go_num, HN2.out⟩
        case measure => simp [intOf]; omega
    · have kI : ¬ (k : Int) ≤ 4 := by omega
      have HV := Lib.hid (show wayP s.data.toList = none by
        rcases wayP_first s.data.toList with ⟨j, h1, h4, h5, h6⟩ | ⟨h1, h2⟩
        · exact absurd h5 (HNO.out j h1 (by omega))
        · exact h2)
      go_wp2_with fail
      go_ret
      exact ⟨ret_int (by rw [HV.out]; rfl), rfl⟩
set_option maxHeartbeats 2000000 in
theorem wayW (wb : Nat) (ws : List (List UInt8)) (bad : Bool) (w : World) (h : WS w wb ws bad) :
    Calls Tryz.prog 55 #[.pointer (some ⟨wb, 0, none⟩)] w fun e w' => e = .returned (.int .i64 (wayV ws : Int)) ∧ WS w' wb ws.tail (bad || wayBad ws) ∧ Kept (fun i => i = wb) w w' := by
  have HN := Lib.hid (next_any wb ws bad w h)
  clear h
  go_enter Tryz.func55, Tryz.ntmps55
  go_wp2_with fail
  refine HN.out.mono ?_
  rintro e w1 ⟨⟨p, rfl, hp, hps⟩, hw1, hk1⟩
  have HK1 := Lib.hid hk1
  have HC := Lib.hid (polOf_any p w1)
  rw [hp] at HC
  obtain ⟨o, ho⟩ : ∃ o, wayP (ws.headD []) = o := ⟨_, rfl⟩
  have HV := Lib.hid (show wayV ws = o.getD 0 by unfold wayV; rw [ho])
  have HB := Lib.hid (show wayBad ws = (ws.isEmpty || o.isNone) by unfold wayBad; rw [ho])
  have HO := Lib.hid (show ∀ n, o = some n → 1 ≤ n ∧ n < 5 from fun n e => wayU_le (ho.trans e))
  rw [ho] at HC
  have HW1 := Lib.hid hw1
  clear hw1 hk1 hp ho
  go_wp2_with fail
  refine HC.out.mono ?_
  rintro e w2 ⟨rfl, rfl⟩
  cases o with
  | some n =>
    have hn1 := (HO.out n rfl).1
    have hn4 := (HO.out n rfl).2
    have hz : (((n : Nat) : Int) == 0) = false := by rw [beq_eq_false_iff_ne]; omega
    simp only [Option.getD_some]
    go_wp2_with fail
    go_ret
    refine ⟨ret_int (by rw [HV.out]; rfl), ?_, HK1.out⟩
    rw [HB.out]
    have := HW1.out
    simpa using this
  | none =>
    simp only [Option.getD_none]
    obtain ⟨s, hs, hq, hz, hB⟩ := HW1.out
    have HS := Lib.hid hs
    have HQ := Lib.hid hq
    have HBK := Lib.hid hB
    have c0 := hB.cell
    have f0 := hB.frozen
    have lt0 := hB.lt
    clear hs hq hB
    go_wp2_with fail
    go_ret
    refine ⟨ret_int (by rw [HV.out]; rfl), ⟨s, HS.out, HQ.out, hz, ?_⟩, Kept.setIn (S := fun i => i = wb) (b := wb) rfl HK1.out⟩
    rw [HB.out, show (bad || (ws.isEmpty || (none : Option Nat).isNone)) = true by simp]
    exact HBK.out.set_to rfl
set_option maxHeartbeats 2000000 in
theorem textW (wb : Nat) (ws : List (List UInt8)) (bad : Bool) (w : World) (h : WS w wb ws bad) :
    Calls Tryz.prog 58 #[.pointer (some ⟨wb, 0, none⟩)] w fun e w' => ∃ v, e = .returned v ∧ LoadIn w' v (joinC 32 ws) ∧ WS w' wb [] (bad || ws.isEmpty) ∧ Kept (fun i => i = wb) w w' := by
  obtain ⟨s, hs, hp, hz, hB⟩ := h
  have hcv := fun (w : World) (s : ByteArray) => Lib.run_convert_string_bytes (P := Tryz.prog) w 9 30 5 s Tryz.underlying9 Tryz.underlying30 Tryz.underlying5
  have HBK := Lib.hid hB
  cases ws with
  | nil =>
    have c0 := hB.cell
    have f0 := hB.frozen
    have lt0 := hB.lt
    clear hs hB hp
    go_enter Tryz.func58, Tryz.ntmps58
    go_wp2_with fail
    go_ret
    refine ⟨_, rfl, LoadIn.nil _, ⟨s, fun h => absurd rfl h, by simp, hz, ?_⟩, Kept.setIn (S := fun i => i = wb) (b := wb) rfl (Kept.refl _ _)⟩
    have := HBK.out.set_to (i := 2) (u := .bool true) (cs' := #[.string s, .bool true, .bool true]) rfl
    rw [show (bad || ([] : List (List UInt8)).isEmpty) = true by simp]
    exact this
  | cons p ps =>
    have HS := Lib.hid (hs (by simp))
    have c0 := hB.cell
    have f0 := hB.frozen
    have lt0 := hB.lt
    clear hs hB hp
    go_enter Tryz.func58, Tryz.ntmps58
    go_upto_region 5 with fail
    generalize hw1 : World.setCell _ _ _ = w1
    have HK1 := Lib.hid (show Kept (fun i => i = wb) w w1 by rw [← hw1]; exact Kept.setIn (S := fun i => i = wb) (b := wb) rfl (Kept.refl _ _))
    have HB1 := Lib.hid (show Blk w1 wb 72 #[.string s, .bool true, .bool bad] by rw [← hw1]; exact HBK.out.set_to rfl)
    clear hw1 c0 f0 lt0 HBK
    have c0 := HB1.out.cell
    have f0 := HB1.out.frozen
    have lt0 := HB1.out.lt
    have HL := Lib.hid (load_conv w1 s hz)
    go_wp2_with fail
    go_ret
    refine ⟨_, rfl, by rw [← HS.out]; exact HL.out.1, ⟨s, fun h => absurd rfl h, by simp, hz, ?_⟩, HK1.out.then HL.out.2 (fun _ _ h => h.elim)⟩
    have := HB1.out.kept HL.out.2 (fun h => h)
    rw [show (bad || (p :: ps).isEmpty) = bad by simp]
    exact this
end Go.Proofs.YthfdhggcnkgjfaaGreatDoor
