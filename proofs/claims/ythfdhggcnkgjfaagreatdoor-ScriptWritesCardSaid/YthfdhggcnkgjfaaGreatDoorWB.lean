/- The words of a line, at any text. -/
import Derived.Test.YthfdhggcnkgjfaaGreatDoorWA
import Derived.Test.YthfdhggcnkgjfaaGreatDoorPlainU
import Derived.Test.YthfdhggcnkgjfaaGreatDoorF
import Derived.Test.YthfdhggcnkgjfaaGreatDoorShelf
namespace Go.Proofs.YthfdhggcnkgjfaaGreatDoor
open Go.RowKit
set_option linter.unusedVariables false
set_option linter.unusedSimpArgs false
theorem contains_mem (l : List UInt8) : decide (0 ≤ Lib.indexByte l 10) = decide ((10 : UInt8) ∈ l) := by
  by_cases h : (10 : UInt8) ∈ l
  · obtain ⟨p, r, rfl⟩ : ∃ p r, l = p ++ 10 :: r := List.append_of_mem h
    have : (0 : Int) ≤ Lib.indexByte (p ++ 10 :: r) 10 := by
      clear h
      induction p with
      | nil => rw [List.nil_append]; unfold Lib.indexByte; simp
      | cons x p ih =>
        rw [List.cons_append]
        unfold Lib.indexByte
        split
        · omega
        · split
          · rename_i h1; have := eq_of_beq h1; omega
          · omega
    rw [decide_eq_true this, decide_eq_true h]
  · rw [index_none h, decide_eq_false h]; rfl
def CutRet (s : ByteArray) (ps : List (List UInt8)) (p : List UInt8) (e : Ending) : Prop := ∃ A B : ByteArray, e = .returned (.tuple #[.string A, .string B, .bool (!ps.isEmpty)]) ∧ A.data.toList = p ∧ B.data.toList = joinC 32 ps
set_option maxHeartbeats 2000000 in
theorem cut48 (s : ByteArray) (p : List UInt8) (ps : List (List UInt8)) (hs : s.data.toList = joinC 32 (p :: ps)) (hp : (32 : UInt8) ∉ p) (hz : s.size ≤ 100000) (w : World) :
    Calls Tryz.prog 59 #[.string s, .string { data := #[32] }] w fun e w' => CutRet s ps p e ∧ Below w.heap.size w w' := by
  by_cases h0 : ps = []
  · subst h0
    have hi : Lib.indexByte s.data.toList 32 = -1 := by rw [hs]; exact index_none hp
    have HI := Lib.hid ((Tryz.stringslite_Index_one s 32 w).mono (R' := fun e w' => e = .returned (.int .i64 (-1)) ∧ w' = w) (fun e w' h => ⟨h.1.trans (by rw [hi]), h.2⟩))
    have HS := Lib.hid hs
    clear hs hi
    go_enter Tryz.func59, Tryz.ntmps59
    go_wp2_with fail
    refine HI.out.mono ?_
    rintro e w1 ⟨rfl, rfl⟩
    go_wp2_with fail
    go_ret3
    exact ⟨⟨s, ⟨#[]⟩, rfl, HS.out, rfl⟩, Below.refl _ _⟩
  · obtain ⟨i, hi0⟩ : ∃ i, p.length = i := ⟨_, rfl⟩
    have hj := joinC_cons 32 p h0
    have hi : Lib.indexByte s.data.toList 32 = (i : Int) := by rw [hs, hj, index_app hp, hi0]
    have hlen : i < s.size := by rw [Lib.size_eq, hs, hj, List.length_append, List.length_cons]; omega
    have HI := Lib.hid ((Tryz.stringslite_Index_one s 32 w).mono (R' := fun e w' => e = .returned (.int .i64 (i : Int)) ∧ w' = w) (fun e w' h => ⟨h.1.trans (by rw [hi]), h.2⟩))
    have HA := Lib.hid (show (s.extract 0 i).data.toList = p by rw [Lib.extract_from_zero, hs, hj, ← hi0, List.take_left'  rfl])
    have HB := Lib.hid (show (s.extract (i + 1) s.size).data.toList = joinC 32 ps by rw [Lib.extract_to_end, hs, hj, ← hi0, ← List.drop_drop, List.drop_left' rfl]; rfl)
    have i0 : (0 : Int) ≤ (i : Int) := Int.natCast_nonneg _
    have i1 : (i : Int) ≤ (s.size : Int) := by omega
    have i2 : (i : Int) + 1 ≤ (s.size : Int) := by omega
    have hne : ps.isEmpty = false := by simpa using h0
    clear hs hi hi0 hj h0
    go_enter Tryz.func59, Tryz.ntmps59
    go_wp2_with fail
    refine HI.out.mono ?_
    rintro e w1 ⟨rfl, rfl⟩
    go_wp2_with fail
    go_region
    go_wp2_with fail
    go_ret3
    exact ⟨⟨s.extract 0 i, s.extract (i + 1) s.size, by rw [hne]; rfl, HA.out, HB.out⟩, belowN (Below.refl _ _) 1⟩
theorem cutW (s : ByteArray) (p : List UInt8) (ps : List (List UInt8)) (hs : s.data.toList = joinC 32 (p :: ps)) (hp : (32 : UInt8) ∉ p) (hz : s.size ≤ 100000) (w : World) :
    Calls Tryz.prog 34 #[.string s, .string { data := #[32] }] w fun e w' => CutRet s ps p e ∧ Below w.heap.size w w' := by
  have HC := Lib.hid (cut48 s p ps hs hp hz w)
  clear hs
  go_enter Tryz.func34, Tryz.ntmps34
  go_wp2_with fail
  refine HC.out.mono ?_
  rintro e w1 ⟨⟨A, B, rfl, hA, hB⟩, hb1⟩
  have HA := Lib.hid hA
  have HB := Lib.hid hB
  have HW := Lib.hid hb1
  clear hA hB hb1
  go_wp2_with fail
  go_ret3
  exact ⟨⟨A, B, rfl, HA.out, HB.out⟩, HW.out⟩
/-- The words that are left, in memory. -/
def WS (w : World) (wb : Nat) (ws : List (List UInt8)) (bad : Bool) : Prop := ∃ s : ByteArray, (ws ≠ [] → s.data.toList = joinC 32 ws) ∧ (∀ p ∈ ws, (32 : UInt8) ∉ p) ∧ s.size ≤ 4000 ∧ Blk w wb 72 #[.string s, .bool ws.isEmpty, .bool bad]
theorem WS.lt {w : World} {wb : Nat} {ws : List (List UInt8)} {bad : Bool} (h : WS w wb ws bad) : wb < w.heap.size := by obtain ⟨s, _, _, _, h⟩ := h; exact h.lt
theorem WS.kept {S : Nat → Prop} {w w' : World} {wb : Nat} {ws : List (List UInt8)} {bad : Bool} (h : WS w wb ws bad) (hk : Kept S w w') (hn : ¬ S wb) : WS w' wb ws bad := by
  obtain ⟨s, h1, h2, h3, h4⟩ := h
  exact ⟨s, h1, h2, h3, h4.kept hk hn⟩
theorem joinC_tail_len (p : List UInt8) (ps : List (List UInt8)) : p.length ≤ (joinC 32 (p :: ps)).length ∧ (joinC 32 ps).length ≤ (joinC 32 (p :: ps)).length := by
  cases ps with
  | nil => simp [joinC]
  | cons q ps => rw [joinC_cons2, List.length_append, List.length_cons]; omega
def NextP (wb : Nat) (ws : List (List UInt8)) (bad : Bool) (w : World) (e : Ending) (w' : World) : Prop := (∃ p : ByteArray, e = .returned (.string p) ∧ p.data.toList = ws.headD [] ∧ p.size ≤ 4000) ∧ WS w' wb ws.tail (bad || ws.isEmpty) ∧ Kept (fun i => i = wb) w w'
set_option maxHeartbeats 2000000 in
theorem next_any (wb : Nat) (ws : List (List UInt8)) (bad : Bool) (w : World) (h : WS w wb ws bad) : Calls Tryz.prog 15 #[.pointer (some ⟨wb, 0, none⟩)] w (NextP wb ws bad w) := by
  obtain ⟨s, hs, hp, hz, hB⟩ := h
  cases ws with
  | nil =>
    have HS := Lib.hid hs
    have HB := Lib.hid (show Blk w wb 72 #[.string s, .bool true, .bool bad] from hB)
    have HP := Lib.hid hp
    have c0 := HB.out.cell
    have f0 := HB.out.frozen
    have lt0 := HB.out.lt
    clear hs hB hp
    go_enter Tryz.func15, Tryz.ntmps15
    go_wp2_with fail
    go_ret
    refine ⟨⟨⟨#[]⟩, rfl, rfl, by decide⟩, ⟨s, HS.out, HP.out, hz, ?_⟩, Kept.setIn (S := fun i => i = wb) (b := wb) rfl (Kept.refl _ _)⟩
    have := HB.out.set_to (i := 2) (u := .bool true) (cs' := #[.string s, .bool true, .bool true]) rfl
    rw [show (bad || ([] : List (List UInt8)).isEmpty) = true by cases bad <;> rfl]
    exact this
  | cons p ps =>
    have hln := joinC_tail_len p ps
    replace hs := hs (by simp)
    rw [← hs, ← Lib.size_eq] at hln
    have HC := Lib.hid (cutW s p ps hs (hp p (by simp)) (by omega) w)
    have HB := Lib.hid (show Blk w wb 72 #[.string s, .bool false, .bool bad] from hB)
    have HP := Lib.hid hp
    have c0 := HB.out.cell
    have f0 := HB.out.frozen
    have lt0 := HB.out.lt
    clear hs hB hp
    go_enter Tryz.func15, Tryz.ntmps15
    go_wp2_with fail
    refine HC.out.mono ?_
    rintro e w1 ⟨⟨A, B, rfl, hA, hB⟩, hb1⟩
    have HA := Lib.hid hA
    have HBB := Lib.hid hB
    have HK := Lib.hid (Kept.ofB (S := fun i => i = wb) hb1)
    have HB1 := Lib.hid (HB.out.below hb1 HB.out.lt)
    have hAs : A.size ≤ 4000 := by rw [Lib.size_eq, hA]; omega
    have hBs : B.size ≤ 4000 := by rw [Lib.size_eq, hB]; omega
    clear hA hB hb1 c0 f0 lt0
    have c0 := HB1.out.cell
    have f0 := HB1.out.frozen
    have lt0 := HB1.out.lt
    go_wp2_with fail
    go_ret
    refine ⟨⟨A, rfl, HA.out, hAs⟩, ⟨B, fun _ => HBB.out, fun q hq => HP.out q (List.mem_cons_of_mem _ hq), hBs, ?_⟩, ?_⟩
    · have e1 : (bad || (p :: ps).isEmpty) = bad := by cases bad <;> rfl
      have e2 : (p :: ps).tail.isEmpty = ps.isEmpty := rfl
      rw [e1, e2]
      exact (HB1.out.set_to (cs' := #[.string B, .bool false, .bool bad]) rfl).set_to rfl
    · exact Kept.setIn (S := fun i => i = wb) (b := wb) rfl (Kept.setIn (S := fun i => i = wb) (b := wb) rfl HK.out)
set_option maxHeartbeats 2000000 in
theorem numW (wb : Nat) (ws : List (List UInt8)) (bad : Bool) (p : ByteArray) (m : Nat) (w : World) (h : WS w wb ws bad) (hm : m ≤ 1073741824) (hp : p.size ≤ 4000) :
    Calls Tryz.prog 32 #[.pointer (some ⟨wb, 0, none⟩), .string p, .int .i64 (m : Int)] w fun e w' => e = .returned (.int .i64 (((numP 10 m p.data.toList).getD 0 : Nat) : Int)) ∧ WS w' wb ws (bad || (numP 10 m p.data.toList).isNone) ∧ Kept (fun i => i = wb) w w' := by
  obtain ⟨s, hs, hq, hz, hB⟩ := h
  have hc := number10 p m hm (by omega) w
  cases hn : numP 10 m p.data.toList with
  | some n =>
    rw [hn] at hc
    have HC := Lib.hid (show Calls Tryz.prog 57 #[.string p, .int .i64 10, .int .i64 (m : Int)] w fun e w' => e = .returned (.tuple #[.int .i64 (n : Int), .bool true]) ∧ w' = w from hc)
    have HB := Lib.hid hB
    have HS := Lib.hid hs
    have HQ := Lib.hid hq
    clear hc hB hs hq hn
    go_enter Tryz.func32, Tryz.ntmps32
    go_wp2_with fail
    refine HC.out.mono ?_
    rintro e w1 ⟨rfl, rfl⟩
    go_wp2_with fail
    go_ret
    refine ⟨rfl, ⟨s, HS.out, HQ.out, hz, ?_⟩, Kept.refl _ _⟩
    rw [show (bad || (some n).isNone) = bad by cases bad <;> rfl]
    exact HB.out
  | none =>
    rw [hn] at hc
    have HC := Lib.hid (show Calls Tryz.prog 57 #[.string p, .int .i64 10, .int .i64 (m : Int)] w fun e w' => e = .returned (.tuple #[.int .i64 0, .bool false]) ∧ w' = w from hc)
    have HB := Lib.hid hB
    have HS := Lib.hid hs
    have HQ := Lib.hid hq
    have c0 := hB.cell
    have f0 := hB.frozen
    have lt0 := hB.lt
    clear hc hB hs hq hn
    go_enter Tryz.func32, Tryz.ntmps32
    go_wp2_with fail
    refine HC.out.mono ?_
    rintro e w1 ⟨rfl, rfl⟩
    go_wp2_with fail
    go_ret
    refine ⟨rfl, ⟨s, HS.out, HQ.out, hz, ?_⟩, Kept.setIn (S := fun i => i = wb) (b := wb) rfl (Kept.refl _ _)⟩
    rw [show (bad || (none : Option Nat).isNone) = true by cases bad <;> rfl]
    exact HB.out.set_to rfl
def portV (ws : List (List UInt8)) : Nat := (numP 10 65535 (ws.headD [])).getD 0
def portBad (ws : List (List UInt8)) : Bool := ws.isEmpty || (numP 10 65535 (ws.headD [])).isNone
set_option maxHeartbeats 2000000 in
theorem portW (wb : Nat) (ws : List (List UInt8)) (bad : Bool) (w : World) (h : WS w wb ws bad) :
    Calls Tryz.prog 53 #[.pointer (some ⟨wb, 0, none⟩)] w fun e w' => e = .returned (.int .u16 (portV ws : Int)) ∧ WS w' wb ws.tail (bad || portBad ws) ∧ Kept (fun i => i = wb) w w' := by
  have HN := Lib.hid (next_any wb ws bad w h)
  clear h
  go_enter Tryz.func53, Tryz.ntmps53
  go_wp2_with fail
  refine HN.out.mono ?_
  rintro e w1 ⟨⟨p, rfl, hp, hps⟩, hw1, hk1⟩
  have HC := Lib.hid (numW wb ws.tail (bad || ws.isEmpty) p 65535 w1 hw1 (by omega) hps)
  rw [hp] at HC
  have HK1 := Lib.hid hk1
  have HV := Lib.hid (show (numP 10 65535 (ws.headD [])).getD 0 ≤ 65535 by
    cases h : numP 10 65535 (ws.headD []) with
    | none => exact Nat.zero_le _
    | some n => exact numP_le h)
  have HPV := Lib.hid (show (numP 10 65535 (ws.headD [])).getD 0 = portV ws from rfl)
  obtain ⟨v, hv⟩ : ∃ v, (numP 10 65535 (ws.headD [])).getD 0 = v := ⟨_, rfl⟩
  rw [hv] at HC HV HPV
  have hv1 := HV.out
  clear hw1 hk1 hp hv
  go_wp2_with fail
  refine HC.out.mono ?_
  rintro e w2 ⟨rfl, hw2, hk2⟩
  have HW2 := Lib.hid hw2
  have HK2 := Lib.hid (HK1.out.then hk2 (fun i _ h => h))
  clear hw2 hk2
  go_wp2_with fail
  go_ret
  refine ⟨ret_int (by rw [← HPV.out]), ?_, HK2.out⟩
  have := HW2.out
  rw [Bool.or_assoc] at this
  exact this
def protoV (ws : List (List UInt8)) : Nat := (protoP (ws.headD [])).getD 0
def protoBad (ws : List (List UInt8)) : Bool := ws.isEmpty || (protoP (ws.headD [])).isNone
set_option maxHeartbeats 2000000 in
theorem protoW (wb : Nat) (ws : List (List UInt8)) (bad : Bool) (w : World) (h : WS w wb ws bad) :
    Calls Tryz.prog 54 #[.pointer (some ⟨wb, 0, none⟩)] w fun e w' => e = .returned (.int .u8 (protoV ws : Int)) ∧ WS w' wb ws.tail (bad || protoBad ws) ∧ Kept (fun i => i = wb) w w' := by
  have HN := Lib.hid (next_any wb ws bad w h)
  clear h
  go_enter Tryz.func54, Tryz.ntmps54
  go_wp2_with fail
  refine HN.out.mono ?_
  rintro e w1 ⟨⟨p, rfl, hp, hps⟩, hw1, hk1⟩
  have HK1 := Lib.hid hk1
  have HPP := Lib.hid (show p.toList = ws.headD [] by rw [Lib.toList_data]; exact hp)
  by_cases h1 : ws.headD [] = tcpT
  · have e1 : (p.toList == [116, 99, 112]) = true := by rw [HPP.out, h1]; rfl
    have HV := Lib.hid (show protoV ws = 6 by unfold protoV protoP; rw [if_pos h1]; rfl)
    have HB := Lib.hid (show (bad || protoBad ws) = (bad || ws.isEmpty) by unfold protoBad protoP; rw [if_pos h1]; simp)
    have HW := Lib.hid hw1
    clear hw1 hk1 hp h1
    go_wp2_with fail
    go_ret
    exact ⟨ret_int (by rw [HV.out]; rfl), by rw [HB.out]; exact HW.out, HK1.out⟩
  · have e1 : (p.toList == [116, 99, 112]) = false := by rw [HPP.out]; exact beq_eq_false_iff_ne.2 h1
    by_cases h2 : ws.headD [] = udpT
    · have e2 : (p.toList == [117, 100, 112]) = true := by rw [HPP.out, h2]; rfl
      have HV := Lib.hid (show protoV ws = 17 by unfold protoV protoP; rw [if_neg h1, if_pos h2]; rfl)
      have HB := Lib.hid (show (bad || protoBad ws) = (bad || ws.isEmpty) by unfold protoBad protoP; rw [if_neg h1, if_pos h2]; simp)
      have HW := Lib.hid hw1
      clear hw1 hk1 hp h1 h2
      go_wp2_with fail
      go_ret
      exact ⟨ret_int (by rw [HV.out]; rfl), by rw [HB.out]; exact HW.out, HK1.out⟩
    · have e2 : (p.toList == [117, 100, 112]) = false := by rw [HPP.out]; exact beq_eq_false_iff_ne.2 h2
      have HV := Lib.hid (show protoV ws = 0 by unfold protoV protoP; rw [if_neg h1, if_neg h2]; rfl)
      have HB := Lib.hid (show (bad || protoBad ws) = true by unfold protoBad protoP; rw [if_neg h1, if_neg h2]; simp)
      obtain ⟨s, hs, hq, hz, hBk⟩ := hw1
      have HS := Lib.hid hs
      have HQ := Lib.hid hq
      have HBK := Lib.hid hBk
      have c0 := hBk.cell
      have f0 := hBk.frozen
      have lt0 := hBk.lt
      clear hk1 hp h1 h2 hs hq hBk
      go_wp2_with fail
      go_ret
      refine ⟨ret_int (by rw [HV.out]; rfl), ⟨s, HS.out, HQ.out, hz, ?_⟩, Kept.setIn (S := fun i => i = wb) (b := wb) rfl HK1.out⟩
      rw [HB.out]
      exact HBK.out.set_to rfl
set_option maxHeartbeats 2000000 in
theorem splitW (s : ByteArray) (hz : s.size ≤ 4000) (w : World) : Calls Tryz.prog 13 #[.string s] w fun e w' => e = .returned (.pointer (some ⟨w.heap.size, 0, none⟩)) ∧ WS w' w.heap.size (parts 32 s.data.toList) (decide (10 ∈ s.data.toList)) ∧ Below w.heap.size w w' := by
  obtain ⟨bd, hbd⟩ : ∃ bd, decide (10 ∈ s.data.toList) = bd := ⟨_, rfl⟩
  have HC := Lib.hid ((Tryz.strings_Contains_one s 10 w).mono (R' := fun e w' => e = .returned (.bool bd) ∧ w' = w) (fun e w' h => ⟨h.1.trans (by rw [← hbd, contains_mem]), h.2⟩))
  have HBD := Lib.hid hbd
  clear hbd
  go_enter Tryz.func13, Tryz.ntmps13
  go_wp2_with fail
  refine HC.out.mono ?_
  rintro e w1 ⟨rfl, rfl⟩
  go_wp2_with fail
  go_ret
  refine ⟨rfl, ⟨s, fun _ => (join_parts 32 _).symm, parts_mem 32 _, hz, ?_⟩, (Below.refl _ _).alloc (Nat.le_refl _) _⟩
  rw [HBD.out, show (parts 32 s.data.toList).isEmpty = false by
    cases h : parts 32 s.data.toList with
    | nil => exact absurd h (parts_ne _ _)
    | cons p ps => rfl]
  exact Blk.new _ _ _
theorem fineW (wb : Nat) (ws : List (List UInt8)) (bad : Bool) (w : World) (h : WS w wb ws bad) :
    Calls Tryz.prog 16 #[.pointer (some ⟨wb, 0, none⟩)] w fun e w' => e = .returned (.bool (ws.isEmpty && !bad)) ∧ w' = w := by
  obtain ⟨s, hs, hq, hz, hB⟩ := h
  have c0 := hB.cell
  have lt0 := hB.lt
  clear hs hq
  cases he : ws.isEmpty with
  | true =>
    rw [he] at c0
    go_enter Tryz.func16, Tryz.ntmps16
    go_wp2_with fail
    go_ret
    exact ⟨rfl, rfl⟩
  | false =>
    rw [he] at c0
    go_enter Tryz.func16, Tryz.ntmps16
    go_wp2_with fail
    go_ret
    exact ⟨rfl, rfl⟩
end Go.Proofs.YthfdhggcnkgjfaaGreatDoor
