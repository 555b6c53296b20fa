/- The line's members. -/
import Derived.Test.YthfdhggcnkgjfaaGreatDoorYA
namespace Go.Proofs.YthfdhggcnkgjfaaGreatDoor
open Go.RowKit
set_option linter.unusedVariables false
set_option linter.unusedSimpArgs false
def CutRetC (s : ByteArray) (ps : List (List UInt8)) (p : List UInt8) (e : Ending) : Prop := ∃ A B : ByteArray, e = .returned (.tuple #[.string A, .string B, .bool (!ps.isEmpty)]) ∧ A.data.toList = p ∧ B.data.toList = joinC 58 ps
set_option maxHeartbeats 2000000 in
theorem cutC59 (s : ByteArray) (p : List UInt8) (ps : List (List UInt8)) (hs : s.data.toList = joinC 58 (p :: ps)) (hp : (58 : UInt8) ∉ p) (hz : s.size ≤ 100000) (w : World) :
    Calls Tryz.prog 59 #[.string s, .string { data := #[58] }] w fun e w' => CutRetC s ps p e ∧ Below w.heap.size w w' := by
  by_cases h0 : ps = []
  · subst h0
    have hi : Lib.indexByte s.data.toList 58 = -1 := by rw [hs]; exact index_none hp
    have HI := Lib.hid ((Tryz.stringslite_Index_one s 58 w).mono (R' := fun e w' => e = .returned (.int .i64 (-1)) ∧ w' = w) (fun e w' h => ⟨h.1.trans (by rw [hi]), h.2⟩))
    have HS := Lib.hid hs
    clear hs hi
    go_enter Tryz.func59, Tryz.ntmps59
    go_wp2_with fail
    refine HI.out.mono ?_
    rintro e w1 ⟨rfl, rfl⟩
    go_wp2_with fail
    go_ret3
    exact ⟨⟨s, ⟨#[]⟩, rfl, HS.out, rfl⟩, Below.refl _ _⟩
  · obtain ⟨i, hi0⟩ : ∃ i, p.length = i := ⟨_, rfl⟩
    have hj := joinC_cons 58 p h0
    have hi : Lib.indexByte s.data.toList 58 = (i : Int) := by rw [hs, hj, index_app hp, hi0]
    have hlen : i < s.size := by rw [Lib.size_eq, hs, hj, List.length_append, List.length_cons]; omega
    have HI := Lib.hid ((Tryz.stringslite_Index_one s 58 w).mono (R' := fun e w' => e = .returned (.int .i64 (i : Int)) ∧ w' = w) (fun e w' h => ⟨h.1.trans (by rw [hi]), h.2⟩))
    have HA := Lib.hid (show (s.extract 0 i).data.toList = p by rw [Lib.extract_from_zero, hs, hj, ← hi0, List.take_left'  rfl])
    have HB := Lib.hid (show (s.extract (i + 1) s.size).data.toList = joinC 58 ps by rw [Lib.extract_to_end, hs, hj, ← hi0, ← List.drop_drop, List.drop_left' rfl]; rfl)
    have i0 : (0 : Int) ≤ (i : Int) := Int.natCast_nonneg _
    have i1 : (i : Int) ≤ (s.size : Int) := by omega
    have i2 : (i : Int) + 1 ≤ (s.size : Int) := by omega
    have hne : ps.isEmpty = false := by simpa using h0
    clear hs hi hi0 hj h0
    go_enter Tryz.func59, Tryz.ntmps59
    go_wp2_with fail
    refine HI.out.mono ?_
    rintro e w1 ⟨rfl, rfl⟩
    go_wp2_with fail
    go_region
    go_wp2_with fail
    go_ret3
    exact ⟨⟨s.extract 0 i, s.extract (i + 1) s.size, by rw [hne]; rfl, HA.out, HB.out⟩, belowN (Below.refl _ _) 1⟩
theorem cutC (s : ByteArray) (p : List UInt8) (ps : List (List UInt8)) (hs : s.data.toList = joinC 58 (p :: ps)) (hp : (58 : UInt8) ∉ p) (hz : s.size ≤ 100000) (w : World) :
    Calls Tryz.prog 34 #[.string s, .string { data := #[58] }] w fun e w' => CutRetC s ps p e ∧ Below w.heap.size w w' := by
  have HC := Lib.hid (cutC59 s p ps hs hp hz w)
  clear hs
  go_enter Tryz.func34, Tryz.ntmps34
  go_wp2_with fail
  refine HC.out.mono ?_
  rintro e w1 ⟨⟨A, B, rfl, hA, hB⟩, hb1⟩
  have HA := Lib.hid hA
  have HB := Lib.hid hB
  have HW := Lib.hid hb1
  clear hA hB hb1
  go_wp2_with fail
  go_ret3
  exact ⟨⟨A, B, rfl, HA.out, HB.out⟩, HW.out⟩
theorem joinC_len58 (p : List UInt8) (ps : List (List UInt8)) : p.length ≤ (joinC 58 (p :: ps)).length ∧ (joinC 58 ps).length ≤ (joinC 58 (p :: ps)).length := by
  cases ps with
  | nil => simp [joinC]
  | cons q ps => rw [joinC_cons2, List.length_append, List.length_cons]; omega
def mcs (l : List (Int × Int)) : List (List Value) := l.map fun m => [.int .i64 m.1, .int .i64 m.2]
theorem mcs_len (l : List (Int × Int)) : (mcs l).length = l.length := by simp [mcs]
def lenOf : Value → Nat
  | .slice _ n _ => n
  | _ => 0
def memsR (bad : Bool) (ms : List (Int × Int)) (ws : List (List UInt8)) : Option (List (Int × Int)) := match bad with
  | true => none
  | false => if ms.length + ws.length ≤ 64 then (memsP ws).map (ms ++ ·) else none
def finE {α : Type} (ws : List (List UInt8)) (bad : Bool) (x : α) : Option α := if (ws.isEmpty && !bad) = true then some x else none
theorem memsR_bad {ms : List (Int × Int)} {ws : List (List UInt8)} : memsR true ms ws = none := rfl
theorem memsR_nil {ms : List (Int × Int)} (h : ms.length ≤ 64) : memsR false ms [] = some ms := by simp [memsR, memsP, h]
theorem memsR_over {ms : List (Int × Int)} {w : List UInt8} {ws : List (List UInt8)} (h : ms.length = 64) : memsR false ms (w :: ws) = none := by
  unfold memsR
  simp only
  rw [if_neg (by simp; omega)]
theorem memsR_cons {ms : List (Int × Int)} {w : List UInt8} {ws : List (List UInt8)} {m : Int × Int} (h : memP w = some m) : memsR false ms (w :: ws) = memsR false (ms ++ [m]) ws := by
  unfold memsR
  simp only
  by_cases hl : ms.length + (ws.length + 1) ≤ 64
  · rw [if_pos (by simp only [List.length_cons]; omega), if_pos (by simp; omega)]
    rw [memsP, h]
    cases memsP ws with
    | none => rfl
    | some l => simp
  · rw [if_neg (by simp only [List.length_cons]; omega), if_neg (by simp; omega)]
theorem memsR_no {ms : List (Int × Int)} {w : List UInt8} {ws : List (List UInt8)} (h : memP w = none) : memsR false ms (w :: ws) = none := by
  unfold memsR
  simp only
  split
  · rw [memsP, h]; rfl
  · rfl
def MemsIn (w : World) (base : Nat) (v : Value) (ms : List (Int × Int)) : Prop := RowN w base 89 2 v (mcs ms)
set_option maxRecDepth 20000 in
set_option maxHeartbeats 8000000 in
theorem membersW (wb : Nat) (ws : List (List UInt8)) (bad : Bool) (w : World) (h : WS w wb ws bad) :
    Calls Tryz.prog 56 #[.pointer (some ⟨wb, 0, none⟩)] w fun e w' => ∃ v ms ws' bad', e = .returned v ∧ MemsIn w' w.heap.size v ms ∧ WS w' wb ws' bad' ∧ Kept (fun i => i = wb) w w' ∧ finE ws' bad' ms = memsR bad [] ws := by
  have HW := Lib.hid h
  have HLT := Lib.hid h.lt
  clear h
  go_enter Tryz.func56, Tryz.ntmps56
  go_wp2_with fail
  go_loopw [3] (fun l wr' => ∃ (ms : List (Int × Int)) (wt : List (List UInt8)) (bd : Bool), ms.length ≤ 64 ∧ lenOf l = ms.length ∧ Hid (MemsIn wr' w.heap.size l ms) ∧ Hid (WS wr' wb wt bd) ∧ Hid (Kept (fun i => i = wb) w wr') ∧ Hid (memsR bad [] ws = memsR bd ms wt)) (fun l _ => 65 - lenOf l)
  case atStart => exact ⟨[], ws, bad, by simp, rfl, Lib.hid (RowN.nil _ _ _ _), HW, Lib.hid (Kept.refl _ _), Lib.hid rfl⟩
  case round =>
    clear HW
    obtain ⟨ms, wt, bd, hml, hle, HR, HW, HK, HE⟩ := hrel
    obtain ⟨s, hs, hq, hz, hB⟩ := HW.out
    have HBK := Lib.hid hB
    obtain ⟨LA, lc, hlv, hlc1, hlc2⟩ := HR.out.shape
    rw [mcs_len] at hlv hlc1
    subst hlv
    have c0 := hB.cell
    have f0 := hB.frozen
    have lt0 := hB.lt
    clear hB hle
    have hm0 : (0 : Int) ≤ (ms.length : Int) := Int.natCast_nonneg _
    cases bd with
    | true =>
      have HF := Lib.hid (show finE wt true ms = memsR bad [] ws by rw [HE.out, memsR_bad]; simp [finE])
      clear hs hq HE
      cases wt with
      | nil =>
        go_wp2_with fail
        go_ret
        exact ⟨_, ms, [], true, rfl, HR.out, HW.out, HK.out, HF.out⟩
      | cons p ps =>
        go_wp2_with fail
        go_ret
        exact ⟨_, ms, p :: ps, true, rfl, HR.out, HW.out, HK.out, HF.out⟩
    | false =>
      cases wt with
      | nil =>
        have HF := Lib.hid (show finE [] false ms = memsR bad [] ws by rw [HE.out, memsR_nil hml]; rfl)
        clear hs hq HE
        go_wp2_with fail
        go_ret
        exact ⟨_, ms, [], false, rfl, HR.out, HW.out, HK.out, HF.out⟩
      | cons p wt =>
        by_cases h64 : ms.length = 64
        · have h64b : ((ms.length : Int) == 64) = true := by rw [h64]; rfl
          have HF := Lib.hid (show finE (p :: wt) true ms = memsR bad [] ws by rw [HE.out, memsR_over h64]; simp [finE])
          have HS := Lib.hid hs
          have HQ := Lib.hid hq
          clear hs hq HE h64
          go_wp2_with fail
          go_ret
          refine ⟨_, ms, p :: wt, true, rfl, HR.out.far (by
            intro e
            have := (HR.out.lt _ e).1
            have := HLT.out
            omega), ⟨s, HS.out, HQ.out, hz, HBK.out.set_to rfl⟩, Kept.setIn (S := fun i => i = wb) (b := wb) rfl HK.out, HF.out⟩
        · have h64b : ((ms.length : Int) == 64) = false := by rw [beq_eq_false_iff_ne]; omega
          have HNX := Lib.hid (next_any wb (p :: wt) false wr HW.out)
          have HPQ := Lib.hid (hq p (by simp))
          have hpl : p.length ≤ 4000 := by
            have := (joinC_tail_len p wt).1
            rw [← hs (by simp), ← Lib.size_eq] at this
            omega
          clear hs hq HW HBK
          go_wp2_with fail
          refine HNX.out.mono ?_
          rintro e w1 ⟨⟨x, rfl, hx, hxs⟩, hw, hk⟩
          have HNE := Lib.hid (show ∀ g, (Value.slice LA ms.length lc).ownBlock = some g → ¬ g = wb from fun g hg e => by
            have := (HR.out.lt g hg).1
            have := HLT.out
            omega)
          have HW1 := Lib.hid (show WS w1 wb wt false from hw)
          have HR1 := Lib.hid (HR.out.kept hk HNE.out)
          have HK1 := Lib.hid (HK.out.then hk (fun i _ h => h))
          rw [List.headD_cons] at hx
          clear hw hk HNX HR HK c0 f0 lt0
          cases hp58 : parts 58 p with
          | nil => exact absurd hp58 (parts_ne _ _)
          | cons p0 pr =>
            have hcut := cutC x p0 pr (by rw [hx, ← hp58, join_parts]) (parts_mem 58 p p0 (by rw [hp58]; simp)) (by omega) w1
            have HCU := Lib.hid hcut
            have hj := joinC_len58 p0 pr
            rw [← hp58, join_parts] at hj
            clear hcut hx
            go_wp2_with fail
            refine HCU.out.mono ?_
            rintro e w2 ⟨⟨xa, xb, rfl, ha, hb⟩, hb2⟩
            have HW2 := Lib.hid (HW1.out.kept (Kept.ofB (S := fun _ => False) hb2) (fun h => h))
            have HR2 := Lib.hid (HR1.out.belowAll hb2)
            have HK2 := Lib.hid (HK1.out.then (Kept.ofB (S := fun _ => False) hb2) (fun i _ h => h.elim))
            have hxa : xa.size ≤ 4000 := by rw [Lib.size_eq, ha]; omega
            have hxb : xb.size ≤ 4000 := by rw [Lib.size_eq, hb]; omega
            clear hb2 HCU HW1 HR1 HK1
            cases pr with
            | nil =>
              have hmp : memP p = none := by unfold memP; rw [hp58]
              have HE1 := Lib.hid (show memsR bad [] ws = none by rw [HE.out, memsR_no hmp])
              obtain ⟨s2, hs2, hq2, hz2, hB2⟩ := HW2.out
              have HS2 := Lib.hid hs2
              have HQ2 := Lib.hid hq2
              have HB2 := Lib.hid hB2
              have c0 := hB2.cell
              have f0 := hB2.frozen
              have lt0 := hB2.lt
              have hnil : (([] : List (List UInt8)).isEmpty) = true := rfl
              rw [hnil]
              clear hs2 hq2 hB2 HE hmp ha hb
              go_upto_region 8 with fail
              generalize hw3 : World.setCell _ _ _ = w3
              have HKC := Lib.hid (show Kept (fun i => i = wb) w2 w3 by rw [← hw3]; exact Kept.setIn (S := fun i => i = wb) (b := wb) rfl (Kept.refl _ _))
              have HW3 := Lib.hid (show WS w3 wb wt true from ⟨s2, HS2.out, HQ2.out, hz2, by rw [← hw3]; exact HB2.out.set_to rfl⟩)
              have HR3 := Lib.hid (HR2.out.kept HKC.out HNE.out)
              have HK3 := Lib.hid (HK2.out.then HKC.out (fun i _ h => h))
              clear hw3 HKC HW2 HR2 HK2 HS2 HQ2 HB2 c0 f0 lt0
              go_wp2_with fail
              refine (numW wb wt true xa 255 w3 HW3.out (by omega) hxa).mono ?_
              rintro e w4 ⟨rfl, hw, hk⟩
              have HW4 := Lib.hid hw
              have HR4 := Lib.hid (HR3.out.kept hk HNE.out)
              have HK4 := Lib.hid (HK3.out.then hk (fun i _ h => h))
              obtain ⟨va, hva⟩ : ∃ va, (numP 10 255 xa.data.toList).getD 0 = va := ⟨_, rfl⟩
              rw [hva]
              have Hva := Lib.hid hva
              clear hw hk HW3 HR3 HK3 hva
              go_wp2_with fail
              refine (numW wb wt _ xb 255 w4 HW4.out (by omega) hxb).mono ?_
              rintro e w5 ⟨rfl, hw, hk⟩
              have HW5 := Lib.hid hw
              have HR5 := Lib.hid (HR4.out.kept hk HNE.out)
              have HK5 := Lib.hid (HK4.out.then hk (fun i _ h => h))
              obtain ⟨vb, hvb⟩ : ∃ vb, (numP 10 255 xb.data.toList).getD 0 = vb := ⟨_, rfl⟩
              rw [hvb]
              have Hvb := Lib.hid hvb
              clear hw hk HW4 HR4 HK4 hvb
              have HE2 := Lib.hid (show memsR bad [] ws = memsR true (ms ++ [((va : Int), (vb : Int))]) wt by rw [HE1.out]; rfl)
              go_wp2_with (at_builtin; go_loud (refine wpList_append_rowN rfl (.tmp 37) (.tmp 45) 27 rfl w.heap.size 89 (.agg #[.int .i64 0, .int .i64 0]) 2 16 Tryz.underlying27 Tryz.infoM rfl (by decide) _ (mcs ms) rfl (some ⟨w5.heap.size, 0, none⟩) 1 1 [[.int .i64 (va : Int), .int .i64 (vb : Int)]] rfl rfl (RowN.alloc HR5.out _) (fun y hy => by rw [List.mem_singleton.1 hy]; rfl) (Src.blk (Blk.new _ _ _) rfl) (by simp [Value.oneCell']) ?a3 ?a4 ?a5 ?_))
              case a3 => rw [mcs_len]; simp; unfold maxLen; omega
              case a4 => rw [mcs_len]; simp; omega
              case a5 => first | omega | (have := HK5.out.size; simp; omega)
              intro v6 w6 hr6 hg6 _
              have HR6 := Lib.hid (show MemsIn w6 w.heap.size v6 (ms ++ [((va : Int), (vb : Int))]) by unfold MemsIn mcs at *; rw [List.map_append]; exact hr6)
              have HAL := Lib.hid ((Kept.refl (fun _ => False) w5).alloc (.cells #[.int .i64 (va : Int), .int .i64 (vb : Int)] 89))
              have HKA := Lib.hid (HK5.out.then HAL.out (fun i _ h => h.elim))
              have HW6 := Lib.hid ((HW5.out.kept HAL.out (fun h => h)).kept (Kept.of_grown (S := fun i => some i = (Value.slice LA ms.length lc).ownBlock) hg6 (fun i _ e => e)) (fun e => HNE.out _ e.symm rfl))
              have HK6 := Lib.hid (HKA.out.then (Kept.of_grown (S := fun i => some i = (Value.slice LA ms.length lc).ownBlock) hg6 (fun i _ e => e)) (fun i hi e => absurd (HR5.out.lt i e.symm).1 (by omega)))
              obtain ⟨VA, vc, hv6, -, -⟩ := hr6.shape
              have HL6 := Lib.hid (show lenOf v6 = (ms ++ [((va : Int), (vb : Int))]).length by rw [hv6]; simp [lenOf, mcs_len])
              clear hr6 hg6 HKA HAL hv6 HR5 HW5 HK5
              go_wp2_with fail
              go_roundw
              case rel => exact ⟨ms ++ [((va : Int), (vb : Int))], wt, true, by simp; omega, HL6.out, HR6, HW6, HK6, HE2⟩
              case measure => rw [HL6.out]; simp [lenOf]; omega
            | cons q r =>
              have hnil : ((q :: r).isEmpty) = false := rfl
              rw [hnil]
              have HA := Lib.hid ha
              have HB := Lib.hid hb
              clear ha hb
              go_wp2_with fail
              refine (numW wb wt false xa 255 w2 HW2.out (by omega) hxa).mono ?_
              rintro e w3 ⟨rfl, hw, hk⟩
              have HW3 := Lib.hid hw
              have HR3 := Lib.hid (HR2.out.kept hk HNE.out)
              have HK3 := Lib.hid (HK2.out.then hk (fun i _ h => h))
              obtain ⟨va, hva⟩ : ∃ va, (numP 10 255 xa.data.toList).getD 0 = va := ⟨_, rfl⟩
              rw [hva]
              have Hva := Lib.hid hva
              clear hw hk HW2 HR2 HK2 hva
              go_wp2_with fail
              refine (numW wb wt _ xb 255 w3 HW3.out (by omega) hxb).mono ?_
              rintro e w4 ⟨rfl, hw, hk⟩
              have HW4 := Lib.hid hw
              have HR4 := Lib.hid (HR3.out.kept hk HNE.out)
              have HK4 := Lib.hid (HK3.out.then hk (fun i _ h => h))
              obtain ⟨vb, hvb⟩ : ∃ vb, (numP 10 255 xb.data.toList).getD 0 = vb := ⟨_, rfl⟩
              rw [hvb]
              have Hvb := Lib.hid hvb
              clear hw hk HW3 HR3 HK3 hvb
              obtain ⟨b2, hb2⟩ : ∃ b2, ((false || (numP 10 255 xa.data.toList).isNone) || (numP 10 255 xb.data.toList).isNone) = b2 := ⟨_, rfl⟩
              have HE2 := Lib.hid (show memsR bad [] ws = memsR b2 (ms ++ [((va : Int), (vb : Int))]) wt by
                rw [HE.out, ← hb2, ← Hva.out, ← Hvb.out, HA.out, HB.out]
                cases h1 : numP 10 255 p0 with
                | none => rw [memsR_no (by unfold memP; rw [hp58]; simp only [h1])]; simp [memsR]
                | some a =>
                  cases h2 : numP 10 255 (joinC 58 (q :: r)) with
                  | none => rw [memsR_no (by unfold memP; rw [hp58]; simp only [h1, h2])]; simp [memsR]
                  | some b => rw [memsR_cons (m := ((a : Int), (b : Int))) (by unfold memP; rw [hp58]; simp only [h1, h2])]; rfl)
              rw [hb2] at HW4
              clear hb2 HE Hva Hvb HA HB hp58
              go_wp2_with (at_builtin; go_loud (refine wpList_append_rowN rfl (.tmp 37) (.tmp 45) 27 rfl w.heap.size 89 (.agg #[.int .i64 0, .int .i64 0]) 2 16 Tryz.underlying27 Tryz.infoM rfl (by decide) _ (mcs ms) rfl (some ⟨w4.heap.size, 0, none⟩) 1 1 [[.int .i64 (va : Int), .int .i64 (vb : Int)]] rfl rfl (RowN.alloc HR4.out _) (fun y hy => by rw [List.mem_singleton.1 hy]; rfl) (Src.blk (Blk.new _ _ _) rfl) (by simp [Value.oneCell']) ?a3 ?a4 ?a5 ?_))
              case a3 => rw [mcs_len]; simp; unfold maxLen; omega
              case a4 => rw [mcs_len]; simp; omega
              case a5 => first | omega | (have := HK4.out.size; simp; omega)
              intro v6 w6 hr6 hg6 _
              have HR6 := Lib.hid (show MemsIn w6 w.heap.size v6 (ms ++ [((va : Int), (vb : Int))]) by unfold MemsIn mcs at *; rw [List.map_append]; exact hr6)
              have HAL := Lib.hid ((Kept.refl (fun _ => False) w4).alloc (.cells #[.int .i64 (va : Int), .int .i64 (vb : Int)] 89))
              have HKA := Lib.hid (HK4.out.then HAL.out (fun i _ h => h.elim))
              have HW6 := Lib.hid ((HW4.out.kept HAL.out (fun h => h)).kept (Kept.of_grown (S := fun i => some i = (Value.slice LA ms.length lc).ownBlock) hg6 (fun i _ e => e)) (fun e => HNE.out _ e.symm rfl))
              have HK6 := Lib.hid (HKA.out.then (Kept.of_grown (S := fun i => some i = (Value.slice LA ms.length lc).ownBlock) hg6 (fun i _ e => e)) (fun i hi e => absurd (HR4.out.lt i e.symm).1 (by omega)))
              obtain ⟨VA, vc, hv6, -, -⟩ := hr6.shape
              have HL6 := Lib.hid (show lenOf v6 = (ms ++ [((va : Int), (vb : Int))]).length by rw [hv6]; simp [lenOf, mcs_len])
              clear hr6 hg6 HKA HAL hv6 HR4 HW4 HK4
              go_wp2_with fail
              go_roundw
              case rel => exact ⟨ms ++ [((va : Int), (vb : Int))], wt, b2, by simp; omega, HL6.out, HR6, HW6, HK6, HE2⟩
              case measure => rw [HL6.out]; simp [lenOf]; omega
end Go.Proofs.YthfdhggcnkgjfaaGreatDoor
