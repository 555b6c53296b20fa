/- The document's members. -/
import Derived.Test.YthfdhggcnkgjfaaGreatDoorYB
namespace Go.Proofs.YthfdhggcnkgjfaaGreatDoor
open Go.RowKit
set_option linter.unusedVariables false
set_option linter.unusedSimpArgs false
theorem memP_cut {l : List UInt8} {k : Nat} (h : (58 : UInt8) ∉ l.take k) (hk : k < l.length) (hc : l[k] = 58) : memP l = (match numP 10 255 (l.take k), numP 10 255 (l.drop (k + 1)) with
    | some a, some b => some ((a : Int), (b : Int))
    | _, _ => none) := by
  have e : parts 58 l = l.take k :: parts 58 (l.drop (k + 1)) := by
    have h1 : l = l.take k ++ 58 :: l.drop (k + 1) := by
      have := (List.take_append_drop k l).symm
      rw [List.drop_eq_getElem_cons hk, hc] at this
      exact this
    have h2 := parts_app (r := l.drop (k + 1)) h
    rw [← h1] at h2
    exact h2
  unfold memP
  rw [e]
  cases hp : parts 58 (l.drop (k + 1)) with
  | nil => exact absurd hp (parts_ne _ _)
  | cons q r =>
    simp only
    rw [← hp, join_parts]
    cases numP 10 255 (l.take k) <;> cases numP 10 255 (l.drop (k + 1)) <;> rfl
theorem memP_nocut {l : List UInt8} (h : (58 : UInt8) ∉ l) : memP l = none := by unfold memP; rw [parts_one h]
theorem memsR_over' {ms : List (Int × Int)} {w : List UInt8} {ws : List (List UInt8)} (h : 64 ≤ ms.length) : memsR false ms (w :: ws) = none := by
  unfold memsR
  simp only
  rw [if_neg (by simp; omega)]
def MemRet (w : World) (o : Option (List (Int × Int))) (e : Ending) (w' : World) : Prop := Below w.heap.size w w' ∧ match o with
  | none => e = .returned (.tuple #[.slice none 0 0, .bool false])
  | some ms => ∃ mv, e = .returned (.tuple #[mv, .bool true]) ∧ RowN w' w.heap.size 69 2 mv (mcs ms)
set_option maxRecDepth 20000 in
set_option maxHeartbeats 16000000 in
theorem refMembers (ws : List ByteArray) (Ad : Option Addr) (cap : Nat) (w : World) (hcap : ws.length ≤ cap) (hcm : cap ≤ maxLen) (hz : ∀ x ∈ ws, x.size ≤ 4000) (hS : SS w w.heap.size Ad ws) :
    Calls Tryz.prog 35 #[.slice Ad ws.length cap] w (MemRet w (memsR false [] (ws.map (·.data.toList)))) := by
  have hinf : (Tryz.prog.info? 69).map (fun i => (i.zero, i.size, i.bytes)) = some (some (.agg #[.int .i64 0, .int .i64 0]), 2, 16) := by kernel_rfl
  unfold maxLen at hcm
  have HSX := Lib.hid hS
  have HZ := Lib.hid hz
  clear hS hz
  go_enter Tryz.func35, Tryz.ntmps35
  go_wp2_with fail
  go_loopw [4, 5] (fun o n wr' => ∃ (i : Nat) (ms : List (Int × Int)), ms.length = i ∧ i ≤ 64 ∧ i ≤ ws.length ∧ n = .int .i64 (i : Int) ∧ Hid (RowN wr' w.heap.size 69 2 o (mcs ms)) ∧ Hid (Below w.heap.size w wr') ∧ Hid (memsR false [] (ws.map (·.data.toList)) = memsR false ms ((ws.drop i).map (·.data.toList)))) (fun _ n _ => ws.length - (intOf n).toNat)
  case atStart => exact ⟨0, [], rfl, by omega, by omega, rfl, Lib.hid (RowN.nil _ _ _ _), Lib.hid (Below.refl _ _), Lib.hid rfl⟩
  case round =>
    obtain ⟨i, ms, hil, hi64, hiw, rfl, HR, HB, HE⟩ := hrel
    have i0 : (0 : Int) ≤ (i : Int) := Int.natCast_nonneg _
    by_cases hiw2 : i < ws.length
    · have iI : (i : Int) < (ws.length : Int) := by omega
      have HDR := Lib.hid (show (ws.drop i).map (·.data.toList) = (ws[i]'hiw2).data.toList :: (ws.drop (i + 1)).map (·.data.toList) by rw [List.drop_eq_getElem_cons hiw2, List.map_cons])
      have hxz := HZ.out _ (List.getElem_mem hiw2)
      obtain ⟨b, off, hb, rfl, hat⟩ : ∃ b off, b < w.heap.size ∧ Ad = some ⟨b, off, none⟩ ∧ StrAt w b off ws := by
        rcases HSX.out with h | h
        · subst h; simp at hiw2
        · exact h
      have c0 : wr.cell? ⟨b, off + i, none⟩ = some (.string (ws[i]'hiw2)) := (HB.out.cell (p := ⟨b, off + i, none⟩) hb).trans (hat i hiw2)
      generalize (ws[i]'hiw2) = x at c0 HDR hxz
      clear hat
      go_upto_region 6 with fail
      go_loop [6] (fun n => ∃ k : Nat, k ≤ x.size ∧ n = .int .i64 (k : Int) ∧ Hid ((58 : UInt8) ∉ x.data.toList.take k)) (fun n => x.size - (intOf n).toNat)
      case atStart => exact ⟨0, by omega, rfl, Lib.hid (by simp)⟩
      case round =>
        obtain ⟨k, hk, rfl, HN⟩ := hrel
        have k0 : (0 : Int) ≤ (k : Int) := Int.natCast_nonneg _
        by_cases hkx : k < x.size
        · have kI : (k : Int) < (x.size : Int) := by omega
          have kE : ¬ (k : Int) = (x.size : Int) := by omega
          have kEb : ((k : Int) == (x.size : Int)) = false := by simpa using kE
          have hkl : k < x.data.toList.length := by rw [← Lib.size_eq]; exact hkx
          by_cases hc : ((x[k]'hkx).toNat : Int) = 58
          · have hcb : (((x[k]'hkx).toNat : Int) == 58) = true := by simpa using hc
            have HMC := Lib.hid (memP_cut HN.out hkl (by
              show x[k]'hkx = 58
              apply UInt8.toNat_inj.1
              have : ((58 : UInt8)).toNat = 58 := rfl
              omega))
            by_cases h64 : 64 ≤ i
            · have iG : (64 : Int) ≤ (i : Int) := by omega
              have HF := Lib.hid (show memsR false [] (ws.map (·.data.toList)) = none by
                rw [HE.out, HDR.out]
                exact memsR_over' (by omega))
              clear hc
              go_wp2_with fail
              go_ret2
              exact ⟨HB.out, by rw [HF.out]; try exact rfl⟩
            · have iG : ¬ (64 : Int) ≤ (i : Int) := by omega
              have hz1 : (x.extract 0 k).size ≤ 4000 := by rw [Lib.size_eq, Lib.extract_from_zero, List.length_take]; rw [Lib.size_eq] at hxz; omega
              have hz2 : (x.extract (k + 1) x.size).size ≤ 4000 := by rw [Lib.size_eq, Lib.extract_to_end, List.length_drop]; rw [Lib.size_eq] at hxz; omega
              have HN1 := Lib.hid (refNumber10 (x.extract 0 k) 255 (by omega) (by omega) wr)
              have HN2 := Lib.hid (refNumber10 (x.extract (k + 1) x.size) 255 (by omega) (by omega) wr)
              rw [Lib.extract_from_zero] at HN1
              rw [Lib.extract_to_end] at HN2
              have k1 : (k : Int) + 1 ≤ (x.size : Int) := by omega
              obtain ⟨o1, ho1⟩ : ∃ o1, numP 10 255 (x.data.toList.take k) = o1 := ⟨_, rfl⟩
              obtain ⟨o2, ho2⟩ : ∃ o2, numP 10 255 (x.data.toList.drop (k + 1)) = o2 := ⟨_, rfl⟩
              rw [ho1] at HN1 HMC
              rw [ho2] at HN2 HMC
              clear hc ho1 ho2
              go_wp2_with fail
              refine HN1.out.mono ?_
              rintro e w1 ⟨rfl, rfl⟩
              rw [numRet_eq]
              go_wp2_with fail
              refine HN2.out.mono ?_
              rintro e wq ⟨rfl, rfl⟩
              rw [numRet_eq]
              cases o1 with
              | none =>
                have HF := Lib.hid (show memsR false [] (ws.map (·.data.toList)) = none by
                  rw [HE.out, HDR.out]
                  exact memsR_no (by rw [HMC.out]))
                simp only [Option.isSome_none, Option.getD_none]
                go_wp2_with fail
                go_ret2
                exact ⟨HB.out, by rw [HF.out]; try exact rfl⟩
              | some va =>
                cases o2 with
                | none =>
                  have HF := Lib.hid (show memsR false [] (ws.map (·.data.toList)) = none by
                    rw [HE.out, HDR.out]
                    exact memsR_no (by rw [HMC.out]))
                  simp only [Option.isSome_none, Option.getD_none, Option.isSome_some, Option.getD_some]
                  go_wp2_with fail
                  go_ret2
                  exact ⟨HB.out, by rw [HF.out]; try exact rfl⟩
                | some vb =>
                  have HE2 := Lib.hid (show memsR false [] (ws.map (·.data.toList)) = memsR false (ms ++ [((va : Int), (vb : Int))]) ((ws.drop (i + 1)).map (·.data.toList)) by
                    rw [HE.out, HDR.out]
                    exact memsR_cons (by rw [HMC.out]))
                  simp only [Option.isSome_some, Option.getD_some]
                  clear HE HDR HMC HN HN1 HN2
                  go_wp2_with (at_builtin; go_loud (refine wpList_append_rowN rfl (.tmp 73) (.tmp 77) 37 rfl w.heap.size 69 (.agg #[.int .i64 0, .int .i64 0]) 2 16 Tryz.underlying37 hinf rfl (by decide) _ (mcs ms) rfl (some ⟨wq.heap.size, 0, none⟩) 1 1 [[.int .i64 (va : Int), .int .i64 (vb : Int)]] rfl rfl (RowN.alloc HR.out _) (fun y hy => by rw [List.mem_singleton.1 hy]; rfl) (Src.blk (Blk.new _ _ _) rfl) (by simp [Value.oneCell']) ?a3 ?a4 ?a5 ?_))
                  case a3 => rw [mcs_len]; show ms.length + 1 ≤ maxLen; unfold maxLen; omega
                  case a4 => rw [mcs_len]; show (ms.length + 1) * 16 ≤ _; omega
                  case a5 => first | omega | (have := HB.out.size; simp; omega)
                  intro v6 w6 hr6 hg6 _
                  have HR6 := Lib.hid (show RowN w6 w.heap.size 69 2 v6 (mcs (ms ++ [((va : Int), (vb : Int))])) by unfold mcs at *; rw [List.map_append]; exact hr6)
                  have HB6 := Lib.hid (show Below w.heap.size w w6 from (HB.out.trans (bel1.mono HB.out.size)).trans (below_grown hg6 (fun i hi => (HR.out.lt i hi).1) (by have := HB.out.size; simp; omega)))
                  have HS6 := Lib.hid (HSX.out.below (Nat.le_refl _) HB6.out)
                  clear hr6 hg6 HR HB
                  go_wp2_with fail
                  go_roundw
                  case rel => exact ⟨i + 1, ms ++ [((va : Int), (vb : Int))], by simp; omega, by omega, by omega, by go_num, HR6, HB6, HE2⟩
                  case measure => simp [intOf]; omega
          · have hcb : (((x[k]'hkx).toNat : Int) == 58) = false := by simpa using hc
            have HN2 := Lib.hid (show (58 : UInt8) ∉ x.data.toList.take (k + 1) by
              rw [List.take_succ_eq_append_getElem hkl]
              simp only [List.mem_append, List.mem_singleton, not_or]
              refine ⟨HN.out, fun e => hc ?_⟩
              have e' : (x[k]'hkx) = 58 := e.symm
              rw [e']; rfl)
            go_wp2_with fail
            go_round
            case rel => exact ⟨k + 1, by omega, by go_num, HN2⟩
            case measure => simp [intOf]; omega
        · have kI : ¬ (k : Int) < (x.size : Int) := by omega
          have hkE : k = x.size := by omega
          have kEb : ((k : Int) == (x.size : Int)) = true := by rw [hkE]; simp
          have HF := Lib.hid (show memsR false [] (ws.map (·.data.toList)) = none by
            rw [HE.out, HDR.out]
            refine memsR_no (memP_nocut ?_)
            have := HN.out
            rw [List.take_of_length_le (by rw [← Lib.size_eq]; omega)] at this
            exact this)
          go_wp2_with fail
          go_ret2
          exact ⟨HB.out, by rw [HF.out]; try exact rfl⟩
    · have iI : ¬ (i : Int) < (ws.length : Int) := by omega
      have HF := Lib.hid (show memsR false [] (ws.map (·.data.toList)) = if ms.length ≤ 64 then some ms else none by
        rw [HE.out, List.drop_eq_nil_iff.2 (by omega)]
        unfold memsR
        simp [memsP])
      have hm : ms.length ≤ 64 := by omega
      go_wp2_with fail
      go_ret2
      exact ⟨HB.out, by rw [HF.out, if_pos hm]; exact ⟨_, rfl, HR.out⟩⟩
end Go.Proofs.YthfdhggcnkgjfaaGreatDoor
