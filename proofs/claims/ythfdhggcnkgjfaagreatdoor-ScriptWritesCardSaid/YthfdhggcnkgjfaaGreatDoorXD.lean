/- The document's Parse of addresses at any text. -/
import Derived.Test.YthfdhggcnkgjfaaGreatDoorXC
import Derived.Test.YthfdhggcnkgjfaaGreatDoorWE
namespace Go.Proofs.YthfdhggcnkgjfaaGreatDoor
open Go.RowKit
set_option linter.unusedVariables false
set_option linter.unusedSimpArgs false
set_option maxRecDepth 20000 in
set_option maxHeartbeats 16000000 in
theorem refParseA (s : ByteArray) (hz : s.size ≤ 4000) (w : World) : Calls Tryz.prog 36 #[.string s] w fun e w' => e = .returned (.tuple #[adrV (addrP s.data.toList), .bool (addrP s.data.toList).isSome]) ∧ Below w.heap.size w w' := by
  have h5 : (Tryz.prog.info? 5).map (fun i => (i.zero, i.size, i.bytes)) = some (some (.int .u8 0), 1, 1) := by kernel_rfl
  have HAR := Lib.hid (addrR_eq s.data.toList).symm
  have HS46 := Lib.hid (fun W => split46 s hz W)
  have HS58 := Lib.hid (fun W => split58 s hz W)
  go_enter Tryz.func36, Tryz.ntmps36
  go_upto_region 1 with fail
  obtain ⟨w1, hw1⟩ : ∃ w1 : World, w1 = w.alloc (.cells #[.bool false, .int .u64 0, .int .u64 0] 25) := ⟨_, rfl⟩
  have HR1 := Lib.hid (show Blk w1 w.heap.size 25 #[.bool false, .int .u64 0, .int .u64 0] by rw [hw1]; exact Blk.new _ _ _)
  have HK1 := Lib.hid (show Kept (fun _ => False) w w1 by rw [hw1]; exact (Kept.refl _ _).alloc _)
  rw [← hw1]
  clear hw1
  obtain ⟨rb, hrb⟩ : ∃ rb, w.heap.size = rb := ⟨_, rfl⟩
  have HRB := Lib.hid hrb
  rw [hrb] at HR1 ⊢
  clear hrb
  go_wp2_with fail
  refine (HS46.out w1).mono ?_
  rintro e w2 ⟨v, xs, rfl, hrow, hxp, hb2⟩
  have HR2 := Lib.hid (HR1.out.below hb2 HR1.out.lt)
  have HK2 := Lib.hid (HK1.out.trans (Kept.ofB (S := fun _ => False) hb2))
  have hxl : xs.length = (parts 46 s.data.toList).length := by rw [← hxp, List.length_map]
  clear hb2
  by_cases h4 : (parts 46 s.data.toList).length = 4
  · have HADR := Lib.hid (show addrP s.data.toList = (numAll 10 255 (parts 46 s.data.toList)).map adr4 by rw [HAR.out]; unfold addrR; rw [if_pos h4])
    have hlen : xs.length = 4 := by rw [hxl, h4]
    obtain ⟨w3, hw3⟩ : ∃ w3 : World, w3 = w2 := ⟨_, rfl⟩
    subst hw3
    have HR3 := HR2
    have HK3 := HK2
    obtain ⟨A, c, rfl, hc1, hc2⟩ := hrow.shape
    rw [List.length_map, hlen] at hc1
    have HXL := Lib.hid hlen
    have HXP := Lib.hid hxp
    obtain ⟨P, hP⟩ : ∃ P, parts 46 s.data.toList = P := ⟨_, rfl⟩
    have HPL := Lib.hid (show P.length = 4 by rw [← hP]; exact h4)
    have HPZ := Lib.hid (show ∀ p ∈ P, p.length ≤ 4000 by
      rw [← hP]
      intro p hp
      have := part_len 46 hp
      rw [join_parts, ← Lib.size_eq] at this
      omega)
    rw [hP] at HXP HADR
    obtain ⟨g, c', hve, hgb, hgl, hce⟩ := hrow.at (i := 0) (by rw [List.length_map, hlen]; omega)
    injection hve with e1 e2 e3
    subst e1
    have HGL := Lib.hid hgl
    have HCE := Lib.hid (show ∀ k (h : k < xs.length), w3.cell? ⟨g, k, none⟩ = some (.string xs[k]) from fun k h => by rw [hce k (by simpa using h)]; simp)
    rw [List.length_map, hlen]
    clear hrow hxp hP e2 e3 hgb hgl hce hlen
    go_upto_region 7 with fail
    go_wp2_with fail
    go_loopw [8, 9] (fun bv i wr' => ∃ (k : Nat) (ns : List Nat), k ≤ 4 ∧ i = .int .i64 (k : Int) ∧ Hid (Row wr' w3.heap.size 5 bv (bcs (byt 1 ns))) ∧ Hid (numAll 10 255 (P.take k) = some ns) ∧ Hid (Below w3.heap.size w3 wr')) (fun _ i _ => (4 - intOf i).toNat)
    case atStart => exact ⟨0, [], by omega, rfl, Lib.hid (Row.nil _ _ _), Lib.hid rfl, Lib.hid (Below.refl _ _)⟩
    case round =>
      obtain ⟨k, ns, hk, rfl, HBV, HNS, HWR⟩ := hrel
      have k0 : (0 : Int) ≤ (k : Int) := Int.natCast_nonneg _
      have hw3r : w3.heap.size ≤ wr.heap.size := HWR.out.size
      have HNL0 := Lib.hid (show ns.length = k by
        have e := (numAll_le HNS.out).1
        rw [e, List.length_take, HPL.out]; omega)
      obtain ⟨BA, bc, hbe, hbc1, hbc2⟩ := HBV.out.shape
      obtain ⟨bn, hbn⟩ : ∃ bn, (byt 1 ns).length = bn := ⟨_, rfl⟩
      have HBN := Lib.hid (show bn = 1 * k by rw [← hbn, byt_len, HNL0.out])
      rw [bcs_length, hbn] at hbe hbc1
      have HBL := Lib.hid hbn
      clear hbn
      subst hbe
      have HKR := Lib.hid (show Kept (fun _ => False) w wr from HK3.out.trans (Kept.ofB HWR.out))
      have HRR := Lib.hid (HR3.out.below HWR.out HR3.out.lt)
      by_cases hk8 : k < 4
      · have kI : (k : Int) < 4 := by omega
        have hkx : k < xs.length := by rw [HXL.out]; exact hk8
        have hkP : k < P.length := by rw [HPL.out]; exact hk8
        have c0 : wr.cell? ⟨g, k, none⟩ = some (.string xs[k]) := (HWR.out.cell (p := ⟨g, k, none⟩) HGL.out).trans (HCE.out k hkx)
        have hck : xs[k].data.toList = P[k] := by
          have := HXP.out
          subst this
          simp
        have hcz : xs[k].size ≤ 4000 := by rw [Lib.size_eq, hck]; exact HPZ.out _ (List.getElem_mem hkP)
        have HNUM := Lib.hid (refNumber10 xs[k] 255 (by omega) (by omega) wr)
        rw [hck] at HNUM
        have HTK := Lib.hid (show P.take (k + 1) = P.take k ++ [P[k]] from List.take_succ_eq_append_getElem hkP)
        have HPK := Lib.hid (show P = P.take k ++ P[k] :: P.drop (k + 1) by rw [← List.drop_eq_getElem_cons hkP, List.take_append_drop])
        generalize xs[k] = ck at c0 HNUM
        obtain ⟨pk, hpk⟩ : ∃ pk, P[k] = pk := ⟨_, rfl⟩
        rw [hpk] at HNUM HTK HPK
        clear hck hcz hpk
        go_wp2_with fail
        refine HNUM.out.mono ?_
        rintro e w4 ⟨rfl, rfl⟩
        cases hn : numP 10 255 pk with
        | none =>
          have HF := Lib.hid (show addrP s.data.toList = none by rw [HADR.out, HPK.out, numAll_none hn]; rfl)
          clear hn
          unfold NumRet
          go_wp2_with (show wpList _ _ _ ((⟨none, .store 25 (.tmp 2) _, _, _, _, none⟩ : Oper) :: _) _ _; refine wpList_store_mid rfl 25 (.tmp 2) _ rfl rb 0 #[.bool false, .int .u64 0, .int .u64 0] rfl rfl (HRR.out.there rfl) (by kernel_rfl) (by simp [Value.oneCell']) ?_)
          generalize hw9 : (World.setCells _ _ _ _) = w9
          have HK9 := Lib.hid (show Kept (fun i => i = rb) w4 w9 by rw [← hw9]; exact Kept.setCells (S := fun i => i = rb) rfl _ _ (Kept.refl _ _))
          have HR9 := Lib.hid (show Blk w9 rb 25 #[.bool false, .int .u64 0, .int .u64 0] by rw [← hw9]; exact HRR.out.setAll #[.bool false, .int .u64 0, .int .u64 0] rfl)
          clear hw9
          refine bodyPost_ret (results_blk_tmp (P := Tryz.prog) (show Tryz.f36.results = _ from rfl) _ _ rb 25 #[.bool false, .int .u64 0, .int .u64 0] _ rfl HR9.out Tryz.underlying25 rfl (by kernel_rfl)) rfl ⟨?_, ?_⟩
          · rw [HF.out]; rfl
          · exact (HKR.out.below (Nat.le_refl _) (fun i h => h.elim)).trans (HK9.out.below HKR.out.size (fun i e => by have := HRB.out; omega))
        | some n =>
          have hnm := numP_le hn
          have HN := Lib.hid (show numAll 10 255 (P.take (k + 1)) = some (ns ++ [n]) by rw [HTK.out, numAll_snoc HNS.out, hn]; rfl)
          have n0 : (0 : Int) ≤ (n : Int) := Int.natCast_nonneg _
          have n1 : (n : Int) ≤ 255 := by omega
          clear hn
          unfold NumRet
          go_wp2_with fail
          refine (refBytes_any 1 (n : Int) 1 w4 (by omega) (by omega) (by omega)).mono ?_
          rintro e w5 ⟨rfl, ho5, hb5⟩
          have HO5 := Lib.hid ho5
          have HBV5 := Lib.hid (HBV.out.belowAll hb5)
          have HW5 := Lib.hid (HWR.out.trans (hb5.mono hw3r))
          have hw35 : w3.heap.size ≤ w5.heap.size := HW5.out.size
          clear ho5 hb5
          go_wp2_with (at_builtin; refine wpList_append_row rfl (.tmp 42) (.tmp 46) 30 rfl w3.heap.size 5 (.int .u8 0) 1 Tryz.underlying30 h5 rfl _ (bcs (byt 1 ns)) rfl _ 1 1 (bcs (digs 1 (n : Int))) rfl (by rw [bcs_length, digs_length]) HBV5.out HO5.out.bs.src (bcs_one _) ?a3 ?a4 hw35 ?_)
          case a3 => rw [bcs_length, bcs_length, digs_length, HBL.out, HBN.out]; unfold maxLen; omega
          case a4 => rw [bcs_length, bcs_length, digs_length, HBL.out, HBN.out]; omega
          intro v6 w6 hr6 hg6 _
          have HR6 := Lib.hid (show Row w6 w3.heap.size 5 v6 (bcs (byt 1 (ns ++ [n]))) by rw [byt_snoc, bcs_append]; exact hr6)
          have HW6 := Lib.hid (show Below w3.heap.size w3 w6 from HW5.out.trans (below_grown hg6 (fun i hi => (HBV5.out.lt i hi).1) hw35))
          clear hr6 hg6
          go_wp2_with fail
          go_roundw
          case rel => exact ⟨k + 1, ns ++ [n], by omega, by go_num, HR6, HN, HW6⟩
          case measure => simp [intOf]; omega
      · have kI : ¬ (k : Int) < 4 := by omega
        have hkE : k = 4 := by omega
        subst hkE
        have HNL := HNL0
        have HBS := Lib.hid (show BS wr wr.heap.size BA (byt 1 ns) by
          obtain ⟨A', c', e, _, _, h⟩ := HBV.out.byt
          injection e with e1 e2 e3
          subst e1
          exact h)
        have hbn4 : bn = 4 := HBN.out
        subst hbn4
        have HF := Lib.hid (show addrP s.data.toList = some (adr4 ns) by
          have e := HNS.out
          rw [List.take_of_length_le (by rw [HPL.out]; omega)] at e
          rw [HADR.out, e]; rfl)
        have HVAL := Lib.hid (show (.agg #[.bool false, .int .u64 0, .int .u64 (num (byt 1 ns))] : Value) = adrV (some (adr4 ns)) by
          have e := HNS.out
          unfold adrV adr4
          rw [num_byt1 (numAll_le e).2]; rfl)
        go_wp2_with fail
        refine (refOf4 BA bc (byt 1 ns) wr (by rw [byt_len, HNL.out]) HBS.out).mono ?_
        rintro e w4 ⟨rfl, hb4⟩
        have HR4 := Lib.hid (HRR.out.below hb4 HRR.out.lt)
        have HK4 := Lib.hid (HKR.out.trans (Kept.ofB (S := fun _ => False) hb4))
        clear hb4
        go_wp2_with (show wpList _ _ _ ((⟨none, .store 25 (.tmp 2) _, _, _, _, none⟩ : Oper) :: _) _ _; refine wpList_store_mid rfl 25 (.tmp 2) _ rfl rb 0 #[.bool false, .int .u64 0, .int .u64 (num (byt 1 ns))] rfl rfl (HR4.out.there rfl) (by kernel_rfl) (by simp [Value.oneCell']) ?_)
        generalize hw9 : (World.setCells _ _ _ _) = w9
        have HK9 := Lib.hid (show Kept (fun i => i = rb) w4 w9 by rw [← hw9]; exact Kept.setCells (S := fun i => i = rb) rfl _ _ (Kept.refl _ _))
        have HR9 := Lib.hid (show Blk w9 rb 25 #[.bool false, .int .u64 0, .int .u64 (num (byt 1 ns))] by rw [← hw9]; exact HR4.out.setAll #[.bool false, .int .u64 0, .int .u64 (num (byt 1 ns))] rfl)
        clear hw9
        refine bodyPost_ret (results_blk_tmp (P := Tryz.prog) (show Tryz.f36.results = _ from rfl) _ _ rb 25 #[.bool false, .int .u64 0, .int .u64 (num (byt 1 ns))] _ rfl HR9.out Tryz.underlying25 rfl (by kernel_rfl)) rfl ⟨?_, ?_⟩
        · rw [HF.out, ← HVAL.out]; rfl
        · exact (HK4.out.below (Nat.le_refl _) (fun i h => h.elim)).trans (HK9.out.below HK4.out.size (fun i e => by have := HRB.out; omega))
  · obtain ⟨A0, c0, rfl, -, -⟩ := hrow.shape
    have hx4 : ¬ (xs.length : Int) = 4 := by rw [hxl]; omega
    have hx4b : ((xs.length : Int) == 4) = false := by simpa using hx4
    clear hrow hxp hxl
    go_wp2_with fail
    refine (HS58.out w2).mono ?_
    rintro e w3 ⟨v, xs, rfl, hrow, hxp, hb3⟩
    have HR3 := Lib.hid (HR2.out.below hb3 HR2.out.lt)
    have HK3 := Lib.hid (HK2.out.trans (Kept.ofB (S := fun _ => False) hb3))
    have hxl : xs.length = (parts 58 s.data.toList).length := by rw [← hxp, List.length_map]
    clear hb3
    by_cases h8 : (parts 58 s.data.toList).length = 8
    · have HADR := Lib.hid (show addrP s.data.toList = (numAll 16 65535 (parts 58 s.data.toList)).map adr6 by rw [HAR.out]; unfold addrR; rw [if_neg h4]; unfold p6; rw [if_pos h8])
      have hlen : xs.length = 8 := by rw [hxl, h8]
      obtain ⟨A, c, rfl, hc1, hc2⟩ := hrow.shape
      rw [List.length_map, hlen] at hc1
      have HXL := Lib.hid hlen
      have HXP := Lib.hid hxp
      obtain ⟨P, hP⟩ : ∃ P, parts 58 s.data.toList = P := ⟨_, rfl⟩
      have HPL := Lib.hid (show P.length = 8 by rw [← hP]; exact h8)
      have HPZ := Lib.hid (show ∀ p ∈ P, p.length ≤ 4000 by
        rw [← hP]
        intro p hp
        have := part_len 58 hp
        rw [join_parts, ← Lib.size_eq] at this
        omega)
      rw [hP] at HXP HADR
      obtain ⟨g, c', hve, hgb, hgl, hce⟩ := hrow.at (i := 0) (by rw [List.length_map, hlen]; omega)
      injection hve with e1 e2 e3
      subst e1
      have HGL := Lib.hid hgl
      have HCE := Lib.hid (show ∀ k (h : k < xs.length), w3.cell? ⟨g, k, none⟩ = some (.string xs[k]) from fun k h => by rw [hce k (by simpa using h)]; simp)
      rw [List.length_map, hlen]
      clear hrow hxp hP e2 e3 hgb hgl hce hlen
      go_upto_region 7 with fail
      go_wp2_with fail
      go_loopw [8, 9] (fun bv i wr' => ∃ (k : Nat) (ns : List Nat), k ≤ 8 ∧ i = .int .i64 (k : Int) ∧ Hid (Row wr' w3.heap.size 5 bv (bcs (byt 2 ns))) ∧ Hid (numAll 16 65535 (P.take k) = some ns) ∧ Hid (Below w3.heap.size w3 wr')) (fun _ i _ => (8 - intOf i).toNat)
      case atStart => exact ⟨0, [], by omega, rfl, Lib.hid (Row.nil _ _ _), Lib.hid rfl, Lib.hid (Below.refl _ _)⟩
      case round =>
        obtain ⟨k, ns, hk, rfl, HBV, HNS, HWR⟩ := hrel
        have k0 : (0 : Int) ≤ (k : Int) := Int.natCast_nonneg _
        have hw3r : w3.heap.size ≤ wr.heap.size := HWR.out.size
        have HNL0 := Lib.hid (show ns.length = k by
          have e := (numAll_le HNS.out).1
          rw [e, List.length_take, HPL.out]; omega)
        obtain ⟨BA, bc, hbe, hbc1, hbc2⟩ := HBV.out.shape
        obtain ⟨bn, hbn⟩ : ∃ bn, (byt 2 ns).length = bn := ⟨_, rfl⟩
        have HBN := Lib.hid (show bn = 2 * k by rw [← hbn, byt_len, HNL0.out])
        rw [bcs_length, hbn] at hbe hbc1
        have HBL := Lib.hid hbn
        clear hbn
        subst hbe
        have HKR := Lib.hid (show Kept (fun _ => False) w wr from HK3.out.trans (Kept.ofB HWR.out))
        have HRR := Lib.hid (HR3.out.below HWR.out HR3.out.lt)
        by_cases hk8 : k < 8
        · have kI : (k : Int) < 8 := by omega
          have hkx : k < xs.length := by rw [HXL.out]; exact hk8
          have hkP : k < P.length := by rw [HPL.out]; exact hk8
          have c0 : wr.cell? ⟨g, k, none⟩ = some (.string xs[k]) := (HWR.out.cell (p := ⟨g, k, none⟩) HGL.out).trans (HCE.out k hkx)
          have hck : xs[k].data.toList = P[k] := by
            have := HXP.out
            subst this
            simp
          have hcz : xs[k].size ≤ 4000 := by rw [Lib.size_eq, hck]; exact HPZ.out _ (List.getElem_mem hkP)
          have HNUM := Lib.hid (refNumber16 xs[k] 65535 (by omega) (by omega) wr)
          rw [hck] at HNUM
          have HTK := Lib.hid (show P.take (k + 1) = P.take k ++ [P[k]] from List.take_succ_eq_append_getElem hkP)
          have HPK := Lib.hid (show P = P.take k ++ P[k] :: P.drop (k + 1) by rw [← List.drop_eq_getElem_cons hkP, List.take_append_drop])
          generalize xs[k] = ck at c0 HNUM
          obtain ⟨pk, hpk⟩ : ∃ pk, P[k] = pk := ⟨_, rfl⟩
          rw [hpk] at HNUM HTK HPK
          clear hck hcz hpk
          go_wp2_with fail
          refine HNUM.out.mono ?_
          rintro e w4 ⟨rfl, rfl⟩
          cases hn : numP 16 65535 pk with
          | none =>
            have HF := Lib.hid (show addrP s.data.toList = none by rw [HADR.out, HPK.out, numAll_none hn]; rfl)
            clear hn
            unfold NumRet
            go_wp2_with (show wpList _ _ _ ((⟨none, .store 25 (.tmp 2) _, _, _, _, none⟩ : Oper) :: _) _ _; refine wpList_store_mid rfl 25 (.tmp 2) _ rfl rb 0 #[.bool false, .int .u64 0, .int .u64 0] rfl rfl (HRR.out.there rfl) (by kernel_rfl) (by simp [Value.oneCell']) ?_)
            generalize hw9 : (World.setCells _ _ _ _) = w9
            have HK9 := Lib.hid (show Kept (fun i => i = rb) w4 w9 by rw [← hw9]; exact Kept.setCells (S := fun i => i = rb) rfl _ _ (Kept.refl _ _))
            have HR9 := Lib.hid (show Blk w9 rb 25 #[.bool false, .int .u64 0, .int .u64 0] by rw [← hw9]; exact HRR.out.setAll #[.bool false, .int .u64 0, .int .u64 0] rfl)
            clear hw9
            refine bodyPost_ret (results_blk_tmp (P := Tryz.prog) (show Tryz.f36.results = _ from rfl) _ _ rb 25 #[.bool false, .int .u64 0, .int .u64 0] _ rfl HR9.out Tryz.underlying25 rfl (by kernel_rfl)) rfl ⟨?_, ?_⟩
            · rw [HF.out]; rfl
            · exact (HKR.out.below (Nat.le_refl _) (fun i h => h.elim)).trans (HK9.out.below HKR.out.size (fun i e => by have := HRB.out; omega))
          | some n =>
            have hnm := numP_le hn
            have HN := Lib.hid (show numAll 16 65535 (P.take (k + 1)) = some (ns ++ [n]) by rw [HTK.out, numAll_snoc HNS.out, hn]; rfl)
            have n0 : (0 : Int) ≤ (n : Int) := Int.natCast_nonneg _
            have n1 : (n : Int) ≤ 65535 := by omega
            clear hn
            unfold NumRet
            go_wp2_with fail
            refine (refBytes_any 2 (n : Int) 2 w4 (by omega) (by omega) (by omega)).mono ?_
            rintro e w5 ⟨rfl, ho5, hb5⟩
            have HO5 := Lib.hid ho5
            have HBV5 := Lib.hid (HBV.out.belowAll hb5)
            have HW5 := Lib.hid (HWR.out.trans (hb5.mono hw3r))
            have hw35 : w3.heap.size ≤ w5.heap.size := HW5.out.size
            clear ho5 hb5
            go_wp2_with (at_builtin; refine wpList_append_row rfl (.tmp 42) (.tmp 46) 30 rfl w3.heap.size 5 (.int .u8 0) 1 Tryz.underlying30 h5 rfl _ (bcs (byt 2 ns)) rfl _ 2 2 (bcs (digs 2 (n : Int))) rfl (by rw [bcs_length, digs_length]) HBV5.out HO5.out.bs.src (bcs_one _) ?a3 ?a4 hw35 ?_)
            case a3 => rw [bcs_length, bcs_length, digs_length, HBL.out, HBN.out]; unfold maxLen; omega
            case a4 => rw [bcs_length, bcs_length, digs_length, HBL.out, HBN.out]; omega
            intro v6 w6 hr6 hg6 _
            have HR6 := Lib.hid (show Row w6 w3.heap.size 5 v6 (bcs (byt 2 (ns ++ [n]))) by rw [byt_snoc, bcs_append]; exact hr6)
            have HW6 := Lib.hid (show Below w3.heap.size w3 w6 from HW5.out.trans (below_grown hg6 (fun i hi => (HBV5.out.lt i hi).1) hw35))
            clear hr6 hg6
            go_wp2_with fail
            go_roundw
            case rel => exact ⟨k + 1, ns ++ [n], by omega, by go_num, HR6, HN, HW6⟩
            case measure => simp [intOf]; omega
        · have kI : ¬ (k : Int) < 8 := by omega
          have hkE : k = 8 := by omega
          subst hkE
          have HNL := HNL0
          have HBS := Lib.hid (show BS wr wr.heap.size BA (byt 2 ns) by
            obtain ⟨A', c', e, _, _, h⟩ := HBV.out.byt
            injection e with e1 e2 e3
            subst e1
            exact h)
          have hbn4 : bn = 16 := HBN.out
          subst hbn4
          have HF := Lib.hid (show addrP s.data.toList = some (adr6 ns) by
            have e := HNS.out
            rw [List.take_of_length_le (by rw [HPL.out]; omega)] at e
            rw [HADR.out, e]; rfl)
          have HVAL := Lib.hid (show (.agg #[.bool true, .int .u64 (num ((byt 2 ns).take 8)), .int .u64 (num ((byt 2 ns).drop 8))] : Value) = adrV (some (adr6 ns)) by
            have e := HNS.out
            unfold adrV adr6
            rw [(of6 (by rw [HNL.out]) (numAll_le e).2).1, (of6 (by rw [HNL.out]) (numAll_le e).2).2])
          go_wp2_with fail
          refine (refOf16 BA bc (byt 2 ns) wr (by rw [byt_len, HNL.out]) hbc1 hbc2 HBS.out).mono ?_
          rintro e w4 ⟨rfl, hb4⟩
          have HR4 := Lib.hid (HRR.out.below hb4 HRR.out.lt)
          have HK4 := Lib.hid (HKR.out.trans (Kept.ofB (S := fun _ => False) hb4))
          clear hb4
          go_wp2_with (show wpList _ _ _ ((⟨none, .store 25 (.tmp 2) _, _, _, _, none⟩ : Oper) :: _) _ _; refine wpList_store_mid rfl 25 (.tmp 2) _ rfl rb 0 #[.bool true, .int .u64 (num ((byt 2 ns).take 8)), .int .u64 (num ((byt 2 ns).drop 8))] rfl rfl (HR4.out.there rfl) (by kernel_rfl) (by simp [Value.oneCell']) ?_)
          generalize hw9 : (World.setCells _ _ _ _) = w9
          have HK9 := Lib.hid (show Kept (fun i => i = rb) w4 w9 by rw [← hw9]; exact Kept.setCells (S := fun i => i = rb) rfl _ _ (Kept.refl _ _))
          have HR9 := Lib.hid (show Blk w9 rb 25 #[.bool true, .int .u64 (num ((byt 2 ns).take 8)), .int .u64 (num ((byt 2 ns).drop 8))] by rw [← hw9]; exact HR4.out.setAll #[.bool true, .int .u64 (num ((byt 2 ns).take 8)), .int .u64 (num ((byt 2 ns).drop 8))] rfl)
          clear hw9
          refine bodyPost_ret (results_blk_tmp (P := Tryz.prog) (show Tryz.f36.results = _ from rfl) _ _ rb 25 #[.bool true, .int .u64 (num ((byt 2 ns).take 8)), .int .u64 (num ((byt 2 ns).drop 8))] _ rfl HR9.out Tryz.underlying25 rfl (by kernel_rfl)) rfl ⟨?_, ?_⟩
          · rw [HF.out, ← HVAL.out]; rfl
          · exact (HK4.out.below (Nat.le_refl _) (fun i h => h.elim)).trans (HK9.out.below HK4.out.size (fun i e => by have := HRB.out; omega))
    · have HF := Lib.hid (show addrP s.data.toList = none by rw [HAR.out]; unfold addrR; rw [if_neg h4]; unfold p6; rw [if_neg h8])
      obtain ⟨A1, c1, rfl, -, -⟩ := hrow.shape
      have hx8 : ¬ (xs.length : Int) = 8 := by rw [hxl]; omega
      have hx8b : ((xs.length : Int) == 8) = false := by simpa using hx8
      clear hrow hxp hxl
      go_wp2_with (show wpList _ _ _ ((⟨none, .store 25 (.tmp 2) _, _, _, _, none⟩ : Oper) :: _) _ _; refine wpList_store_mid rfl 25 (.tmp 2) _ rfl rb 0 #[.bool false, .int .u64 0, .int .u64 0] rfl rfl (HR3.out.there rfl) (by kernel_rfl) (by simp [Value.oneCell']) ?_)
      generalize hw9 : (World.setCells _ _ _ _) = w9
      have HK9 := Lib.hid (show Kept (fun i => i = rb) w3 w9 by rw [← hw9]; exact Kept.setCells (S := fun i => i = rb) rfl _ _ (Kept.refl _ _))
      have HR9 := Lib.hid (show Blk w9 rb 25 #[.bool false, .int .u64 0, .int .u64 0] by rw [← hw9]; exact HR3.out.setAll #[.bool false, .int .u64 0, .int .u64 0] rfl)
      clear hw9
      refine bodyPost_ret (results_blk_tmp (P := Tryz.prog) (show Tryz.f36.results = _ from rfl) _ _ rb 25 #[.bool false, .int .u64 0, .int .u64 0] _ rfl HR9.out Tryz.underlying25 rfl (by kernel_rfl)) rfl ⟨?_, ?_⟩
      · rw [HF.out]; rfl
      · exact (HK3.out.below (Nat.le_refl _) (fun i h => h.elim)).trans (HK9.out.below HK3.out.size (fun i e => by have := HRB.out; omega))
end Go.Proofs.YthfdhggcnkgjfaaGreatDoor
/- The document's limits; its Field. -/
namespace Go.Proofs.YthfdhggcnkgjfaaGreatDoor
open Go.RowKit
set_option linter.unusedVariables false
theorem limitP (w : World) : Calls Tryz.prog 39 #[.int .u8 80] w fun e w' => e = .returned (.int .i64 65535) ∧ w' = w := by
  go_enter Tryz.func39, Tryz.ntmps39
  go_wp2_with fail
  go_ret
  exact ⟨rfl, rfl⟩
end Go.Proofs.YthfdhggcnkgjfaaGreatDoor
