/- The line's addresses. -/
import Derived.Test.YthfdhggcnkgjfaaGreatDoorWD
namespace Go.Proofs.YthfdhggcnkgjfaaGreatDoor
open Go.RowKit
set_option linter.unusedVariables false
set_option linter.unusedSimpArgs false
def addrBad (ws : List (List UInt8)) : Bool := ws.isEmpty || (addrP (ws.headD [])).isNone
set_option maxRecDepth 20000 in
set_option maxHeartbeats 8000000 in
theorem addrW (wb : Nat) (ws : List (List UInt8)) (bad : Bool) (w : World) (h : WS w wb ws bad) :
    Calls Tryz.prog 52 #[.pointer (some ⟨wb, 0, none⟩)] w fun e w' => e = .returned (adrV (addrP (ws.headD []))) ∧ WS w' wb ws.tail (bad || addrBad ws) ∧ Kept (fun i => i = wb) w w' := by
  have HW0 := Lib.hid h
  clear h
  go_enter Tryz.func52, Tryz.ntmps52
  go_upto_region 1 with fail
  obtain ⟨w1, hw1⟩ : ∃ w1 : World, w1 = w.alloc (.cells #[.bool false, .int .u64 0, .int .u64 0] 25) := ⟨_, rfl⟩
  have HR1 := Lib.hid (show Blk w1 w.heap.size 25 #[.bool false, .int .u64 0, .int .u64 0] by rw [hw1]; exact Blk.new _ _ _)
  have HK1 := Lib.hid (show Kept (fun _ => False) w w1 by rw [hw1]; exact (Kept.refl _ _).alloc _)
  rw [← hw1]
  clear hw1
  obtain ⟨rb, hrb⟩ : ∃ rb, w.heap.size = rb := ⟨_, rfl⟩
  have HRB := Lib.hid hrb
  rw [hrb] at HR1 ⊢
  clear hrb
  have HNE := Lib.hid (show rb ≠ wb from fun e => by have := HW0.out.lt; have := HRB.out; omega)
  have HN := Lib.hid (next_any wb ws bad w1 (HW0.out.kept HK1.out (fun h => h)))
  go_wp2_with fail
  refine HN.out.mono ?_
  rintro e w2 ⟨⟨p, rfl, hp, hps⟩, hw2, hk2⟩
  have HR2 := Lib.hid (HR1.out.kept hk2 HNE.out)
  have HK2 := Lib.hid (show Kept (fun i => i = wb) w w2 from (HK1.out.mono (fun _ _ h => h.elim)).then hk2 (fun i _ h => h))
  have HW2 := Lib.hid hw2
  have HPA := Lib.hid (parseA p hps w2)
  rw [hp] at HPA
  clear hw2 hk2 hp HN
  go_wp2_with fail
  refine HPA.out.mono ?_
  rintro e w3 ⟨rfl, hb3⟩
  have HW3 := Lib.hid (HW2.out.kept (Kept.ofB (S := fun _ => False) hb3) (fun h => h))
  have HR3 := Lib.hid (HR2.out.kept (Kept.ofB (S := fun _ => False) hb3) (fun h => h))
  have HK3 := Lib.hid (HK2.out.then (Kept.ofB (S := fun _ => False) hb3) (fun i _ h => h.elim))
  clear hb3 HPA HW2 HR2 HK2
  cases ha : addrP (ws.headD []) with
  | some a =>
    obtain ⟨six, hi, lo⟩ := a
    have HA := Lib.hid ha
    clear ha
    unfold adrV adrE
    simp only [Option.isSome_some, if_true]
    go_upto_region 2 with (show wpList _ _ _ ((⟨none, .store 25 (.tmp 3) _, _, _, _, none⟩ : Oper) :: _) _ _; refine wpList_store_mid rfl 25 (.tmp 3) _ rfl w3.heap.size 0 #[.bool six, .int .u64 (hi : Int), .int .u64 (lo : Int)] rfl rfl ((Blk.new w3 25 #[.bool false, .int .u64 0, .int .u64 0]).there rfl) (by kernel_rfl) (by simp [Value.oneCell']) ?_)
    generalize hw4 : (World.setCells _ _ _ _) = w4
    have HKA := Lib.hid (show Kept (fun i => i = w3.heap.size) (w3.alloc (.cells #[.bool false, .int .u64 0, .int .u64 0] 25)) w4 by rw [← hw4]; exact Kept.setCells (S := fun i => i = w3.heap.size) rfl _ _ (Kept.refl _ _))
    have HS4 := Lib.hid (show Blk w4 w3.heap.size 25 #[.bool six, .int .u64 (hi : Int), .int .u64 (lo : Int)] by rw [← hw4]; exact (Blk.new w3 25 #[.bool false, .int .u64 0, .int .u64 0]).setAll #[.bool six, .int .u64 (hi : Int), .int .u64 (lo : Int)] rfl)
    have HKB := Lib.hid (show Kept (fun _ => False) w3 w4 from ((Kept.refl _ _).alloc _).then HKA.out (fun i hi e => by omega))
    have HW4 := Lib.hid (HW3.out.kept HKB.out (fun h => h))
    have HR4 := Lib.hid (HR3.out.kept HKB.out (fun h => h))
    have HK4 := Lib.hid (HK3.out.then HKB.out (fun i _ h => h.elim))
    have HSR := Lib.hid (show w3.heap.size ≠ rb from fun e => by have := HR3.out.lt; omega)
    have HSW := Lib.hid (show w3.heap.size ≠ wb from fun e => by have := HW3.out.lt; omega)
    clear hw4 HKA HKB HW3 HR3 HK3
    obtain ⟨sb, hsb⟩ : ∃ sb, w3.heap.size = sb := ⟨_, rfl⟩
    rw [hsb] at HS4 HSR HSW ⊢
    clear hsb
    go_wp2_with (first | (show wpList _ _ _ ((⟨_, .load 25 (.tmp 3), _, _, _, none⟩ : Oper) :: _) _ _; refine wpList_load_mid rfl 25 (.tmp 3) rfl sb 0 rfl [.bool six, .int .u64 (hi : Int), .int .u64 (lo : Int)] _ HS4.out.range Tryz.underlying25 rfl (by kernel_rfl) ?_) | (show wpList _ _ _ ((⟨none, .store 25 (.tmp 2) _, _, _, _, none⟩ : Oper) :: _) _ _; refine wpList_store_mid rfl 25 (.tmp 2) _ rfl rb 0 #[.bool six, .int .u64 (hi : Int), .int .u64 (lo : Int)] rfl rfl (HR4.out.there rfl) (by kernel_rfl) (by simp [Value.oneCell']) ?_))
    generalize hw9 : (World.setCells _ _ _ _) = w9
    have HK9 := Lib.hid (show Kept (fun i => i = rb) w4 w9 by rw [← hw9]; exact Kept.setCells (S := fun i => i = rb) rfl _ _ (Kept.refl _ _))
    have HR9 := Lib.hid (show Blk w9 rb 25 #[.bool six, .int .u64 (hi : Int), .int .u64 (lo : Int)] by rw [← hw9]; exact HR4.out.setAll #[.bool six, .int .u64 (hi : Int), .int .u64 (lo : Int)] rfl)
    clear hw9
    refine bodyPost_ret (results_blk1 (P := Tryz.prog) (show Tryz.f52.results = _ from rfl) _ _ rb 25 #[.bool six, .int .u64 (hi : Int), .int .u64 (lo : Int)] _ rfl HR9.out Tryz.underlying25 rfl (by kernel_rfl)) rfl ⟨?_, ?_, ?_⟩
    · rw [HA.out]; rfl
    · have e := HW4.out.kept HK9.out (fun e => HNE.out e.symm)
      rw [show (bad || addrBad ws) = (bad || ws.isEmpty) by unfold addrBad; rw [HA.out]; simp]
      exact e
    · exact HK4.out.then HK9.out (fun i hi e => absurd e (by have := HRB.out; omega))
  | none =>
    have HA := Lib.hid ha
    clear ha
    unfold adrV adrE
    simp only [Option.isSome_none, Bool.false_eq_true, if_false]
    go_upto_region 2 with (show wpList _ _ _ ((⟨none, .store 25 (.tmp 3) _, _, _, _, none⟩ : Oper) :: _) _ _; refine wpList_store_mid rfl 25 (.tmp 3) _ rfl w3.heap.size 0 #[.bool false, .int .u64 0, .int .u64 0] rfl rfl ((Blk.new w3 25 #[.bool false, .int .u64 0, .int .u64 0]).there rfl) (by kernel_rfl) (by simp [Value.oneCell']) ?_)
    generalize hw4 : (World.setCells _ _ _ _) = w4
    have HKA := Lib.hid (show Kept (fun i => i = w3.heap.size) (w3.alloc (.cells #[.bool false, .int .u64 0, .int .u64 0] 25)) w4 by rw [← hw4]; exact Kept.setCells (S := fun i => i = w3.heap.size) rfl _ _ (Kept.refl _ _))
    have HS4 := Lib.hid (show Blk w4 w3.heap.size 25 #[.bool false, .int .u64 0, .int .u64 0] by rw [← hw4]; exact (Blk.new w3 25 #[.bool false, .int .u64 0, .int .u64 0]).setAll #[.bool false, .int .u64 0, .int .u64 0] rfl)
    have HKB := Lib.hid (show Kept (fun _ => False) w3 w4 from ((Kept.refl _ _).alloc _).then HKA.out (fun i hi e => by omega))
    have HW4 := Lib.hid (HW3.out.kept HKB.out (fun h => h))
    have HR4 := Lib.hid (HR3.out.kept HKB.out (fun h => h))
    have HK4 := Lib.hid (HK3.out.then HKB.out (fun i _ h => h.elim))
    have HSR := Lib.hid (show w3.heap.size ≠ rb from fun e => by have := HR3.out.lt; omega)
    have HSW := Lib.hid (show w3.heap.size ≠ wb from fun e => by have := HW3.out.lt; omega)
    clear hw4 HKA HKB HW3 HR3 HK3
    obtain ⟨sb, hsb⟩ : ∃ sb, w3.heap.size = sb := ⟨_, rfl⟩
    rw [hsb] at HS4 HSR HSW ⊢
    clear hsb
    obtain ⟨s, hs, hq, hz, hBk⟩ := HW4.out
    have HSS := Lib.hid hs
    have HQ := Lib.hid hq
    have HBK := Lib.hid hBk
    have c0 := hBk.cell
    have f0 := hBk.frozen
    have lt0 := hBk.lt
    clear hs hq hBk
    go_upto_region 4 with fail
    generalize hw5 : World.setCell _ _ _ = w5
    have HKC := Lib.hid (show Kept (fun i => i = wb) w4 w5 by rw [← hw5]; exact Kept.setIn (S := fun i => i = wb) (b := wb) rfl (Kept.refl _ _))
    have HW5 := Lib.hid (show WS w5 wb ws.tail true from ⟨s, HSS.out, HQ.out, hz, by rw [← hw5]; exact HBK.out.set_to rfl⟩)
    have HR5 := Lib.hid (HR4.out.kept HKC.out HNE.out)
    have HS5 := Lib.hid (HS4.out.kept HKC.out HSW.out)
    have HK5 := Lib.hid (HK4.out.then HKC.out (fun i _ h => h))
    clear hw5 c0 f0 lt0 HBK HR4 HS4 HKC
    go_wp2_with (first | (show wpList _ _ _ ((⟨_, .load 25 (.tmp 3), _, _, _, none⟩ : Oper) :: _) _ _; refine wpList_load_mid rfl 25 (.tmp 3) rfl sb 0 rfl [.bool false, .int .u64 0, .int .u64 0] _ HS5.out.range Tryz.underlying25 rfl (by kernel_rfl) ?_) | (show wpList _ _ _ ((⟨none, .store 25 (.tmp 2) _, _, _, _, none⟩ : Oper) :: _) _ _; refine wpList_store_mid rfl 25 (.tmp 2) _ rfl rb 0 #[.bool false, .int .u64 0, .int .u64 0] rfl rfl (HR5.out.there rfl) (by kernel_rfl) (by simp [Value.oneCell']) ?_))
    generalize hw9 : (World.setCells _ _ _ _) = w9
    have HK9 := Lib.hid (show Kept (fun i => i = rb) w5 w9 by rw [← hw9]; exact Kept.setCells (S := fun i => i = rb) rfl _ _ (Kept.refl _ _))
    have HR9 := Lib.hid (show Blk w9 rb 25 #[.bool false, .int .u64 0, .int .u64 0] by rw [← hw9]; exact HR5.out.setAll #[.bool false, .int .u64 0, .int .u64 0] rfl)
    clear hw9
    refine bodyPost_ret (results_blk1 (P := Tryz.prog) (show Tryz.f52.results = _ from rfl) _ _ rb 25 #[.bool false, .int .u64 0, .int .u64 0] _ rfl HR9.out Tryz.underlying25 rfl (by kernel_rfl)) rfl ⟨?_, ?_, ?_⟩
    · rw [HA.out]; rfl
    · have e := HW5.out.kept HK9.out (fun e => HNE.out e.symm)
      rw [show (bad || addrBad ws) = true by unfold addrBad; rw [HA.out]; simp]
      exact e
    · exact HK5.out.then HK9.out (fun i hi e => absurd e (by have := HRB.out; omega))
end Go.Proofs.YthfdhggcnkgjfaaGreatDoor
