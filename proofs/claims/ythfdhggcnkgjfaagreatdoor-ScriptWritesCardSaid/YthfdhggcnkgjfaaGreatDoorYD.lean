/- The line's step: packets, control, Parse. -/
import Derived.Test.YthfdhggcnkgjfaaGreatDoorYC
namespace Go.Proofs.YthfdhggcnkgjfaaGreatDoor
open Go.RowKit
set_option linter.unusedVariables false
set_option linter.unusedSimpArgs false
def SpC (mv lv : Value) (s : Sp) : Array Value := #[.int .i64 s.kind, .int .i64 s.op.kind, .int .i64 s.op.vip, .int .i64 s.op.backend, .int .i64 s.op.version, .bool s.op.a.six, .int .u64 (s.op.a.hi : Int), .int .u64 (s.op.a.lo : Int), .int .u16 (s.op.port : Int), .int .u8 (s.op.proto : Int), .int .i64 s.op.way, mv, .int .i64 s.who, .int .i64 s.time, .int .u8 (s.flags : Int), lv, .int .u32 (s.n : Int), .int .u32 (s.x : Int), .int .u32 (s.y : Int), .bool s.src.six, .int .u64 (s.src.hi : Int), .int .u64 (s.src.lo : Int), .int .u16 (s.port : Int)]
theorem cmd_fin {nm nm' p : List UInt8} {k : Nat} (h : cmdOf nm = some (k, nm', p)) (hi : nm ≠ issueT) (r : List (List UInt8)) (bad : Bool) : finE (eat p ⟨r, Fd.zero, bad⟩).ws (eat p ⟨r, Fd.zero, bad⟩).bad (fillP k p (eat p ⟨r, Fd.zero, bad⟩).f) = orNone bad (wordsP (nm :: r)) := by
  rw [finE_map, fin_eat, orNone_map]
  congr 1
  unfold wordsP
  simp only
  rw [if_neg hi, h]
theorem iss_fin {r : List (List UInt8)} {bad bdx : Bool} {wsx : List (List UInt8)} {o : Osp} (h : finE wsx bdx o = orNone bad (opP r)) : finE wsx bdx ({ Sp.zero with op := o } : Sp) = orNone bad (wordsP (issueT :: r)) := by
  rw [finE_map (fun o => ({ Sp.zero with op := o } : Sp)), h, orNone_map]
  rfl
theorem words_none {nm : List UInt8} {r : List (List UInt8)} (n0 : ¬ nm = [105, 115, 115, 117, 101]) (n1 : ¬ nm = [99, 111, 109, 109, 105, 116]) (n2 : ¬ nm = [99, 114, 97, 115, 104]) (n3 : ¬ nm = [111, 102, 102, 101, 114]) (n4 : ¬ nm = [100, 101, 108, 105, 118, 101, 114]) (n5 : ¬ nm = [100, 114, 111, 112]) (n6 : ¬ nm = [116, 119, 105, 99, 101]) (n7 : ¬ nm = [114, 101, 115, 116, 97, 114, 116]) (n8 : ¬ nm = [114, 101, 112, 111, 114, 116]) (n9 : ¬ nm = [115, 101, 110, 100]) (n10 : ¬ nm = [114, 101, 112, 108, 121]) (n11 : ¬ nm = [116, 105, 99, 107]) (n12 : ¬ nm = [113, 117, 105, 99]) (n13 : ¬ nm = [103, 105, 118, 101]) (n14 : ¬ nm = [109, 111, 118, 101]) (n15 : ¬ nm = [115, 101, 116, 116, 108, 101]) : wordsP (nm :: r) = none := by
  unfold wordsP
  simp only
  rw [if_neg (show ¬ nm = issueT from n0)]
  have : cmdOf nm = none := by
    unfold cmdOf cmds
    simp only [List.find?_eq_none, List.mem_cons, List.not_mem_nil, or_false]
    intro c hc
    rcases hc with rfl | rfl | rfl | rfl | rfl | rfl | rfl | rfl | rfl | rfl | rfl | rfl | rfl | rfl | rfl
    all_goals (simp only [beq_iff_eq]; intro e)
    · exact n1 e.symm
    · exact n2 e.symm
    · exact n3 e.symm
    · exact n4 e.symm
    · exact n5 e.symm
    · exact n6 e.symm
    · exact n7 e.symm
    · exact n8 e.symm
    · exact n9 e.symm
    · exact n10 e.symm
    · exact n11 e.symm
    · exact n12 e.symm
    · exact n13 e.symm
    · exact n14 e.symm
    · exact n15 e.symm
  rw [this]
def CtlR (w : World) (wb : Nat) (bad : Bool) (o0 : Option Sp) (e : Ending) (w' : World) : Prop := ∃ (s : Sp) (mv lv : Value) (ws' : List (List UInt8)) (bad' : Bool), e = .returned (.agg (SpC mv lv s)) ∧ MemsIn w' w.heap.size mv s.op.ms ∧ LoadIn w' lv s.load ∧ WS w' wb ws' bad' ∧ Kept (fun i => i = wb) w w' ∧ finE ws' bad' s = orNone bad o0
set_option maxRecDepth 20000 in
set_option maxHeartbeats 16000000 in
theorem packetsW (wb : Nat) (r : List (List UInt8)) (bad : Bool) (x : ByteArray) (nm : List UInt8) (hx : x.data.toList = nm) (n0 : ¬ nm = [105, 115, 115, 117, 101]) (n1 : ¬ nm = [99, 111, 109, 109, 105, 116]) (n2 : ¬ nm = [99, 114, 97, 115, 104]) (n3 : ¬ nm = [111, 102, 102, 101, 114]) (n4 : ¬ nm = [100, 101, 108, 105, 118, 101, 114]) (n5 : ¬ nm = [100, 114, 111, 112]) (n6 : ¬ nm = [116, 119, 105, 99, 101]) (n7 : ¬ nm = [114, 101, 115, 116, 97, 114, 116]) (n8 : ¬ nm = [114, 101, 112, 111, 114, 116]) (n11 : ¬ nm = [116, 105, 99, 107]) (n15 : ¬ nm = [115, 101, 116, 116, 108, 101]) (w : World) (h : WS w wb r bad) :
    Calls Tryz.prog 33 #[.pointer (some ⟨wb, 0, none⟩), .string x] w (CtlR w wb bad (wordsP (nm :: r))) := by
  have HW0 := Lib.hid h
  have HLT := Lib.hid h.lt
  have HXL := Lib.hid (show x.toList = nm by rw [Lib.toList_data]; exact hx)
  clear h hx
  go_enter Tryz.func33, Tryz.ntmps33
  go_upto_region 1 with fail
  obtain ⟨w2, hw1⟩ : ∃ w1 : World, w1 = w.alloc (.cells #[.int .i64 0, .int .i64 0, .int .i64 0, .int .i64 0, .int .i64 0, .bool false, .int .u64 0, .int .u64 0, .int .u16 0, .int .u8 0, .int .i64 0, .slice none 0 0, .int .i64 0, .int .i64 0, .int .u8 0, .slice none 0 0, .int .u32 0, .int .u32 0, .int .u32 0, .bool false, .int .u64 0, .int .u64 0, .int .u16 0] 33) := ⟨_, rfl⟩
  have HR2 := Lib.hid (show Blk w2 w.heap.size 33 #[.int .i64 0, .int .i64 0, .int .i64 0, .int .i64 0, .int .i64 0, .bool false, .int .u64 0, .int .u64 0, .int .u16 0, .int .u8 0, .int .i64 0, .slice none 0 0, .int .i64 0, .int .i64 0, .int .u8 0, .slice none 0 0, .int .u32 0, .int .u32 0, .int .u32 0, .bool false, .int .u64 0, .int .u64 0, .int .u16 0] by rw [hw1]; exact Blk.new _ _ _)
  have HKF := Lib.hid (show Kept (fun _ => False) w w2 by rw [hw1]; exact (Kept.refl _ _).alloc _)
  rw [← hw1]
  clear hw1
  obtain ⟨rb, hrb⟩ : ∃ rb, w.heap.size = rb := ⟨_, rfl⟩
  have HRB := Lib.hid hrb
  rw [hrb] at HR2 ⊢
  clear hrb
  have HNE := Lib.hid (show ¬ rb = wb from fun e => by have := HLT.out; have := HRB.out; omega)
  have HNE2 := Lib.hid (show ¬ wb = rb from fun e => HNE.out e.symm)
  have HW2 := Lib.hid (HW0.out.kept HKF.out (fun h => h))
  have HK2 := Lib.hid (show Kept (fun i => i = wb) w w2 from HKF.out.mono (fun _ _ h => h.elim))
  clear HW0 HKF
  by_cases n9 : nm = [115, 101, 110, 100]
  · skip
    subst n9
    have q9 : (x.toList == [115, 101, 110, 100]) = true := by rw [HXL.out]; rfl
    go_wp2_with fail
    refine (greatW wb r (bad) w2 HW2.out).mono ?_
    rintro e w3 ⟨rfl, hw, hk⟩
    have HW3 := Lib.hid hw
    have HR3 := Lib.hid (HR2.out.kept hk HNE.out)
    have HK3 := Lib.hid (HK2.out.then hk (fun i _ h => h))

    obtain ⟨v2, hv2⟩ : ∃ v, numV 1073741824 r = v := ⟨_, rfl⟩
    rw [hv2]
    have HV2 := Lib.hid hv2
    clear hw hk HW2 HR2 HK2 hv2
    go_wp2_with fail
    refine (greatW wb (r.tail) (bad || numBad 1073741824 r) w3 HW3.out).mono ?_
    rintro e w4 ⟨rfl, hw, hk⟩
    have HW4 := Lib.hid hw
    have HR4 := Lib.hid (HR3.out.kept hk HNE.out)
    have HK4 := Lib.hid (HK3.out.then hk (fun i _ h => h))

    obtain ⟨v3, hv3⟩ : ∃ v, numV 1073741824 (r.tail) = v := ⟨_, rfl⟩
    rw [hv3]
    have HV3 := Lib.hid hv3
    clear hw hk HW3 HR3 HK3 hv3
    go_wp2_with fail
    refine (flagsW wb (r.tail.tail) (bad || numBad 1073741824 r || numBad 1073741824 (r.tail)) w4 HW4.out).mono ?_
    rintro e w5 ⟨rfl, hw, hk⟩
    have HW5 := Lib.hid hw
    have HR5 := Lib.hid (HR4.out.kept hk HNE.out)
    have HK5 := Lib.hid (HK4.out.then hk (fun i _ h => h))

    obtain ⟨v4, hv4⟩ : ∃ v, numV 255 (r.tail.tail) = v := ⟨_, rfl⟩
    rw [hv4]
    have HV4 := Lib.hid hv4
    clear hw hk HW4 HR4 HK4 hv4
    go_wp2_with fail
    refine (longW wb (r.tail.tail.tail) (bad || numBad 1073741824 r || numBad 1073741824 (r.tail) || numBad 255 (r.tail.tail)) w5 HW5.out).mono ?_
    rintro e w6 ⟨rfl, hw, hk⟩
    have HW6 := Lib.hid hw
    have HR6 := Lib.hid (HR5.out.kept hk HNE.out)
    have HK6 := Lib.hid (HK5.out.then hk (fun i _ h => h))

    obtain ⟨v5, hv5⟩ : ∃ v, numV 1073741824 (r.tail.tail.tail) = v := ⟨_, rfl⟩
    rw [hv5]
    have HV5 := Lib.hid hv5
    clear hw hk HW5 HR5 HK5 hv5
    go_wp2_with fail
    refine (longW wb (r.tail.tail.tail.tail) (bad || numBad 1073741824 r || numBad 1073741824 (r.tail) || numBad 255 (r.tail.tail) || numBad 1073741824 (r.tail.tail.tail)) w6 HW6.out).mono ?_
    rintro e w7 ⟨rfl, hw, hk⟩
    have HW7 := Lib.hid hw
    have HR7 := Lib.hid (HR6.out.kept hk HNE.out)
    have HK7 := Lib.hid (HK6.out.then hk (fun i _ h => h))

    obtain ⟨v6, hv6⟩ : ∃ v, numV 1073741824 (r.tail.tail.tail.tail) = v := ⟨_, rfl⟩
    rw [hv6]
    have HV6 := Lib.hid hv6
    clear hw hk HW6 HR6 HK6 hv6
    go_wp2_with fail
    refine (textW wb (r.tail.tail.tail.tail.tail) (bad || numBad 1073741824 r || numBad 1073741824 (r.tail) || numBad 255 (r.tail.tail) || numBad 1073741824 (r.tail.tail.tail) || numBad 1073741824 (r.tail.tail.tail.tail)) w7 HW7.out).mono ?_
    rintro e w8 ⟨lv, rfl, hl, hw, hk⟩
    have HL8 := Lib.hid hl
    have HW8 := Lib.hid hw
    have HR8 := Lib.hid (HR7.out.kept hk HNE.out)
    have HK8 := Lib.hid (HK7.out.then hk (fun i _ h => h))
    obtain ⟨LA, lc, hlv, -⟩ := hl
    subst hlv
    obtain ⟨ll, hll⟩ : ∃ ll, (joinC 32 (r.tail.tail.tail.tail.tail)).length = ll := ⟨_, rfl⟩
    rw [hll] at HL8 ⊢
    clear hw hk HW7 HR7 HK7 hll
    go_wp2_with (show wpList _ _ _ ((⟨none, .store 33 (.tmp 4) _, _, _, _, none⟩ : Oper) :: _) _ _; refine wpList_store_mid rfl 33 (.tmp 4) _ rfl rb 0 #[.int .i64 9, .int .i64 0, .int .i64 0, .int .i64 0, .int .i64 0, .bool false, .int .u64 0, .int .u64 0, .int .u16 0, .int .u8 0, .int .i64 0, .slice none 0 0, .int .i64 (v2 : Int), .int .i64 (v3 : Int), .int .u8 (v4 : Int), .slice LA ll lc, .int .u32 0, .int .u32 (v5 : Int), .int .u32 (v6 : Int), .bool false, .int .u64 0, .int .u64 0, .int .u16 0] rfl rfl (HR8.out.there rfl) (by kernel_rfl) (by simp [Value.oneCell']) ?_)
    generalize hw9 : (World.setCells _ _ _ _) = w9
    have HK9 := Lib.hid (show Kept (fun i => i = rb) w8 w9 by rw [← hw9]; exact Kept.setCells (S := fun i => i = rb) rfl _ _ (Kept.refl _ _))
    have HR9 := Lib.hid (show Blk w9 rb 33 #[.int .i64 9, .int .i64 0, .int .i64 0, .int .i64 0, .int .i64 0, .bool false, .int .u64 0, .int .u64 0, .int .u16 0, .int .u8 0, .int .i64 0, .slice none 0 0, .int .i64 (v2 : Int), .int .i64 (v3 : Int), .int .u8 (v4 : Int), .slice LA ll lc, .int .u32 0, .int .u32 (v5 : Int), .int .u32 (v6 : Int), .bool false, .int .u64 0, .int .u64 0, .int .u16 0] by rw [← hw9]; exact HR8.out.setAll #[.int .i64 9, .int .i64 0, .int .i64 0, .int .i64 0, .int .i64 0, .bool false, .int .u64 0, .int .u64 0, .int .u16 0, .int .u8 0, .int .i64 0, .slice none 0 0, .int .i64 (v2 : Int), .int .i64 (v3 : Int), .int .u8 (v4 : Int), .slice LA ll lc, .int .u32 0, .int .u32 (v5 : Int), .int .u32 (v6 : Int), .bool false, .int .u64 0, .int .u64 0, .int .u16 0] rfl)
    clear hw9
    refine bodyPost_ret (results_blk1 (P := Tryz.prog) (show Tryz.f33.results = _ from rfl) _ _ rb 33 #[.int .i64 9, .int .i64 0, .int .i64 0, .int .i64 0, .int .i64 0, .bool false, .int .u64 0, .int .u64 0, .int .u16 0, .int .u8 0, .int .i64 0, .slice none 0 0, .int .i64 (v2 : Int), .int .i64 (v3 : Int), .int .u8 (v4 : Int), .slice LA ll lc, .int .u32 0, .int .u32 (v5 : Int), .int .u32 (v6 : Int), .bool false, .int .u64 0, .int .u64 0, .int .u16 0] _ rfl HR9.out Tryz.underlying33 rfl (by kernel_rfl)) rfl ?_
    have HW9 := Lib.hid (HW8.out.kept HK9.out HNE2.out)
    have HKZ := Lib.hid (HK8.out.then HK9.out (fun i hi e => by have := HRB.out; omega))
    have hv2 := HV2.out
    subst hv2
    have hv3 := HV3.out
    subst hv3
    have hv4 := HV4.out
    subst hv4
    have hv5 := HV5.out
    subst hv5
    have hv6 := HV6.out
    subst hv6
    exact ⟨fillP 9 [87, 65, 70, 88, 89, 84] (eat [87, 65, 70, 88, 89, 84] ⟨r, Fd.zero, bad⟩).f, .slice none 0 0, .slice LA ll lc, (eat [87, 65, 70, 88, 89, 84] ⟨r, Fd.zero, bad⟩).ws, (eat [87, 65, 70, 88, 89, 84] ⟨r, Fd.zero, bad⟩).bad, rfl, RowN.nil _ _ _ _, HL8.out.keep (fun g cs fr hg => HK9.out.block g (lt_of_heap hg) (fun e => by subst e; exact blk_not HR8.out hg (by decide))), HW9.out, HKZ.out, cmd_fin (nm := [115, 101, 110, 100]) rfl (by decide) r bad⟩
  by_cases n12 : nm = [113, 117, 105, 99]
  · skip
    subst n12
    have q9 : (x.toList == [115, 101, 110, 100]) = false := by rw [HXL.out]; rfl
    have q12 : (x.toList == [113, 117, 105, 99]) = true := by rw [HXL.out]; rfl
    go_wp2_with fail
    refine (greatW wb r (bad) w2 HW2.out).mono ?_
    rintro e w3 ⟨rfl, hw, hk⟩
    have HW3 := Lib.hid hw
    have HR3 := Lib.hid (HR2.out.kept hk HNE.out)
    have HK3 := Lib.hid (HK2.out.then hk (fun i _ h => h))

    obtain ⟨v2, hv2⟩ : ∃ v, numV 1073741824 r = v := ⟨_, rfl⟩
    rw [hv2]
    have HV2 := Lib.hid hv2
    clear hw hk HW2 HR2 HK2 hv2
    go_wp2_with fail
    refine (greatW wb (r.tail) (bad || numBad 1073741824 r) w3 HW3.out).mono ?_
    rintro e w4 ⟨rfl, hw, hk⟩
    have HW4 := Lib.hid hw
    have HR4 := Lib.hid (HR3.out.kept hk HNE.out)
    have HK4 := Lib.hid (HK3.out.then hk (fun i _ h => h))

    obtain ⟨v3, hv3⟩ : ∃ v, numV 1073741824 (r.tail) = v := ⟨_, rfl⟩
    rw [hv3]
    have HV3 := Lib.hid hv3
    clear hw hk HW3 HR3 HK3 hv3
    go_wp2_with fail
    refine (textW wb (r.tail.tail) (bad || numBad 1073741824 r || numBad 1073741824 (r.tail)) w4 HW4.out).mono ?_
    rintro e w5 ⟨lv, rfl, hl, hw, hk⟩
    have HL5 := Lib.hid hl
    have HW5 := Lib.hid hw
    have HR5 := Lib.hid (HR4.out.kept hk HNE.out)
    have HK5 := Lib.hid (HK4.out.then hk (fun i _ h => h))
    obtain ⟨LA, lc, hlv, -⟩ := hl
    subst hlv
    obtain ⟨ll, hll⟩ : ∃ ll, (joinC 32 (r.tail.tail)).length = ll := ⟨_, rfl⟩
    rw [hll] at HL5 ⊢
    clear hw hk HW4 HR4 HK4 hll
    go_wp2_with (show wpList _ _ _ ((⟨none, .store 33 (.tmp 4) _, _, _, _, none⟩ : Oper) :: _) _ _; refine wpList_store_mid rfl 33 (.tmp 4) _ rfl rb 0 #[.int .i64 12, .int .i64 0, .int .i64 0, .int .i64 0, .int .i64 0, .bool false, .int .u64 0, .int .u64 0, .int .u16 0, .int .u8 0, .int .i64 0, .slice none 0 0, .int .i64 (v2 : Int), .int .i64 (v3 : Int), .int .u8 0, .slice LA ll lc, .int .u32 0, .int .u32 0, .int .u32 0, .bool false, .int .u64 0, .int .u64 0, .int .u16 0] rfl rfl (HR5.out.there rfl) (by kernel_rfl) (by simp [Value.oneCell']) ?_)
    generalize hw9 : (World.setCells _ _ _ _) = w9
    have HK9 := Lib.hid (show Kept (fun i => i = rb) w5 w9 by rw [← hw9]; exact Kept.setCells (S := fun i => i = rb) rfl _ _ (Kept.refl _ _))
    have HR9 := Lib.hid (show Blk w9 rb 33 #[.int .i64 12, .int .i64 0, .int .i64 0, .int .i64 0, .int .i64 0, .bool false, .int .u64 0, .int .u64 0, .int .u16 0, .int .u8 0, .int .i64 0, .slice none 0 0, .int .i64 (v2 : Int), .int .i64 (v3 : Int), .int .u8 0, .slice LA ll lc, .int .u32 0, .int .u32 0, .int .u32 0, .bool false, .int .u64 0, .int .u64 0, .int .u16 0] by rw [← hw9]; exact HR5.out.setAll #[.int .i64 12, .int .i64 0, .int .i64 0, .int .i64 0, .int .i64 0, .bool false, .int .u64 0, .int .u64 0, .int .u16 0, .int .u8 0, .int .i64 0, .slice none 0 0, .int .i64 (v2 : Int), .int .i64 (v3 : Int), .int .u8 0, .slice LA ll lc, .int .u32 0, .int .u32 0, .int .u32 0, .bool false, .int .u64 0, .int .u64 0, .int .u16 0] rfl)
    clear hw9
    refine bodyPost_ret (results_blk1 (P := Tryz.prog) (show Tryz.f33.results = _ from rfl) _ _ rb 33 #[.int .i64 12, .int .i64 0, .int .i64 0, .int .i64 0, .int .i64 0, .bool false, .int .u64 0, .int .u64 0, .int .u16 0, .int .u8 0, .int .i64 0, .slice none 0 0, .int .i64 (v2 : Int), .int .i64 (v3 : Int), .int .u8 0, .slice LA ll lc, .int .u32 0, .int .u32 0, .int .u32 0, .bool false, .int .u64 0, .int .u64 0, .int .u16 0] _ rfl HR9.out Tryz.underlying33 rfl (by kernel_rfl)) rfl ?_
    have HW9 := Lib.hid (HW5.out.kept HK9.out HNE2.out)
    have HKZ := Lib.hid (HK5.out.then HK9.out (fun i hi e => by have := HRB.out; omega))
    have hv2 := HV2.out
    subst hv2
    have hv3 := HV3.out
    subst hv3
    exact ⟨fillP 12 [87, 65, 84] (eat [87, 65, 84] ⟨r, Fd.zero, bad⟩).f, .slice none 0 0, .slice LA ll lc, (eat [87, 65, 84] ⟨r, Fd.zero, bad⟩).ws, (eat [87, 65, 84] ⟨r, Fd.zero, bad⟩).bad, rfl, RowN.nil _ _ _ _, HL5.out.keep (fun g cs fr hg => HK9.out.block g (lt_of_heap hg) (fun e => by subst e; exact blk_not HR5.out hg (by decide))), HW9.out, HKZ.out, cmd_fin (nm := [113, 117, 105, 99]) rfl (by decide) r bad⟩
  by_cases n10 : nm = [114, 101, 112, 108, 121]
  · skip
    subst n10
    have q9 : (x.toList == [115, 101, 110, 100]) = false := by rw [HXL.out]; rfl
    have q12 : (x.toList == [113, 117, 105, 99]) = false := by rw [HXL.out]; rfl
    have q10 : (x.toList == [114, 101, 112, 108, 121]) = true := by rw [HXL.out]; rfl
    go_wp2_with fail
    refine (greatW wb r (bad) w2 HW2.out).mono ?_
    rintro e w3 ⟨rfl, hw, hk⟩
    have HW3 := Lib.hid hw
    have HR3 := Lib.hid (HR2.out.kept hk HNE.out)
    have HK3 := Lib.hid (HK2.out.then hk (fun i _ h => h))

    obtain ⟨v2, hv2⟩ : ∃ v, numV 1073741824 r = v := ⟨_, rfl⟩
    rw [hv2]
    have HV2 := Lib.hid hv2
    clear hw hk HW2 HR2 HK2 hv2
    go_wp2_with fail
    refine (greatW wb (r.tail) (bad || numBad 1073741824 r) w3 HW3.out).mono ?_
    rintro e w4 ⟨rfl, hw, hk⟩
    have HW4 := Lib.hid hw
    have HR4 := Lib.hid (HR3.out.kept hk HNE.out)
    have HK4 := Lib.hid (HK3.out.then hk (fun i _ h => h))

    obtain ⟨v3, hv3⟩ : ∃ v, numV 1073741824 (r.tail) = v := ⟨_, rfl⟩
    rw [hv3]
    have HV3 := Lib.hid hv3
    clear hw hk HW3 HR3 HK3 hv3
    go_wp2_with fail
    refine (flagsW wb (r.tail.tail) (bad || numBad 1073741824 r || numBad 1073741824 (r.tail)) w4 HW4.out).mono ?_
    rintro e w5 ⟨rfl, hw, hk⟩
    have HW5 := Lib.hid hw
    have HR5 := Lib.hid (HR4.out.kept hk HNE.out)
    have HK5 := Lib.hid (HK4.out.then hk (fun i _ h => h))

    obtain ⟨v4, hv4⟩ : ∃ v, numV 255 (r.tail.tail) = v := ⟨_, rfl⟩
    rw [hv4]
    have HV4 := Lib.hid hv4
    clear hw hk HW4 HR4 HK4 hv4
    go_wp2_with fail
    refine (textW wb (r.tail.tail.tail) (bad || numBad 1073741824 r || numBad 1073741824 (r.tail) || numBad 255 (r.tail.tail)) w5 HW5.out).mono ?_
    rintro e w6 ⟨lv, rfl, hl, hw, hk⟩
    have HL6 := Lib.hid hl
    have HW6 := Lib.hid hw
    have HR6 := Lib.hid (HR5.out.kept hk HNE.out)
    have HK6 := Lib.hid (HK5.out.then hk (fun i _ h => h))
    obtain ⟨LA, lc, hlv, -⟩ := hl
    subst hlv
    obtain ⟨ll, hll⟩ : ∃ ll, (joinC 32 (r.tail.tail.tail)).length = ll := ⟨_, rfl⟩
    rw [hll] at HL6 ⊢
    clear hw hk HW5 HR5 HK5 hll
    go_wp2_with (show wpList _ _ _ ((⟨none, .store 33 (.tmp 4) _, _, _, _, none⟩ : Oper) :: _) _ _; refine wpList_store_mid rfl 33 (.tmp 4) _ rfl rb 0 #[.int .i64 10, .int .i64 0, .int .i64 0, .int .i64 0, .int .i64 0, .bool false, .int .u64 0, .int .u64 0, .int .u16 0, .int .u8 0, .int .i64 0, .slice none 0 0, .int .i64 (v2 : Int), .int .i64 (v3 : Int), .int .u8 (v4 : Int), .slice LA ll lc, .int .u32 0, .int .u32 0, .int .u32 0, .bool false, .int .u64 0, .int .u64 0, .int .u16 0] rfl rfl (HR6.out.there rfl) (by kernel_rfl) (by simp [Value.oneCell']) ?_)
    generalize hw9 : (World.setCells _ _ _ _) = w9
    have HK9 := Lib.hid (show Kept (fun i => i = rb) w6 w9 by rw [← hw9]; exact Kept.setCells (S := fun i => i = rb) rfl _ _ (Kept.refl _ _))
    have HR9 := Lib.hid (show Blk w9 rb 33 #[.int .i64 10, .int .i64 0, .int .i64 0, .int .i64 0, .int .i64 0, .bool false, .int .u64 0, .int .u64 0, .int .u16 0, .int .u8 0, .int .i64 0, .slice none 0 0, .int .i64 (v2 : Int), .int .i64 (v3 : Int), .int .u8 (v4 : Int), .slice LA ll lc, .int .u32 0, .int .u32 0, .int .u32 0, .bool false, .int .u64 0, .int .u64 0, .int .u16 0] by rw [← hw9]; exact HR6.out.setAll #[.int .i64 10, .int .i64 0, .int .i64 0, .int .i64 0, .int .i64 0, .bool false, .int .u64 0, .int .u64 0, .int .u16 0, .int .u8 0, .int .i64 0, .slice none 0 0, .int .i64 (v2 : Int), .int .i64 (v3 : Int), .int .u8 (v4 : Int), .slice LA ll lc, .int .u32 0, .int .u32 0, .int .u32 0, .bool false, .int .u64 0, .int .u64 0, .int .u16 0] rfl)
    clear hw9
    refine bodyPost_ret (results_blk1 (P := Tryz.prog) (show Tryz.f33.results = _ from rfl) _ _ rb 33 #[.int .i64 10, .int .i64 0, .int .i64 0, .int .i64 0, .int .i64 0, .bool false, .int .u64 0, .int .u64 0, .int .u16 0, .int .u8 0, .int .i64 0, .slice none 0 0, .int .i64 (v2 : Int), .int .i64 (v3 : Int), .int .u8 (v4 : Int), .slice LA ll lc, .int .u32 0, .int .u32 0, .int .u32 0, .bool false, .int .u64 0, .int .u64 0, .int .u16 0] _ rfl HR9.out Tryz.underlying33 rfl (by kernel_rfl)) rfl ?_
    have HW9 := Lib.hid (HW6.out.kept HK9.out HNE2.out)
    have HKZ := Lib.hid (HK6.out.then HK9.out (fun i hi e => by have := HRB.out; omega))
    have hv2 := HV2.out
    subst hv2
    have hv3 := HV3.out
    subst hv3
    have hv4 := HV4.out
    subst hv4
    exact ⟨fillP 10 [87, 65, 70, 84] (eat [87, 65, 70, 84] ⟨r, Fd.zero, bad⟩).f, .slice none 0 0, .slice LA ll lc, (eat [87, 65, 70, 84] ⟨r, Fd.zero, bad⟩).ws, (eat [87, 65, 70, 84] ⟨r, Fd.zero, bad⟩).bad, rfl, RowN.nil _ _ _ _, HL6.out.keep (fun g cs fr hg => HK9.out.block g (lt_of_heap hg) (fun e => by subst e; exact blk_not HR6.out hg (by decide))), HW9.out, HKZ.out, cmd_fin (nm := [114, 101, 112, 108, 121]) rfl (by decide) r bad⟩
  by_cases n13 : nm = [103, 105, 118, 101]
  · skip
    subst n13
    have q9 : (x.toList == [115, 101, 110, 100]) = false := by rw [HXL.out]; rfl
    have q12 : (x.toList == [113, 117, 105, 99]) = false := by rw [HXL.out]; rfl
    have q10 : (x.toList == [114, 101, 112, 108, 121]) = false := by rw [HXL.out]; rfl
    have q13 : (x.toList == [103, 105, 118, 101]) = true := by rw [HXL.out]; rfl
    go_wp2_with fail
    refine (greatW wb r (bad) w2 HW2.out).mono ?_
    rintro e w3 ⟨rfl, hw, hk⟩
    have HW3 := Lib.hid hw
    have HR3 := Lib.hid (HR2.out.kept hk HNE.out)
    have HK3 := Lib.hid (HK2.out.then hk (fun i _ h => h))

    obtain ⟨v2, hv2⟩ : ∃ v, numV 1073741824 r = v := ⟨_, rfl⟩
    rw [hv2]
    have HV2 := Lib.hid hv2
    clear hw hk HW2 HR2 HK2 hv2
    go_wp2_with fail
    refine (greatW wb (r.tail) (bad || numBad 1073741824 r) w3 HW3.out).mono ?_
    rintro e w4 ⟨rfl, hw, hk⟩
    have HW4 := Lib.hid hw
    have HR4 := Lib.hid (HR3.out.kept hk HNE.out)
    have HK4 := Lib.hid (HK3.out.then hk (fun i _ h => h))

    obtain ⟨v3, hv3⟩ : ∃ v, numV 1073741824 (r.tail) = v := ⟨_, rfl⟩
    rw [hv3]
    have HV3 := Lib.hid hv3
    clear hw hk HW3 HR3 HK3 hv3
    go_wp2_with (show wpList _ _ _ ((⟨none, .store 33 (.tmp 4) _, _, _, _, none⟩ : Oper) :: _) _ _; refine wpList_store_mid rfl 33 (.tmp 4) _ rfl rb 0 #[.int .i64 13, .int .i64 0, .int .i64 0, .int .i64 0, .int .i64 0, .bool false, .int .u64 0, .int .u64 0, .int .u16 0, .int .u8 0, .int .i64 0, .slice none 0 0, .int .i64 (v2 : Int), .int .i64 (v3 : Int), .int .u8 0, .slice none 0 0, .int .u32 0, .int .u32 0, .int .u32 0, .bool false, .int .u64 0, .int .u64 0, .int .u16 0] rfl rfl (HR4.out.there rfl) (by kernel_rfl) (by simp [Value.oneCell']) ?_)
    generalize hw9 : (World.setCells _ _ _ _) = w9
    have HK9 := Lib.hid (show Kept (fun i => i = rb) w4 w9 by rw [← hw9]; exact Kept.setCells (S := fun i => i = rb) rfl _ _ (Kept.refl _ _))
    have HR9 := Lib.hid (show Blk w9 rb 33 #[.int .i64 13, .int .i64 0, .int .i64 0, .int .i64 0, .int .i64 0, .bool false, .int .u64 0, .int .u64 0, .int .u16 0, .int .u8 0, .int .i64 0, .slice none 0 0, .int .i64 (v2 : Int), .int .i64 (v3 : Int), .int .u8 0, .slice none 0 0, .int .u32 0, .int .u32 0, .int .u32 0, .bool false, .int .u64 0, .int .u64 0, .int .u16 0] by rw [← hw9]; exact HR4.out.setAll #[.int .i64 13, .int .i64 0, .int .i64 0, .int .i64 0, .int .i64 0, .bool false, .int .u64 0, .int .u64 0, .int .u16 0, .int .u8 0, .int .i64 0, .slice none 0 0, .int .i64 (v2 : Int), .int .i64 (v3 : Int), .int .u8 0, .slice none 0 0, .int .u32 0, .int .u32 0, .int .u32 0, .bool false, .int .u64 0, .int .u64 0, .int .u16 0] rfl)
    clear hw9
    refine bodyPost_ret (results_blk1 (P := Tryz.prog) (show Tryz.f33.results = _ from rfl) _ _ rb 33 #[.int .i64 13, .int .i64 0, .int .i64 0, .int .i64 0, .int .i64 0, .bool false, .int .u64 0, .int .u64 0, .int .u16 0, .int .u8 0, .int .i64 0, .slice none 0 0, .int .i64 (v2 : Int), .int .i64 (v3 : Int), .int .u8 0, .slice none 0 0, .int .u32 0, .int .u32 0, .int .u32 0, .bool false, .int .u64 0, .int .u64 0, .int .u16 0] _ rfl HR9.out Tryz.underlying33 rfl (by kernel_rfl)) rfl ?_
    have HW9 := Lib.hid (HW4.out.kept HK9.out HNE2.out)
    have HKZ := Lib.hid (HK4.out.then HK9.out (fun i hi e => by have := HRB.out; omega))
    have hv2 := HV2.out
    subst hv2
    have hv3 := HV3.out
    subst hv3
    exact ⟨fillP 13 [87, 65] (eat [87, 65] ⟨r, Fd.zero, bad⟩).f, .slice none 0 0, .slice none 0 0, (eat [87, 65] ⟨r, Fd.zero, bad⟩).ws, (eat [87, 65] ⟨r, Fd.zero, bad⟩).bad, rfl, RowN.nil _ _ _ _, LoadIn.nil _, HW9.out, HKZ.out, cmd_fin (nm := [103, 105, 118, 101]) rfl (by decide) r bad⟩
  by_cases n14 : nm = [109, 111, 118, 101]
  · skip
    subst n14
    have q9 : (x.toList == [115, 101, 110, 100]) = false := by rw [HXL.out]; rfl
    have q12 : (x.toList == [113, 117, 105, 99]) = false := by rw [HXL.out]; rfl
    have q10 : (x.toList == [114, 101, 112, 108, 121]) = false := by rw [HXL.out]; rfl
    have q13 : (x.toList == [103, 105, 118, 101]) = false := by rw [HXL.out]; rfl
    have q14 : (x.toList == [109, 111, 118, 101]) = true := by rw [HXL.out]; rfl
    go_wp2_with fail
    refine (greatW wb r (bad) w2 HW2.out).mono ?_
    rintro e w3 ⟨rfl, hw, hk⟩
    have HW3 := Lib.hid hw
    have HR3 := Lib.hid (HR2.out.kept hk HNE.out)
    have HK3 := Lib.hid (HK2.out.then hk (fun i _ h => h))

    obtain ⟨v2, hv2⟩ : ∃ v, numV 1073741824 r = v := ⟨_, rfl⟩
    rw [hv2]
    have HV2 := Lib.hid hv2
    clear hw hk HW2 HR2 HK2 hv2
    go_wp2_with fail
    refine (addrW wb (r.tail) (bad || numBad 1073741824 r) w3 HW3.out).mono ?_
    rintro e w4 ⟨rfl, hw, hk⟩
    have HW4 := Lib.hid hw
    have HR4 := Lib.hid (HR3.out.kept hk HNE.out)
    have HK4 := Lib.hid (HK3.out.then hk (fun i _ h => h))
    rw [adrV_eq]
    obtain ⟨v3, hv3⟩ : ∃ v, (addrP ((r.tail).headD [])).getD Adr.zero = v := ⟨_, rfl⟩
    rw [hv3]
    have HV3 := Lib.hid hv3
    clear hw hk HW3 HR3 HK3 hv3
    go_wp2_with fail
    refine (portW wb (r.tail.tail) (bad || numBad 1073741824 r || addrBad (r.tail)) w4 HW4.out).mono ?_
    rintro e w5 ⟨rfl, hw, hk⟩
    have HW5 := Lib.hid hw
    have HR5 := Lib.hid (HR4.out.kept hk HNE.out)
    have HK5 := Lib.hid (HK4.out.then hk (fun i _ h => h))

    obtain ⟨v4, hv4⟩ : ∃ v, portV (r.tail.tail) = v := ⟨_, rfl⟩
    rw [hv4]
    have HV4 := Lib.hid hv4
    clear hw hk HW4 HR4 HK4 hv4
    go_wp2_with (show wpList _ _ _ ((⟨none, .store 33 (.tmp 4) _, _, _, _, none⟩ : Oper) :: _) _ _; refine wpList_store_mid rfl 33 (.tmp 4) _ rfl rb 0 #[.int .i64 14, .int .i64 0, .int .i64 0, .int .i64 0, .int .i64 0, .bool false, .int .u64 0, .int .u64 0, .int .u16 0, .int .u8 0, .int .i64 0, .slice none 0 0, .int .i64 (v2 : Int), .int .i64 0, .int .u8 0, .slice none 0 0, .int .u32 0, .int .u32 0, .int .u32 0, .bool v3.six, .int .u64 (v3.hi : Int), .int .u64 (v3.lo : Int), .int .u16 (v4 : Int)] rfl rfl (HR5.out.there rfl) (by kernel_rfl) (by simp [Value.oneCell']) ?_)
    generalize hw9 : (World.setCells _ _ _ _) = w9
    have HK9 := Lib.hid (show Kept (fun i => i = rb) w5 w9 by rw [← hw9]; exact Kept.setCells (S := fun i => i = rb) rfl _ _ (Kept.refl _ _))
    have HR9 := Lib.hid (show Blk w9 rb 33 #[.int .i64 14, .int .i64 0, .int .i64 0, .int .i64 0, .int .i64 0, .bool false, .int .u64 0, .int .u64 0, .int .u16 0, .int .u8 0, .int .i64 0, .slice none 0 0, .int .i64 (v2 : Int), .int .i64 0, .int .u8 0, .slice none 0 0, .int .u32 0, .int .u32 0, .int .u32 0, .bool v3.six, .int .u64 (v3.hi : Int), .int .u64 (v3.lo : Int), .int .u16 (v4 : Int)] by rw [← hw9]; exact HR5.out.setAll #[.int .i64 14, .int .i64 0, .int .i64 0, .int .i64 0, .int .i64 0, .bool false, .int .u64 0, .int .u64 0, .int .u16 0, .int .u8 0, .int .i64 0, .slice none 0 0, .int .i64 (v2 : Int), .int .i64 0, .int .u8 0, .slice none 0 0, .int .u32 0, .int .u32 0, .int .u32 0, .bool v3.six, .int .u64 (v3.hi : Int), .int .u64 (v3.lo : Int), .int .u16 (v4 : Int)] rfl)
    clear hw9
    refine bodyPost_ret (results_blk1 (P := Tryz.prog) (show Tryz.f33.results = _ from rfl) _ _ rb 33 #[.int .i64 14, .int .i64 0, .int .i64 0, .int .i64 0, .int .i64 0, .bool false, .int .u64 0, .int .u64 0, .int .u16 0, .int .u8 0, .int .i64 0, .slice none 0 0, .int .i64 (v2 : Int), .int .i64 0, .int .u8 0, .slice none 0 0, .int .u32 0, .int .u32 0, .int .u32 0, .bool v3.six, .int .u64 (v3.hi : Int), .int .u64 (v3.lo : Int), .int .u16 (v4 : Int)] _ rfl HR9.out Tryz.underlying33 rfl (by kernel_rfl)) rfl ?_
    have HW9 := Lib.hid (HW5.out.kept HK9.out HNE2.out)
    have HKZ := Lib.hid (HK5.out.then HK9.out (fun i hi e => by have := HRB.out; omega))
    have hv2 := HV2.out
    subst hv2
    have hv3 := HV3.out
    subst hv3
    have hv4 := HV4.out
    subst hv4
    exact ⟨fillP 14 [87, 97, 80] (eat [87, 97, 80] ⟨r, Fd.zero, bad⟩).f, .slice none 0 0, .slice none 0 0, (eat [87, 97, 80] ⟨r, Fd.zero, bad⟩).ws, (eat [87, 97, 80] ⟨r, Fd.zero, bad⟩).bad, rfl, RowN.nil _ _ _ _, LoadIn.nil _, HW9.out, HKZ.out, cmd_fin (nm := [109, 111, 118, 101]) rfl (by decide) r bad⟩
  have q9 : (x.toList == [115, 101, 110, 100]) = false := by rw [HXL.out]; exact beq_eq_false_iff_ne.2 n9
  have q12 : (x.toList == [113, 117, 105, 99]) = false := by rw [HXL.out]; exact beq_eq_false_iff_ne.2 n12
  have q10 : (x.toList == [114, 101, 112, 108, 121]) = false := by rw [HXL.out]; exact beq_eq_false_iff_ne.2 n10
  have q13 : (x.toList == [103, 105, 118, 101]) = false := by rw [HXL.out]; exact beq_eq_false_iff_ne.2 n13
  have q14 : (x.toList == [109, 111, 118, 101]) = false := by rw [HXL.out]; exact beq_eq_false_iff_ne.2 n14
  have HF := Lib.hid (words_none (r := r) n0 n1 n2 n3 n4 n5 n6 n7 n8 n9 n10 n11 n12 n13 n14 n15)
  obtain ⟨s, hs, hq, hz, hB⟩ := HW2.out
  have HS := Lib.hid hs
  have HQ := Lib.hid hq
  have HBK := Lib.hid hB
  have c0 := hB.cell
  have f0 := hB.frozen
  have lt0 := hB.lt
  clear hs hq hB n0 n1 n2 n3 n4 n5 n6 n7 n8 n9 n10 n11 n12 n13 n14 n15 HXL
  go_upto_region 13 with fail
  generalize hw3 : World.setCell _ _ _ = w3
  have HKC := Lib.hid (show Kept (fun i => i = wb) w2 w3 by rw [← hw3]; exact Kept.setIn (S := fun i => i = wb) (b := wb) rfl (Kept.refl _ _))
  have HW3 := Lib.hid (show WS w3 wb r true from ⟨s, HS.out, HQ.out, hz, by rw [← hw3]; exact HBK.out.set_to rfl⟩)
  have HR3 := Lib.hid (HR2.out.kept HKC.out HNE.out)
  have HK3 := Lib.hid (HK2.out.then HKC.out (fun i _ h => h))
  clear hw3 HKC HR2 HK2 HS HQ HBK HW2 c0 f0 lt0
  go_wp2_with (show wpList _ _ _ ((⟨none, .store 33 (.tmp 4) _, _, _, _, none⟩ : Oper) :: _) _ _; refine wpList_store_mid rfl 33 (.tmp 4) _ rfl rb 0 #[.int .i64 0, .int .i64 0, .int .i64 0, .int .i64 0, .int .i64 0, .bool false, .int .u64 0, .int .u64 0, .int .u16 0, .int .u8 0, .int .i64 0, .slice none 0 0, .int .i64 0, .int .i64 0, .int .u8 0, .slice none 0 0, .int .u32 0, .int .u32 0, .int .u32 0, .bool false, .int .u64 0, .int .u64 0, .int .u16 0] rfl rfl (HR3.out.there rfl) (by kernel_rfl) (by simp [Value.oneCell']) ?_)
  generalize hw9 : (World.setCells _ _ _ _) = w9
  have HK9 := Lib.hid (show Kept (fun i => i = rb) w3 w9 by rw [← hw9]; exact Kept.setCells (S := fun i => i = rb) rfl _ _ (Kept.refl _ _))
  have HR9 := Lib.hid (show Blk w9 rb 33 #[.int .i64 0, .int .i64 0, .int .i64 0, .int .i64 0, .int .i64 0, .bool false, .int .u64 0, .int .u64 0, .int .u16 0, .int .u8 0, .int .i64 0, .slice none 0 0, .int .i64 0, .int .i64 0, .int .u8 0, .slice none 0 0, .int .u32 0, .int .u32 0, .int .u32 0, .bool false, .int .u64 0, .int .u64 0, .int .u16 0] by rw [← hw9]; exact HR3.out.setAll #[.int .i64 0, .int .i64 0, .int .i64 0, .int .i64 0, .int .i64 0, .bool false, .int .u64 0, .int .u64 0, .int .u16 0, .int .u8 0, .int .i64 0, .slice none 0 0, .int .i64 0, .int .i64 0, .int .u8 0, .slice none 0 0, .int .u32 0, .int .u32 0, .int .u32 0, .bool false, .int .u64 0, .int .u64 0, .int .u16 0] rfl)
  clear hw9
  refine bodyPost_ret (results_blk1 (P := Tryz.prog) (show Tryz.f33.results = _ from rfl) _ _ rb 33 #[.int .i64 0, .int .i64 0, .int .i64 0, .int .i64 0, .int .i64 0, .bool false, .int .u64 0, .int .u64 0, .int .u16 0, .int .u8 0, .int .i64 0, .slice none 0 0, .int .i64 0, .int .i64 0, .int .u8 0, .slice none 0 0, .int .u32 0, .int .u32 0, .int .u32 0, .bool false, .int .u64 0, .int .u64 0, .int .u16 0] _ rfl HR9.out Tryz.underlying33 rfl (by kernel_rfl)) rfl ?_
  have HW9 := Lib.hid (HW3.out.kept HK9.out HNE2.out)
  have HKZ := Lib.hid (HK3.out.then HK9.out (fun i hi e => by have := HRB.out; omega))
  exact ⟨Sp.zero, .slice none 0 0, .slice none 0 0, r, true, rfl, RowN.nil _ _ _ _, LoadIn.nil _, HW9.out, HKZ.out, show finE r true Sp.zero = orNone bad (wordsP (nm :: r)) by rw [HF.out]; cases bad <;> simp [finE, orNone]⟩
set_option maxRecDepth 20000 in
set_option maxHeartbeats 16000000 in
theorem controlW (wb : Nat) (r : List (List UInt8)) (bad : Bool) (x : ByteArray) (nm : List UInt8) (hx : x.data.toList = nm) (w : World) (h : WS w wb r bad) :
    Calls Tryz.prog 14 #[.pointer (some ⟨wb, 0, none⟩), .string x] w (CtlR w wb bad (wordsP (nm :: r))) := by
  have HW0 := Lib.hid h
  have HLT := Lib.hid h.lt
  have HXD := Lib.hid hx
  have HXL := Lib.hid (show x.toList = nm by rw [Lib.toList_data]; exact hx)
  clear h hx
  go_enter Tryz.func14, Tryz.ntmps14
  go_upto_region 1 with fail
  obtain ⟨w2, hw1⟩ : ∃ w1 : World, w1 = w.alloc (.cells #[.int .i64 0, .int .i64 0, .int .i64 0, .int .i64 0, .int .i64 0, .bool false, .int .u64 0, .int .u64 0, .int .u16 0, .int .u8 0, .int .i64 0, .slice none 0 0, .int .i64 0, .int .i64 0, .int .u8 0, .slice none 0 0, .int .u32 0, .int .u32 0, .int .u32 0, .bool false, .int .u64 0, .int .u64 0, .int .u16 0] 33) := ⟨_, rfl⟩
  have HR2 := Lib.hid (show Blk w2 w.heap.size 33 #[.int .i64 0, .int .i64 0, .int .i64 0, .int .i64 0, .int .i64 0, .bool false, .int .u64 0, .int .u64 0, .int .u16 0, .int .u8 0, .int .i64 0, .slice none 0 0, .int .i64 0, .int .i64 0, .int .u8 0, .slice none 0 0, .int .u32 0, .int .u32 0, .int .u32 0, .bool false, .int .u64 0, .int .u64 0, .int .u16 0] by rw [hw1]; exact Blk.new _ _ _)
  have HKF := Lib.hid (show Kept (fun _ => False) w w2 by rw [hw1]; exact (Kept.refl _ _).alloc _)
  rw [← hw1]
  clear hw1
  obtain ⟨rb, hrb⟩ : ∃ rb, w.heap.size = rb := ⟨_, rfl⟩
  have HRB := Lib.hid hrb
  rw [hrb] at HR2 ⊢
  clear hrb
  have HNE := Lib.hid (show ¬ rb = wb from fun e => by have := HLT.out; have := HRB.out; omega)
  have HNE2 := Lib.hid (show ¬ wb = rb from fun e => HNE.out e.symm)
  have HW2 := Lib.hid (HW0.out.kept HKF.out (fun h => h))
  have HK2 := Lib.hid (show Kept (fun i => i = wb) w w2 from HKF.out.mono (fun _ _ h => h.elim))
  clear HW0 HKF
  by_cases n0 : nm = [105, 115, 115, 117, 101]
  · skip
    subst n0
    have q0 : (x.toList == [105, 115, 115, 117, 101]) = true := by rw [HXL.out]; rfl
    go_wp2_with fail
    refine (opW wb r bad w2 HW2.out).mono ?_
    rintro e w4 ⟨o, mv, wsx, bdx, rfl, hmem, hw, hk, hfin⟩
    obtain ⟨MA, mc, rfl, -, -⟩ := hmem.shape
    obtain ⟨ml, hml⟩ : ∃ ml, (mcs o.ms).length = ml := ⟨_, rfl⟩
    rw [hml] at hmem ⊢
    unfold OC
    have HMM := Lib.hid hmem
    have HFI := Lib.hid hfin
    have HW4 := Lib.hid hw
    have HR4 := Lib.hid (HR2.out.kept hk HNE.out)
    have HRN := Lib.hid (show ¬ (Value.slice MA ml mc).ownBlock = some rb from hmem.ne HR4.out (by decide))
    have HK4 := Lib.hid (HK2.out.then hk (fun i _ h => h))
    have HSZ := Lib.hid (show w.heap.size ≤ w2.heap.size from HK2.out.size)
    clear hw hk hmem hfin HW2 HR2 HK2 hml
    go_wp2_with (show wpList _ _ _ ((⟨none, .store 33 (.tmp 4) _, _, _, _, none⟩ : Oper) :: _) _ _; refine wpList_store_mid rfl 33 (.tmp 4) _ rfl rb 0 #[.int .i64 0, .int .i64 (o.kind : Int), .int .i64 o.vip, .int .i64 o.backend, .int .i64 o.version, .bool o.a.six, .int .u64 (o.a.hi : Int), .int .u64 (o.a.lo : Int), .int .u16 (o.port : Int), .int .u8 (o.proto : Int), .int .i64 o.way, .slice MA ml mc, .int .i64 0, .int .i64 0, .int .u8 0, .slice none 0 0, .int .u32 0, .int .u32 0, .int .u32 0, .bool false, .int .u64 0, .int .u64 0, .int .u16 0] rfl rfl (HR4.out.there rfl) (by kernel_rfl) (by simp [Value.oneCell']) ?_)
    generalize hw9 : (World.setCells _ _ _ _) = w9
    have HK9 := Lib.hid (show Kept (fun i => i = rb) w4 w9 by rw [← hw9]; exact Kept.setCells (S := fun i => i = rb) rfl _ _ (Kept.refl _ _))
    have HR9 := Lib.hid (show Blk w9 rb 33 #[.int .i64 0, .int .i64 (o.kind : Int), .int .i64 o.vip, .int .i64 o.backend, .int .i64 o.version, .bool o.a.six, .int .u64 (o.a.hi : Int), .int .u64 (o.a.lo : Int), .int .u16 (o.port : Int), .int .u8 (o.proto : Int), .int .i64 o.way, .slice MA ml mc, .int .i64 0, .int .i64 0, .int .u8 0, .slice none 0 0, .int .u32 0, .int .u32 0, .int .u32 0, .bool false, .int .u64 0, .int .u64 0, .int .u16 0] by rw [← hw9]; exact HR4.out.setAll #[.int .i64 0, .int .i64 (o.kind : Int), .int .i64 o.vip, .int .i64 o.backend, .int .i64 o.version, .bool o.a.six, .int .u64 (o.a.hi : Int), .int .u64 (o.a.lo : Int), .int .u16 (o.port : Int), .int .u8 (o.proto : Int), .int .i64 o.way, .slice MA ml mc, .int .i64 0, .int .i64 0, .int .u8 0, .slice none 0 0, .int .u32 0, .int .u32 0, .int .u32 0, .bool false, .int .u64 0, .int .u64 0, .int .u16 0] rfl)
    clear hw9
    refine bodyPost_ret (results_blk1 (P := Tryz.prog) (show Tryz.f14.results = _ from rfl) _ _ rb 33 #[.int .i64 0, .int .i64 (o.kind : Int), .int .i64 o.vip, .int .i64 o.backend, .int .i64 o.version, .bool o.a.six, .int .u64 (o.a.hi : Int), .int .u64 (o.a.lo : Int), .int .u16 (o.port : Int), .int .u8 (o.proto : Int), .int .i64 o.way, .slice MA ml mc, .int .i64 0, .int .i64 0, .int .u8 0, .slice none 0 0, .int .u32 0, .int .u32 0, .int .u32 0, .bool false, .int .u64 0, .int .u64 0, .int .u16 0] _ rfl HR9.out Tryz.underlying33 rfl (by kernel_rfl)) rfl ?_
    have HW9 := Lib.hid (HW4.out.kept HK9.out HNE2.out)
    have HKZ := Lib.hid (HK4.out.then HK9.out (fun i hi e => by have := HRB.out; omega))
    exact ⟨{ Sp.zero with op := o }, .slice MA ml mc, .slice none 0 0, wsx, bdx, rfl, (RowN.kept HMM.out HK9.out (fun g hg e => HRN.out (by rw [hg, e]))).more HSZ.out, LoadIn.nil _, HW9.out, HKZ.out, iss_fin HFI.out⟩
  by_cases n1 : nm = [99, 111, 109, 109, 105, 116]
  · skip
    subst n1
    have q0 : (x.toList == [105, 115, 115, 117, 101]) = false := by rw [HXL.out]; rfl
    have q1 : (x.toList == [99, 111, 109, 109, 105, 116]) = true := by rw [HXL.out]; rfl
    go_wp2_with (show wpList _ _ _ ((⟨none, .store 33 (.tmp 4) _, _, _, _, none⟩ : Oper) :: _) _ _; refine wpList_store_mid rfl 33 (.tmp 4) _ rfl rb 0 #[.int .i64 1, .int .i64 0, .int .i64 0, .int .i64 0, .int .i64 0, .bool false, .int .u64 0, .int .u64 0, .int .u16 0, .int .u8 0, .int .i64 0, .slice none 0 0, .int .i64 0, .int .i64 0, .int .u8 0, .slice none 0 0, .int .u32 0, .int .u32 0, .int .u32 0, .bool false, .int .u64 0, .int .u64 0, .int .u16 0] rfl rfl (HR2.out.there rfl) (by kernel_rfl) (by simp [Value.oneCell']) ?_)
    generalize hw9 : (World.setCells _ _ _ _) = w9
    have HK9 := Lib.hid (show Kept (fun i => i = rb) w2 w9 by rw [← hw9]; exact Kept.setCells (S := fun i => i = rb) rfl _ _ (Kept.refl _ _))
    have HR9 := Lib.hid (show Blk w9 rb 33 #[.int .i64 1, .int .i64 0, .int .i64 0, .int .i64 0, .int .i64 0, .bool false, .int .u64 0, .int .u64 0, .int .u16 0, .int .u8 0, .int .i64 0, .slice none 0 0, .int .i64 0, .int .i64 0, .int .u8 0, .slice none 0 0, .int .u32 0, .int .u32 0, .int .u32 0, .bool false, .int .u64 0, .int .u64 0, .int .u16 0] by rw [← hw9]; exact HR2.out.setAll #[.int .i64 1, .int .i64 0, .int .i64 0, .int .i64 0, .int .i64 0, .bool false, .int .u64 0, .int .u64 0, .int .u16 0, .int .u8 0, .int .i64 0, .slice none 0 0, .int .i64 0, .int .i64 0, .int .u8 0, .slice none 0 0, .int .u32 0, .int .u32 0, .int .u32 0, .bool false, .int .u64 0, .int .u64 0, .int .u16 0] rfl)
    clear hw9
    refine bodyPost_ret (results_blk1 (P := Tryz.prog) (show Tryz.f14.results = _ from rfl) _ _ rb 33 #[.int .i64 1, .int .i64 0, .int .i64 0, .int .i64 0, .int .i64 0, .bool false, .int .u64 0, .int .u64 0, .int .u16 0, .int .u8 0, .int .i64 0, .slice none 0 0, .int .i64 0, .int .i64 0, .int .u8 0, .slice none 0 0, .int .u32 0, .int .u32 0, .int .u32 0, .bool false, .int .u64 0, .int .u64 0, .int .u16 0] _ rfl HR9.out Tryz.underlying33 rfl (by kernel_rfl)) rfl ?_
    have HW9 := Lib.hid (HW2.out.kept HK9.out HNE2.out)
    have HKZ := Lib.hid (HK2.out.then HK9.out (fun i hi e => by have := HRB.out; omega))
    exact ⟨fillP 1 [] (eat [] ⟨r, Fd.zero, bad⟩).f, .slice none 0 0, .slice none 0 0, (eat [] ⟨r, Fd.zero, bad⟩).ws, (eat [] ⟨r, Fd.zero, bad⟩).bad, rfl, RowN.nil _ _ _ _, LoadIn.nil _, HW9.out, HKZ.out, cmd_fin (nm := [99, 111, 109, 109, 105, 116]) rfl (by decide) r bad⟩
  by_cases n2 : nm = [99, 114, 97, 115, 104]
  · skip
    subst n2
    have q0 : (x.toList == [105, 115, 115, 117, 101]) = false := by rw [HXL.out]; rfl
    have q1 : (x.toList == [99, 111, 109, 109, 105, 116]) = false := by rw [HXL.out]; rfl
    have q2 : (x.toList == [99, 114, 97, 115, 104]) = true := by rw [HXL.out]; rfl
    go_wp2_with fail
    refine (greatW wb r (bad) w2 HW2.out).mono ?_
    rintro e w3 ⟨rfl, hw, hk⟩
    have HW3 := Lib.hid hw
    have HR3 := Lib.hid (HR2.out.kept hk HNE.out)
    have HK3 := Lib.hid (HK2.out.then hk (fun i _ h => h))

    obtain ⟨v2, hv2⟩ : ∃ v, numV 1073741824 r = v := ⟨_, rfl⟩
    rw [hv2]
    have HV2 := Lib.hid hv2
    clear hw hk HW2 HR2 HK2 hv2
    go_wp2_with fail
    refine (flagsW wb (r.tail) (bad || numBad 1073741824 r) w3 HW3.out).mono ?_
    rintro e w4 ⟨rfl, hw, hk⟩
    have HW4 := Lib.hid hw
    have HR4 := Lib.hid (HR3.out.kept hk HNE.out)
    have HK4 := Lib.hid (HK3.out.then hk (fun i _ h => h))

    obtain ⟨v3, hv3⟩ : ∃ v, numV 255 (r.tail) = v := ⟨_, rfl⟩
    rw [hv3]
    have HV3 := Lib.hid hv3
    clear hw hk HW3 HR3 HK3 hv3
    go_wp2_with (show wpList _ _ _ ((⟨none, .store 33 (.tmp 4) _, _, _, _, none⟩ : Oper) :: _) _ _; refine wpList_store_mid rfl 33 (.tmp 4) _ rfl rb 0 #[.int .i64 2, .int .i64 0, .int .i64 0, .int .i64 0, .int .i64 0, .bool false, .int .u64 0, .int .u64 0, .int .u16 0, .int .u8 0, .int .i64 0, .slice none 0 0, .int .i64 (v2 : Int), .int .i64 0, .int .u8 (v3 : Int), .slice none 0 0, .int .u32 0, .int .u32 0, .int .u32 0, .bool false, .int .u64 0, .int .u64 0, .int .u16 0] rfl rfl (HR4.out.there rfl) (by kernel_rfl) (by simp [Value.oneCell']) ?_)
    generalize hw9 : (World.setCells _ _ _ _) = w9
    have HK9 := Lib.hid (show Kept (fun i => i = rb) w4 w9 by rw [← hw9]; exact Kept.setCells (S := fun i => i = rb) rfl _ _ (Kept.refl _ _))
    have HR9 := Lib.hid (show Blk w9 rb 33 #[.int .i64 2, .int .i64 0, .int .i64 0, .int .i64 0, .int .i64 0, .bool false, .int .u64 0, .int .u64 0, .int .u16 0, .int .u8 0, .int .i64 0, .slice none 0 0, .int .i64 (v2 : Int), .int .i64 0, .int .u8 (v3 : Int), .slice none 0 0, .int .u32 0, .int .u32 0, .int .u32 0, .bool false, .int .u64 0, .int .u64 0, .int .u16 0] by rw [← hw9]; exact HR4.out.setAll #[.int .i64 2, .int .i64 0, .int .i64 0, .int .i64 0, .int .i64 0, .bool false, .int .u64 0, .int .u64 0, .int .u16 0, .int .u8 0, .int .i64 0, .slice none 0 0, .int .i64 (v2 : Int), .int .i64 0, .int .u8 (v3 : Int), .slice none 0 0, .int .u32 0, .int .u32 0, .int .u32 0, .bool false, .int .u64 0, .int .u64 0, .int .u16 0] rfl)
    clear hw9
    refine bodyPost_ret (results_blk1 (P := Tryz.prog) (show Tryz.f14.results = _ from rfl) _ _ rb 33 #[.int .i64 2, .int .i64 0, .int .i64 0, .int .i64 0, .int .i64 0, .bool false, .int .u64 0, .int .u64 0, .int .u16 0, .int .u8 0, .int .i64 0, .slice none 0 0, .int .i64 (v2 : Int), .int .i64 0, .int .u8 (v3 : Int), .slice none 0 0, .int .u32 0, .int .u32 0, .int .u32 0, .bool false, .int .u64 0, .int .u64 0, .int .u16 0] _ rfl HR9.out Tryz.underlying33 rfl (by kernel_rfl)) rfl ?_
    have HW9 := Lib.hid (HW4.out.kept HK9.out HNE2.out)
    have HKZ := Lib.hid (HK4.out.then HK9.out (fun i hi e => by have := HRB.out; omega))
    have hv2 := HV2.out
    subst hv2
    have hv3 := HV3.out
    subst hv3
    exact ⟨fillP 2 [87, 70] (eat [87, 70] ⟨r, Fd.zero, bad⟩).f, .slice none 0 0, .slice none 0 0, (eat [87, 70] ⟨r, Fd.zero, bad⟩).ws, (eat [87, 70] ⟨r, Fd.zero, bad⟩).bad, rfl, RowN.nil _ _ _ _, LoadIn.nil _, HW9.out, HKZ.out, cmd_fin (nm := [99, 114, 97, 115, 104]) rfl (by decide) r bad⟩
  by_cases n3 : nm = [111, 102, 102, 101, 114]
  · skip
    subst n3
    have q0 : (x.toList == [105, 115, 115, 117, 101]) = false := by rw [HXL.out]; rfl
    have q1 : (x.toList == [99, 111, 109, 109, 105, 116]) = false := by rw [HXL.out]; rfl
    have q2 : (x.toList == [99, 114, 97, 115, 104]) = false := by rw [HXL.out]; rfl
    have q3 : (x.toList == [111, 102, 102, 101, 114]) = true := by rw [HXL.out]; rfl
    go_wp2_with fail
    refine (greatW wb r (bad) w2 HW2.out).mono ?_
    rintro e w3 ⟨rfl, hw, hk⟩
    have HW3 := Lib.hid hw
    have HR3 := Lib.hid (HR2.out.kept hk HNE.out)
    have HK3 := Lib.hid (HK2.out.then hk (fun i _ h => h))

    obtain ⟨v2, hv2⟩ : ∃ v, numV 1073741824 r = v := ⟨_, rfl⟩
    rw [hv2]
    have HV2 := Lib.hid hv2
    clear hw hk HW2 HR2 HK2 hv2
    go_wp2_with (show wpList _ _ _ ((⟨none, .store 33 (.tmp 4) _, _, _, _, none⟩ : Oper) :: _) _ _; refine wpList_store_mid rfl 33 (.tmp 4) _ rfl rb 0 #[.int .i64 3, .int .i64 0, .int .i64 0, .int .i64 0, .int .i64 0, .bool false, .int .u64 0, .int .u64 0, .int .u16 0, .int .u8 0, .int .i64 0, .slice none 0 0, .int .i64 (v2 : Int), .int .i64 0, .int .u8 0, .slice none 0 0, .int .u32 0, .int .u32 0, .int .u32 0, .bool false, .int .u64 0, .int .u64 0, .int .u16 0] rfl rfl (HR3.out.there rfl) (by kernel_rfl) (by simp [Value.oneCell']) ?_)
    generalize hw9 : (World.setCells _ _ _ _) = w9
    have HK9 := Lib.hid (show Kept (fun i => i = rb) w3 w9 by rw [← hw9]; exact Kept.setCells (S := fun i => i = rb) rfl _ _ (Kept.refl _ _))
    have HR9 := Lib.hid (show Blk w9 rb 33 #[.int .i64 3, .int .i64 0, .int .i64 0, .int .i64 0, .int .i64 0, .bool false, .int .u64 0, .int .u64 0, .int .u16 0, .int .u8 0, .int .i64 0, .slice none 0 0, .int .i64 (v2 : Int), .int .i64 0, .int .u8 0, .slice none 0 0, .int .u32 0, .int .u32 0, .int .u32 0, .bool false, .int .u64 0, .int .u64 0, .int .u16 0] by rw [← hw9]; exact HR3.out.setAll #[.int .i64 3, .int .i64 0, .int .i64 0, .int .i64 0, .int .i64 0, .bool false, .int .u64 0, .int .u64 0, .int .u16 0, .int .u8 0, .int .i64 0, .slice none 0 0, .int .i64 (v2 : Int), .int .i64 0, .int .u8 0, .slice none 0 0, .int .u32 0, .int .u32 0, .int .u32 0, .bool false, .int .u64 0, .int .u64 0, .int .u16 0] rfl)
    clear hw9
    refine bodyPost_ret (results_blk1 (P := Tryz.prog) (show Tryz.f14.results = _ from rfl) _ _ rb 33 #[.int .i64 3, .int .i64 0, .int .i64 0, .int .i64 0, .int .i64 0, .bool false, .int .u64 0, .int .u64 0, .int .u16 0, .int .u8 0, .int .i64 0, .slice none 0 0, .int .i64 (v2 : Int), .int .i64 0, .int .u8 0, .slice none 0 0, .int .u32 0, .int .u32 0, .int .u32 0, .bool false, .int .u64 0, .int .u64 0, .int .u16 0] _ rfl HR9.out Tryz.underlying33 rfl (by kernel_rfl)) rfl ?_
    have HW9 := Lib.hid (HW3.out.kept HK9.out HNE2.out)
    have HKZ := Lib.hid (HK3.out.then HK9.out (fun i hi e => by have := HRB.out; omega))
    have hv2 := HV2.out
    subst hv2
    exact ⟨fillP 3 [87] (eat [87] ⟨r, Fd.zero, bad⟩).f, .slice none 0 0, .slice none 0 0, (eat [87] ⟨r, Fd.zero, bad⟩).ws, (eat [87] ⟨r, Fd.zero, bad⟩).bad, rfl, RowN.nil _ _ _ _, LoadIn.nil _, HW9.out, HKZ.out, cmd_fin (nm := [111, 102, 102, 101, 114]) rfl (by decide) r bad⟩
  by_cases n4 : nm = [100, 101, 108, 105, 118, 101, 114]
  · skip
    subst n4
    have q0 : (x.toList == [105, 115, 115, 117, 101]) = false := by rw [HXL.out]; rfl
    have q1 : (x.toList == [99, 111, 109, 109, 105, 116]) = false := by rw [HXL.out]; rfl
    have q2 : (x.toList == [99, 114, 97, 115, 104]) = false := by rw [HXL.out]; rfl
    have q3 : (x.toList == [111, 102, 102, 101, 114]) = false := by rw [HXL.out]; rfl
    have q4 : (x.toList == [100, 101, 108, 105, 118, 101, 114]) = true := by rw [HXL.out]; rfl
    go_wp2_with fail
    refine (greatW wb r (bad) w2 HW2.out).mono ?_
    rintro e w3 ⟨rfl, hw, hk⟩
    have HW3 := Lib.hid hw
    have HR3 := Lib.hid (HR2.out.kept hk HNE.out)
    have HK3 := Lib.hid (HK2.out.then hk (fun i _ h => h))

    obtain ⟨v2, hv2⟩ : ∃ v, numV 1073741824 r = v := ⟨_, rfl⟩
    rw [hv2]
    have HV2 := Lib.hid hv2
    clear hw hk HW2 HR2 HK2 hv2
    go_wp2_with (show wpList _ _ _ ((⟨none, .store 33 (.tmp 4) _, _, _, _, none⟩ : Oper) :: _) _ _; refine wpList_store_mid rfl 33 (.tmp 4) _ rfl rb 0 #[.int .i64 4, .int .i64 0, .int .i64 0, .int .i64 0, .int .i64 0, .bool false, .int .u64 0, .int .u64 0, .int .u16 0, .int .u8 0, .int .i64 0, .slice none 0 0, .int .i64 (v2 : Int), .int .i64 0, .int .u8 0, .slice none 0 0, .int .u32 0, .int .u32 0, .int .u32 0, .bool false, .int .u64 0, .int .u64 0, .int .u16 0] rfl rfl (HR3.out.there rfl) (by kernel_rfl) (by simp [Value.oneCell']) ?_)
    generalize hw9 : (World.setCells _ _ _ _) = w9
    have HK9 := Lib.hid (show Kept (fun i => i = rb) w3 w9 by rw [← hw9]; exact Kept.setCells (S := fun i => i = rb) rfl _ _ (Kept.refl _ _))
    have HR9 := Lib.hid (show Blk w9 rb 33 #[.int .i64 4, .int .i64 0, .int .i64 0, .int .i64 0, .int .i64 0, .bool false, .int .u64 0, .int .u64 0, .int .u16 0, .int .u8 0, .int .i64 0, .slice none 0 0, .int .i64 (v2 : Int), .int .i64 0, .int .u8 0, .slice none 0 0, .int .u32 0, .int .u32 0, .int .u32 0, .bool false, .int .u64 0, .int .u64 0, .int .u16 0] by rw [← hw9]; exact HR3.out.setAll #[.int .i64 4, .int .i64 0, .int .i64 0, .int .i64 0, .int .i64 0, .bool false, .int .u64 0, .int .u64 0, .int .u16 0, .int .u8 0, .int .i64 0, .slice none 0 0, .int .i64 (v2 : Int), .int .i64 0, .int .u8 0, .slice none 0 0, .int .u32 0, .int .u32 0, .int .u32 0, .bool false, .int .u64 0, .int .u64 0, .int .u16 0] rfl)
    clear hw9
    refine bodyPost_ret (results_blk1 (P := Tryz.prog) (show Tryz.f14.results = _ from rfl) _ _ rb 33 #[.int .i64 4, .int .i64 0, .int .i64 0, .int .i64 0, .int .i64 0, .bool false, .int .u64 0, .int .u64 0, .int .u16 0, .int .u8 0, .int .i64 0, .slice none 0 0, .int .i64 (v2 : Int), .int .i64 0, .int .u8 0, .slice none 0 0, .int .u32 0, .int .u32 0, .int .u32 0, .bool false, .int .u64 0, .int .u64 0, .int .u16 0] _ rfl HR9.out Tryz.underlying33 rfl (by kernel_rfl)) rfl ?_
    have HW9 := Lib.hid (HW3.out.kept HK9.out HNE2.out)
    have HKZ := Lib.hid (HK3.out.then HK9.out (fun i hi e => by have := HRB.out; omega))
    have hv2 := HV2.out
    subst hv2
    exact ⟨fillP 4 [87] (eat [87] ⟨r, Fd.zero, bad⟩).f, .slice none 0 0, .slice none 0 0, (eat [87] ⟨r, Fd.zero, bad⟩).ws, (eat [87] ⟨r, Fd.zero, bad⟩).bad, rfl, RowN.nil _ _ _ _, LoadIn.nil _, HW9.out, HKZ.out, cmd_fin (nm := [100, 101, 108, 105, 118, 101, 114]) rfl (by decide) r bad⟩
  by_cases n5 : nm = [100, 114, 111, 112]
  · skip
    subst n5
    have q0 : (x.toList == [105, 115, 115, 117, 101]) = false := by rw [HXL.out]; rfl
    have q1 : (x.toList == [99, 111, 109, 109, 105, 116]) = false := by rw [HXL.out]; rfl
    have q2 : (x.toList == [99, 114, 97, 115, 104]) = false := by rw [HXL.out]; rfl
    have q3 : (x.toList == [111, 102, 102, 101, 114]) = false := by rw [HXL.out]; rfl
    have q4 : (x.toList == [100, 101, 108, 105, 118, 101, 114]) = false := by rw [HXL.out]; rfl
    have q5 : (x.toList == [100, 114, 111, 112]) = true := by rw [HXL.out]; rfl
    go_wp2_with fail
    refine (greatW wb r (bad) w2 HW2.out).mono ?_
    rintro e w3 ⟨rfl, hw, hk⟩
    have HW3 := Lib.hid hw
    have HR3 := Lib.hid (HR2.out.kept hk HNE.out)
    have HK3 := Lib.hid (HK2.out.then hk (fun i _ h => h))

    obtain ⟨v2, hv2⟩ : ∃ v, numV 1073741824 r = v := ⟨_, rfl⟩
    rw [hv2]
    have HV2 := Lib.hid hv2
    clear hw hk HW2 HR2 HK2 hv2
    go_wp2_with (show wpList _ _ _ ((⟨none, .store 33 (.tmp 4) _, _, _, _, none⟩ : Oper) :: _) _ _; refine wpList_store_mid rfl 33 (.tmp 4) _ rfl rb 0 #[.int .i64 5, .int .i64 0, .int .i64 0, .int .i64 0, .int .i64 0, .bool false, .int .u64 0, .int .u64 0, .int .u16 0, .int .u8 0, .int .i64 0, .slice none 0 0, .int .i64 (v2 : Int), .int .i64 0, .int .u8 0, .slice none 0 0, .int .u32 0, .int .u32 0, .int .u32 0, .bool false, .int .u64 0, .int .u64 0, .int .u16 0] rfl rfl (HR3.out.there rfl) (by kernel_rfl) (by simp [Value.oneCell']) ?_)
    generalize hw9 : (World.setCells _ _ _ _) = w9
    have HK9 := Lib.hid (show Kept (fun i => i = rb) w3 w9 by rw [← hw9]; exact Kept.setCells (S := fun i => i = rb) rfl _ _ (Kept.refl _ _))
    have HR9 := Lib.hid (show Blk w9 rb 33 #[.int .i64 5, .int .i64 0, .int .i64 0, .int .i64 0, .int .i64 0, .bool false, .int .u64 0, .int .u64 0, .int .u16 0, .int .u8 0, .int .i64 0, .slice none 0 0, .int .i64 (v2 : Int), .int .i64 0, .int .u8 0, .slice none 0 0, .int .u32 0, .int .u32 0, .int .u32 0, .bool false, .int .u64 0, .int .u64 0, .int .u16 0] by rw [← hw9]; exact HR3.out.setAll #[.int .i64 5, .int .i64 0, .int .i64 0, .int .i64 0, .int .i64 0, .bool false, .int .u64 0, .int .u64 0, .int .u16 0, .int .u8 0, .int .i64 0, .slice none 0 0, .int .i64 (v2 : Int), .int .i64 0, .int .u8 0, .slice none 0 0, .int .u32 0, .int .u32 0, .int .u32 0, .bool false, .int .u64 0, .int .u64 0, .int .u16 0] rfl)
    clear hw9
    refine bodyPost_ret (results_blk1 (P := Tryz.prog) (show Tryz.f14.results = _ from rfl) _ _ rb 33 #[.int .i64 5, .int .i64 0, .int .i64 0, .int .i64 0, .int .i64 0, .bool false, .int .u64 0, .int .u64 0, .int .u16 0, .int .u8 0, .int .i64 0, .slice none 0 0, .int .i64 (v2 : Int), .int .i64 0, .int .u8 0, .slice none 0 0, .int .u32 0, .int .u32 0, .int .u32 0, .bool false, .int .u64 0, .int .u64 0, .int .u16 0] _ rfl HR9.out Tryz.underlying33 rfl (by kernel_rfl)) rfl ?_
    have HW9 := Lib.hid (HW3.out.kept HK9.out HNE2.out)
    have HKZ := Lib.hid (HK3.out.then HK9.out (fun i hi e => by have := HRB.out; omega))
    have hv2 := HV2.out
    subst hv2
    exact ⟨fillP 5 [87] (eat [87] ⟨r, Fd.zero, bad⟩).f, .slice none 0 0, .slice none 0 0, (eat [87] ⟨r, Fd.zero, bad⟩).ws, (eat [87] ⟨r, Fd.zero, bad⟩).bad, rfl, RowN.nil _ _ _ _, LoadIn.nil _, HW9.out, HKZ.out, cmd_fin (nm := [100, 114, 111, 112]) rfl (by decide) r bad⟩
  by_cases n6 : nm = [116, 119, 105, 99, 101]
  · skip
    subst n6
    have q0 : (x.toList == [105, 115, 115, 117, 101]) = false := by rw [HXL.out]; rfl
    have q1 : (x.toList == [99, 111, 109, 109, 105, 116]) = false := by rw [HXL.out]; rfl
    have q2 : (x.toList == [99, 114, 97, 115, 104]) = false := by rw [HXL.out]; rfl
    have q3 : (x.toList == [111, 102, 102, 101, 114]) = false := by rw [HXL.out]; rfl
    have q4 : (x.toList == [100, 101, 108, 105, 118, 101, 114]) = false := by rw [HXL.out]; rfl
    have q5 : (x.toList == [100, 114, 111, 112]) = false := by rw [HXL.out]; rfl
    have q6 : (x.toList == [116, 119, 105, 99, 101]) = true := by rw [HXL.out]; rfl
    go_wp2_with fail
    refine (greatW wb r (bad) w2 HW2.out).mono ?_
    rintro e w3 ⟨rfl, hw, hk⟩
    have HW3 := Lib.hid hw
    have HR3 := Lib.hid (HR2.out.kept hk HNE.out)
    have HK3 := Lib.hid (HK2.out.then hk (fun i _ h => h))

    obtain ⟨v2, hv2⟩ : ∃ v, numV 1073741824 r = v := ⟨_, rfl⟩
    rw [hv2]
    have HV2 := Lib.hid hv2
    clear hw hk HW2 HR2 HK2 hv2
    go_wp2_with (show wpList _ _ _ ((⟨none, .store 33 (.tmp 4) _, _, _, _, none⟩ : Oper) :: _) _ _; refine wpList_store_mid rfl 33 (.tmp 4) _ rfl rb 0 #[.int .i64 6, .int .i64 0, .int .i64 0, .int .i64 0, .int .i64 0, .bool false, .int .u64 0, .int .u64 0, .int .u16 0, .int .u8 0, .int .i64 0, .slice none 0 0, .int .i64 (v2 : Int), .int .i64 0, .int .u8 0, .slice none 0 0, .int .u32 0, .int .u32 0, .int .u32 0, .bool false, .int .u64 0, .int .u64 0, .int .u16 0] rfl rfl (HR3.out.there rfl) (by kernel_rfl) (by simp [Value.oneCell']) ?_)
    generalize hw9 : (World.setCells _ _ _ _) = w9
    have HK9 := Lib.hid (show Kept (fun i => i = rb) w3 w9 by rw [← hw9]; exact Kept.setCells (S := fun i => i = rb) rfl _ _ (Kept.refl _ _))
    have HR9 := Lib.hid (show Blk w9 rb 33 #[.int .i64 6, .int .i64 0, .int .i64 0, .int .i64 0, .int .i64 0, .bool false, .int .u64 0, .int .u64 0, .int .u16 0, .int .u8 0, .int .i64 0, .slice none 0 0, .int .i64 (v2 : Int), .int .i64 0, .int .u8 0, .slice none 0 0, .int .u32 0, .int .u32 0, .int .u32 0, .bool false, .int .u64 0, .int .u64 0, .int .u16 0] by rw [← hw9]; exact HR3.out.setAll #[.int .i64 6, .int .i64 0, .int .i64 0, .int .i64 0, .int .i64 0, .bool false, .int .u64 0, .int .u64 0, .int .u16 0, .int .u8 0, .int .i64 0, .slice none 0 0, .int .i64 (v2 : Int), .int .i64 0, .int .u8 0, .slice none 0 0, .int .u32 0, .int .u32 0, .int .u32 0, .bool false, .int .u64 0, .int .u64 0, .int .u16 0] rfl)
    clear hw9
    refine bodyPost_ret (results_blk1 (P := Tryz.prog) (show Tryz.f14.results = _ from rfl) _ _ rb 33 #[.int .i64 6, .int .i64 0, .int .i64 0, .int .i64 0, .int .i64 0, .bool false, .int .u64 0, .int .u64 0, .int .u16 0, .int .u8 0, .int .i64 0, .slice none 0 0, .int .i64 (v2 : Int), .int .i64 0, .int .u8 0, .slice none 0 0, .int .u32 0, .int .u32 0, .int .u32 0, .bool false, .int .u64 0, .int .u64 0, .int .u16 0] _ rfl HR9.out Tryz.underlying33 rfl (by kernel_rfl)) rfl ?_
    have HW9 := Lib.hid (HW3.out.kept HK9.out HNE2.out)
    have HKZ := Lib.hid (HK3.out.then HK9.out (fun i hi e => by have := HRB.out; omega))
    have hv2 := HV2.out
    subst hv2
    exact ⟨fillP 6 [87] (eat [87] ⟨r, Fd.zero, bad⟩).f, .slice none 0 0, .slice none 0 0, (eat [87] ⟨r, Fd.zero, bad⟩).ws, (eat [87] ⟨r, Fd.zero, bad⟩).bad, rfl, RowN.nil _ _ _ _, LoadIn.nil _, HW9.out, HKZ.out, cmd_fin (nm := [116, 119, 105, 99, 101]) rfl (by decide) r bad⟩
  by_cases n7 : nm = [114, 101, 115, 116, 97, 114, 116]
  · skip
    subst n7
    have q0 : (x.toList == [105, 115, 115, 117, 101]) = false := by rw [HXL.out]; rfl
    have q1 : (x.toList == [99, 111, 109, 109, 105, 116]) = false := by rw [HXL.out]; rfl
    have q2 : (x.toList == [99, 114, 97, 115, 104]) = false := by rw [HXL.out]; rfl
    have q3 : (x.toList == [111, 102, 102, 101, 114]) = false := by rw [HXL.out]; rfl
    have q4 : (x.toList == [100, 101, 108, 105, 118, 101, 114]) = false := by rw [HXL.out]; rfl
    have q5 : (x.toList == [100, 114, 111, 112]) = false := by rw [HXL.out]; rfl
    have q6 : (x.toList == [116, 119, 105, 99, 101]) = false := by rw [HXL.out]; rfl
    have q7 : (x.toList == [114, 101, 115, 116, 97, 114, 116]) = true := by rw [HXL.out]; rfl
    go_wp2_with fail
    refine (greatW wb r (bad) w2 HW2.out).mono ?_
    rintro e w3 ⟨rfl, hw, hk⟩
    have HW3 := Lib.hid hw
    have HR3 := Lib.hid (HR2.out.kept hk HNE.out)
    have HK3 := Lib.hid (HK2.out.then hk (fun i _ h => h))

    obtain ⟨v2, hv2⟩ : ∃ v, numV 1073741824 r = v := ⟨_, rfl⟩
    rw [hv2]
    have HV2 := Lib.hid hv2
    clear hw hk HW2 HR2 HK2 hv2
    go_wp2_with (show wpList _ _ _ ((⟨none, .store 33 (.tmp 4) _, _, _, _, none⟩ : Oper) :: _) _ _; refine wpList_store_mid rfl 33 (.tmp 4) _ rfl rb 0 #[.int .i64 7, .int .i64 0, .int .i64 0, .int .i64 0, .int .i64 0, .bool false, .int .u64 0, .int .u64 0, .int .u16 0, .int .u8 0, .int .i64 0, .slice none 0 0, .int .i64 (v2 : Int), .int .i64 0, .int .u8 0, .slice none 0 0, .int .u32 0, .int .u32 0, .int .u32 0, .bool false, .int .u64 0, .int .u64 0, .int .u16 0] rfl rfl (HR3.out.there rfl) (by kernel_rfl) (by simp [Value.oneCell']) ?_)
    generalize hw9 : (World.setCells _ _ _ _) = w9
    have HK9 := Lib.hid (show Kept (fun i => i = rb) w3 w9 by rw [← hw9]; exact Kept.setCells (S := fun i => i = rb) rfl _ _ (Kept.refl _ _))
    have HR9 := Lib.hid (show Blk w9 rb 33 #[.int .i64 7, .int .i64 0, .int .i64 0, .int .i64 0, .int .i64 0, .bool false, .int .u64 0, .int .u64 0, .int .u16 0, .int .u8 0, .int .i64 0, .slice none 0 0, .int .i64 (v2 : Int), .int .i64 0, .int .u8 0, .slice none 0 0, .int .u32 0, .int .u32 0, .int .u32 0, .bool false, .int .u64 0, .int .u64 0, .int .u16 0] by rw [← hw9]; exact HR3.out.setAll #[.int .i64 7, .int .i64 0, .int .i64 0, .int .i64 0, .int .i64 0, .bool false, .int .u64 0, .int .u64 0, .int .u16 0, .int .u8 0, .int .i64 0, .slice none 0 0, .int .i64 (v2 : Int), .int .i64 0, .int .u8 0, .slice none 0 0, .int .u32 0, .int .u32 0, .int .u32 0, .bool false, .int .u64 0, .int .u64 0, .int .u16 0] rfl)
    clear hw9
    refine bodyPost_ret (results_blk1 (P := Tryz.prog) (show Tryz.f14.results = _ from rfl) _ _ rb 33 #[.int .i64 7, .int .i64 0, .int .i64 0, .int .i64 0, .int .i64 0, .bool false, .int .u64 0, .int .u64 0, .int .u16 0, .int .u8 0, .int .i64 0, .slice none 0 0, .int .i64 (v2 : Int), .int .i64 0, .int .u8 0, .slice none 0 0, .int .u32 0, .int .u32 0, .int .u32 0, .bool false, .int .u64 0, .int .u64 0, .int .u16 0] _ rfl HR9.out Tryz.underlying33 rfl (by kernel_rfl)) rfl ?_
    have HW9 := Lib.hid (HW3.out.kept HK9.out HNE2.out)
    have HKZ := Lib.hid (HK3.out.then HK9.out (fun i hi e => by have := HRB.out; omega))
    have hv2 := HV2.out
    subst hv2
    exact ⟨fillP 7 [87] (eat [87] ⟨r, Fd.zero, bad⟩).f, .slice none 0 0, .slice none 0 0, (eat [87] ⟨r, Fd.zero, bad⟩).ws, (eat [87] ⟨r, Fd.zero, bad⟩).bad, rfl, RowN.nil _ _ _ _, LoadIn.nil _, HW9.out, HKZ.out, cmd_fin (nm := [114, 101, 115, 116, 97, 114, 116]) rfl (by decide) r bad⟩
  by_cases n8 : nm = [114, 101, 112, 111, 114, 116]
  · skip
    subst n8
    have q0 : (x.toList == [105, 115, 115, 117, 101]) = false := by rw [HXL.out]; rfl
    have q1 : (x.toList == [99, 111, 109, 109, 105, 116]) = false := by rw [HXL.out]; rfl
    have q2 : (x.toList == [99, 114, 97, 115, 104]) = false := by rw [HXL.out]; rfl
    have q3 : (x.toList == [111, 102, 102, 101, 114]) = false := by rw [HXL.out]; rfl
    have q4 : (x.toList == [100, 101, 108, 105, 118, 101, 114]) = false := by rw [HXL.out]; rfl
    have q5 : (x.toList == [100, 114, 111, 112]) = false := by rw [HXL.out]; rfl
    have q6 : (x.toList == [116, 119, 105, 99, 101]) = false := by rw [HXL.out]; rfl
    have q7 : (x.toList == [114, 101, 115, 116, 97, 114, 116]) = false := by rw [HXL.out]; rfl
    have q8 : (x.toList == [114, 101, 112, 111, 114, 116]) = true := by rw [HXL.out]; rfl
    go_wp2_with fail
    refine (greatW wb r (bad) w2 HW2.out).mono ?_
    rintro e w3 ⟨rfl, hw, hk⟩
    have HW3 := Lib.hid hw
    have HR3 := Lib.hid (HR2.out.kept hk HNE.out)
    have HK3 := Lib.hid (HK2.out.then hk (fun i _ h => h))

    obtain ⟨v2, hv2⟩ : ∃ v, numV 1073741824 r = v := ⟨_, rfl⟩
    rw [hv2]
    have HV2 := Lib.hid hv2
    clear hw hk HW2 HR2 HK2 hv2
    go_wp2_with fail
    refine (longW wb (r.tail) (bad || numBad 1073741824 r) w3 HW3.out).mono ?_
    rintro e w4 ⟨rfl, hw, hk⟩
    have HW4 := Lib.hid hw
    have HR4 := Lib.hid (HR3.out.kept hk HNE.out)
    have HK4 := Lib.hid (HK3.out.then hk (fun i _ h => h))

    obtain ⟨v3, hv3⟩ : ∃ v, numV 1073741824 (r.tail) = v := ⟨_, rfl⟩
    rw [hv3]
    have HV3 := Lib.hid hv3
    clear hw hk HW3 HR3 HK3 hv3
    go_wp2_with fail
    refine (next_any wb (r.tail.tail) (bad || numBad 1073741824 r || numBad 1073741824 (r.tail)) w4 HW4.out).mono ?_
    rintro e wn ⟨⟨y, rfl, hy, hys⟩, hw, hk⟩
    have HWn := Lib.hid hw
    have HRn := Lib.hid (HR4.out.kept hk HNE.out)
    have HKn := Lib.hid (HK4.out.then hk (fun i _ h => h))
    have HY := Lib.hid hy
    clear hw hk HW4 HR4 HK4 hy
    go_wp2_with fail
    refine (numW wb (r.tail.tail).tail ((bad || numBad 1073741824 r || numBad 1073741824 (r.tail)) || (r.tail.tail).isEmpty) y 1 wn HWn.out (by omega) hys).mono ?_
    rintro e w5 ⟨rfl, hw, hk⟩
    rw [HY.out] at hw
    rw [HY.out]
    have HW5 := Lib.hid (show WS w5 wb (r.tail.tail).tail ((bad || numBad 1073741824 r || numBad 1073741824 (r.tail)) || numBad 1 (r.tail.tail)) by rw [Bool.or_assoc] at hw; exact hw)
    have HR5 := Lib.hid (HRn.out.kept hk HNE.out)
    have HK5 := Lib.hid (HKn.out.then hk (fun i _ h => h))
    have hvm := numV_le 1 ((r.tail.tail))
    obtain ⟨v4, hv4⟩ : ∃ v, (numP 10 1 ((r.tail.tail).headD [])).getD 0 = v := ⟨_, rfl⟩
    rw [show numV 1 ((r.tail.tail)) = _ from hv4] at hvm
    rw [hv4]
    have HV4 := Lib.hid hv4
    clear hw hk HWn HRn HKn HY hv4
    go_wp2_with (show wpList _ _ _ ((⟨none, .store 33 (.tmp 4) _, _, _, _, none⟩ : Oper) :: _) _ _; refine wpList_store_mid rfl 33 (.tmp 4) _ rfl rb 0 #[.int .i64 8, .int .i64 0, .int .i64 0, .int .i64 0, .int .i64 0, .bool false, .int .u64 0, .int .u64 0, .int .u16 0, .int .u8 0, .int .i64 0, .slice none 0 0, .int .i64 (v2 : Int), .int .i64 0, .int .u8 (v4 : Int), .slice none 0 0, .int .u32 (v3 : Int), .int .u32 0, .int .u32 0, .bool false, .int .u64 0, .int .u64 0, .int .u16 0] rfl rfl (HR5.out.there rfl) (by kernel_rfl) (by simp [Value.oneCell']) ?_)
    generalize hw9 : (World.setCells _ _ _ _) = w9
    have HK9 := Lib.hid (show Kept (fun i => i = rb) w5 w9 by rw [← hw9]; exact Kept.setCells (S := fun i => i = rb) rfl _ _ (Kept.refl _ _))
    have HR9 := Lib.hid (show Blk w9 rb 33 #[.int .i64 8, .int .i64 0, .int .i64 0, .int .i64 0, .int .i64 0, .bool false, .int .u64 0, .int .u64 0, .int .u16 0, .int .u8 0, .int .i64 0, .slice none 0 0, .int .i64 (v2 : Int), .int .i64 0, .int .u8 (v4 : Int), .slice none 0 0, .int .u32 (v3 : Int), .int .u32 0, .int .u32 0, .bool false, .int .u64 0, .int .u64 0, .int .u16 0] by rw [← hw9]; exact HR5.out.setAll #[.int .i64 8, .int .i64 0, .int .i64 0, .int .i64 0, .int .i64 0, .bool false, .int .u64 0, .int .u64 0, .int .u16 0, .int .u8 0, .int .i64 0, .slice none 0 0, .int .i64 (v2 : Int), .int .i64 0, .int .u8 (v4 : Int), .slice none 0 0, .int .u32 (v3 : Int), .int .u32 0, .int .u32 0, .bool false, .int .u64 0, .int .u64 0, .int .u16 0] rfl)
    clear hw9
    refine bodyPost_ret (results_blk1 (P := Tryz.prog) (show Tryz.f14.results = _ from rfl) _ _ rb 33 #[.int .i64 8, .int .i64 0, .int .i64 0, .int .i64 0, .int .i64 0, .bool false, .int .u64 0, .int .u64 0, .int .u16 0, .int .u8 0, .int .i64 0, .slice none 0 0, .int .i64 (v2 : Int), .int .i64 0, .int .u8 (v4 : Int), .slice none 0 0, .int .u32 (v3 : Int), .int .u32 0, .int .u32 0, .bool false, .int .u64 0, .int .u64 0, .int .u16 0] _ rfl HR9.out Tryz.underlying33 rfl (by kernel_rfl)) rfl ?_
    have HW9 := Lib.hid (HW5.out.kept HK9.out HNE2.out)
    have HKZ := Lib.hid (HK5.out.then HK9.out (fun i hi e => by have := HRB.out; omega))
    have hv2 := HV2.out
    subst hv2
    have hv3 := HV3.out
    subst hv3
    have hv4 := HV4.out
    subst hv4
    exact ⟨fillP 8 [87, 78, 49] (eat [87, 78, 49] ⟨r, Fd.zero, bad⟩).f, .slice none 0 0, .slice none 0 0, (eat [87, 78, 49] ⟨r, Fd.zero, bad⟩).ws, (eat [87, 78, 49] ⟨r, Fd.zero, bad⟩).bad, rfl, RowN.nil _ _ _ _, LoadIn.nil _, HW9.out, HKZ.out, cmd_fin (nm := [114, 101, 112, 111, 114, 116]) rfl (by decide) r bad⟩
  by_cases n11 : nm = [116, 105, 99, 107]
  · skip
    subst n11
    have q0 : (x.toList == [105, 115, 115, 117, 101]) = false := by rw [HXL.out]; rfl
    have q1 : (x.toList == [99, 111, 109, 109, 105, 116]) = false := by rw [HXL.out]; rfl
    have q2 : (x.toList == [99, 114, 97, 115, 104]) = false := by rw [HXL.out]; rfl
    have q3 : (x.toList == [111, 102, 102, 101, 114]) = false := by rw [HXL.out]; rfl
    have q4 : (x.toList == [100, 101, 108, 105, 118, 101, 114]) = false := by rw [HXL.out]; rfl
    have q5 : (x.toList == [100, 114, 111, 112]) = false := by rw [HXL.out]; rfl
    have q6 : (x.toList == [116, 119, 105, 99, 101]) = false := by rw [HXL.out]; rfl
    have q7 : (x.toList == [114, 101, 115, 116, 97, 114, 116]) = false := by rw [HXL.out]; rfl
    have q8 : (x.toList == [114, 101, 112, 111, 114, 116]) = false := by rw [HXL.out]; rfl
    have q11 : (x.toList == [116, 105, 99, 107]) = true := by rw [HXL.out]; rfl
    go_wp2_with fail
    refine (longW wb r (bad) w2 HW2.out).mono ?_
    rintro e w3 ⟨rfl, hw, hk⟩
    have HW3 := Lib.hid hw
    have HR3 := Lib.hid (HR2.out.kept hk HNE.out)
    have HK3 := Lib.hid (HK2.out.then hk (fun i _ h => h))

    obtain ⟨v2, hv2⟩ : ∃ v, numV 1073741824 r = v := ⟨_, rfl⟩
    rw [hv2]
    have HV2 := Lib.hid hv2
    clear hw hk HW2 HR2 HK2 hv2
    go_wp2_with (show wpList _ _ _ ((⟨none, .store 33 (.tmp 4) _, _, _, _, none⟩ : Oper) :: _) _ _; refine wpList_store_mid rfl 33 (.tmp 4) _ rfl rb 0 #[.int .i64 11, .int .i64 0, .int .i64 0, .int .i64 0, .int .i64 0, .bool false, .int .u64 0, .int .u64 0, .int .u16 0, .int .u8 0, .int .i64 0, .slice none 0 0, .int .i64 0, .int .i64 0, .int .u8 0, .slice none 0 0, .int .u32 (v2 : Int), .int .u32 0, .int .u32 0, .bool false, .int .u64 0, .int .u64 0, .int .u16 0] rfl rfl (HR3.out.there rfl) (by kernel_rfl) (by simp [Value.oneCell']) ?_)
    generalize hw9 : (World.setCells _ _ _ _) = w9
    have HK9 := Lib.hid (show Kept (fun i => i = rb) w3 w9 by rw [← hw9]; exact Kept.setCells (S := fun i => i = rb) rfl _ _ (Kept.refl _ _))
    have HR9 := Lib.hid (show Blk w9 rb 33 #[.int .i64 11, .int .i64 0, .int .i64 0, .int .i64 0, .int .i64 0, .bool false, .int .u64 0, .int .u64 0, .int .u16 0, .int .u8 0, .int .i64 0, .slice none 0 0, .int .i64 0, .int .i64 0, .int .u8 0, .slice none 0 0, .int .u32 (v2 : Int), .int .u32 0, .int .u32 0, .bool false, .int .u64 0, .int .u64 0, .int .u16 0] by rw [← hw9]; exact HR3.out.setAll #[.int .i64 11, .int .i64 0, .int .i64 0, .int .i64 0, .int .i64 0, .bool false, .int .u64 0, .int .u64 0, .int .u16 0, .int .u8 0, .int .i64 0, .slice none 0 0, .int .i64 0, .int .i64 0, .int .u8 0, .slice none 0 0, .int .u32 (v2 : Int), .int .u32 0, .int .u32 0, .bool false, .int .u64 0, .int .u64 0, .int .u16 0] rfl)
    clear hw9
    refine bodyPost_ret (results_blk1 (P := Tryz.prog) (show Tryz.f14.results = _ from rfl) _ _ rb 33 #[.int .i64 11, .int .i64 0, .int .i64 0, .int .i64 0, .int .i64 0, .bool false, .int .u64 0, .int .u64 0, .int .u16 0, .int .u8 0, .int .i64 0, .slice none 0 0, .int .i64 0, .int .i64 0, .int .u8 0, .slice none 0 0, .int .u32 (v2 : Int), .int .u32 0, .int .u32 0, .bool false, .int .u64 0, .int .u64 0, .int .u16 0] _ rfl HR9.out Tryz.underlying33 rfl (by kernel_rfl)) rfl ?_
    have HW9 := Lib.hid (HW3.out.kept HK9.out HNE2.out)
    have HKZ := Lib.hid (HK3.out.then HK9.out (fun i hi e => by have := HRB.out; omega))
    have hv2 := HV2.out
    subst hv2
    exact ⟨fillP 11 [78] (eat [78] ⟨r, Fd.zero, bad⟩).f, .slice none 0 0, .slice none 0 0, (eat [78] ⟨r, Fd.zero, bad⟩).ws, (eat [78] ⟨r, Fd.zero, bad⟩).bad, rfl, RowN.nil _ _ _ _, LoadIn.nil _, HW9.out, HKZ.out, cmd_fin (nm := [116, 105, 99, 107]) rfl (by decide) r bad⟩
  by_cases n15 : nm = [115, 101, 116, 116, 108, 101]
  · skip
    subst n15
    have q0 : (x.toList == [105, 115, 115, 117, 101]) = false := by rw [HXL.out]; rfl
    have q1 : (x.toList == [99, 111, 109, 109, 105, 116]) = false := by rw [HXL.out]; rfl
    have q2 : (x.toList == [99, 114, 97, 115, 104]) = false := by rw [HXL.out]; rfl
    have q3 : (x.toList == [111, 102, 102, 101, 114]) = false := by rw [HXL.out]; rfl
    have q4 : (x.toList == [100, 101, 108, 105, 118, 101, 114]) = false := by rw [HXL.out]; rfl
    have q5 : (x.toList == [100, 114, 111, 112]) = false := by rw [HXL.out]; rfl
    have q6 : (x.toList == [116, 119, 105, 99, 101]) = false := by rw [HXL.out]; rfl
    have q7 : (x.toList == [114, 101, 115, 116, 97, 114, 116]) = false := by rw [HXL.out]; rfl
    have q8 : (x.toList == [114, 101, 112, 111, 114, 116]) = false := by rw [HXL.out]; rfl
    have q11 : (x.toList == [116, 105, 99, 107]) = false := by rw [HXL.out]; rfl
    have q15 : (x.toList == [115, 101, 116, 116, 108, 101]) = true := by rw [HXL.out]; rfl
    go_wp2_with fail
    refine (next_any wb r (bad) w2 HW2.out).mono ?_
    rintro e wn ⟨⟨y, rfl, hy, hys⟩, hw, hk⟩
    have HWn := Lib.hid hw
    have HRn := Lib.hid (HR2.out.kept hk HNE.out)
    have HKn := Lib.hid (HK2.out.then hk (fun i _ h => h))
    have HY := Lib.hid hy
    clear hw hk HW2 HR2 HK2 hy
    go_wp2_with fail
    refine (numW wb r.tail ((bad) || r.isEmpty) y 99 wn HWn.out (by omega) hys).mono ?_
    rintro e w3 ⟨rfl, hw, hk⟩
    rw [HY.out] at hw
    rw [HY.out]
    have HW3 := Lib.hid (show WS w3 wb r.tail ((bad) || numBad 99 r) by rw [Bool.or_assoc] at hw; exact hw)
    have HR3 := Lib.hid (HRn.out.kept hk HNE.out)
    have HK3 := Lib.hid (HKn.out.then hk (fun i _ h => h))
    have hvm := numV_le 99 (r)
    obtain ⟨v2, hv2⟩ : ∃ v, (numP 10 99 (r.headD [])).getD 0 = v := ⟨_, rfl⟩
    rw [show numV 99 (r) = _ from hv2] at hvm
    rw [hv2]
    have HV2 := Lib.hid hv2
    clear hw hk HWn HRn HKn HY hv2
    go_wp2_with (show wpList _ _ _ ((⟨none, .store 33 (.tmp 4) _, _, _, _, none⟩ : Oper) :: _) _ _; refine wpList_store_mid rfl 33 (.tmp 4) _ rfl rb 0 #[.int .i64 15, .int .i64 0, .int .i64 0, .int .i64 0, .int .i64 0, .bool false, .int .u64 0, .int .u64 0, .int .u16 0, .int .u8 0, .int .i64 0, .slice none 0 0, .int .i64 0, .int .i64 0, .int .u8 0, .slice none 0 0, .int .u32 (v2 : Int), .int .u32 0, .int .u32 0, .bool false, .int .u64 0, .int .u64 0, .int .u16 0] rfl rfl (HR3.out.there rfl) (by kernel_rfl) (by simp [Value.oneCell']) ?_)
    generalize hw9 : (World.setCells _ _ _ _) = w9
    have HK9 := Lib.hid (show Kept (fun i => i = rb) w3 w9 by rw [← hw9]; exact Kept.setCells (S := fun i => i = rb) rfl _ _ (Kept.refl _ _))
    have HR9 := Lib.hid (show Blk w9 rb 33 #[.int .i64 15, .int .i64 0, .int .i64 0, .int .i64 0, .int .i64 0, .bool false, .int .u64 0, .int .u64 0, .int .u16 0, .int .u8 0, .int .i64 0, .slice none 0 0, .int .i64 0, .int .i64 0, .int .u8 0, .slice none 0 0, .int .u32 (v2 : Int), .int .u32 0, .int .u32 0, .bool false, .int .u64 0, .int .u64 0, .int .u16 0] by rw [← hw9]; exact HR3.out.setAll #[.int .i64 15, .int .i64 0, .int .i64 0, .int .i64 0, .int .i64 0, .bool false, .int .u64 0, .int .u64 0, .int .u16 0, .int .u8 0, .int .i64 0, .slice none 0 0, .int .i64 0, .int .i64 0, .int .u8 0, .slice none 0 0, .int .u32 (v2 : Int), .int .u32 0, .int .u32 0, .bool false, .int .u64 0, .int .u64 0, .int .u16 0] rfl)
    clear hw9
    refine bodyPost_ret (results_blk1 (P := Tryz.prog) (show Tryz.f14.results = _ from rfl) _ _ rb 33 #[.int .i64 15, .int .i64 0, .int .i64 0, .int .i64 0, .int .i64 0, .bool false, .int .u64 0, .int .u64 0, .int .u16 0, .int .u8 0, .int .i64 0, .slice none 0 0, .int .i64 0, .int .i64 0, .int .u8 0, .slice none 0 0, .int .u32 (v2 : Int), .int .u32 0, .int .u32 0, .bool false, .int .u64 0, .int .u64 0, .int .u16 0] _ rfl HR9.out Tryz.underlying33 rfl (by kernel_rfl)) rfl ?_
    have HW9 := Lib.hid (HW3.out.kept HK9.out HNE2.out)
    have HKZ := Lib.hid (HK3.out.then HK9.out (fun i hi e => by have := HRB.out; omega))
    have hv2 := HV2.out
    subst hv2
    exact ⟨fillP 15 [57] (eat [57] ⟨r, Fd.zero, bad⟩).f, .slice none 0 0, .slice none 0 0, (eat [57] ⟨r, Fd.zero, bad⟩).ws, (eat [57] ⟨r, Fd.zero, bad⟩).bad, rfl, RowN.nil _ _ _ _, LoadIn.nil _, HW9.out, HKZ.out, cmd_fin (nm := [115, 101, 116, 116, 108, 101]) rfl (by decide) r bad⟩
  have q0 : (x.toList == [105, 115, 115, 117, 101]) = false := by rw [HXL.out]; exact beq_eq_false_iff_ne.2 n0
  have q1 : (x.toList == [99, 111, 109, 109, 105, 116]) = false := by rw [HXL.out]; exact beq_eq_false_iff_ne.2 n1
  have q2 : (x.toList == [99, 114, 97, 115, 104]) = false := by rw [HXL.out]; exact beq_eq_false_iff_ne.2 n2
  have q3 : (x.toList == [111, 102, 102, 101, 114]) = false := by rw [HXL.out]; exact beq_eq_false_iff_ne.2 n3
  have q4 : (x.toList == [100, 101, 108, 105, 118, 101, 114]) = false := by rw [HXL.out]; exact beq_eq_false_iff_ne.2 n4
  have q5 : (x.toList == [100, 114, 111, 112]) = false := by rw [HXL.out]; exact beq_eq_false_iff_ne.2 n5
  have q6 : (x.toList == [116, 119, 105, 99, 101]) = false := by rw [HXL.out]; exact beq_eq_false_iff_ne.2 n6
  have q7 : (x.toList == [114, 101, 115, 116, 97, 114, 116]) = false := by rw [HXL.out]; exact beq_eq_false_iff_ne.2 n7
  have q8 : (x.toList == [114, 101, 112, 111, 114, 116]) = false := by rw [HXL.out]; exact beq_eq_false_iff_ne.2 n8
  have q11 : (x.toList == [116, 105, 99, 107]) = false := by rw [HXL.out]; exact beq_eq_false_iff_ne.2 n11
  have q15 : (x.toList == [115, 101, 116, 116, 108, 101]) = false := by rw [HXL.out]; exact beq_eq_false_iff_ne.2 n15
  have HPK := Lib.hid (packetsW wb r bad x nm HXD.out n0 n1 n2 n3 n4 n5 n6 n7 n8 n11 n15 w2 HW2.out)
  clear HXD HXL n0 n1 n2 n3 n4 n5 n6 n7 n8 n11 n15 HW2
  go_wp2_with fail
  refine HPK.out.mono ?_
  rintro e w4 ⟨s, mv, lv, wsx, bdx, rfl, hmem, hl, hw, hk, hfin⟩
  obtain ⟨MA, mc, rfl, -, -⟩ := hmem.shape
  obtain ⟨ml, hml⟩ : ∃ ml, (mcs s.op.ms).length = ml := ⟨_, rfl⟩
  rw [hml] at hmem ⊢
  have HL4 := Lib.hid hl
  obtain ⟨LA, lc, hlv, -⟩ := hl
  subst hlv
  obtain ⟨ll, hll⟩ : ∃ ll, s.load.length = ll := ⟨_, rfl⟩
  rw [hll] at HL4 ⊢
  unfold SpC
  have HMM := Lib.hid hmem
  have HFI := Lib.hid hfin
  have HW4 := Lib.hid hw
  have HR4 := Lib.hid (HR2.out.kept hk HNE.out)
  have HRN := Lib.hid (show ¬ (Value.slice MA ml mc).ownBlock = some rb from hmem.ne HR4.out (by decide))
  have HK4 := Lib.hid (HK2.out.then hk (fun i _ h => h))
  have HSZ := Lib.hid (show w.heap.size ≤ w2.heap.size from HK2.out.size)
  clear hw hk hmem hfin HR2 HK2 hml hll HPK
  go_wp2_with (show wpList _ _ _ ((⟨none, .store 33 (.tmp 4) _, _, _, _, none⟩ : Oper) :: _) _ _; refine wpList_store_mid rfl 33 (.tmp 4) _ rfl rb 0 #[.int .i64 s.kind, .int .i64 s.op.kind, .int .i64 s.op.vip, .int .i64 s.op.backend, .int .i64 s.op.version, .bool s.op.a.six, .int .u64 (s.op.a.hi : Int), .int .u64 (s.op.a.lo : Int), .int .u16 (s.op.port : Int), .int .u8 (s.op.proto : Int), .int .i64 s.op.way, .slice MA ml mc, .int .i64 s.who, .int .i64 s.time, .int .u8 (s.flags : Int), .slice LA ll lc, .int .u32 (s.n : Int), .int .u32 (s.x : Int), .int .u32 (s.y : Int), .bool s.src.six, .int .u64 (s.src.hi : Int), .int .u64 (s.src.lo : Int), .int .u16 (s.port : Int)] rfl rfl (HR4.out.there rfl) (by kernel_rfl) (by simp [Value.oneCell']) ?_)
  generalize hw9 : (World.setCells _ _ _ _) = w9
  have HK9 := Lib.hid (show Kept (fun i => i = rb) w4 w9 by rw [← hw9]; exact Kept.setCells (S := fun i => i = rb) rfl _ _ (Kept.refl _ _))
  have HR9 := Lib.hid (show Blk w9 rb 33 #[.int .i64 s.kind, .int .i64 s.op.kind, .int .i64 s.op.vip, .int .i64 s.op.backend, .int .i64 s.op.version, .bool s.op.a.six, .int .u64 (s.op.a.hi : Int), .int .u64 (s.op.a.lo : Int), .int .u16 (s.op.port : Int), .int .u8 (s.op.proto : Int), .int .i64 s.op.way, .slice MA ml mc, .int .i64 s.who, .int .i64 s.time, .int .u8 (s.flags : Int), .slice LA ll lc, .int .u32 (s.n : Int), .int .u32 (s.x : Int), .int .u32 (s.y : Int), .bool s.src.six, .int .u64 (s.src.hi : Int), .int .u64 (s.src.lo : Int), .int .u16 (s.port : Int)] by rw [← hw9]; exact HR4.out.setAll #[.int .i64 s.kind, .int .i64 s.op.kind, .int .i64 s.op.vip, .int .i64 s.op.backend, .int .i64 s.op.version, .bool s.op.a.six, .int .u64 (s.op.a.hi : Int), .int .u64 (s.op.a.lo : Int), .int .u16 (s.op.port : Int), .int .u8 (s.op.proto : Int), .int .i64 s.op.way, .slice MA ml mc, .int .i64 s.who, .int .i64 s.time, .int .u8 (s.flags : Int), .slice LA ll lc, .int .u32 (s.n : Int), .int .u32 (s.x : Int), .int .u32 (s.y : Int), .bool s.src.six, .int .u64 (s.src.hi : Int), .int .u64 (s.src.lo : Int), .int .u16 (s.port : Int)] rfl)
  clear hw9
  refine bodyPost_ret (results_blk1 (P := Tryz.prog) (show Tryz.f14.results = _ from rfl) _ _ rb 33 #[.int .i64 s.kind, .int .i64 s.op.kind, .int .i64 s.op.vip, .int .i64 s.op.backend, .int .i64 s.op.version, .bool s.op.a.six, .int .u64 (s.op.a.hi : Int), .int .u64 (s.op.a.lo : Int), .int .u16 (s.op.port : Int), .int .u8 (s.op.proto : Int), .int .i64 s.op.way, .slice MA ml mc, .int .i64 s.who, .int .i64 s.time, .int .u8 (s.flags : Int), .slice LA ll lc, .int .u32 (s.n : Int), .int .u32 (s.x : Int), .int .u32 (s.y : Int), .bool s.src.six, .int .u64 (s.src.hi : Int), .int .u64 (s.src.lo : Int), .int .u16 (s.port : Int)] _ rfl HR9.out Tryz.underlying33 rfl (by kernel_rfl)) rfl ?_
  have HW9 := Lib.hid (HW4.out.kept HK9.out HNE2.out)
  have HKZ := Lib.hid (HK4.out.then HK9.out (fun i hi e => by have := HRB.out; omega))
  exact ⟨s, .slice MA ml mc, .slice LA ll lc, wsx, bdx, rfl, (RowN.kept HMM.out HK9.out (fun g hg e => HRN.out (by rw [hg, e]))).more HSZ.out, HL4.out.keep (fun g cs fr hg => HK9.out.block g (lt_of_heap hg) (fun e => by subst e; exact blk_not HR4.out hg (by decide))), HW9.out, HKZ.out, HFI.out⟩
end Go.Proofs.YthfdhggcnkgjfaaGreatDoor
