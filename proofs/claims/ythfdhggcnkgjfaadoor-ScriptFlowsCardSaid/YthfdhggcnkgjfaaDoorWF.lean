/- script.Flow at any text. -/
import Derived.Test.YthfdhggcnkgjfaaDoorWE
namespace Go.Proofs.YthfdhggcnkgjfaaDoor
open Go.RowKit
set_option linter.unusedVariables false
set_option linter.unusedSimpArgs false
theorem adrV_eq (o : Option Adr) : adrV o = .agg #[.bool (o.getD Adr.zero).six, .int .u64 ((o.getD Adr.zero).hi : Int), .int .u64 ((o.getD Adr.zero).lo : Int)] := by cases o <;> rfl
def flowBad (ws : List (List UInt8)) : Bool := addrBad ws || portBad ws.tail || addrBad ws.tail.tail || portBad ws.tail.tail.tail || protoBad ws.tail.tail.tail.tail
def flowAll (ws : List (List UInt8)) : Flw := ⟨(addrP (ws.headD [])).getD Adr.zero, (addrP (ws.tail.tail.headD [])).getD Adr.zero, portV ws.tail, portV ws.tail.tail.tail, protoV ws.tail.tail.tail.tail⟩
theorem flowW_eq (ws : List (List UInt8)) : flowW ws = if (ws.tail.tail.tail.tail.tail.isEmpty && !flowBad ws) = true then some (flowAll ws) else none := by
  match ws with
  | [] => rfl
  | [a] => simp [flowW, flowBad, portBad]
  | [a, p] => simp [flowW, flowBad, addrBad]
  | [a, p, b] => simp [flowW, flowBad, portBad]
  | [a, p, b, q] => simp [flowW, flowBad, protoBad]
  | a :: p :: b :: q :: r :: x :: l => simp [flowW]
  | [a, p, b, q, r] =>
    unfold flowW flowBad flowAll addrBad portBad protoBad portV protoV
    simp only [List.tail_cons, List.headD_cons, List.isEmpty_cons, List.isEmpty_nil, Bool.false_or, Bool.true_and]
    cases addrP a <;> cases numP 10 65535 p <;> cases addrP b <;> cases numP 10 65535 q <;> cases protoP r <;> simp
def flowV (o : Option Flw) : Value := match o with
  | some f => .agg #[.bool f.src.six, .int .u64 (f.src.hi : Int), .int .u64 (f.src.lo : Int), .bool f.dst.six, .int .u64 (f.dst.hi : Int), .int .u64 (f.dst.lo : Int), .int .u16 (f.sp : Int), .int .u16 (f.dp : Int), .int .u8 (f.pr : Int)]
  | none => .agg #[.bool false, .int .u64 0, .int .u64 0, .bool false, .int .u64 0, .int .u64 0, .int .u16 0, .int .u16 0, .int .u8 0]
def flowE (o : Option Flw) : Int := if o.isSome = true then 0 else 21
set_option maxRecDepth 20000 in
set_option maxHeartbeats 8000000 in
theorem flow_any (s : ByteArray) (hz : s.size ≤ 1000) (w : World) : Calls Tryd.prog 6 #[.string s] w fun e w' => e = .returned (.tuple #[flowV (flowP s.data.toList), .int .i64 (flowE (flowP s.data.toList))]) ∧ Below w.heap.size w w' := by
  obtain ⟨ws, hws⟩ : ∃ ws, parts 32 s.data.toList = ws := ⟨_, rfl⟩
  obtain ⟨b0, hb0⟩ : ∃ b0, decide (10 ∈ s.data.toList) = b0 := ⟨_, rfl⟩
  have HFL := Lib.hid (show flowP s.data.toList = if (ws.tail.tail.tail.tail.tail.isEmpty && !(b0 || addrBad ws || portBad ws.tail || addrBad ws.tail.tail || portBad ws.tail.tail.tail || protoBad ws.tail.tail.tail.tail)) = true then some (flowAll ws) else none by
    have e := flowW_eq ws
    unfold flowP
    rw [hws]
    cases hb : b0 with
    | false => rw [e]; unfold flowBad; simp only [Bool.false_or]
    | true =>
      rw [if_neg (by simp)]
      cases hf : flowW ws with
      | none => rfl
      | some f =>
        have hm : (10 : UInt8) ∉ s.data.toList := flowP_mem (f := f) (by unfold flowP; rw [hws]; exact hf)
        rw [hb, decide_eq_true_eq] at hb0
        exact absurd hb0 hm)
  have HSPL := Lib.hid (fun W => splitW s hz W)
  rw [hws, hb0] at HSPL
  clear hws hb0
  go_enter Tryd.func6, Tryd.ntmps6
  go_upto_region 1 with fail
  obtain ⟨w1, hw1⟩ : ∃ w1 : World, w1 = w.alloc (.cells #[.bool false, .int .u64 0, .int .u64 0, .bool false, .int .u64 0, .int .u64 0, .int .u16 0, .int .u16 0, .int .u8 0] 28) := ⟨_, rfl⟩
  have HR1 := Lib.hid (show Blk w1 w.heap.size 28 #[.bool false, .int .u64 0, .int .u64 0, .bool false, .int .u64 0, .int .u64 0, .int .u16 0, .int .u16 0, .int .u8 0] by rw [hw1]; exact Blk.new _ _ _)
  have HK1 := Lib.hid (show Kept (fun _ => False) w w1 by rw [hw1]; exact (Kept.refl _ _).alloc _)
  rw [← hw1]
  clear hw1
  obtain ⟨rb, hrb⟩ : ∃ rb, w.heap.size = rb := ⟨_, rfl⟩
  have HRB := Lib.hid hrb
  rw [hrb] at HR1 ⊢
  clear hrb
  go_wp2_with fail
  refine (HSPL.out w1).mono ?_
  rintro e w2 ⟨rfl, hw, hb2⟩
  have HW0 := Lib.hid hw
  have HNE := Lib.hid (show rb ≠ w1.heap.size from fun e => by have := HR1.out.lt; omega)
  have HGE := Lib.hid (show w.heap.size ≤ w1.heap.size from HK1.out.size)
  have HR0 := Lib.hid (HR1.out.below hb2 HR1.out.lt)
  have HK0 := Lib.hid (HK1.out.trans (Kept.ofB (S := fun _ => False) hb2))
  clear hw hb2 HR1 HK1
  obtain ⟨wb, hwb⟩ : ∃ wb, w1.heap.size = wb := ⟨_, rfl⟩
  rw [hwb] at HW0 HNE HGE ⊢
  clear hwb
  go_wp2_with fail
  refine (addrW wb ws b0 w2 HW0.out).mono ?_
  rintro e w3 ⟨rfl, hw, hk⟩
  have HW1 := Lib.hid hw
  have HR1 := Lib.hid (HR0.out.kept hk HNE.out)
  have HK1 := Lib.hid (show Kept (fun _ => False) w w3 from HK0.out.then hk (fun j hj e => by have := HGE.out; omega))
  clear hw hk HW0 HR0 HK0
  rw [adrV_eq]
  obtain ⟨a, ha⟩ : ∃ a, (addrP (ws.headD [])).getD Adr.zero = a := ⟨_, rfl⟩
  rw [ha]
  have HAa := Lib.hid ha
  clear ha
  go_wp2_with fail
  refine (portW wb ws.tail (b0 || addrBad ws) w3 HW1.out).mono ?_
  rintro e w4 ⟨rfl, hw, hk⟩
  have HW2 := Lib.hid hw
  have HR2 := Lib.hid (HR1.out.kept hk HNE.out)
  have HK2 := Lib.hid (show Kept (fun _ => False) w w4 from HK1.out.then hk (fun j hj e => by have := HGE.out; omega))
  clear hw hk HW1 HR1 HK1
  go_wp2_with fail
  refine (addrW wb ws.tail.tail (b0 || addrBad ws || portBad ws.tail) w4 HW2.out).mono ?_
  rintro e w5 ⟨rfl, hw, hk⟩
  have HW3 := Lib.hid hw
  have HR3 := Lib.hid (HR2.out.kept hk HNE.out)
  have HK3 := Lib.hid (show Kept (fun _ => False) w w5 from HK2.out.then hk (fun j hj e => by have := HGE.out; omega))
  clear hw hk HW2 HR2 HK2
  rw [adrV_eq]
  obtain ⟨b, hb⟩ : ∃ b, (addrP (ws.tail.tail.headD [])).getD Adr.zero = b := ⟨_, rfl⟩
  rw [hb]
  have HAb := Lib.hid hb
  clear hb
  go_wp2_with fail
  refine (portW wb ws.tail.tail.tail (b0 || addrBad ws || portBad ws.tail || addrBad ws.tail.tail) w5 HW3.out).mono ?_
  rintro e w6 ⟨rfl, hw, hk⟩
  have HW4 := Lib.hid hw
  have HR4 := Lib.hid (HR3.out.kept hk HNE.out)
  have HK4 := Lib.hid (show Kept (fun _ => False) w w6 from HK3.out.then hk (fun j hj e => by have := HGE.out; omega))
  clear hw hk HW3 HR3 HK3
  go_wp2_with fail
  refine (protoW wb ws.tail.tail.tail.tail (b0 || addrBad ws || portBad ws.tail || addrBad ws.tail.tail || portBad ws.tail.tail.tail) w6 HW4.out).mono ?_
  rintro e w7 ⟨rfl, hw, hk⟩
  have HW5 := Lib.hid hw
  have HR5 := Lib.hid (HR4.out.kept hk HNE.out)
  have HK5 := Lib.hid (show Kept (fun _ => False) w w7 from HK4.out.then hk (fun j hj e => by have := HGE.out; omega))
  clear hw hk HW4 HR4 HK4
  have HALL := Lib.hid (show flowAll ws = ⟨a, b, portV ws.tail, portV ws.tail.tail.tail, protoV ws.tail.tail.tail.tail⟩ by rw [← HAa.out, ← HAb.out]; rfl)
  generalize portV ws.tail = p at HALL ⊢
  generalize portV ws.tail.tail.tail = q at HALL ⊢
  generalize protoV ws.tail.tail.tail.tail = r at HALL ⊢
  go_upto_region 3 with (show wpList _ _ _ ((⟨none, .store 28 (.tmp 5) _, _, _, _, none⟩ : Oper) :: _) _ _; refine wpList_store_mid rfl 28 (.tmp 5) _ rfl w7.heap.size 0 #[.bool a.six, .int .u64 (a.hi : Int), .int .u64 (a.lo : Int), .bool b.six, .int .u64 (b.hi : Int), .int .u64 (b.lo : Int), .int .u16 (p : Int), .int .u16 (q : Int), .int .u8 (r : Int)] rfl rfl ((Blk.new w7 28 #[.bool false, .int .u64 0, .int .u64 0, .bool false, .int .u64 0, .int .u64 0, .int .u16 0, .int .u16 0, .int .u8 0]).there rfl) (by kernel_rfl) (by simp [Value.oneCell']) ?_)
  generalize hw4 : (World.setCells _ _ _ _) = w8
  have HKA := Lib.hid (show Kept (fun i => i = w7.heap.size) (w7.alloc (.cells #[.bool false, .int .u64 0, .int .u64 0, .bool false, .int .u64 0, .int .u64 0, .int .u16 0, .int .u16 0, .int .u8 0] 28)) w8 by rw [← hw4]; exact Kept.setCells (S := fun i => i = w7.heap.size) rfl _ _ (Kept.refl _ _))
  have HS8 := Lib.hid (show Blk w8 w7.heap.size 28 #[.bool a.six, .int .u64 (a.hi : Int), .int .u64 (a.lo : Int), .bool b.six, .int .u64 (b.hi : Int), .int .u64 (b.lo : Int), .int .u16 (p : Int), .int .u16 (q : Int), .int .u8 (r : Int)] by rw [← hw4]; exact (Blk.new w7 28 #[.bool false, .int .u64 0, .int .u64 0, .bool false, .int .u64 0, .int .u64 0, .int .u16 0, .int .u16 0, .int .u8 0]).setAll #[.bool a.six, .int .u64 (a.hi : Int), .int .u64 (a.lo : Int), .bool b.six, .int .u64 (b.hi : Int), .int .u64 (b.lo : Int), .int .u16 (p : Int), .int .u16 (q : Int), .int .u8 (r : Int)] rfl)
  have HKB := Lib.hid (show Kept (fun _ => False) w7 w8 from ((Kept.refl _ _).alloc _).then HKA.out (fun i hi e => by omega))
  have HW8 := Lib.hid (HW5.out.kept HKB.out (fun h => h))
  have HR8 := Lib.hid (HR5.out.kept HKB.out (fun h => h))
  have HK8 := Lib.hid (HK5.out.trans HKB.out)
  clear hw4 HKA HKB HW5 HR5 HK5
  obtain ⟨sb, hsb⟩ : ∃ sb, w7.heap.size = sb := ⟨_, rfl⟩
  rw [hsb] at HS8 ⊢
  clear hsb
  go_wp2_with fail
  refine (fineW wb _ _ w8 HW8.out).mono ?_
  rintro e w9' ⟨rfl, rfl⟩
  cases hfin : (ws.tail.tail.tail.tail.tail.isEmpty && !(b0 || addrBad ws || portBad ws.tail || addrBad ws.tail.tail || portBad ws.tail.tail.tail || protoBad ws.tail.tail.tail.tail)) with
  | true =>
    have HF := Lib.hid (show flowP s.data.toList = some ⟨a, b, p, q, r⟩ by rw [HFL.out, if_pos hfin, HALL.out])
    clear hfin HFL
    go_wp2_with (first | (show wpList _ _ _ ((⟨_, .load 28 (.tmp 5), _, _, _, none⟩ : Oper) :: _) _ _; refine wpList_load_mid rfl 28 (.tmp 5) rfl sb 0 rfl [.bool a.six, .int .u64 (a.hi : Int), .int .u64 (a.lo : Int), .bool b.six, .int .u64 (b.hi : Int), .int .u64 (b.lo : Int), .int .u16 (p : Int), .int .u16 (q : Int), .int .u8 (r : Int)] _ HS8.out.range Tryd.underlying28 rfl (by kernel_rfl) ?_) | (show wpList _ _ _ ((⟨none, .store 28 (.tmp 2) _, _, _, _, none⟩ : Oper) :: _) _ _; refine wpList_store_mid rfl 28 (.tmp 2) _ rfl rb 0 #[.bool a.six, .int .u64 (a.hi : Int), .int .u64 (a.lo : Int), .bool b.six, .int .u64 (b.hi : Int), .int .u64 (b.lo : Int), .int .u16 (p : Int), .int .u16 (q : Int), .int .u8 (r : Int)] rfl rfl (HR8.out.there rfl) (by kernel_rfl) (by simp [Value.oneCell']) ?_))
    generalize hw9 : (World.setCells _ _ _ _) = w9
    have HK9 := Lib.hid (show Kept (fun i => i = rb) w9' w9 by rw [← hw9]; exact Kept.setCells (S := fun i => i = rb) rfl _ _ (Kept.refl _ _))
    have HR9 := Lib.hid (show Blk w9 rb 28 #[.bool a.six, .int .u64 (a.hi : Int), .int .u64 (a.lo : Int), .bool b.six, .int .u64 (b.hi : Int), .int .u64 (b.lo : Int), .int .u16 (p : Int), .int .u16 (q : Int), .int .u8 (r : Int)] by rw [← hw9]; exact HR8.out.setAll #[.bool a.six, .int .u64 (a.hi : Int), .int .u64 (a.lo : Int), .bool b.six, .int .u64 (b.hi : Int), .int .u64 (b.lo : Int), .int .u16 (p : Int), .int .u16 (q : Int), .int .u8 (r : Int)] rfl)
    clear hw9
    refine bodyPost_ret (results_blk_tmp (P := Tryd.prog) (show Tryd.f6.results = _ from rfl) _ _ rb 28 #[.bool a.six, .int .u64 (a.hi : Int), .int .u64 (a.lo : Int), .bool b.six, .int .u64 (b.hi : Int), .int .u64 (b.lo : Int), .int .u16 (p : Int), .int .u16 (q : Int), .int .u8 (r : Int)] _ rfl HR9.out Tryd.underlying28 rfl (by kernel_rfl)) rfl ⟨?_, ?_⟩
    · rw [HF.out]; rfl
    · exact (HK8.out.below (Nat.le_refl _) (fun i h => h.elim)).trans (HK9.out.below HK8.out.size (fun i e => by have := HRB.out; omega))
  | false =>
    have HF := Lib.hid (show flowP s.data.toList = none by rw [HFL.out, if_neg (by rw [hfin]; decide)])
    clear hfin HFL
    go_wp2_with (show wpList _ _ _ ((⟨none, .store 28 (.tmp 2) _, _, _, _, none⟩ : Oper) :: _) _ _; refine wpList_store_mid rfl 28 (.tmp 2) _ rfl rb 0 #[.bool false, .int .u64 0, .int .u64 0, .bool false, .int .u64 0, .int .u64 0, .int .u16 0, .int .u16 0, .int .u8 0] rfl rfl (HR8.out.there rfl) (by kernel_rfl) (by simp [Value.oneCell']) ?_)
    generalize hw9 : (World.setCells _ _ _ _) = w9
    have HK9 := Lib.hid (show Kept (fun i => i = rb) w9' w9 by rw [← hw9]; exact Kept.setCells (S := fun i => i = rb) rfl _ _ (Kept.refl _ _))
    have HR9 := Lib.hid (show Blk w9 rb 28 #[.bool false, .int .u64 0, .int .u64 0, .bool false, .int .u64 0, .int .u64 0, .int .u16 0, .int .u16 0, .int .u8 0] by rw [← hw9]; exact HR8.out.setAll #[.bool false, .int .u64 0, .int .u64 0, .bool false, .int .u64 0, .int .u64 0, .int .u16 0, .int .u16 0, .int .u8 0] rfl)
    clear hw9
    refine bodyPost_ret (results_blk_tmp (P := Tryd.prog) (show Tryd.f6.results = _ from rfl) _ _ rb 28 #[.bool false, .int .u64 0, .int .u64 0, .bool false, .int .u64 0, .int .u64 0, .int .u16 0, .int .u16 0, .int .u8 0] _ rfl HR9.out Tryd.underlying28 rfl (by kernel_rfl)) rfl ⟨?_, ?_⟩
    · rw [HF.out]; rfl
    · exact (HK8.out.below (Nat.le_refl _) (fun i h => h.elim)).trans (HK9.out.below HK8.out.size (fun i e => by have := HRB.out; omega))
end Go.Proofs.YthfdhggcnkgjfaaDoor
