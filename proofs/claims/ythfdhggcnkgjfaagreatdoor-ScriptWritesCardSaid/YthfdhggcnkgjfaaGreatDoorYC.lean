/- The line's operation. -/
import Derived.Test.YthfdhggcnkgjfaaGreatDoorYB
import Derived.Test.YthfdhggcnkgjfaaGreatDoorWE
namespace Go.Proofs.YthfdhggcnkgjfaaGreatDoor
open Go.RowKit
set_option linter.unusedVariables false
set_option linter.unusedSimpArgs false
theorem adrV_eq (o : Option Adr) : adrV o = .agg #[.bool (o.getD Adr.zero).six, .int .u64 ((o.getD Adr.zero).hi : Int), .int .u64 ((o.getD Adr.zero).lo : Int)] := by cases o <;> rfl
def OC (mv : Value) (o : Osp) : Array Value := #[.int .i64 o.kind, .int .i64 o.vip, .int .i64 o.backend, .int .i64 o.version, .bool o.a.six, .int .u64 (o.a.hi : Int), .int .u64 (o.a.lo : Int), .int .u16 (o.port : Int), .int .u8 (o.proto : Int), .int .i64 o.way, mv]
def orNone {α : Type} (bad : Bool) (o : Option α) : Option α := match bad with
  | true => none
  | false => o
theorem finE_map {α β : Type} (g : α → β) (ws : List (List UInt8)) (bad : Bool) (x : α) : finE ws bad (g x) = (finE ws bad x).map g := by
  unfold finE
  split <;> rfl
theorem fin_eat (p : List UInt8) (r : List (List UInt8)) (bad : Bool) : finE (eat p ⟨r, Fd.zero, bad⟩).ws (eat p ⟨r, Fd.zero, bad⟩).bad (eat p ⟨r, Fd.zero, bad⟩).f = orNone bad (fitS p r Fd.zero) := by
  cases bad with
  | true =>
    have := eat_bad p ⟨r, Fd.zero, true⟩ rfl
    unfold finE
    rw [this]
    simp [orNone]
  | false => exact eat_fit p r Fd.zero
theorem orNone_map {α β : Type} (g : α → β) (bad : Bool) (o : Option α) : (orNone bad o).map g = orNone bad (o.map g) := by cases bad <;> rfl
theorem op_fin {nm p : List UInt8} {k : Int} (h : opPat nm = some (k, p)) (hm : nm ≠ membersT) (r : List (List UInt8)) (bad : Bool) : finE (eat p ⟨r, Fd.zero, bad⟩).ws (eat p ⟨r, Fd.zero, bad⟩).bad (fillO k (eat p ⟨r, Fd.zero, bad⟩).f) = orNone bad (opP (nm :: r)) := by
  rw [finE_map, fin_eat, orNone_map]
  congr 1
  unfold opP
  simp only
  rw [if_neg hm, h]
theorem mem_fin {r : List (List UInt8)} {bad bdx : Bool} {wsx : List (List UInt8)} {ms : List (Int × Int)} (h : finE wsx bdx ms = memsR (bad || numBad 255 r) [] r.tail) :
    finE wsx bdx ({ Osp.zero with kind := 3, vip := (numV 255 r : Int), ms := ms } : Osp) = orNone bad (opP (membersT :: r)) := by
  rw [finE_map (fun ms => ({ Osp.zero with kind := 3, vip := (numV 255 r : Int), ms := ms } : Osp)), h]
  cases bad with
  | true => rfl
  | false =>
    rw [Bool.false_or]
    unfold orNone
    simp only
    unfold opP
    simp only
    simp only [if_true]
    cases r with
    | nil => rfl
    | cons v ms' =>
      unfold numBad numV
      simp only [List.isEmpty_cons, Bool.false_or, List.headD_cons, List.tail_cons]
      cases hn : numP 10 255 v with
      | none => rfl
      | some n =>
        simp only [Option.isNone_some, Option.getD_some]
        unfold memsR
        simp only [List.length_nil, Nat.zero_add, List.nil_append]
        split
        · cases memsP ms' <;> rfl
        · rfl
theorem opP_none {ws : List (List UInt8)} (n0 : ¬ ws.headD [] = [98, 97, 99, 107, 101, 110, 100]) (n1 : ¬ ws.headD [] = [118, 105, 112]) (n2 : ¬ ws.headD [] = [109, 101, 109, 98, 101, 114, 115]) (n3 : ¬ ws.headD [] = [114, 101, 116, 105, 114, 101]) (n4 : ¬ ws.headD [] = [114, 101, 108, 101, 97, 115, 101]) (n5 : ¬ ws.headD [] = [101, 118, 105, 99, 116]) (n6 : ¬ ws.headD [] = [97, 100, 109, 105, 116]) (n7 : ¬ ws.headD [] = [114, 111, 116, 97, 116, 101]) : opP ws = none := by
  cases ws with
  | nil => rfl
  | cons a r =>
    simp only [List.headD_cons] at *
    unfold opP
    simp only
    rw [if_neg (show ¬ a = membersT from n2)]
    unfold opPat
    rw [if_neg n0, if_neg n1, if_neg n3, if_neg n4, if_neg n5, if_neg n6, if_neg n7]
def OpR (w : World) (wb : Nat) (bad : Bool) (o0 : Option Osp) (e : Ending) (w' : World) : Prop := ∃ (o : Osp) (mv : Value) (ws' : List (List UInt8)) (bad' : Bool), e = .returned (.agg (OC mv o)) ∧ MemsIn w' w.heap.size mv (o.ms) ∧ WS w' wb ws' bad' ∧ Kept (fun i => i = wb) w w' ∧ finE ws' bad' o = orNone bad o0
set_option maxRecDepth 20000 in
set_option maxHeartbeats 8000000 in
theorem opW (wb : Nat) (ws : List (List UInt8)) (bad : Bool) (w : World) (h : WS w wb ws bad) : Calls Tryz.prog 28 #[.pointer (some ⟨wb, 0, none⟩)] w (OpR w wb bad (opP ws)) := by
  have HW0 := Lib.hid h
  have HLT := Lib.hid h.lt
  clear h
  go_enter Tryz.func28, Tryz.ntmps28
  go_upto_region 1 with fail
  obtain ⟨w1, hw1⟩ : ∃ w1 : World, w1 = w.alloc (.cells #[.int .i64 0, .int .i64 0, .int .i64 0, .int .i64 0, .bool false, .int .u64 0, .int .u64 0, .int .u16 0, .int .u8 0, .int .i64 0, .slice none 0 0] 29) := ⟨_, rfl⟩
  have HR1 := Lib.hid (show Blk w1 w.heap.size 29 #[.int .i64 0, .int .i64 0, .int .i64 0, .int .i64 0, .bool false, .int .u64 0, .int .u64 0, .int .u16 0, .int .u8 0, .int .i64 0, .slice none 0 0] by rw [hw1]; exact Blk.new _ _ _)
  have HKF := Lib.hid (show Kept (fun _ => False) w w1 by rw [hw1]; exact (Kept.refl _ _).alloc _)
  rw [← hw1]
  clear hw1
  obtain ⟨rb, hrb⟩ : ∃ rb, w.heap.size = rb := ⟨_, rfl⟩
  have HRB := Lib.hid hrb
  rw [hrb] at HR1 ⊢
  clear hrb
  have HNE := Lib.hid (show ¬ rb = wb from fun e => by have := HLT.out; have := HRB.out; omega)
  have HNE2 := Lib.hid (show ¬ wb = rb from fun e => HNE.out e.symm)
  have HW1 := Lib.hid (HW0.out.kept HKF.out (fun h => h))
  have HK1 := Lib.hid (show Kept (fun i => i = wb) w w1 from HKF.out.mono (fun _ _ h => h.elim))
  have HNX := Lib.hid (next_any wb ws bad w1 HW1.out)
  clear HW0 HKF
  go_wp2_with fail
  refine HNX.out.mono ?_
  rintro e w2 ⟨⟨x, rfl, hx, hxs⟩, hw, hk⟩
  have HWX := Lib.hid hw
  have HR2 := Lib.hid (HR1.out.kept hk HNE.out)
  have HK2 := Lib.hid (HK1.out.then hk (fun i _ h => h))
  have HXH := Lib.hid (show x.toList = ws.headD [] by rw [Lib.toList_data]; exact hx)
  clear hw hk hx HNX HW1 HR1 HK1
  by_cases n0 : ws.headD [] = [98, 97, 99, 107, 101, 110, 100]
  · skip
    obtain ⟨r, hr⟩ : ∃ r, ws = [98, 97, 99, 107, 101, 110, 100] :: r := by
      cases ws with
      | nil => cases n0
      | cons a r => exact ⟨r, by rw [show a = [98, 97, 99, 107, 101, 110, 100] from n0]⟩
    subst hr
    have hnm : ([[98, 97, 99, 107, 101, 110, 100]] : List (List UInt8)).headD [] = [98, 97, 99, 107, 101, 110, 100] := rfl
    have HXL := Lib.hid (show x.toList = [98, 97, 99, 107, 101, 110, 100] from HXH.out)
    have q0 : (x.toList == [98, 97, 99, 107, 101, 110, 100]) = true := by rw [HXL.out]; rfl
    have HW2 := Lib.hid (show WS w2 wb r bad by have := HWX.out; rw [show (bad || ([98, 97, 99, 107, 101, 110, 100] :: r).isEmpty) = bad by simp] at this; exact this)
    clear HWX HXH
    go_wp2_with fail
    refine (smallW wb r (bad) w2 HW2.out).mono ?_
    rintro e w3 ⟨rfl, hw, hk⟩
    have HW3 := Lib.hid hw
    have HR3 := Lib.hid (HR2.out.kept hk HNE.out)
    have HK3 := Lib.hid (HK2.out.then hk (fun i _ h => h))

    obtain ⟨v2, hv2⟩ : ∃ v, numV 255 r = v := ⟨_, rfl⟩
    rw [hv2]
    have HV2 := Lib.hid hv2
    clear hw hk HW2 HR2 HK2 hv2
    go_wp2_with fail
    refine (addrW wb (r.tail) (bad || numBad 255 r) w3 HW3.out).mono ?_
    rintro e w4 ⟨rfl, hw, hk⟩
    have HW4 := Lib.hid hw
    have HR4 := Lib.hid (HR3.out.kept hk HNE.out)
    have HK4 := Lib.hid (HK3.out.then hk (fun i _ h => h))
    rw [adrV_eq]
    obtain ⟨v3, hv3⟩ : ∃ v, (addrP ((r.tail).headD [])).getD Adr.zero = v := ⟨_, rfl⟩
    rw [hv3]
    have HV3 := Lib.hid hv3
    clear hw hk HW3 HR3 HK3 hv3
    go_wp2_with (show wpList _ _ _ ((⟨none, .store 29 (.tmp 2) _, _, _, _, none⟩ : Oper) :: _) _ _; refine wpList_store_mid rfl 29 (.tmp 2) _ rfl rb 0 #[.int .i64 1, .int .i64 0, .int .i64 (v2 : Int), .int .i64 0, .bool v3.six, .int .u64 (v3.hi : Int), .int .u64 (v3.lo : Int), .int .u16 0, .int .u8 0, .int .i64 0, .slice none 0 0] rfl rfl (HR4.out.there rfl) (by kernel_rfl) (by simp [Value.oneCell']) ?_)
    generalize hw9 : (World.setCells _ _ _ _) = w9
    have HK9 := Lib.hid (show Kept (fun i => i = rb) w4 w9 by rw [← hw9]; exact Kept.setCells (S := fun i => i = rb) rfl _ _ (Kept.refl _ _))
    have HR9 := Lib.hid (show Blk w9 rb 29 #[.int .i64 1, .int .i64 0, .int .i64 (v2 : Int), .int .i64 0, .bool v3.six, .int .u64 (v3.hi : Int), .int .u64 (v3.lo : Int), .int .u16 0, .int .u8 0, .int .i64 0, .slice none 0 0] by rw [← hw9]; exact HR4.out.setAll #[.int .i64 1, .int .i64 0, .int .i64 (v2 : Int), .int .i64 0, .bool v3.six, .int .u64 (v3.hi : Int), .int .u64 (v3.lo : Int), .int .u16 0, .int .u8 0, .int .i64 0, .slice none 0 0] rfl)
    clear hw9
    refine bodyPost_ret (results_blk1 (P := Tryz.prog) (show Tryz.f28.results = _ from rfl) _ _ rb 29 #[.int .i64 1, .int .i64 0, .int .i64 (v2 : Int), .int .i64 0, .bool v3.six, .int .u64 (v3.hi : Int), .int .u64 (v3.lo : Int), .int .u16 0, .int .u8 0, .int .i64 0, .slice none 0 0] _ rfl HR9.out Tryz.underlying29 rfl (by kernel_rfl)) rfl ?_
    have HW9 := Lib.hid (HW4.out.kept HK9.out HNE2.out)
    have HKZ := Lib.hid (HK4.out.then HK9.out (fun i hi e => by have := HRB.out; omega))
    have hv2 := HV2.out
    subst hv2
    have hv3 := HV3.out
    subst hv3
    exact ⟨fillO 1 (eat [75, 97] ⟨r, Fd.zero, bad⟩).f, .slice none 0 0, (eat [75, 97] ⟨r, Fd.zero, bad⟩).ws, (eat [75, 97] ⟨r, Fd.zero, bad⟩).bad, rfl, RowN.nil _ _ _ _, HW9.out, HKZ.out, op_fin (nm := [98, 97, 99, 107, 101, 110, 100]) rfl (by decide) r bad⟩
  by_cases n1 : ws.headD [] = [118, 105, 112]
  · skip
    obtain ⟨r, hr⟩ : ∃ r, ws = [118, 105, 112] :: r := by
      cases ws with
      | nil => cases n1
      | cons a r => exact ⟨r, by rw [show a = [118, 105, 112] from n1]⟩
    subst hr
    have hnm : ([[118, 105, 112]] : List (List UInt8)).headD [] = [118, 105, 112] := rfl
    have HXL := Lib.hid (show x.toList = [118, 105, 112] from HXH.out)
    have q0 : (x.toList == [98, 97, 99, 107, 101, 110, 100]) = false := by rw [HXL.out]; rfl
    have q1 : (x.toList == [118, 105, 112]) = true := by rw [HXL.out]; rfl
    have HW2 := Lib.hid (show WS w2 wb r bad by have := HWX.out; rw [show (bad || ([118, 105, 112] :: r).isEmpty) = bad by simp] at this; exact this)
    clear HWX HXH
    go_wp2_with fail
    refine (addrW wb r (bad) w2 HW2.out).mono ?_
    rintro e w3 ⟨rfl, hw, hk⟩
    have HW3 := Lib.hid hw
    have HR3 := Lib.hid (HR2.out.kept hk HNE.out)
    have HK3 := Lib.hid (HK2.out.then hk (fun i _ h => h))
    rw [adrV_eq]
    obtain ⟨v2, hv2⟩ : ∃ v, (addrP (r.headD [])).getD Adr.zero = v := ⟨_, rfl⟩
    rw [hv2]
    have HV2 := Lib.hid hv2
    clear hw hk HW2 HR2 HK2 hv2
    go_wp2_with fail
    refine (portW wb (r.tail) (bad || addrBad r) w3 HW3.out).mono ?_
    rintro e w4 ⟨rfl, hw, hk⟩
    have HW4 := Lib.hid hw
    have HR4 := Lib.hid (HR3.out.kept hk HNE.out)
    have HK4 := Lib.hid (HK3.out.then hk (fun i _ h => h))

    obtain ⟨v3, hv3⟩ : ∃ v, portV (r.tail) = v := ⟨_, rfl⟩
    rw [hv3]
    have HV3 := Lib.hid hv3
    clear hw hk HW3 HR3 HK3 hv3
    go_wp2_with fail
    refine (protoW wb (r.tail.tail) (bad || addrBad r || portBad (r.tail)) w4 HW4.out).mono ?_
    rintro e w5 ⟨rfl, hw, hk⟩
    have HW5 := Lib.hid hw
    have HR5 := Lib.hid (HR4.out.kept hk HNE.out)
    have HK5 := Lib.hid (HK4.out.then hk (fun i _ h => h))

    obtain ⟨v4, hv4⟩ : ∃ v, protoV (r.tail.tail) = v := ⟨_, rfl⟩
    rw [hv4]
    have HV4 := Lib.hid hv4
    clear hw hk HW4 HR4 HK4 hv4
    go_wp2_with fail
    refine (wayW wb (r.tail.tail.tail) (bad || addrBad r || portBad (r.tail) || protoBad (r.tail.tail)) w5 HW5.out).mono ?_
    rintro e w6 ⟨rfl, hw, hk⟩
    have HW6 := Lib.hid hw
    have HR6 := Lib.hid (HR5.out.kept hk HNE.out)
    have HK6 := Lib.hid (HK5.out.then hk (fun i _ h => h))

    obtain ⟨v5, hv5⟩ : ∃ v, wayV (r.tail.tail.tail) = v := ⟨_, rfl⟩
    rw [hv5]
    have HV5 := Lib.hid hv5
    clear hw hk HW5 HR5 HK5 hv5
    go_wp2_with (show wpList _ _ _ ((⟨none, .store 29 (.tmp 2) _, _, _, _, none⟩ : Oper) :: _) _ _; refine wpList_store_mid rfl 29 (.tmp 2) _ rfl rb 0 #[.int .i64 2, .int .i64 0, .int .i64 0, .int .i64 0, .bool v2.six, .int .u64 (v2.hi : Int), .int .u64 (v2.lo : Int), .int .u16 (v3 : Int), .int .u8 (v4 : Int), .int .i64 (v5 : Int), .slice none 0 0] rfl rfl (HR6.out.there rfl) (by kernel_rfl) (by simp [Value.oneCell']) ?_)
    generalize hw9 : (World.setCells _ _ _ _) = w9
    have HK9 := Lib.hid (show Kept (fun i => i = rb) w6 w9 by rw [← hw9]; exact Kept.setCells (S := fun i => i = rb) rfl _ _ (Kept.refl _ _))
    have HR9 := Lib.hid (show Blk w9 rb 29 #[.int .i64 2, .int .i64 0, .int .i64 0, .int .i64 0, .bool v2.six, .int .u64 (v2.hi : Int), .int .u64 (v2.lo : Int), .int .u16 (v3 : Int), .int .u8 (v4 : Int), .int .i64 (v5 : Int), .slice none 0 0] by rw [← hw9]; exact HR6.out.setAll #[.int .i64 2, .int .i64 0, .int .i64 0, .int .i64 0, .bool v2.six, .int .u64 (v2.hi : Int), .int .u64 (v2.lo : Int), .int .u16 (v3 : Int), .int .u8 (v4 : Int), .int .i64 (v5 : Int), .slice none 0 0] rfl)
    clear hw9
    refine bodyPost_ret (results_blk1 (P := Tryz.prog) (show Tryz.f28.results = _ from rfl) _ _ rb 29 #[.int .i64 2, .int .i64 0, .int .i64 0, .int .i64 0, .bool v2.six, .int .u64 (v2.hi : Int), .int .u64 (v2.lo : Int), .int .u16 (v3 : Int), .int .u8 (v4 : Int), .int .i64 (v5 : Int), .slice none 0 0] _ rfl HR9.out Tryz.underlying29 rfl (by kernel_rfl)) rfl ?_
    have HW9 := Lib.hid (HW6.out.kept HK9.out HNE2.out)
    have HKZ := Lib.hid (HK6.out.then HK9.out (fun i hi e => by have := HRB.out; omega))
    have hv2 := HV2.out
    subst hv2
    have hv3 := HV3.out
    subst hv3
    have hv4 := HV4.out
    subst hv4
    have hv5 := HV5.out
    subst hv5
    exact ⟨fillO 2 (eat [97, 80, 112, 119] ⟨r, Fd.zero, bad⟩).f, .slice none 0 0, (eat [97, 80, 112, 119] ⟨r, Fd.zero, bad⟩).ws, (eat [97, 80, 112, 119] ⟨r, Fd.zero, bad⟩).bad, rfl, RowN.nil _ _ _ _, HW9.out, HKZ.out, op_fin (nm := [118, 105, 112]) rfl (by decide) r bad⟩
  by_cases n2 : ws.headD [] = [109, 101, 109, 98, 101, 114, 115]
  · skip
    obtain ⟨r, hr⟩ : ∃ r, ws = [109, 101, 109, 98, 101, 114, 115] :: r := by
      cases ws with
      | nil => cases n2
      | cons a r => exact ⟨r, by rw [show a = [109, 101, 109, 98, 101, 114, 115] from n2]⟩
    subst hr
    have hnm : ([[109, 101, 109, 98, 101, 114, 115]] : List (List UInt8)).headD [] = [109, 101, 109, 98, 101, 114, 115] := rfl
    have HXL := Lib.hid (show x.toList = [109, 101, 109, 98, 101, 114, 115] from HXH.out)
    have q0 : (x.toList == [98, 97, 99, 107, 101, 110, 100]) = false := by rw [HXL.out]; rfl
    have q1 : (x.toList == [118, 105, 112]) = false := by rw [HXL.out]; rfl
    have q2 : (x.toList == [109, 101, 109, 98, 101, 114, 115]) = true := by rw [HXL.out]; rfl
    have HW2 := Lib.hid (show WS w2 wb r bad by have := HWX.out; rw [show (bad || ([109, 101, 109, 98, 101, 114, 115] :: r).isEmpty) = bad by simp] at this; exact this)
    clear HWX HXH
    go_wp2_with fail
    refine (smallW wb r (bad) w2 HW2.out).mono ?_
    rintro e w3 ⟨rfl, hw, hk⟩
    have HW3 := Lib.hid hw
    have HR3 := Lib.hid (HR2.out.kept hk HNE.out)
    have HK3 := Lib.hid (HK2.out.then hk (fun i _ h => h))

    obtain ⟨v2, hv2⟩ : ∃ v, numV 255 r = v := ⟨_, rfl⟩
    rw [hv2]
    have HV2 := Lib.hid hv2
    clear hw hk HW2 HR2 HK2 hv2
    go_wp2_with fail
    refine (membersW wb r.tail (bad || numBad 255 r) w3 HW3.out).mono ?_
    rintro e w4 ⟨mv, ms, wsx, bdx, rfl, hmem, hw, hk, hfin⟩
    obtain ⟨MA, mc, rfl, -, -⟩ := hmem.shape
    obtain ⟨ml, hml⟩ : ∃ ml, (mcs ms).length = ml := ⟨_, rfl⟩
    rw [hml] at hmem ⊢
    have HMM := Lib.hid hmem
    have HFI := Lib.hid hfin
    have HW4 := Lib.hid hw
    have HR4 := Lib.hid (HR3.out.kept hk HNE.out)
    have HRN := Lib.hid (show ¬ (Value.slice MA ml mc).ownBlock = some rb from hmem.ne HR4.out (by decide))
    have HK4 := Lib.hid (HK3.out.then hk (fun i _ h => h))
    have HSZ := Lib.hid (show w.heap.size ≤ w3.heap.size from HK3.out.size)
    clear hw hk hmem hfin HW3 HR3 HK3 hml
    go_wp2_with (show wpList _ _ _ ((⟨none, .store 29 (.tmp 2) _, _, _, _, none⟩ : Oper) :: _) _ _; refine wpList_store_mid rfl 29 (.tmp 2) _ rfl rb 0 #[.int .i64 3, .int .i64 (v2 : Int), .int .i64 0, .int .i64 0, .bool false, .int .u64 0, .int .u64 0, .int .u16 0, .int .u8 0, .int .i64 0, .slice MA ml mc] rfl rfl (HR4.out.there rfl) (by kernel_rfl) (by simp [Value.oneCell']) ?_)
    generalize hw9 : (World.setCells _ _ _ _) = w9
    have HK9 := Lib.hid (show Kept (fun i => i = rb) w4 w9 by rw [← hw9]; exact Kept.setCells (S := fun i => i = rb) rfl _ _ (Kept.refl _ _))
    have HR9 := Lib.hid (show Blk w9 rb 29 #[.int .i64 3, .int .i64 (v2 : Int), .int .i64 0, .int .i64 0, .bool false, .int .u64 0, .int .u64 0, .int .u16 0, .int .u8 0, .int .i64 0, .slice MA ml mc] by rw [← hw9]; exact HR4.out.setAll #[.int .i64 3, .int .i64 (v2 : Int), .int .i64 0, .int .i64 0, .bool false, .int .u64 0, .int .u64 0, .int .u16 0, .int .u8 0, .int .i64 0, .slice MA ml mc] rfl)
    clear hw9
    refine bodyPost_ret (results_blk1 (P := Tryz.prog) (show Tryz.f28.results = _ from rfl) _ _ rb 29 #[.int .i64 3, .int .i64 (v2 : Int), .int .i64 0, .int .i64 0, .bool false, .int .u64 0, .int .u64 0, .int .u16 0, .int .u8 0, .int .i64 0, .slice MA ml mc] _ rfl HR9.out Tryz.underlying29 rfl (by kernel_rfl)) rfl ?_
    have HW9 := Lib.hid (HW4.out.kept HK9.out HNE2.out)
    have HKZ := Lib.hid (HK4.out.then HK9.out (fun i hi e => by have := HRB.out; omega))
    refine ⟨{ Osp.zero with kind := 3, vip := (v2 : Int), ms := ms }, .slice MA ml mc, wsx, bdx, rfl, (RowN.kept HMM.out HK9.out (fun g hg e => HRN.out (by rw [hg, e]))).more HSZ.out, HW9.out, HKZ.out, ?_⟩
    have hv2 := HV2.out
    subst hv2
    exact mem_fin HFI.out
  by_cases n3 : ws.headD [] = [114, 101, 116, 105, 114, 101]
  · skip
    obtain ⟨r, hr⟩ : ∃ r, ws = [114, 101, 116, 105, 114, 101] :: r := by
      cases ws with
      | nil => cases n3
      | cons a r => exact ⟨r, by rw [show a = [114, 101, 116, 105, 114, 101] from n3]⟩
    subst hr
    have hnm : ([[114, 101, 116, 105, 114, 101]] : List (List UInt8)).headD [] = [114, 101, 116, 105, 114, 101] := rfl
    have HXL := Lib.hid (show x.toList = [114, 101, 116, 105, 114, 101] from HXH.out)
    have q0 : (x.toList == [98, 97, 99, 107, 101, 110, 100]) = false := by rw [HXL.out]; rfl
    have q1 : (x.toList == [118, 105, 112]) = false := by rw [HXL.out]; rfl
    have q2 : (x.toList == [109, 101, 109, 98, 101, 114, 115]) = false := by rw [HXL.out]; rfl
    have q3 : (x.toList == [114, 101, 116, 105, 114, 101]) = true := by rw [HXL.out]; rfl
    have HW2 := Lib.hid (show WS w2 wb r bad by have := HWX.out; rw [show (bad || ([114, 101, 116, 105, 114, 101] :: r).isEmpty) = bad by simp] at this; exact this)
    clear HWX HXH
    go_wp2_with fail
    refine (smallW wb r (bad) w2 HW2.out).mono ?_
    rintro e w3 ⟨rfl, hw, hk⟩
    have HW3 := Lib.hid hw
    have HR3 := Lib.hid (HR2.out.kept hk HNE.out)
    have HK3 := Lib.hid (HK2.out.then hk (fun i _ h => h))

    obtain ⟨v2, hv2⟩ : ∃ v, numV 255 r = v := ⟨_, rfl⟩
    rw [hv2]
    have HV2 := Lib.hid hv2
    clear hw hk HW2 HR2 HK2 hv2
    go_wp2_with fail
    refine (smallW wb (r.tail) (bad || numBad 255 r) w3 HW3.out).mono ?_
    rintro e w4 ⟨rfl, hw, hk⟩
    have HW4 := Lib.hid hw
    have HR4 := Lib.hid (HR3.out.kept hk HNE.out)
    have HK4 := Lib.hid (HK3.out.then hk (fun i _ h => h))

    obtain ⟨v3, hv3⟩ : ∃ v, numV 255 (r.tail) = v := ⟨_, rfl⟩
    rw [hv3]
    have HV3 := Lib.hid hv3
    clear hw hk HW3 HR3 HK3 hv3
    go_wp2_with (show wpList _ _ _ ((⟨none, .store 29 (.tmp 2) _, _, _, _, none⟩ : Oper) :: _) _ _; refine wpList_store_mid rfl 29 (.tmp 2) _ rfl rb 0 #[.int .i64 4, .int .i64 (v2 : Int), .int .i64 0, .int .i64 (v3 : Int), .bool false, .int .u64 0, .int .u64 0, .int .u16 0, .int .u8 0, .int .i64 0, .slice none 0 0] rfl rfl (HR4.out.there rfl) (by kernel_rfl) (by simp [Value.oneCell']) ?_)
    generalize hw9 : (World.setCells _ _ _ _) = w9
    have HK9 := Lib.hid (show Kept (fun i => i = rb) w4 w9 by rw [← hw9]; exact Kept.setCells (S := fun i => i = rb) rfl _ _ (Kept.refl _ _))
    have HR9 := Lib.hid (show Blk w9 rb 29 #[.int .i64 4, .int .i64 (v2 : Int), .int .i64 0, .int .i64 (v3 : Int), .bool false, .int .u64 0, .int .u64 0, .int .u16 0, .int .u8 0, .int .i64 0, .slice none 0 0] by rw [← hw9]; exact HR4.out.setAll #[.int .i64 4, .int .i64 (v2 : Int), .int .i64 0, .int .i64 (v3 : Int), .bool false, .int .u64 0, .int .u64 0, .int .u16 0, .int .u8 0, .int .i64 0, .slice none 0 0] rfl)
    clear hw9
    refine bodyPost_ret (results_blk1 (P := Tryz.prog) (show Tryz.f28.results = _ from rfl) _ _ rb 29 #[.int .i64 4, .int .i64 (v2 : Int), .int .i64 0, .int .i64 (v3 : Int), .bool false, .int .u64 0, .int .u64 0, .int .u16 0, .int .u8 0, .int .i64 0, .slice none 0 0] _ rfl HR9.out Tryz.underlying29 rfl (by kernel_rfl)) rfl ?_
    have HW9 := Lib.hid (HW4.out.kept HK9.out HNE2.out)
    have HKZ := Lib.hid (HK4.out.then HK9.out (fun i hi e => by have := HRB.out; omega))
    have hv2 := HV2.out
    subst hv2
    have hv3 := HV3.out
    subst hv3
    exact ⟨fillO 4 (eat [75, 75] ⟨r, Fd.zero, bad⟩).f, .slice none 0 0, (eat [75, 75] ⟨r, Fd.zero, bad⟩).ws, (eat [75, 75] ⟨r, Fd.zero, bad⟩).bad, rfl, RowN.nil _ _ _ _, HW9.out, HKZ.out, op_fin (nm := [114, 101, 116, 105, 114, 101]) rfl (by decide) r bad⟩
  by_cases n4 : ws.headD [] = [114, 101, 108, 101, 97, 115, 101]
  · skip
    obtain ⟨r, hr⟩ : ∃ r, ws = [114, 101, 108, 101, 97, 115, 101] :: r := by
      cases ws with
      | nil => cases n4
      | cons a r => exact ⟨r, by rw [show a = [114, 101, 108, 101, 97, 115, 101] from n4]⟩
    subst hr
    have hnm : ([[114, 101, 108, 101, 97, 115, 101]] : List (List UInt8)).headD [] = [114, 101, 108, 101, 97, 115, 101] := rfl
    have HXL := Lib.hid (show x.toList = [114, 101, 108, 101, 97, 115, 101] from HXH.out)
    have q0 : (x.toList == [98, 97, 99, 107, 101, 110, 100]) = false := by rw [HXL.out]; rfl
    have q1 : (x.toList == [118, 105, 112]) = false := by rw [HXL.out]; rfl
    have q2 : (x.toList == [109, 101, 109, 98, 101, 114, 115]) = false := by rw [HXL.out]; rfl
    have q3 : (x.toList == [114, 101, 116, 105, 114, 101]) = false := by rw [HXL.out]; rfl
    have q4 : (x.toList == [114, 101, 108, 101, 97, 115, 101]) = true := by rw [HXL.out]; rfl
    have HW2 := Lib.hid (show WS w2 wb r bad by have := HWX.out; rw [show (bad || ([114, 101, 108, 101, 97, 115, 101] :: r).isEmpty) = bad by simp] at this; exact this)
    clear HWX HXH
    go_wp2_with fail
    refine (smallW wb r (bad) w2 HW2.out).mono ?_
    rintro e w3 ⟨rfl, hw, hk⟩
    have HW3 := Lib.hid hw
    have HR3 := Lib.hid (HR2.out.kept hk HNE.out)
    have HK3 := Lib.hid (HK2.out.then hk (fun i _ h => h))

    obtain ⟨v2, hv2⟩ : ∃ v, numV 255 r = v := ⟨_, rfl⟩
    rw [hv2]
    have HV2 := Lib.hid hv2
    clear hw hk HW2 HR2 HK2 hv2
    go_wp2_with fail
    refine (smallW wb (r.tail) (bad || numBad 255 r) w3 HW3.out).mono ?_
    rintro e w4 ⟨rfl, hw, hk⟩
    have HW4 := Lib.hid hw
    have HR4 := Lib.hid (HR3.out.kept hk HNE.out)
    have HK4 := Lib.hid (HK3.out.then hk (fun i _ h => h))

    obtain ⟨v3, hv3⟩ : ∃ v, numV 255 (r.tail) = v := ⟨_, rfl⟩
    rw [hv3]
    have HV3 := Lib.hid hv3
    clear hw hk HW3 HR3 HK3 hv3
    go_wp2_with (show wpList _ _ _ ((⟨none, .store 29 (.tmp 2) _, _, _, _, none⟩ : Oper) :: _) _ _; refine wpList_store_mid rfl 29 (.tmp 2) _ rfl rb 0 #[.int .i64 5, .int .i64 (v2 : Int), .int .i64 0, .int .i64 (v3 : Int), .bool false, .int .u64 0, .int .u64 0, .int .u16 0, .int .u8 0, .int .i64 0, .slice none 0 0] rfl rfl (HR4.out.there rfl) (by kernel_rfl) (by simp [Value.oneCell']) ?_)
    generalize hw9 : (World.setCells _ _ _ _) = w9
    have HK9 := Lib.hid (show Kept (fun i => i = rb) w4 w9 by rw [← hw9]; exact Kept.setCells (S := fun i => i = rb) rfl _ _ (Kept.refl _ _))
    have HR9 := Lib.hid (show Blk w9 rb 29 #[.int .i64 5, .int .i64 (v2 : Int), .int .i64 0, .int .i64 (v3 : Int), .bool false, .int .u64 0, .int .u64 0, .int .u16 0, .int .u8 0, .int .i64 0, .slice none 0 0] by rw [← hw9]; exact HR4.out.setAll #[.int .i64 5, .int .i64 (v2 : Int), .int .i64 0, .int .i64 (v3 : Int), .bool false, .int .u64 0, .int .u64 0, .int .u16 0, .int .u8 0, .int .i64 0, .slice none 0 0] rfl)
    clear hw9
    refine bodyPost_ret (results_blk1 (P := Tryz.prog) (show Tryz.f28.results = _ from rfl) _ _ rb 29 #[.int .i64 5, .int .i64 (v2 : Int), .int .i64 0, .int .i64 (v3 : Int), .bool false, .int .u64 0, .int .u64 0, .int .u16 0, .int .u8 0, .int .i64 0, .slice none 0 0] _ rfl HR9.out Tryz.underlying29 rfl (by kernel_rfl)) rfl ?_
    have HW9 := Lib.hid (HW4.out.kept HK9.out HNE2.out)
    have HKZ := Lib.hid (HK4.out.then HK9.out (fun i hi e => by have := HRB.out; omega))
    have hv2 := HV2.out
    subst hv2
    have hv3 := HV3.out
    subst hv3
    exact ⟨fillO 5 (eat [75, 75] ⟨r, Fd.zero, bad⟩).f, .slice none 0 0, (eat [75, 75] ⟨r, Fd.zero, bad⟩).ws, (eat [75, 75] ⟨r, Fd.zero, bad⟩).bad, rfl, RowN.nil _ _ _ _, HW9.out, HKZ.out, op_fin (nm := [114, 101, 108, 101, 97, 115, 101]) rfl (by decide) r bad⟩
  by_cases n5 : ws.headD [] = [101, 118, 105, 99, 116]
  · skip
    obtain ⟨r, hr⟩ : ∃ r, ws = [101, 118, 105, 99, 116] :: r := by
      cases ws with
      | nil => cases n5
      | cons a r => exact ⟨r, by rw [show a = [101, 118, 105, 99, 116] from n5]⟩
    subst hr
    have hnm : ([[101, 118, 105, 99, 116]] : List (List UInt8)).headD [] = [101, 118, 105, 99, 116] := rfl
    have HXL := Lib.hid (show x.toList = [101, 118, 105, 99, 116] from HXH.out)
    have q0 : (x.toList == [98, 97, 99, 107, 101, 110, 100]) = false := by rw [HXL.out]; rfl
    have q1 : (x.toList == [118, 105, 112]) = false := by rw [HXL.out]; rfl
    have q2 : (x.toList == [109, 101, 109, 98, 101, 114, 115]) = false := by rw [HXL.out]; rfl
    have q3 : (x.toList == [114, 101, 116, 105, 114, 101]) = false := by rw [HXL.out]; rfl
    have q4 : (x.toList == [114, 101, 108, 101, 97, 115, 101]) = false := by rw [HXL.out]; rfl
    have q5 : (x.toList == [101, 118, 105, 99, 116]) = true := by rw [HXL.out]; rfl
    have HW2 := Lib.hid (show WS w2 wb r bad by have := HWX.out; rw [show (bad || ([101, 118, 105, 99, 116] :: r).isEmpty) = bad by simp] at this; exact this)
    clear HWX HXH
    go_wp2_with fail
    refine (smallW wb r (bad) w2 HW2.out).mono ?_
    rintro e w3 ⟨rfl, hw, hk⟩
    have HW3 := Lib.hid hw
    have HR3 := Lib.hid (HR2.out.kept hk HNE.out)
    have HK3 := Lib.hid (HK2.out.then hk (fun i _ h => h))

    obtain ⟨v2, hv2⟩ : ∃ v, numV 255 r = v := ⟨_, rfl⟩
    rw [hv2]
    have HV2 := Lib.hid hv2
    clear hw hk HW2 HR2 HK2 hv2
    go_wp2_with (show wpList _ _ _ ((⟨none, .store 29 (.tmp 2) _, _, _, _, none⟩ : Oper) :: _) _ _; refine wpList_store_mid rfl 29 (.tmp 2) _ rfl rb 0 #[.int .i64 6, .int .i64 0, .int .i64 (v2 : Int), .int .i64 0, .bool false, .int .u64 0, .int .u64 0, .int .u16 0, .int .u8 0, .int .i64 0, .slice none 0 0] rfl rfl (HR3.out.there rfl) (by kernel_rfl) (by simp [Value.oneCell']) ?_)
    generalize hw9 : (World.setCells _ _ _ _) = w9
    have HK9 := Lib.hid (show Kept (fun i => i = rb) w3 w9 by rw [← hw9]; exact Kept.setCells (S := fun i => i = rb) rfl _ _ (Kept.refl _ _))
    have HR9 := Lib.hid (show Blk w9 rb 29 #[.int .i64 6, .int .i64 0, .int .i64 (v2 : Int), .int .i64 0, .bool false, .int .u64 0, .int .u64 0, .int .u16 0, .int .u8 0, .int .i64 0, .slice none 0 0] by rw [← hw9]; exact HR3.out.setAll #[.int .i64 6, .int .i64 0, .int .i64 (v2 : Int), .int .i64 0, .bool false, .int .u64 0, .int .u64 0, .int .u16 0, .int .u8 0, .int .i64 0, .slice none 0 0] rfl)
    clear hw9
    refine bodyPost_ret (results_blk1 (P := Tryz.prog) (show Tryz.f28.results = _ from rfl) _ _ rb 29 #[.int .i64 6, .int .i64 0, .int .i64 (v2 : Int), .int .i64 0, .bool false, .int .u64 0, .int .u64 0, .int .u16 0, .int .u8 0, .int .i64 0, .slice none 0 0] _ rfl HR9.out Tryz.underlying29 rfl (by kernel_rfl)) rfl ?_
    have HW9 := Lib.hid (HW3.out.kept HK9.out HNE2.out)
    have HKZ := Lib.hid (HK3.out.then HK9.out (fun i hi e => by have := HRB.out; omega))
    have hv2 := HV2.out
    subst hv2
    exact ⟨fillO 6 (eat [75] ⟨r, Fd.zero, bad⟩).f, .slice none 0 0, (eat [75] ⟨r, Fd.zero, bad⟩).ws, (eat [75] ⟨r, Fd.zero, bad⟩).bad, rfl, RowN.nil _ _ _ _, HW9.out, HKZ.out, op_fin (nm := [101, 118, 105, 99, 116]) rfl (by decide) r bad⟩
  by_cases n6 : ws.headD [] = [97, 100, 109, 105, 116]
  · skip
    obtain ⟨r, hr⟩ : ∃ r, ws = [97, 100, 109, 105, 116] :: r := by
      cases ws with
      | nil => cases n6
      | cons a r => exact ⟨r, by rw [show a = [97, 100, 109, 105, 116] from n6]⟩
    subst hr
    have hnm : ([[97, 100, 109, 105, 116]] : List (List UInt8)).headD [] = [97, 100, 109, 105, 116] := rfl
    have HXL := Lib.hid (show x.toList = [97, 100, 109, 105, 116] from HXH.out)
    have q0 : (x.toList == [98, 97, 99, 107, 101, 110, 100]) = false := by rw [HXL.out]; rfl
    have q1 : (x.toList == [118, 105, 112]) = false := by rw [HXL.out]; rfl
    have q2 : (x.toList == [109, 101, 109, 98, 101, 114, 115]) = false := by rw [HXL.out]; rfl
    have q3 : (x.toList == [114, 101, 116, 105, 114, 101]) = false := by rw [HXL.out]; rfl
    have q4 : (x.toList == [114, 101, 108, 101, 97, 115, 101]) = false := by rw [HXL.out]; rfl
    have q5 : (x.toList == [101, 118, 105, 99, 116]) = false := by rw [HXL.out]; rfl
    have q6 : (x.toList == [97, 100, 109, 105, 116]) = true := by rw [HXL.out]; rfl
    have HW2 := Lib.hid (show WS w2 wb r bad by have := HWX.out; rw [show (bad || ([97, 100, 109, 105, 116] :: r).isEmpty) = bad by simp] at this; exact this)
    clear HWX HXH
    go_wp2_with fail
    refine (smallW wb r (bad) w2 HW2.out).mono ?_
    rintro e w3 ⟨rfl, hw, hk⟩
    have HW3 := Lib.hid hw
    have HR3 := Lib.hid (HR2.out.kept hk HNE.out)
    have HK3 := Lib.hid (HK2.out.then hk (fun i _ h => h))

    obtain ⟨v2, hv2⟩ : ∃ v, numV 255 r = v := ⟨_, rfl⟩
    rw [hv2]
    have HV2 := Lib.hid hv2
    clear hw hk HW2 HR2 HK2 hv2
    go_wp2_with (show wpList _ _ _ ((⟨none, .store 29 (.tmp 2) _, _, _, _, none⟩ : Oper) :: _) _ _; refine wpList_store_mid rfl 29 (.tmp 2) _ rfl rb 0 #[.int .i64 7, .int .i64 0, .int .i64 (v2 : Int), .int .i64 0, .bool false, .int .u64 0, .int .u64 0, .int .u16 0, .int .u8 0, .int .i64 0, .slice none 0 0] rfl rfl (HR3.out.there rfl) (by kernel_rfl) (by simp [Value.oneCell']) ?_)
    generalize hw9 : (World.setCells _ _ _ _) = w9
    have HK9 := Lib.hid (show Kept (fun i => i = rb) w3 w9 by rw [← hw9]; exact Kept.setCells (S := fun i => i = rb) rfl _ _ (Kept.refl _ _))
    have HR9 := Lib.hid (show Blk w9 rb 29 #[.int .i64 7, .int .i64 0, .int .i64 (v2 : Int), .int .i64 0, .bool false, .int .u64 0, .int .u64 0, .int .u16 0, .int .u8 0, .int .i64 0, .slice none 0 0] by rw [← hw9]; exact HR3.out.setAll #[.int .i64 7, .int .i64 0, .int .i64 (v2 : Int), .int .i64 0, .bool false, .int .u64 0, .int .u64 0, .int .u16 0, .int .u8 0, .int .i64 0, .slice none 0 0] rfl)
    clear hw9
    refine bodyPost_ret (results_blk1 (P := Tryz.prog) (show Tryz.f28.results = _ from rfl) _ _ rb 29 #[.int .i64 7, .int .i64 0, .int .i64 (v2 : Int), .int .i64 0, .bool false, .int .u64 0, .int .u64 0, .int .u16 0, .int .u8 0, .int .i64 0, .slice none 0 0] _ rfl HR9.out Tryz.underlying29 rfl (by kernel_rfl)) rfl ?_
    have HW9 := Lib.hid (HW3.out.kept HK9.out HNE2.out)
    have HKZ := Lib.hid (HK3.out.then HK9.out (fun i hi e => by have := HRB.out; omega))
    have hv2 := HV2.out
    subst hv2
    exact ⟨fillO 7 (eat [75] ⟨r, Fd.zero, bad⟩).f, .slice none 0 0, (eat [75] ⟨r, Fd.zero, bad⟩).ws, (eat [75] ⟨r, Fd.zero, bad⟩).bad, rfl, RowN.nil _ _ _ _, HW9.out, HKZ.out, op_fin (nm := [97, 100, 109, 105, 116]) rfl (by decide) r bad⟩
  by_cases n7 : ws.headD [] = [114, 111, 116, 97, 116, 101]
  · skip
    obtain ⟨r, hr⟩ : ∃ r, ws = [114, 111, 116, 97, 116, 101] :: r := by
      cases ws with
      | nil => cases n7
      | cons a r => exact ⟨r, by rw [show a = [114, 111, 116, 97, 116, 101] from n7]⟩
    subst hr
    have hnm : ([[114, 111, 116, 97, 116, 101]] : List (List UInt8)).headD [] = [114, 111, 116, 97, 116, 101] := rfl
    have HXL := Lib.hid (show x.toList = [114, 111, 116, 97, 116, 101] from HXH.out)
    have q0 : (x.toList == [98, 97, 99, 107, 101, 110, 100]) = false := by rw [HXL.out]; rfl
    have q1 : (x.toList == [118, 105, 112]) = false := by rw [HXL.out]; rfl
    have q2 : (x.toList == [109, 101, 109, 98, 101, 114, 115]) = false := by rw [HXL.out]; rfl
    have q3 : (x.toList == [114, 101, 116, 105, 114, 101]) = false := by rw [HXL.out]; rfl
    have q4 : (x.toList == [114, 101, 108, 101, 97, 115, 101]) = false := by rw [HXL.out]; rfl
    have q5 : (x.toList == [101, 118, 105, 99, 116]) = false := by rw [HXL.out]; rfl
    have q6 : (x.toList == [97, 100, 109, 105, 116]) = false := by rw [HXL.out]; rfl
    have q7 : (x.toList == [114, 111, 116, 97, 116, 101]) = true := by rw [HXL.out]; rfl
    have HW2 := Lib.hid (show WS w2 wb r bad by have := HWX.out; rw [show (bad || ([114, 111, 116, 97, 116, 101] :: r).isEmpty) = bad by simp] at this; exact this)
    clear HWX HXH
    go_wp2_with (show wpList _ _ _ ((⟨none, .store 29 (.tmp 2) _, _, _, _, none⟩ : Oper) :: _) _ _; refine wpList_store_mid rfl 29 (.tmp 2) _ rfl rb 0 #[.int .i64 8, .int .i64 0, .int .i64 0, .int .i64 0, .bool false, .int .u64 0, .int .u64 0, .int .u16 0, .int .u8 0, .int .i64 0, .slice none 0 0] rfl rfl (HR2.out.there rfl) (by kernel_rfl) (by simp [Value.oneCell']) ?_)
    generalize hw9 : (World.setCells _ _ _ _) = w9
    have HK9 := Lib.hid (show Kept (fun i => i = rb) w2 w9 by rw [← hw9]; exact Kept.setCells (S := fun i => i = rb) rfl _ _ (Kept.refl _ _))
    have HR9 := Lib.hid (show Blk w9 rb 29 #[.int .i64 8, .int .i64 0, .int .i64 0, .int .i64 0, .bool false, .int .u64 0, .int .u64 0, .int .u16 0, .int .u8 0, .int .i64 0, .slice none 0 0] by rw [← hw9]; exact HR2.out.setAll #[.int .i64 8, .int .i64 0, .int .i64 0, .int .i64 0, .bool false, .int .u64 0, .int .u64 0, .int .u16 0, .int .u8 0, .int .i64 0, .slice none 0 0] rfl)
    clear hw9
    refine bodyPost_ret (results_blk1 (P := Tryz.prog) (show Tryz.f28.results = _ from rfl) _ _ rb 29 #[.int .i64 8, .int .i64 0, .int .i64 0, .int .i64 0, .bool false, .int .u64 0, .int .u64 0, .int .u16 0, .int .u8 0, .int .i64 0, .slice none 0 0] _ rfl HR9.out Tryz.underlying29 rfl (by kernel_rfl)) rfl ?_
    have HW9 := Lib.hid (HW2.out.kept HK9.out HNE2.out)
    have HKZ := Lib.hid (HK2.out.then HK9.out (fun i hi e => by have := HRB.out; omega))
    exact ⟨fillO 8 (eat [] ⟨r, Fd.zero, bad⟩).f, .slice none 0 0, (eat [] ⟨r, Fd.zero, bad⟩).ws, (eat [] ⟨r, Fd.zero, bad⟩).bad, rfl, RowN.nil _ _ _ _, HW9.out, HKZ.out, op_fin (nm := [114, 111, 116, 97, 116, 101]) rfl (by decide) r bad⟩
  have HXL := HXH
  have q0 : (x.toList == [98, 97, 99, 107, 101, 110, 100]) = false := by rw [HXL.out]; exact beq_eq_false_iff_ne.2 n0
  have q1 : (x.toList == [118, 105, 112]) = false := by rw [HXL.out]; exact beq_eq_false_iff_ne.2 n1
  have q2 : (x.toList == [109, 101, 109, 98, 101, 114, 115]) = false := by rw [HXL.out]; exact beq_eq_false_iff_ne.2 n2
  have q3 : (x.toList == [114, 101, 116, 105, 114, 101]) = false := by rw [HXL.out]; exact beq_eq_false_iff_ne.2 n3
  have q4 : (x.toList == [114, 101, 108, 101, 97, 115, 101]) = false := by rw [HXL.out]; exact beq_eq_false_iff_ne.2 n4
  have q5 : (x.toList == [101, 118, 105, 99, 116]) = false := by rw [HXL.out]; exact beq_eq_false_iff_ne.2 n5
  have q6 : (x.toList == [97, 100, 109, 105, 116]) = false := by rw [HXL.out]; exact beq_eq_false_iff_ne.2 n6
  have q7 : (x.toList == [114, 111, 116, 97, 116, 101]) = false := by rw [HXL.out]; exact beq_eq_false_iff_ne.2 n7
  have HF := Lib.hid (opP_none n0 n1 n2 n3 n4 n5 n6 n7)
  obtain ⟨s, hs, hq, hz, hB⟩ := HWX.out
  have HS := Lib.hid hs
  have HQ := Lib.hid hq
  have HBK := Lib.hid hB
  have c0 := hB.cell
  have f0 := hB.frozen
  have lt0 := hB.lt
  clear hs hq hB n0 n1 n2 n3 n4 n5 n6 n7 HXH HXL
  go_upto_region 19 with fail
  generalize hw3 : World.setCell _ _ _ = w3
  have HKC := Lib.hid (show Kept (fun i => i = wb) w2 w3 by rw [← hw3]; exact Kept.setIn (S := fun i => i = wb) (b := wb) rfl (Kept.refl _ _))
  have HW3 := Lib.hid (show WS w3 wb ws.tail true from ⟨s, HS.out, HQ.out, hz, by rw [← hw3]; exact HBK.out.set_to rfl⟩)
  have HR3 := Lib.hid (HR2.out.kept HKC.out HNE.out)
  have HK3 := Lib.hid (HK2.out.then HKC.out (fun i _ h => h))
  clear hw3 HKC HR2 HK2 HS HQ HBK HWX c0 f0 lt0
  go_wp2_with (show wpList _ _ _ ((⟨none, .store 29 (.tmp 2) _, _, _, _, none⟩ : Oper) :: _) _ _; refine wpList_store_mid rfl 29 (.tmp 2) _ rfl rb 0 #[.int .i64 0, .int .i64 0, .int .i64 0, .int .i64 0, .bool false, .int .u64 0, .int .u64 0, .int .u16 0, .int .u8 0, .int .i64 0, .slice none 0 0] rfl rfl (HR3.out.there rfl) (by kernel_rfl) (by simp [Value.oneCell']) ?_)
  generalize hw9 : (World.setCells _ _ _ _) = w9
  have HK9 := Lib.hid (show Kept (fun i => i = rb) w3 w9 by rw [← hw9]; exact Kept.setCells (S := fun i => i = rb) rfl _ _ (Kept.refl _ _))
  have HR9 := Lib.hid (show Blk w9 rb 29 #[.int .i64 0, .int .i64 0, .int .i64 0, .int .i64 0, .bool false, .int .u64 0, .int .u64 0, .int .u16 0, .int .u8 0, .int .i64 0, .slice none 0 0] by rw [← hw9]; exact HR3.out.setAll #[.int .i64 0, .int .i64 0, .int .i64 0, .int .i64 0, .bool false, .int .u64 0, .int .u64 0, .int .u16 0, .int .u8 0, .int .i64 0, .slice none 0 0] rfl)
  clear hw9
  refine bodyPost_ret (results_blk1 (P := Tryz.prog) (show Tryz.f28.results = _ from rfl) _ _ rb 29 #[.int .i64 0, .int .i64 0, .int .i64 0, .int .i64 0, .bool false, .int .u64 0, .int .u64 0, .int .u16 0, .int .u8 0, .int .i64 0, .slice none 0 0] _ rfl HR9.out Tryz.underlying29 rfl (by kernel_rfl)) rfl ?_
  have HW9 := Lib.hid (HW3.out.kept HK9.out HNE2.out)
  have HKZ := Lib.hid (HK3.out.then HK9.out (fun i hi e => by have := HRB.out; omega))
  exact ⟨Osp.zero, .slice none 0 0, ws.tail, true, rfl, RowN.nil _ _ _ _, HW9.out, HKZ.out, show finE ws.tail true Osp.zero = orNone bad (opP ws) by rw [HF.out]; cases bad <;> simp [finE, orNone]⟩
end Go.Proofs.YthfdhggcnkgjfaaGreatDoor
