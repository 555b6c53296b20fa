/- script.Parse at any text. -/
import Derived.Test.YthfdhggcnkgjfaaGreatDoorYD
namespace Go.Proofs.YthfdhggcnkgjfaaGreatDoor
open Go.RowKit
set_option linter.unusedVariables false
set_option linter.unusedSimpArgs false
def Z33 : Array Value := #[.int .i64 0, .int .i64 0, .int .i64 0, .int .i64 0, .int .i64 0, .bool false, .int .u64 0, .int .u64 0, .int .u16 0, .int .u8 0, .int .i64 0, .slice none 0 0, .int .i64 0, .int .i64 0, .int .u8 0, .slice none 0 0, .int .u32 0, .int .u32 0, .int .u32 0, .bool false, .int .u64 0, .int .u64 0, .int .u16 0]
def ParseRet (w : World) (o : Option Sp) (e : Ending) (w' : World) : Prop := Below w.heap.size w w' ∧ match o with
  | none => e = .returned (.tuple #[.agg Z33, .int .i64 21])
  | some s => ∃ mv lv, e = .returned (.tuple #[.agg (SpC mv lv s), .int .i64 0]) ∧ MemsIn w' w.heap.size mv s.op.ms ∧ LoadIn w' lv s.load
set_option maxRecDepth 20000 in
set_option maxHeartbeats 16000000 in
theorem parse_any (s : ByteArray) (hz : s.size ≤ 4000) (w : World) : Calls Tryz.prog 6 #[.string s] w (ParseRet w (lineP s.data.toList)) := by
  obtain ⟨ws, hws⟩ : ∃ ws, parts 32 s.data.toList = ws := ⟨_, rfl⟩
  obtain ⟨b0, hb0⟩ : ∃ b0, decide (10 ∈ s.data.toList) = b0 := ⟨_, rfl⟩
  have HLP := Lib.hid (show lineP s.data.toList = orNone b0 (wordsP ws) by
    unfold lineP
    rw [hws]
    by_cases h : (10 : UInt8) ∈ s.data.toList
    · rw [if_pos h, ← hb0, decide_eq_true h]; rfl
    · rw [if_neg h, ← hb0, decide_eq_false h]; rfl)
  have HSPL := Lib.hid (fun W => splitW s hz W)
  have hne : ws ≠ [] := by rw [← hws]; exact parts_ne _ _
  rw [hws, hb0] at HSPL
  clear hws hb0
  go_enter Tryz.func6, Tryz.ntmps6
  go_upto_region 1 with fail
  obtain ⟨w1, hw1⟩ : ∃ w1 : World, w1 = w.alloc (.cells #[.int .i64 0, .int .i64 0, .int .i64 0, .int .i64 0, .int .i64 0, .bool false, .int .u64 0, .int .u64 0, .int .u16 0, .int .u8 0, .int .i64 0, .slice none 0 0, .int .i64 0, .int .i64 0, .int .u8 0, .slice none 0 0, .int .u32 0, .int .u32 0, .int .u32 0, .bool false, .int .u64 0, .int .u64 0, .int .u16 0] 33) := ⟨_, rfl⟩
  have HR1 := Lib.hid (show Blk w1 w.heap.size 33 #[.int .i64 0, .int .i64 0, .int .i64 0, .int .i64 0, .int .i64 0, .bool false, .int .u64 0, .int .u64 0, .int .u16 0, .int .u8 0, .int .i64 0, .slice none 0 0, .int .i64 0, .int .i64 0, .int .u8 0, .slice none 0 0, .int .u32 0, .int .u32 0, .int .u32 0, .bool false, .int .u64 0, .int .u64 0, .int .u16 0] by rw [hw1]; exact Blk.new _ _ _)
  have HK1 := Lib.hid (show Kept (fun _ => False) w w1 by rw [hw1]; exact (Kept.refl _ _).alloc _)
  rw [← hw1]
  clear hw1
  obtain ⟨rb, hrb⟩ : ∃ rb, w.heap.size = rb := ⟨_, rfl⟩
  have HRB := Lib.hid hrb
  rw [hrb] at HR1 ⊢
  clear hrb
  go_wp2_with fail
  refine (HSPL.out w1).mono ?_
  rintro e w2 ⟨rfl, hw, hb2⟩
  have HW2 := Lib.hid hw
  have HNE := Lib.hid (show ¬ rb = w1.heap.size from fun e => by have := HR1.out.lt; omega)
  have HGE := Lib.hid (show w.heap.size ≤ w1.heap.size from HK1.out.size)
  have HR2 := Lib.hid (HR1.out.below hb2 HR1.out.lt)
  have HK2 := Lib.hid (HK1.out.trans (Kept.ofB (S := fun _ => False) hb2))
  clear hw hb2 HR1 HK1
  obtain ⟨wb, hwb⟩ : ∃ wb, w1.heap.size = wb := ⟨_, rfl⟩
  rw [hwb] at HW2 HNE HGE ⊢
  clear hwb
  cases ws with
  | nil => exact absurd rfl hne
  | cons nm r =>
    go_wp2_with fail
    refine (next_any wb (nm :: r) b0 w2 HW2.out).mono ?_
    rintro e w3 ⟨⟨x, rfl, hx, hxs⟩, hw, hk⟩
    have HW3 := Lib.hid (show WS w3 wb r b0 by have := hw; rw [show (b0 || (nm :: r).isEmpty) = b0 by simp] at this; exact this)
    have HR3 := Lib.hid (HR2.out.kept hk HNE.out)
    have HK3 := Lib.hid (show Kept (fun _ => False) w w3 from HK2.out.then hk (fun i hi e => by have := HGE.out; omega))
    have HCT := Lib.hid (controlW wb r b0 x nm hx w3 HW3.out)
    clear hw hk hx HW2 HR2 HK2 HW3
    go_wp2_with fail
    refine HCT.out.mono ?_
    rintro e w4 ⟨sp, mv, lv, wsx, bdx, rfl, hmem, hl, hw, hk, hfin⟩
    obtain ⟨MA, mc, rfl, -, -⟩ := hmem.shape
    obtain ⟨ml, hml⟩ : ∃ ml, (mcs sp.op.ms).length = ml := ⟨_, rfl⟩
    rw [hml] at hmem ⊢
    have HL4 := Lib.hid hl
    obtain ⟨LA, lc, hlv, -⟩ := hl
    subst hlv
    obtain ⟨ll, hll⟩ : ∃ ll, sp.load.length = ll := ⟨_, rfl⟩
    rw [hll] at HL4 ⊢
    have HMM := Lib.hid (show MemsIn w4 w.heap.size (.slice MA ml mc) sp.op.ms from RowN.more hmem HK3.out.size)
    have HFI := Lib.hid hfin
    have HW4 := Lib.hid hw
    have HR4 := Lib.hid (HR3.out.kept hk HNE.out)
    have HRN := Lib.hid (show ¬ (Value.slice MA ml mc).ownBlock = some rb from hmem.ne HR4.out (by decide))
    have HK4 := Lib.hid (show Kept (fun _ => False) w w4 from HK3.out.then hk (fun i hi e => by have := HGE.out; omega))
    clear hw hk hmem hfin HR3 HK3 hml hll HCT
    unfold SpC
    go_upto_region 3 with (show wpList _ _ _ ((⟨none, .store 33 (.tmp 5) _, _, _, _, none⟩ : Oper) :: _) _ _; refine wpList_store_mid rfl 33 (.tmp 5) _ rfl w4.heap.size 0 #[.int .i64 sp.kind, .int .i64 sp.op.kind, .int .i64 sp.op.vip, .int .i64 sp.op.backend, .int .i64 sp.op.version, .bool sp.op.a.six, .int .u64 (sp.op.a.hi : Int), .int .u64 (sp.op.a.lo : Int), .int .u16 (sp.op.port : Int), .int .u8 (sp.op.proto : Int), .int .i64 sp.op.way, .slice MA ml mc, .int .i64 sp.who, .int .i64 sp.time, .int .u8 (sp.flags : Int), .slice LA ll lc, .int .u32 (sp.n : Int), .int .u32 (sp.x : Int), .int .u32 (sp.y : Int), .bool sp.src.six, .int .u64 (sp.src.hi : Int), .int .u64 (sp.src.lo : Int), .int .u16 (sp.port : Int)] rfl rfl ((Blk.new w4 33 #[.int .i64 0, .int .i64 0, .int .i64 0, .int .i64 0, .int .i64 0, .bool false, .int .u64 0, .int .u64 0, .int .u16 0, .int .u8 0, .int .i64 0, .slice none 0 0, .int .i64 0, .int .i64 0, .int .u8 0, .slice none 0 0, .int .u32 0, .int .u32 0, .int .u32 0, .bool false, .int .u64 0, .int .u64 0, .int .u16 0]).there rfl) (by kernel_rfl) (by simp [Value.oneCell']) ?_)
    generalize hw4 : (World.setCells _ _ _ _) = w5
    have HKA := Lib.hid (show Kept (fun i => i = w4.heap.size) (w4.alloc (.cells #[.int .i64 0, .int .i64 0, .int .i64 0, .int .i64 0, .int .i64 0, .bool false, .int .u64 0, .int .u64 0, .int .u16 0, .int .u8 0, .int .i64 0, .slice none 0 0, .int .i64 0, .int .i64 0, .int .u8 0, .slice none 0 0, .int .u32 0, .int .u32 0, .int .u32 0, .bool false, .int .u64 0, .int .u64 0, .int .u16 0] 33)) w5 by rw [← hw4]; exact Kept.setCells (S := fun i => i = w4.heap.size) rfl _ _ (Kept.refl _ _))
    have HS5 := Lib.hid (show Blk w5 w4.heap.size 33 #[.int .i64 sp.kind, .int .i64 sp.op.kind, .int .i64 sp.op.vip, .int .i64 sp.op.backend, .int .i64 sp.op.version, .bool sp.op.a.six, .int .u64 (sp.op.a.hi : Int), .int .u64 (sp.op.a.lo : Int), .int .u16 (sp.op.port : Int), .int .u8 (sp.op.proto : Int), .int .i64 sp.op.way, .slice MA ml mc, .int .i64 sp.who, .int .i64 sp.time, .int .u8 (sp.flags : Int), .slice LA ll lc, .int .u32 (sp.n : Int), .int .u32 (sp.x : Int), .int .u32 (sp.y : Int), .bool sp.src.six, .int .u64 (sp.src.hi : Int), .int .u64 (sp.src.lo : Int), .int .u16 (sp.port : Int)] by rw [← hw4]; exact (Blk.new w4 33 #[.int .i64 0, .int .i64 0, .int .i64 0, .int .i64 0, .int .i64 0, .bool false, .int .u64 0, .int .u64 0, .int .u16 0, .int .u8 0, .int .i64 0, .slice none 0 0, .int .i64 0, .int .i64 0, .int .u8 0, .slice none 0 0, .int .u32 0, .int .u32 0, .int .u32 0, .bool false, .int .u64 0, .int .u64 0, .int .u16 0]).setAll #[.int .i64 sp.kind, .int .i64 sp.op.kind, .int .i64 sp.op.vip, .int .i64 sp.op.backend, .int .i64 sp.op.version, .bool sp.op.a.six, .int .u64 (sp.op.a.hi : Int), .int .u64 (sp.op.a.lo : Int), .int .u16 (sp.op.port : Int), .int .u8 (sp.op.proto : Int), .int .i64 sp.op.way, .slice MA ml mc, .int .i64 sp.who, .int .i64 sp.time, .int .u8 (sp.flags : Int), .slice LA ll lc, .int .u32 (sp.n : Int), .int .u32 (sp.x : Int), .int .u32 (sp.y : Int), .bool sp.src.six, .int .u64 (sp.src.hi : Int), .int .u64 (sp.src.lo : Int), .int .u16 (sp.port : Int)] rfl)
    have HKB := Lib.hid (show Kept (fun _ => False) w4 w5 from ((Kept.refl _ _).alloc _).then HKA.out (fun i hi e => by omega))
    have HW5 := Lib.hid (HW4.out.kept HKB.out (fun h => h))
    have HR5 := Lib.hid (HR4.out.kept HKB.out (fun h => h))
    have HK5 := Lib.hid (HK4.out.trans HKB.out)
    have HM5 := Lib.hid (show MemsIn w5 w.heap.size (.slice MA ml mc) sp.op.ms from RowN.kept HMM.out HKB.out (fun _ _ h => h))
    have HL5 := Lib.hid (HL4.out.keep (fun g cs fr hg => HKB.out.block g (lt_of_heap hg) (fun h => h)))
    obtain ⟨sb, hsb⟩ : ∃ sb, w4.heap.size = sb := ⟨_, rfl⟩
    rw [hsb] at HS5 ⊢
    clear hw4 HKA HKB HW4 HR4 HK4 HMM HL4 hsb
    go_wp2_with fail
    refine (fineW wb wsx bdx w5 HW5.out).mono ?_
    rintro e w6 ⟨rfl, rfl⟩
    cases hfn : (wsx.isEmpty && !bdx) with
    | true =>
      have HF := Lib.hid (show lineP s.data.toList = some sp by rw [HLP.out, ← HFI.out]; unfold finE; rw [hfn]; rfl)
      clear hfn HFI HLP
      go_wp2_with (first | (show wpList _ _ _ ((⟨_, .load 33 (.tmp 5), _, _, _, none⟩ : Oper) :: _) _ _; refine wpList_load_mid rfl 33 (.tmp 5) rfl sb 0 rfl [.int .i64 sp.kind, .int .i64 sp.op.kind, .int .i64 sp.op.vip, .int .i64 sp.op.backend, .int .i64 sp.op.version, .bool sp.op.a.six, .int .u64 (sp.op.a.hi : Int), .int .u64 (sp.op.a.lo : Int), .int .u16 (sp.op.port : Int), .int .u8 (sp.op.proto : Int), .int .i64 sp.op.way, .slice MA ml mc, .int .i64 sp.who, .int .i64 sp.time, .int .u8 (sp.flags : Int), .slice LA ll lc, .int .u32 (sp.n : Int), .int .u32 (sp.x : Int), .int .u32 (sp.y : Int), .bool sp.src.six, .int .u64 (sp.src.hi : Int), .int .u64 (sp.src.lo : Int), .int .u16 (sp.port : Int)] _ HS5.out.range Tryz.underlying33 rfl (by kernel_rfl) ?_) | (show wpList _ _ _ ((⟨none, .store 33 (.tmp 2) _, _, _, _, none⟩ : Oper) :: _) _ _; refine wpList_store_mid rfl 33 (.tmp 2) _ rfl rb 0 #[.int .i64 sp.kind, .int .i64 sp.op.kind, .int .i64 sp.op.vip, .int .i64 sp.op.backend, .int .i64 sp.op.version, .bool sp.op.a.six, .int .u64 (sp.op.a.hi : Int), .int .u64 (sp.op.a.lo : Int), .int .u16 (sp.op.port : Int), .int .u8 (sp.op.proto : Int), .int .i64 sp.op.way, .slice MA ml mc, .int .i64 sp.who, .int .i64 sp.time, .int .u8 (sp.flags : Int), .slice LA ll lc, .int .u32 (sp.n : Int), .int .u32 (sp.x : Int), .int .u32 (sp.y : Int), .bool sp.src.six, .int .u64 (sp.src.hi : Int), .int .u64 (sp.src.lo : Int), .int .u16 (sp.port : Int)] rfl rfl (HR5.out.there rfl) (by kernel_rfl) (by simp [Value.oneCell']) ?_))
      generalize hw9 : (World.setCells _ _ _ _) = w9
      have HK9 := Lib.hid (show Kept (fun i => i = rb) w6 w9 by rw [← hw9]; exact Kept.setCells (S := fun i => i = rb) rfl _ _ (Kept.refl _ _))
      have HR9 := Lib.hid (show Blk w9 rb 33 #[.int .i64 sp.kind, .int .i64 sp.op.kind, .int .i64 sp.op.vip, .int .i64 sp.op.backend, .int .i64 sp.op.version, .bool sp.op.a.six, .int .u64 (sp.op.a.hi : Int), .int .u64 (sp.op.a.lo : Int), .int .u16 (sp.op.port : Int), .int .u8 (sp.op.proto : Int), .int .i64 sp.op.way, .slice MA ml mc, .int .i64 sp.who, .int .i64 sp.time, .int .u8 (sp.flags : Int), .slice LA ll lc, .int .u32 (sp.n : Int), .int .u32 (sp.x : Int), .int .u32 (sp.y : Int), .bool sp.src.six, .int .u64 (sp.src.hi : Int), .int .u64 (sp.src.lo : Int), .int .u16 (sp.port : Int)] by rw [← hw9]; exact HR5.out.setAll #[.int .i64 sp.kind, .int .i64 sp.op.kind, .int .i64 sp.op.vip, .int .i64 sp.op.backend, .int .i64 sp.op.version, .bool sp.op.a.six, .int .u64 (sp.op.a.hi : Int), .int .u64 (sp.op.a.lo : Int), .int .u16 (sp.op.port : Int), .int .u8 (sp.op.proto : Int), .int .i64 sp.op.way, .slice MA ml mc, .int .i64 sp.who, .int .i64 sp.time, .int .u8 (sp.flags : Int), .slice LA ll lc, .int .u32 (sp.n : Int), .int .u32 (sp.x : Int), .int .u32 (sp.y : Int), .bool sp.src.six, .int .u64 (sp.src.hi : Int), .int .u64 (sp.src.lo : Int), .int .u16 (sp.port : Int)] rfl)
      clear hw9
      have HBZ := Lib.hid ((HK5.out.below (Nat.le_refl _) (fun i h => h.elim)).trans (HK9.out.below HK5.out.size (fun i e => by have := HRB.out; omega)))
      refine bodyPost_ret (results_blk_tmp (P := Tryz.prog) (show Tryz.f6.results = _ from rfl) _ _ rb 33 #[.int .i64 sp.kind, .int .i64 sp.op.kind, .int .i64 sp.op.vip, .int .i64 sp.op.backend, .int .i64 sp.op.version, .bool sp.op.a.six, .int .u64 (sp.op.a.hi : Int), .int .u64 (sp.op.a.lo : Int), .int .u16 (sp.op.port : Int), .int .u8 (sp.op.proto : Int), .int .i64 sp.op.way, .slice MA ml mc, .int .i64 sp.who, .int .i64 sp.time, .int .u8 (sp.flags : Int), .slice LA ll lc, .int .u32 (sp.n : Int), .int .u32 (sp.x : Int), .int .u32 (sp.y : Int), .bool sp.src.six, .int .u64 (sp.src.hi : Int), .int .u64 (sp.src.lo : Int), .int .u16 (sp.port : Int)] _ rfl HR9.out Tryz.underlying33 rfl (by kernel_rfl)) rfl ⟨HBZ.out, ?_⟩
      rw [HF.out]
      exact ⟨_, _, rfl, RowN.kept HM5.out HK9.out (fun g hg e => HRN.out (by rw [hg, e])), HL5.out.keep (fun g cs fr hg => HK9.out.block g (lt_of_heap hg) (fun e => by subst e; exact blk_not HR5.out hg (by decide)))⟩
    | false =>
      have HF := Lib.hid (show lineP s.data.toList = none by rw [HLP.out, ← HFI.out]; unfold finE; rw [hfn]; rfl)
      clear hfn HFI HLP
      go_wp2_with (show wpList _ _ _ ((⟨none, .store 33 (.tmp 2) _, _, _, _, none⟩ : Oper) :: _) _ _; refine wpList_store_mid rfl 33 (.tmp 2) _ rfl rb 0 #[.int .i64 0, .int .i64 0, .int .i64 0, .int .i64 0, .int .i64 0, .bool false, .int .u64 0, .int .u64 0, .int .u16 0, .int .u8 0, .int .i64 0, .slice none 0 0, .int .i64 0, .int .i64 0, .int .u8 0, .slice none 0 0, .int .u32 0, .int .u32 0, .int .u32 0, .bool false, .int .u64 0, .int .u64 0, .int .u16 0] rfl rfl (HR5.out.there rfl) (by kernel_rfl) (by simp [Value.oneCell']) ?_)
      generalize hw9 : (World.setCells _ _ _ _) = w9
      have HK9 := Lib.hid (show Kept (fun i => i = rb) w6 w9 by rw [← hw9]; exact Kept.setCells (S := fun i => i = rb) rfl _ _ (Kept.refl _ _))
      have HR9 := Lib.hid (show Blk w9 rb 33 #[.int .i64 0, .int .i64 0, .int .i64 0, .int .i64 0, .int .i64 0, .bool false, .int .u64 0, .int .u64 0, .int .u16 0, .int .u8 0, .int .i64 0, .slice none 0 0, .int .i64 0, .int .i64 0, .int .u8 0, .slice none 0 0, .int .u32 0, .int .u32 0, .int .u32 0, .bool false, .int .u64 0, .int .u64 0, .int .u16 0] by rw [← hw9]; exact HR5.out.setAll #[.int .i64 0, .int .i64 0, .int .i64 0, .int .i64 0, .int .i64 0, .bool false, .int .u64 0, .int .u64 0, .int .u16 0, .int .u8 0, .int .i64 0, .slice none 0 0, .int .i64 0, .int .i64 0, .int .u8 0, .slice none 0 0, .int .u32 0, .int .u32 0, .int .u32 0, .bool false, .int .u64 0, .int .u64 0, .int .u16 0] rfl)
      clear hw9
      have HBZ := Lib.hid ((HK5.out.below (Nat.le_refl _) (fun i h => h.elim)).trans (HK9.out.below HK5.out.size (fun i e => by have := HRB.out; omega)))
      refine bodyPost_ret (results_blk_tmp (P := Tryz.prog) (show Tryz.f6.results = _ from rfl) _ _ rb 33 #[.int .i64 0, .int .i64 0, .int .i64 0, .int .i64 0, .int .i64 0, .bool false, .int .u64 0, .int .u64 0, .int .u16 0, .int .u8 0, .int .i64 0, .slice none 0 0, .int .i64 0, .int .i64 0, .int .u8 0, .slice none 0 0, .int .u32 0, .int .u32 0, .int .u32 0, .bool false, .int .u64 0, .int .u64 0, .int .u16 0] _ rfl HR9.out Tryz.underlying33 rfl (by kernel_rfl)) rfl ⟨HBZ.out, ?_⟩
      rw [HF.out]; try exact rfl
end Go.Proofs.YthfdhggcnkgjfaaGreatDoor
