/- To at plain steps; awake. -/
import Derived.Test.YthfdhggcnkgjfaaGreatDoorUG
import Derived.Test.YthfdhggcnkgjfaaGreatDoorF
namespace Go.Proofs.YthfdhggcnkgjfaaGreatDoor
open Go.RowKit
set_option linter.unusedVariables false
set_option linter.unusedSimpArgs false
theorem toS (s : Sp) (MA LA : Option Addr) (mc lc : Nat) (w : World) (hl : s.op.ms.length ≤ 70) (h1 : s.op.ms.length ≤ mc) (h2 : mc ≤ maxLen) (hM : ES w w.heap.size MA 2 (mcs s.op.ms)) :
    Calls Tryz.prog 9 #[.agg (SpC (.slice MA s.op.ms.length mc) (.slice LA s.load.length lc) s)] w fun e w' => ∃ A4 c4, e = .returned (.agg (SpC (.slice A4 s.op.ms.length c4) (.slice LA s.load.length lc) s)) ∧ s.op.ms.length ≤ c4 ∧ c4 ≤ maxLen ∧ ES w' w'.heap.size A4 2 (mcs s.op.ms) ∧ Kept (fun _ => False) w w' := by
  have h := to_any s.kind s.op.kind s.op.vip s.op.backend s.op.version s.op.a.six (s.op.a.hi : Int) (s.op.a.lo : Int) (s.op.port : Int) (s.op.proto : Int) s.op.way MA mc (s.op.ms.map toMb) s.who s.time (s.flags : Int) LA lc s.load (s.n : Int) (s.x : Int) (s.y : Int) s.src.six (s.src.hi : Int) (s.src.lo : Int) (s.port : Int) w (by rw [List.length_map]; exact hl) ⟨by rw [List.length_map]; exact h1, h2, by rw [toMb_cs]; exact hM⟩
  rw [List.length_map] at h
  refine h.mono ?_
  rintro e w' ⟨⟨A4, c4, rfl, h4, h5, h6⟩, hb⟩
  rw [List.length_map] at h4
  rw [toMb_cs] at h6
  exact ⟨A4, c4, rfl, h4, h5, h6, Kept.ofB hb⟩
set_option maxRecDepth 20000 in
set_option maxHeartbeats 16000000 in
theorem awake_any (w : World) : Calls Tryz.prog 5 #[] w fun e w' => e = .returned (.bool true) ∧ Kept (fun _ => False) w w' := by
  have HP := Lib.hid (fun W => parse_any ⟨#[111, 102, 102, 101, 114, 32, 51]⟩ (by decide) W)
  have HQ := Lib.hid (fun W => parse_any ⟨#[111, 102, 102, 101, 114, 32, 48, 51]⟩ (by decide) W)
  rw [show lineP (⟨#[111, 102, 102, 101, 114, 32, 51]⟩ : ByteArray).data.toList = some { Sp.zero with kind := 3, who := 3 } by kernel_rfl] at HP
  rw [show lineP (⟨#[111, 102, 102, 101, 114, 32, 48, 51]⟩ : ByteArray).data.toList = none by kernel_rfl] at HQ
  go_enter Tryz.func5, Tryz.ntmps5
  go_wp2_with fail
  refine (HP.out w).mono ?_
  rintro e w1 ⟨hb1, mv, lv, rfl, hmem, hld⟩
  obtain ⟨MA, mc, rfl, -, -, -⟩ := RowN.es hmem
  obtain ⟨LA, lc, rfl, -, -, -⟩ := hld.byt
  have HB1 := Lib.hid hb1
  clear hb1 hmem hld
  rw [show SpC (.slice MA (mcs ({ Sp.zero with kind := 3, who := 3 } : Sp).op.ms).length mc) (.slice LA ({ Sp.zero with kind := 3, who := 3 } : Sp).load.length lc) { Sp.zero with kind := 3, who := 3 } = #[.int .i64 3, .int .i64 0, .int .i64 0, .int .i64 0, .int .i64 0, .bool false, .int .u64 0, .int .u64 0, .int .u16 0, .int .u8 0, .int .i64 0, .slice MA 0 mc, .int .i64 3, .int .i64 0, .int .u8 0, .slice LA 0 lc, .int .u32 0, .int .u32 0, .int .u32 0, .bool false, .int .u64 0, .int .u64 0, .int .u16 0] from rfl]
  go_upto_region 2 with (show wpList _ _ _ ((⟨none, .store 33 (.tmp 1) _, _, _, _, none⟩ : Oper) :: _) _ _; refine wpList_store_mid rfl 33 (.tmp 1) _ rfl w1.heap.size 0 #[.int .i64 3, .int .i64 0, .int .i64 0, .int .i64 0, .int .i64 0, .bool false, .int .u64 0, .int .u64 0, .int .u16 0, .int .u8 0, .int .i64 0, .slice MA 0 mc, .int .i64 3, .int .i64 0, .int .u8 0, .slice LA 0 lc, .int .u32 0, .int .u32 0, .int .u32 0, .bool false, .int .u64 0, .int .u64 0, .int .u16 0] rfl rfl ((Blk.new w1 33 #[.int .i64 0, .int .i64 0, .int .i64 0, .int .i64 0, .int .i64 0, .bool false, .int .u64 0, .int .u64 0, .int .u16 0, .int .u8 0, .int .i64 0, .slice none 0 0, .int .i64 0, .int .i64 0, .int .u8 0, .slice none 0 0, .int .u32 0, .int .u32 0, .int .u32 0, .bool false, .int .u64 0, .int .u64 0, .int .u16 0]).there rfl) (by kernel_rfl) (by simp [Value.oneCell']) ?_)
  generalize hw2 : (World.setCells _ _ _ _) = w2
  have HKA := Lib.hid (show Kept (fun _ => False) w1 w2 by rw [← hw2]; exact ((Kept.refl _ _).alloc _).then (Kept.setCells (S := fun i => i = w1.heap.size) rfl _ _ (Kept.refl _ _)) (fun i hi e => by omega))
  have HN2 := Lib.hid (show Blk w2 w1.heap.size 33 #[.int .i64 3, .int .i64 0, .int .i64 0, .int .i64 0, .int .i64 0, .bool false, .int .u64 0, .int .u64 0, .int .u16 0, .int .u8 0, .int .i64 0, .slice MA 0 mc, .int .i64 3, .int .i64 0, .int .u8 0, .slice LA 0 lc, .int .u32 0, .int .u32 0, .int .u32 0, .bool false, .int .u64 0, .int .u64 0, .int .u16 0] by rw [← hw2]; exact (Blk.new w1 33 #[.int .i64 0, .int .i64 0, .int .i64 0, .int .i64 0, .int .i64 0, .bool false, .int .u64 0, .int .u64 0, .int .u16 0, .int .u8 0, .int .i64 0, .slice none 0 0, .int .i64 0, .int .i64 0, .int .u8 0, .slice none 0 0, .int .u32 0, .int .u32 0, .int .u32 0, .bool false, .int .u64 0, .int .u64 0, .int .u16 0]).setAll #[.int .i64 3, .int .i64 0, .int .i64 0, .int .i64 0, .int .i64 0, .bool false, .int .u64 0, .int .u64 0, .int .u16 0, .int .u8 0, .int .i64 0, .slice MA 0 mc, .int .i64 3, .int .i64 0, .int .u8 0, .slice LA 0 lc, .int .u32 0, .int .u32 0, .int .u32 0, .bool false, .int .u64 0, .int .u64 0, .int .u16 0] rfl)
  have HK2 := Lib.hid (show Kept (fun _ => False) w w2 from (Kept.ofB HB1.out).trans HKA.out)
  obtain ⟨tb, htb⟩ : ∃ tb, w1.heap.size = tb := ⟨_, rfl⟩
  rw [htb] at HN2 ⊢
  clear hw2 htb HKA HB1 HP
  go_wp2_with fail
  refine (HQ.out w2).mono ?_
  rintro e w3 ⟨hb3, hfr⟩
  obtain rfl : e = _ := hfr
  have HN3 := Lib.hid (HN2.out.below hb3 HN2.out.lt)
  have HK3 := Lib.hid (HK2.out.trans (Kept.ofB hb3))
  clear hb3 HQ HN2 HK2
  unfold Z33
  go_upto_region 3 with (show wpList _ _ _ ((⟨none, .store 33 (.tmp 3) _, _, _, _, none⟩ : Oper) :: _) _ _; refine wpList_store_mid rfl 33 (.tmp 3) _ rfl w3.heap.size 0 #[.int .i64 0, .int .i64 0, .int .i64 0, .int .i64 0, .int .i64 0, .bool false, .int .u64 0, .int .u64 0, .int .u16 0, .int .u8 0, .int .i64 0, .slice none 0 0, .int .i64 0, .int .i64 0, .int .u8 0, .slice none 0 0, .int .u32 0, .int .u32 0, .int .u32 0, .bool false, .int .u64 0, .int .u64 0, .int .u16 0] rfl rfl ((Blk.new w3 33 #[.int .i64 0, .int .i64 0, .int .i64 0, .int .i64 0, .int .i64 0, .bool false, .int .u64 0, .int .u64 0, .int .u16 0, .int .u8 0, .int .i64 0, .slice none 0 0, .int .i64 0, .int .i64 0, .int .u8 0, .slice none 0 0, .int .u32 0, .int .u32 0, .int .u32 0, .bool false, .int .u64 0, .int .u64 0, .int .u16 0]).there rfl) (by kernel_rfl) (by simp [Value.oneCell']) ?_)
  generalize hw4 : (World.setCells _ _ _ _) = w4
  have HKA := Lib.hid (show Kept (fun _ => False) w3 w4 by rw [← hw4]; exact ((Kept.refl _ _).alloc _).then (Kept.setCells (S := fun i => i = w3.heap.size) rfl _ _ (Kept.refl _ _)) (fun i hi e => by omega))
  have HN4 := Lib.hid (HN3.out.kept HKA.out (fun h => h))
  have HK4 := Lib.hid (HK3.out.trans HKA.out)
  clear hw4 HKA HN3 HK3
  have cB := HN4.out.cell
  go_wp2_with fail
  go_ret
  exact ⟨rfl, HK4.out⟩
end Go.Proofs.YthfdhggcnkgjfaaGreatDoor
