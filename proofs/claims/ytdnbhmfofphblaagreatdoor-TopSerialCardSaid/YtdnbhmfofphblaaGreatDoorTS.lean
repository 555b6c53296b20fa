/- packet's open of a packet of version 4. -/
import Derived.Test.YtdnbhmfofphblaaGreatDoorTP
namespace Go.Proofs.YtdnbhmfofphblaaGreatDoor
open Go.RowKit
set_option maxRecDepth 100000
set_option linter.unusedVariables false
set_option linter.unusedSimpArgs false
set_option maxRecDepth 100000 in
set_option maxHeartbeats 8000000 in
theorem open4 (BA : Option Addr) (q bc : Nat) (b : List UInt8) (H : Hd) (hH : phd b = H) (hq : b.length = q) (h0 : 0 < q) (h9 : q ≤ 60000) (hbc : q ≤ bc ∧ bc ≤ maxLen) (h4 : fld b 0 1 / 16 = 4) (hp : perr b = 0) (hm : H.more = false) (ho : H.off = 0) (w : World) (hB : BS w w.heap.size BA b) :
    Calls Tryz.prog 83 #[.slice BA q bc] w fun e w' => ∃ XA xc, e = .returned (.tuple #[.agg #[.bool false, .bool H.stay, .int .u8 H.ttl, .bool false, .int .u64 0, .int .u64 H.src, .bool false, .int .u64 0, .int .u64 H.dst, .int .u16 0, .int .u16 0, .int .u8 H.proto, .int .u16 0, .int .u16 0, .int .u32 0, .int .u32 0, .int .u8 0, .int .u16 0, .int .u16 0, .int .u16 0, .slice none 0 0, .slice none 0 0, .int .u16 0, .int .u16 0, .int .u16 0, .slice none 0 0, .int .u8 0, .int .u8 0, .int .u16 0, .int .u32 0, .slice none 0 0, .bool false, .slice XA (pld b).length xc], .int .i64 0]) ∧ Row w' w.heap.size 5 (.slice XA (pld b).length xc) (bcs (pld b)) ∧ Kept (fun _ => False) w w' := by
  have HBS := Lib.hid hB
  have HQ := Lib.hid hq
  have H4 := Lib.hid h4
  have HP := Lib.hid hp
  have HBC := Lib.hid hbc
  have HH := Lib.hid hH
  have HMO := Lib.hid hm
  have HOF := Lib.hid ho
  clear hB hq h4 hp hbc hH hm ho
  go_enter Tryz.func83, Tryz.ntmps83
  go_upto_region 1 with fail
  obtain ⟨w1, hw1⟩ : ∃ w1 : World, w1 = (w.alloc (.cells #[.bool false, .bool false, .int .u8 0, .bool false, .int .u64 0, .int .u64 0, .bool false, .int .u64 0, .int .u64 0, .int .u16 0, .int .u16 0, .int .u8 0, .int .u16 0, .int .u16 0, .int .u32 0, .int .u32 0, .int .u8 0, .int .u16 0, .int .u16 0, .int .u16 0, .slice none 0 0, .slice none 0 0, .int .u16 0, .int .u16 0, .int .u16 0, .slice none 0 0, .int .u8 0, .int .u8 0, .int .u16 0, .int .u32 0, .slice none 0 0, .bool false, .slice none 0 0] 210)) := ⟨_, rfl⟩
  have HRB1 := Lib.hid (show Blk w1 w.heap.size 210 #[.bool false, .bool false, .int .u8 0, .bool false, .int .u64 0, .int .u64 0, .bool false, .int .u64 0, .int .u64 0, .int .u16 0, .int .u16 0, .int .u8 0, .int .u16 0, .int .u16 0, .int .u32 0, .int .u32 0, .int .u8 0, .int .u16 0, .int .u16 0, .int .u16 0, .slice none 0 0, .slice none 0 0, .int .u16 0, .int .u16 0, .int .u16 0, .slice none 0 0, .int .u8 0, .int .u8 0, .int .u16 0, .int .u32 0, .slice none 0 0, .bool false, .slice none 0 0] by rw [hw1]; exact Blk.new _ _ _)
  have HK1 := Lib.hid (show Kept (fun _ => False) w w1 by rw [hw1]; exact (Kept.refl _ _).alloc _)
  rw [← hw1]
  clear hw1
  obtain ⟨rb, hrb⟩ : ∃ rb, w.heap.size = rb := ⟨_, rfl⟩
  rw [hrb] at HRB1
  (try rw [hrb])
  have HNE := Lib.hid (show rb = w.heap.size + 0 ∧ True from ⟨by omega, trivial⟩)
  clear hrb
  have cRB := HRB1.out.cell
  have lRB := HRB1.out.lt
  have fRB := HRB1.out.frozen
  clear cRB lRB fRB
  have HSX := Lib.hid (six4 BA q bc w.heap.size b HQ.out h0 H4.out w1 ((HBS.out.kept HK1.out (Nat.le_refl _) (fun _ _ h => h))))
  go_wp2_with fail
  refine HSX.out.mono ?_
  rintro e w' ⟨rfl, rfl⟩
  clear HSX
  go_upto_region 13 with fail
  obtain ⟨wx, hwx⟩ : ∃ wx : World, wx = w1.alloc (.cells #[.bool false, .bool false, .int .u8 0, .bool false, .int .u64 0, .int .u64 0, .bool false, .int .u64 0, .int .u64 0, .int .u16 0, .int .u16 0, .int .u8 0, .int .u16 0, .int .u16 0, .int .u32 0, .int .u32 0, .int .u8 0, .int .u16 0, .int .u16 0, .int .u16 0, .slice none 0 0, .slice none 0 0, .int .u16 0, .int .u16 0, .int .u16 0, .slice none 0 0, .int .u8 0, .int .u8 0, .int .u16 0, .int .u32 0, .slice none 0 0, .bool false, .slice none 0 0] 210) := ⟨_, rfl⟩
  have HXBx := Lib.hid (show Blk wx w1.heap.size 210 #[.bool false, .bool false, .int .u8 0, .bool false, .int .u64 0, .int .u64 0, .bool false, .int .u64 0, .int .u64 0, .int .u16 0, .int .u16 0, .int .u8 0, .int .u16 0, .int .u16 0, .int .u32 0, .int .u32 0, .int .u8 0, .int .u16 0, .int .u16 0, .int .u16 0, .slice none 0 0, .slice none 0 0, .int .u16 0, .int .u16 0, .int .u16 0, .slice none 0 0, .int .u8 0, .int .u8 0, .int .u16 0, .int .u32 0, .slice none 0 0, .bool false, .slice none 0 0] by rw [hwx]; exact Blk.new _ _ _)
  have HXx := Lib.hid (show Kept (fun _ => False) w1 wx by rw [hwx]; exact (Kept.refl _ _).alloc _)
  have HKx := Lib.hid (HK1.out.trans HXx.out)
  have HRBx := Lib.hid (HRB1.out.kept HXx.out (fun h => h))
  rw [← hwx]
  clear hwx
  obtain ⟨xb, hxb⟩ : ∃ xb, w1.heap.size = xb := ⟨_, rfl⟩
  rw [hxb] at HXBx ⊢
  have HXR := Lib.hid (show rb < xb by have := HRB1.out.lt; omega)
  have HXL := Lib.hid (show xb < wx.heap.size from HXBx.out.lt)
  clear hxb
  have hpa := parse_any BA bc b wx (by have := HQ.out; omega) ⟨by have := HQ.out; have := HBC.out.1; omega, HBC.out.2⟩ (HBS.out.on HKx.out (fun _ _ h => h))
  rw [HQ.out] at hpa
  have HPA := Lib.hid hpa
  clear hpa
  go_wp2_with fail
  refine HPA.out.mono ?_
  rintro e w2 ⟨hbw, h⟩
  rcases h with ⟨hne, _⟩ | ⟨_, v, x, rfl, hv, hx⟩
  · exact absurd HP.out hne
  obtain ⟨VA, vc, hve, -, -⟩ := hv.shape
  rw [bcs_length] at hve
  subst hve
  obtain ⟨XA, xc, hxe, -, -⟩ := hx.shape
  rw [bcs_length] at hxe
  subst hxe
  have HX2R := Lib.hid hx
  have hk2 := Kept.ofB (S := fun _ => False) hbw
  have HK2 := Lib.hid (HKx.out.trans hk2)
  have HRB2 := Lib.hid (HRBx.out.kept hk2 (fun h => h))
  have HXB2 := Lib.hid (HXBx.out.kept hk2 (fun h => h))
  clear hbw hv hx hk2 HPA
  rw [HH.out]
  unfold Hd.cells
  rw [HMO.out, HOF.out]
  go_upto_region 14 with (show wpList _ _ _ ((⟨none, .store 190 (.tmp 10) _, _, _, _, none⟩ : Oper) :: _) _ _; refine wpList_store_mid rfl 190 (.tmp 10) _ rfl w2.heap.size 0 #[.int .u8 H.tos, .int .i64 H.len, .int .u16 H.id, .bool H.stay, .bool false, .int .i64 0, .int .u8 H.ttl, .int .u8 H.proto, .int .u16 H.sum, .bool false, .int .u64 0, .int .u64 H.src, .bool false, .int .u64 0, .int .u64 H.dst, .slice VA H.opts.length vc] rfl rfl ((Blk.new w2 190 #[.int .u8 0, .int .i64 0, .int .u16 0, .bool false, .bool false, .int .i64 0, .int .u8 0, .int .u8 0, .int .u16 0, .bool false, .int .u64 0, .int .u64 0, .bool false, .int .u64 0, .int .u64 0, .slice none 0 0]).there rfl) (by kernel_rfl) (by simp [Value.oneCell']) ?_)
  generalize hwq : (World.setCells _ _ _ _) = w3
  have HX3 := Lib.hid (show Kept (fun _ => False) w2 w3 by rw [← hwq]; exact ((Kept.refl _ _).alloc _).then (Kept.setCells (S := fun i => i = w2.heap.size) rfl _ _ (Kept.refl _ _)) (fun i hi e => by omega))
  have HHB3 := Lib.hid (show Blk w3 w2.heap.size 190 #[.int .u8 H.tos, .int .i64 H.len, .int .u16 H.id, .bool H.stay, .bool false, .int .i64 0, .int .u8 H.ttl, .int .u8 H.proto, .int .u16 H.sum, .bool false, .int .u64 0, .int .u64 H.src, .bool false, .int .u64 0, .int .u64 H.dst, .slice VA H.opts.length vc] by rw [← hwq]; exact (Blk.new w2 190 #[.int .u8 0, .int .i64 0, .int .u16 0, .bool false, .bool false, .int .i64 0, .int .u8 0, .int .u8 0, .int .u16 0, .bool false, .int .u64 0, .int .u64 0, .bool false, .int .u64 0, .int .u64 0, .slice none 0 0]).setAll #[.int .u8 H.tos, .int .i64 H.len, .int .u16 H.id, .bool H.stay, .bool false, .int .i64 0, .int .u8 H.ttl, .int .u8 H.proto, .int .u16 H.sum, .bool false, .int .u64 0, .int .u64 H.src, .bool false, .int .u64 0, .int .u64 H.dst, .slice VA H.opts.length vc] rfl)
  have HK3 := Lib.hid (HK2.out.trans HX3.out)
  have HRB3 := Lib.hid (HRB2.out.kept HX3.out (fun h => h))
  have HXB3 := Lib.hid (HXB2.out.kept HX3.out (fun h => h))
  have HXW3 := Lib.hid (Row.kept HX2R.out HX3.out (fun _ _ h => h))
  have HXH := Lib.hid (show xb < w2.heap.size from HXB2.out.lt)
  clear hwq
  obtain ⟨hb, hhb⟩ : ∃ hb, w2.heap.size = hb := ⟨_, rfl⟩
  rw [hhb] at HHB3 HXH ⊢
  clear hhb
  go_wp2_with (show wpList _ _ _ ((⟨_, .load 190 (.tmp 10), _, _, _, none⟩ : Oper) :: _) _ _; refine wpList_load_mid rfl 190 (.tmp 10) rfl hb 0 rfl [.int .u8 H.tos, .int .i64 H.len, .int .u16 H.id, .bool H.stay, .bool false, .int .i64 0, .int .u8 H.ttl, .int .u8 H.proto, .int .u16 H.sum, .bool false, .int .u64 0, .int .u64 H.src, .bool false, .int .u64 0, .int .u64 H.dst, .slice VA H.opts.length vc] _ HHB3.out.range Tryz.underlying190 rfl (by kernel_rfl) ?_)
  refine (fragNo H VA vc w3).mono ?_
  rintro e w4 ⟨rfl, hk⟩
  have HK4 := Lib.hid (HK3.out.trans hk)
  have HRB4 := Lib.hid (HRB3.out.kept hk (fun h => h))
  have HXB4 := Lib.hid (HXB3.out.kept hk (fun h => h))
  have HHB4 := Lib.hid (HHB3.out.kept hk (fun h => h))
  have HXW4 := Lib.hid (Row.kept HXW3.out hk (fun _ _ h => h))
  clear hk
  have cX := HXB4.out.cell
  have lX := HXB4.out.lt
  have fX := HXB4.out.frozen
  go_upto_region 17 with fail
  generalize hwq : World.setCell _ _ _ = w5
  have HX5 := Lib.hid (show Kept (fun i => i = xb) w4 w5 by rw [← hwq]; exact Kept.setIn (S := fun i => i = xb) rfl (Kept.setIn (S := fun i => i = xb) rfl (Kept.refl _ _)))
  have HK5 := Lib.hid (HK4.out.then HX5.out (fun i hi e => by have := HXR.out; have := HNE.out; omega))
  have HRB5 := Lib.hid (HRB4.out.kept HX5.out (fun h => by have := HXR.out; omega))
  have HHB5 := Lib.hid (HHB4.out.kept HX5.out (fun h => by have := HXH.out; omega))
  have HXW5 := Lib.hid (Row.kept HXW4.out HX5.out (fun g hg e => by have := (HX2R.out.lt g hg).1; have := HXL.out; omega))
  have HXB5 := Lib.hid (show Blk w5 xb 210 #[.bool false, .bool false, .int .u8 0, .bool false, .int .u64 0, .int .u64 0, .bool false, .int .u64 0, .int .u64 0, .int .u16 0, .int .u16 0, .int .u8 0, .int .u16 0, .int .u16 0, .int .u32 0, .int .u32 0, .int .u8 0, .int .u16 0, .int .u16 0, .int .u16 0, .slice none 0 0, .slice none 0 0, .int .u16 0, .int .u16 0, .int .u16 0, .slice none 0 0, .int .u8 0, .int .u8 0, .int .u16 0, .int .u32 0, .slice none 0 0, .bool false, .slice XA (pld b).length xc] by rw [← hwq]; exact (HXB4.out.set_to (cs' := #[.bool false, .bool false, .int .u8 0, .bool false, .int .u64 0, .int .u64 0, .bool false, .int .u64 0, .int .u64 0, .int .u16 0, .int .u16 0, .int .u8 0, .int .u16 0, .int .u16 0, .int .u32 0, .int .u32 0, .int .u8 0, .int .u16 0, .int .u16 0, .int .u16 0, .slice none 0 0, .slice none 0 0, .int .u16 0, .int .u16 0, .int .u16 0, .slice none 0 0, .int .u8 0, .int .u8 0, .int .u16 0, .int .u32 0, .slice none 0 0, .bool false, .slice XA (pld b).length xc]) rfl).set_to rfl)
  clear hwq cX lX fX
  have cH := HHB5.out.cell
  have lH := HHB5.out.lt
  have fH := HHB5.out.frozen
  go_upto_region 18 with (show wpList _ _ _ ((⟨none, .store 54 (.tmp 68) _, _, _, _, none⟩ : Oper) :: _) _ _; refine wpList_store_mid rfl 54 (.tmp 68) _ rfl xb 0 #[.bool false, .bool H.stay, .int .u8 H.ttl, .bool false, .int .u64 0, .int .u64 0, .bool false, .int .u64 0, .int .u64 0, .int .u16 0, .int .u16 0, .int .u8 0, .int .u16 0, .int .u16 0, .int .u32 0, .int .u32 0, .int .u8 0, .int .u16 0, .int .u16 0, .int .u16 0, .slice none 0 0, .slice none 0 0, .int .u16 0, .int .u16 0, .int .u16 0, .slice none 0 0, .int .u8 0, .int .u8 0, .int .u16 0, .int .u32 0, .slice none 0 0] rfl rfl (HXB5.out.thereMid 0 31 (by simp)) (by kernel_rfl) (by simp [Value.oneCell']) ?_)
  generalize hwq : (World.setCells _ _ _ _) = w6
  have HX6 := Lib.hid (show Kept (fun i => i = xb) w5 w6 by rw [← hwq]; exact Kept.setCells (S := fun i => i = xb) rfl _ _ (Kept.refl _ _))
  have HK6 := Lib.hid (HK5.out.then HX6.out (fun i hi e => by have := HXR.out; have := HNE.out; omega))
  have HRB6 := Lib.hid (HRB5.out.kept HX6.out (fun h => by have := HXR.out; omega))
  have HHB6 := Lib.hid (HHB5.out.kept HX6.out (fun h => by have := HXH.out; omega))
  have HXW6 := Lib.hid (Row.kept HXW5.out HX6.out (fun g hg e => by have := (HX2R.out.lt g hg).1; have := HXL.out; omega))
  have HXB6 := Lib.hid (show Blk w6 xb 210 #[.bool false, .bool H.stay, .int .u8 H.ttl, .bool false, .int .u64 0, .int .u64 0, .bool false, .int .u64 0, .int .u64 0, .int .u16 0, .int .u16 0, .int .u8 0, .int .u16 0, .int .u16 0, .int .u32 0, .int .u32 0, .int .u8 0, .int .u16 0, .int .u16 0, .int .u16 0, .slice none 0 0, .slice none 0 0, .int .u16 0, .int .u16 0, .int .u16 0, .slice none 0 0, .int .u8 0, .int .u8 0, .int .u16 0, .int .u32 0, .slice none 0 0, .bool false, .slice XA (pld b).length xc] by rw [← hwq]; exact HXB5.out.setMid 0 _ _ (by simp) rfl)
  clear hwq cH lH fH
  have cH := HHB6.out.cell
  have lH := HHB6.out.lt
  have fH := HHB6.out.frozen
  go_upto_region 19 with (first | (show wpList _ _ _ ((⟨_, .load 26 (.tmp 69), _, _, _, none⟩ : Oper) :: _) _ _; refine wpList_load_mid rfl 26 (.tmp 69) rfl hb 9 rfl [.bool false, .int .u64 0, .int .u64 H.src] _ (HHB6.out.rangeMid 9 3 _ rfl) Tryz.underlying26 rfl (by kernel_rfl) ?_) | (show wpList _ _ _ ((⟨_, .load 26 (.tmp 71), _, _, _, none⟩ : Oper) :: _) _ _; refine wpList_load_mid rfl 26 (.tmp 71) rfl hb 12 rfl [.bool false, .int .u64 0, .int .u64 H.dst] _ (HHB6.out.rangeMid 12 3 _ rfl) Tryz.underlying26 rfl (by kernel_rfl) ?_) | (show wpList _ _ _ ((⟨none, .store 28 (.tmp 77) _, _, _, _, none⟩ : Oper) :: _) _ _; refine wpList_store_mid rfl 28 (.tmp 77) _ rfl xb 3 #[.bool false, .int .u64 0, .int .u64 H.src, .bool false, .int .u64 0, .int .u64 H.dst, .int .u16 0, .int .u16 0, .int .u8 H.proto] rfl rfl (HXB6.out.thereMid 3 9 (by simp)) (by kernel_rfl) (by simp [Value.oneCell']) ?_))
  generalize hwq : (World.setCells _ _ _ _) = w7
  have HX7 := Lib.hid (show Kept (fun i => i = xb) w6 w7 by rw [← hwq]; exact Kept.setCells (S := fun i => i = xb) rfl _ _ (Kept.refl _ _))
  have HK7 := Lib.hid (HK6.out.then HX7.out (fun i hi e => by have := HXR.out; have := HNE.out; omega))
  have HRB7 := Lib.hid (HRB6.out.kept HX7.out (fun h => by have := HXR.out; omega))
  have HHB7 := Lib.hid (HHB6.out.kept HX7.out (fun h => by have := HXH.out; omega))
  have HXW7 := Lib.hid (Row.kept HXW6.out HX7.out (fun g hg e => by have := (HX2R.out.lt g hg).1; have := HXL.out; omega))
  have HXB7 := Lib.hid (show Blk w7 xb 210 #[.bool false, .bool H.stay, .int .u8 H.ttl, .bool false, .int .u64 0, .int .u64 H.src, .bool false, .int .u64 0, .int .u64 H.dst, .int .u16 0, .int .u16 0, .int .u8 H.proto, .int .u16 0, .int .u16 0, .int .u32 0, .int .u32 0, .int .u8 0, .int .u16 0, .int .u16 0, .int .u16 0, .slice none 0 0, .slice none 0 0, .int .u16 0, .int .u16 0, .int .u16 0, .slice none 0 0, .int .u8 0, .int .u8 0, .int .u16 0, .int .u32 0, .slice none 0 0, .bool false, .slice XA (pld b).length xc] by rw [← hwq]; exact HXB6.out.setMid 3 _ _ (by simp) rfl)
  clear hwq cH lH fH
  go_wp2_with (first | (show wpList _ _ _ ((⟨_, .load 210 (.tmp 6), _, _, _, none⟩ : Oper) :: _) _ _; refine wpList_load_mid rfl 210 (.tmp 6) rfl xb 0 rfl [.bool false, .bool H.stay, .int .u8 H.ttl, .bool false, .int .u64 0, .int .u64 H.src, .bool false, .int .u64 0, .int .u64 H.dst, .int .u16 0, .int .u16 0, .int .u8 H.proto, .int .u16 0, .int .u16 0, .int .u32 0, .int .u32 0, .int .u8 0, .int .u16 0, .int .u16 0, .int .u16 0, .slice none 0 0, .slice none 0 0, .int .u16 0, .int .u16 0, .int .u16 0, .slice none 0 0, .int .u8 0, .int .u8 0, .int .u16 0, .int .u32 0, .slice none 0 0, .bool false, .slice XA (pld b).length xc] _ HXB7.out.range Tryz.underlying210 rfl (by kernel_rfl) ?_) | (show wpList _ _ _ ((⟨none, .store 210 (.tmp 2) _, _, _, _, none⟩ : Oper) :: _) _ _; refine wpList_store_mid rfl 210 (.tmp 2) _ rfl rb 0 #[.bool false, .bool H.stay, .int .u8 H.ttl, .bool false, .int .u64 0, .int .u64 H.src, .bool false, .int .u64 0, .int .u64 H.dst, .int .u16 0, .int .u16 0, .int .u8 H.proto, .int .u16 0, .int .u16 0, .int .u32 0, .int .u32 0, .int .u8 0, .int .u16 0, .int .u16 0, .int .u16 0, .slice none 0 0, .slice none 0 0, .int .u16 0, .int .u16 0, .int .u16 0, .slice none 0 0, .int .u8 0, .int .u8 0, .int .u16 0, .int .u32 0, .slice none 0 0, .bool false, .slice XA (pld b).length xc] rfl rfl (HRB7.out.there rfl) (by kernel_rfl) (by simp [Value.oneCell']) ?_))
  generalize hwq : (World.setCells _ _ _ _) = w8
  have HX8 := Lib.hid (show Kept (fun i => i = rb) w7 w8 by rw [← hwq]; exact Kept.setCells (S := fun i => i = rb) rfl _ _ (Kept.refl _ _))
  have HRB8 := Lib.hid (show Blk w8 rb 210 #[.bool false, .bool H.stay, .int .u8 H.ttl, .bool false, .int .u64 0, .int .u64 H.src, .bool false, .int .u64 0, .int .u64 H.dst, .int .u16 0, .int .u16 0, .int .u8 H.proto, .int .u16 0, .int .u16 0, .int .u32 0, .int .u32 0, .int .u8 0, .int .u16 0, .int .u16 0, .int .u16 0, .slice none 0 0, .slice none 0 0, .int .u16 0, .int .u16 0, .int .u16 0, .slice none 0 0, .int .u8 0, .int .u8 0, .int .u16 0, .int .u32 0, .slice none 0 0, .bool false, .slice XA (pld b).length xc] by rw [← hwq]; exact HRB7.out.setMid 0 _ _ (by simp) rfl)
  clear hwq
  refine bodyPost_ret (results_blk_tmp (P := Tryz.prog) (show Tryz.f83.results = _ from rfl) _ _ rb 210 #[.bool false, .bool H.stay, .int .u8 H.ttl, .bool false, .int .u64 0, .int .u64 H.src, .bool false, .int .u64 0, .int .u64 H.dst, .int .u16 0, .int .u16 0, .int .u8 H.proto, .int .u16 0, .int .u16 0, .int .u32 0, .int .u32 0, .int .u8 0, .int .u16 0, .int .u16 0, .int .u16 0, .slice none 0 0, .slice none 0 0, .int .u16 0, .int .u16 0, .int .u16 0, .slice none 0 0, .int .u8 0, .int .u8 0, .int .u16 0, .int .u32 0, .slice none 0 0, .bool false, .slice XA (pld b).length xc] _ rfl HRB8.out Tryz.underlying210 rfl (by kernel_rfl)) rfl ⟨XA, xc, rfl, ?_, HK7.out.then HX8.out (fun i hi e => by have := HNE.out; omega)⟩
  exact (Row.kept HXW7.out HX8.out (fun g hg e => by have := (HX2R.out.lt g hg).1; have := HXL.out; have := HXR.out; omega)).more HKx.out.size
end Go.Proofs.YtdnbhmfofphblaaGreatDoor
/- packet.WithTCP at the header that 'opened' uses. -/
namespace Go.Proofs.YtdnbhmfofphblaaGreatDoor
open Go.RowKit
set_option maxRecDepth 100000
set_option linter.unusedVariables false
set_option linter.unusedSimpArgs false
def b20 : List UInt8 := [69, 0, 0, 20, 0, 0, 0, 0, 9, 6, 177, 229, 0, 0, 0, 0, 0, 0, 0, 0]
theorem f20 : fld b20 0 1 / 16 = 4 := by rfl
theorem perr20 : perr b20 = 0 := by rfl
theorem phd20 : phd b20 = (⟨0, 20, 0, false, false, 0, 9, 6, 45541, 0, 0, []⟩ : Hd) := by rfl
theorem pld20 : pld b20 = [] := by rfl
set_option maxRecDepth 100000 in
set_option maxHeartbeats 8000000 in
theorem withTCP20 (BA : Option Addr) (bc : Nat) (hbc : 20 ≤ bc ∧ bc ≤ maxLen) (sp dp seq ack fl wi sm ur : Int) (OA : Option Addr) (n oc : Nat) (LA : Option Addr) (m lc : Nat) (os ls : List UInt8) (hn : os.length = n) (hm : ls.length = m) (n40 : n ≤ 40) (n4 : n % 4 = 0) (m9 : m ≤ 9000) (hw : (⟨sp, dp, seq, ack, fl, wi, sm, ur, os, ls⟩ : Sg).wf) (w : World) (hB : BS w w.heap.size BA b20) (hO : BS w w.heap.size OA os) (hL : BS w w.heap.size LA ls) :
    Calls Tryz.prog 24 #[.slice BA 20 bc, .agg #[.int .u16 sp, .int .u16 dp, .int .u32 seq, .int .u32 ack, .int .u8 fl, .int .u16 wi, .int .u16 sm, .int .u16 ur, .slice OA n oc, .slice LA m lc]] w fun e w' => ∃ v, e = .returned (.tuple #[v, .int .i64 0]) ∧ Byt w' v ((⟨0, 20, 0, false, false, 0, 9, 6, 45541, 0, 0, []⟩ : Hd).pkt (⟨sp, dp, seq, ack, fl, wi, sm, ur, os, ls⟩ : Sg).bytes) ∧ Kept (fun _ => False) w w' := by
  have hlb : (⟨sp, dp, seq, ack, fl, wi, sm, ur, os, ls⟩ : Sg).bytes.length = 20 + n + m := by rw [Sg.bytes_len, Sg.size, hn, hm]
  have HL6 := Lib.hid (show (⟨sp, dp, seq, ack, fl, wi, sm, ur, os, ls⟩ : Sg).bytes.length ≤ 60000 by omega)
  have HLB := Lib.hid (show (⟨sp, dp, seq, ack, fl, wi, sm, ur, os, ls⟩ : Sg).bytes.length ≤ maxLen by unfold maxLen; omega)
  have HLP := Lib.hid (show ((⟨0, 20, 0, false, false, 0, 9, 6, 45541, 0, 0, []⟩ : Hd).pkt (⟨sp, dp, seq, ack, fl, wi, sm, ur, os, ls⟩ : Sg).bytes).length ≤ maxLen by rw [Hd.pkt_len]; unfold maxLen Hd.size; simp only [List.length_nil]; omega)
  have HRT := Lib.hid (fun u => rightT sp dp seq ack fl wi sm ur OA n oc LA m lc n40 n4 m9 u)
  have HBY := Lib.hid (fun u h1 h2 => bytesT sp dp seq ack fl wi sm ur OA n oc LA m lc os ls hn hm n40 n4 m9 hw u h1 h2)
  have HBS := Lib.hid hB
  have HOS := Lib.hid hO
  have HLS := Lib.hid hL
  have HBC := Lib.hid hbc
  clear hB hO hL hlb hn hm hw hbc
  go_enter Tryz.func24, Tryz.ntmps24
  go_upto_region 1 with fail
  obtain ⟨w1, hw1⟩ : ∃ w1 : World, w1 = (w.alloc (.cells #[.int .u16 sp, .int .u16 dp, .int .u32 seq, .int .u32 ack, .int .u8 fl, .int .u16 wi, .int .u16 sm, .int .u16 ur, .slice OA n oc, .slice LA m lc] 48)) := ⟨_, rfl⟩
  have HSB1 := Lib.hid (show Blk w1 w.heap.size 48 #[.int .u16 sp, .int .u16 dp, .int .u32 seq, .int .u32 ack, .int .u8 fl, .int .u16 wi, .int .u16 sm, .int .u16 ur, .slice OA n oc, .slice LA m lc] by rw [hw1]; exact Blk.new _ _ _)
  have HK1 := Lib.hid (show Kept (fun _ => False) w w1 by rw [hw1]; exact (Kept.refl _ _).alloc _)
  rw [← hw1]
  clear hw1
  obtain ⟨sb, hsb⟩ : ∃ sb, w.heap.size = sb := ⟨_, rfl⟩
  rw [hsb] at HSB1
  (try rw [hsb])
  have HNE := Lib.hid (show sb = w.heap.size + 0 ∧ True from ⟨by omega, trivial⟩)
  clear hsb
  have cSB := HSB1.out.cell
  have lSB := HSB1.out.lt
  have fSB := HSB1.out.frozen
  go_wp2_with (show wpList _ _ _ ((⟨_, .load 48 (.tmp 3), _, _, _, none⟩ : Oper) :: _) _ _; refine wpList_load_mid rfl 48 (.tmp 3) rfl sb 0 rfl [.int .u16 sp, .int .u16 dp, .int .u32 seq, .int .u32 ack, .int .u8 fl, .int .u16 wi, .int .u16 sm, .int .u16 ur, .slice OA n oc, .slice LA m lc] _ HSB1.out.range Tryz.underlying48 rfl (by kernel_rfl) ?_)
  refine (HRT.out w1).mono ?_
  rintro e w2 ⟨rfl, hk⟩
  have HK2 := Lib.hid (HK1.out.trans hk)
  have HS2 := Lib.hid (show Kept (fun _ => False) w1 w2 from hk)
  have HSB2 := Lib.hid (HSB1.out.kept hk (fun h => h))
  clear cSB lSB fSB
  have cSB := HSB2.out.cell
  have lSB := HSB2.out.lt
  have fSB := HSB2.out.frozen
  clear hk HRT cSB lSB fSB
  have HSX := Lib.hid (six4 BA 20 bc w.heap.size b20 rfl (by omega) f20 w2 ((HBS.out.kept HK2.out (Nat.le_refl _) (fun _ _ h => h))))
  go_wp2_with fail
  refine HSX.out.mono ?_
  rintro e w' ⟨rfl, rfl⟩
  clear HSX
  have hpa := parse_any BA bc b20 w2 (by decide) HBC.out (HBS.out.on HK2.out (fun _ _ h => h))
  have HPA := Lib.hid (show Calls Tryz.prog 65 #[.slice BA 20 bc] w2 (ParseP b20 w2) from hpa)
  clear hpa
  go_wp2_with fail
  refine HPA.out.mono ?_
  rintro e w3 ⟨hbw, h⟩
  rcases h with ⟨hne, _⟩ | ⟨_, v, x, rfl, hv, hx⟩
  · exact absurd perr20 hne
  obtain ⟨VA, vc, hve, -, -⟩ := hv.shape
  rw [phd20] at hve
  have hve : v = .slice VA 0 vc := hve
  subst hve
  have hk := Kept.ofB (S := fun _ => False) hbw
  have HK3 := Lib.hid (HK2.out.trans hk)
  have HSB3 := Lib.hid (HSB2.out.kept hk (fun h => h))
  clear hbw hv hx hk HPA
  rw [phd20]
  unfold Hd.cells
  go_upto_region 12 with (show wpList _ _ _ ((⟨none, .store 190 (.tmp 11) _, _, _, _, none⟩ : Oper) :: _) _ _; refine wpList_store_mid rfl 190 (.tmp 11) _ rfl w3.heap.size 0 #[.int .u8 0, .int .i64 20, .int .u16 0, .bool false, .bool false, .int .i64 0, .int .u8 9, .int .u8 6, .int .u16 45541, .bool false, .int .u64 0, .int .u64 0, .bool false, .int .u64 0, .int .u64 0, .slice VA 0 vc] rfl rfl ((Blk.new w3 190 #[.int .u8 0, .int .i64 0, .int .u16 0, .bool false, .bool false, .int .i64 0, .int .u8 0, .int .u8 0, .int .u16 0, .bool false, .int .u64 0, .int .u64 0, .bool false, .int .u64 0, .int .u64 0, .slice none 0 0]).there rfl) (by kernel_rfl) (by simp [Value.oneCell']) ?_)
  generalize hwq : (World.setCells _ _ _ _) = w4
  have HX4 := Lib.hid (show Kept (fun _ => False) w3 w4 by rw [← hwq]; exact ((Kept.refl _ _).alloc _).then (Kept.setCells (S := fun i => i = w3.heap.size) rfl _ _ (Kept.refl _ _)) (fun i hi e => by omega))
  have HHB4 := Lib.hid (show Blk w4 w3.heap.size 190 #[.int .u8 0, .int .i64 20, .int .u16 0, .bool false, .bool false, .int .i64 0, .int .u8 9, .int .u8 6, .int .u16 45541, .bool false, .int .u64 0, .int .u64 0, .bool false, .int .u64 0, .int .u64 0, .slice VA 0 vc] by rw [← hwq]; exact (Blk.new w3 190 #[.int .u8 0, .int .i64 0, .int .u16 0, .bool false, .bool false, .int .i64 0, .int .u8 0, .int .u8 0, .int .u16 0, .bool false, .int .u64 0, .int .u64 0, .bool false, .int .u64 0, .int .u64 0, .slice none 0 0]).setAll #[.int .u8 0, .int .i64 20, .int .u16 0, .bool false, .bool false, .int .i64 0, .int .u8 9, .int .u8 6, .int .u16 45541, .bool false, .int .u64 0, .int .u64 0, .bool false, .int .u64 0, .int .u64 0, .slice VA 0 vc] rfl)
  have HK4 := Lib.hid (HK3.out.trans HX4.out)
  have HSB4 := Lib.hid (HSB3.out.kept HX4.out (fun h => h))
  clear hwq
  obtain ⟨hb, hhb⟩ : ∃ hb, w3.heap.size = hb := ⟨_, rfl⟩
  rw [hhb] at HHB4 ⊢
  clear hhb
  go_upto_region 14 with fail
  refine wp_region_kept 8 [(0, fun v u => v = .agg #[.int .u8 0, .int .i64 20, .int .u16 0, .bool false, .bool false, .int .i64 0, .int .u8 9, .int .u8 6, .int .u16 45541, .bool false, .int .u64 0, .int .u64 0, .bool false, .int .u64 0, .int .u64 0, .slice VA 0 vc]), (1, fun v u => v = .agg #[.int .u16 sp, .int .u16 dp, .int .u32 seq, .int .u32 ack, .int .u8 fl, .int .u16 wi, .int .u16 sm, .int .u16 ur, .slice OA n oc, .slice LA m lc]), (2, fun v u => Byt u v (⟨sp, dp, seq, ack, fl, wi, sm, ur, os, ls⟩ : Sg).bytes), (3, fun v u => ∃ v', v = .tuple #[v', .int .i64 0] ∧ Byt u v' ((⟨0, 20, 0, false, false, 0, 9, 6, 45541, 0, 0, []⟩ : Hd).pkt (⟨sp, dp, seq, ack, fl, wi, sm, ur, os, ls⟩ : Sg).bytes))] ?st ?ne rfl (by kernel_rfl) (by kernel_rfl) ?_
  case st =>
    intro p hp
    simp only [List.mem_cons, List.not_mem_nil, or_false] at hp
    rcases hp with rfl | rfl | rfl | rfl
    · intro v u u' h hk; exact h
    · intro v u u' h hk; exact h
    · intro v u u' h hk; exact h.on0 hk
    · rintro v u u' ⟨v', h1, h2⟩ hk; exact ⟨v', h1, h2.on0 hk⟩
  case ne =>
    intro p hp
    simp only [List.mem_cons, List.not_mem_nil, or_false] at hp
    rcases hp with rfl | rfl | rfl | rfl
    · exact ⟨_, _, Kept.refl _ _, rfl⟩
    · exact ⟨_, _, Kept.refl _ _, rfl⟩
    · exact Byt.some _ _ HLB.out
    · obtain ⟨v', u, h1, h2⟩ := Byt.some (S := fun _ => False) w4 ((⟨0, 20, 0, false, false, 0, 9, 6, 45541, 0, 0, []⟩ : Hd).pkt (⟨sp, dp, seq, ack, fl, wi, sm, ur, os, ls⟩ : Sg).bytes) HLP.out; exact ⟨_, u, h1, v', rfl, h2⟩
  simp only [List.take_succ_cons, List.take_zero, List.drop_succ_cons, List.drop_zero]
  intro G pick hR hp1 hp2
  repeat (first | (refine wpR_det hp2 rfl ((hR.rel _).trans rfl) rfl ?_; intro K hK; go_big_quiet_op; go_big_quiet_on) | (refine wpR_ptr hp2 rfl ((hR.rel _).trans rfl) rfl rfl ?_; intro K hK; go_big_quiet_op; go_big_quiet_on) | (refine wpR_skip pick rfl ?_; intro K hK; go_big_quiet_op; go_big_quiet_on))
  refine wpR_rel pick rfl ((hR.rel _).trans rfl) ((hR.turns _).trans rfl) ?_ ?_
  · intro u hu
    have hk := hR.since hu.1
    have hks := hk.size
    refine relAt_load_mid 190 (.tmp 11) rfl hb 0 rfl [.int .u8 0, .int .i64 20, .int .u16 0, .bool false, .bool false, .int .i64 0, .int .u8 9, .int .u8 6, .int .u16 45541, .bool false, .int .u64 0, .int .u64 0, .bool false, .int .u64 0, .int .u64 0, .slice VA 0 vc] _ ((HHB4.out.kept hk (fun h => h)).range) Tryz.underlying190 rfl (by kernel_rfl) ?_
    exact ⟨hR.into0 (Kept.refl _ _), hR.put 0 rfl rfl rfl⟩
  intro v hv
  obtain ⟨u, _, hu⟩ := hv
  obtain rfl := hR.get 0 rfl hu
  clear hu
  intro K hK
  go_big_quiet_op
  go_big_quiet_on
  repeat (first | (refine wpR_det hp2 rfl ((hR.rel _).trans rfl) rfl ?_; intro K hK; go_big_quiet_op; go_big_quiet_on) | (refine wpR_ptr hp2 rfl ((hR.rel _).trans rfl) rfl rfl ?_; intro K hK; go_big_quiet_op; go_big_quiet_on) | (refine wpR_skip pick rfl ?_; intro K hK; go_big_quiet_op; go_big_quiet_on))
  refine wpR_rel pick rfl ((hR.rel _).trans rfl) ((hR.turns _).trans rfl) ?_ ?_
  · intro u hu
    have hk := hR.since hu.1
    have hks := hk.size
    refine relAt_load_mid 48 (.tmp 3) rfl sb 0 rfl [.int .u16 sp, .int .u16 dp, .int .u32 seq, .int .u32 ack, .int .u8 fl, .int .u16 wi, .int .u16 sm, .int .u16 ur, .slice OA n oc, .slice LA m lc] _ ((HSB4.out.kept hk (fun h => h)).range) Tryz.underlying48 rfl (by kernel_rfl) ?_
    exact ⟨hR.into0 (Kept.refl _ _), hR.put 1 rfl rfl rfl⟩
  intro v hv
  obtain ⟨u, _, hu⟩ := hv
  obtain rfl := hR.get 1 rfl hu
  clear hu
  intro K hK
  go_big_quiet_op
  go_big_quiet_on
  repeat (first | (refine wpR_det hp2 rfl ((hR.rel _).trans rfl) rfl ?_; intro K hK; go_big_quiet_op; go_big_quiet_on) | (refine wpR_ptr hp2 rfl ((hR.rel _).trans rfl) rfl rfl ?_; intro K hK; go_big_quiet_op; go_big_quiet_on) | (refine wpR_skip pick rfl ?_; intro K hK; go_big_quiet_op; go_big_quiet_on))
  refine wpR_rel pick rfl ((hR.rel _).trans rfl) ((hR.turns _).trans rfl) ?_ ?_
  · intro u hu
    have hk := hR.since hu.1
    have hks := hk.size
    unfold relAt
    go_simp
    refine (HBY.out u (HOS.out.on (HK4.out.trans hk) (fun _ _ h => h)) (HLS.out.on (HK4.out.trans hk) (fun _ _ h => h))).mono ?_
    rintro e' w' ⟨v', rfl, hr, hk'⟩
    exact ⟨_, rfl, hR.into0 hk', hR.put 2 rfl rfl hr.byt⟩
  intro v hv
  obtain ⟨u, _, hu⟩ := hv
  obtain ⟨XA, xc, rfl, -⟩ := hR.get 2 rfl hu
  clear hu
  intro K hK
  go_big_quiet_op
  go_big_quiet_on
  repeat (first | (refine wpR_det hp2 rfl ((hR.rel _).trans rfl) rfl ?_; intro K hK; go_big_quiet_op; go_big_quiet_on) | (refine wpR_ptr hp2 rfl ((hR.rel _).trans rfl) rfl rfl ?_; intro K hK; go_big_quiet_op; go_big_quiet_on) | (refine wpR_skip pick rfl ?_; intro K hK; go_big_quiet_op; go_big_quiet_on))
  refine wpR_rel pick rfl ((hR.rel _).trans rfl) ((hR.turns _).trans rfl) ?_ ?_
  · intro u hu
    have hk := hR.since hu.1
    have hks := hk.size
    unfold relAt
    go_simp
    have h2 := (hR.get 2 rfl (hu.2 _ _ (Got.upd_self _ _ _) (by kernel_rfl)))
    obtain ⟨A', c', e', h3, h4, h5⟩ := h2
    injection e' with ea en ec
    subst ea ec
    refine (packet_yes 0 20 0 false false 0 9 6 45541 0 0 VA 0 vc [] rfl (by omega) (by omega) (by omega) (by omega) (by omega) (by omega) (by omega) (by omega) (by omega) (by omega) (by omega) (by omega) (by omega) (by omega) (by omega) (⟨sp, dp, seq, ack, fl, wi, sm, ur, os, ls⟩ : Sg).bytes XA _ xc rfl HL6.out (by omega) u .nil h5).mono ?_
    rintro e' w' ⟨v', rfl, hr, hb'⟩
    exact ⟨_, rfl, hR.into0 (Kept.ofB hb'), hR.put 3 rfl rfl ⟨_, rfl, hr.byt⟩⟩
  intro v hv
  obtain ⟨u, _, hu⟩ := hv
  obtain ⟨pv, rfl, -⟩ := hR.get 3 rfl hu
  clear hu
  intro K hK
  go_big_quiet_op
  go_big_quiet_on
  repeat (first | (refine wpR_det hp2 rfl ((hR.rel _).trans rfl) rfl ?_; intro K hK; go_big_quiet_op; go_big_quiet_on) | (refine wpR_ptr hp2 rfl ((hR.rel _).trans rfl) rfl rfl ?_; intro K hK; go_big_quiet_op; go_big_quiet_on) | (refine wpR_skip pick rfl ?_; intro K hK; go_big_quiet_op; go_big_quiet_on))
  refine wpR_nil ?_
  intro w5 hk2 hF hM
  obtain ⟨pv', e', hP⟩ := (hR.get 3 rfl (hF _ _ (Got.upd_self _ _ _)))
  obtain rfl : pv = pv' := by injection e' with e'; injection e' with e'; injection e' with e' _
  have HP5 := Lib.hid hP
  have HK5 := Lib.hid (HK4.out.trans hk2)
  clear hF hM hp1 hp2 hR hk2 hP e'
  go_wp2_with fail
  go_ret2
  exact ⟨_, rfl, HP5.out, HK5.out⟩
end Go.Proofs.YtdnbhmfofphblaaGreatDoor
