/- A store into the midst of a block; packet's takeTCP. -/
import Derived.Test.YtdnbhmfofphblaaGreatDoorTL
namespace Go.Proofs.YtdnbhmfofphblaaGreatDoor
open Go.RowKit
set_option maxRecDepth 100000
set_option linter.unusedVariables false
set_option linter.unusedSimpArgs false
theorem Blk.thereMid {w : World} {g t : Nat} {cs : Array Value} (h : Blk w g t cs) (o n : Nat) (hn : o + n ≤ cs.size) : w.there g o n := fun j hj => by
  exact ⟨by rw [h.cell]; simp; omega, h.frozen _⟩
theorem Blk.setMid {w : World} {g t : Nat} {cs : Array Value} (h : Blk w g t cs) (o : Nat) (vs : List Value) (cs' : Array Value) (hl : o + vs.length ≤ cs.size) (e : cs' = (cs.toList.take o ++ (vs ++ cs.toList.drop (o + vs.length))).toArray) : Blk (w.setCells g o vs) g t cs' := by
  obtain ⟨c, h1, h2, h3, h4, h5⟩ := Blk.setAll_aux (g := g) vs o h hl
  have : c = cs' := by
    rw [e]
    refine Array.ext_getElem? fun i => ?_
    rw [show ((cs.toList.take o ++ (vs ++ cs.toList.drop (o + vs.length))).toArray)[i]? = (cs.toList.take o ++ (vs ++ cs.toList.drop (o + vs.length)))[i]? from List.getElem?_toArray, List.getElem?_append, List.length_take, Array.length_toList, Nat.min_eq_left (by omega)]
    split
    · rw [h3 i (by omega), List.getElem?_take, if_pos (by omega), Array.getElem?_toList]
    · rw [List.getElem?_append]
      split
      · have := h4 (i - o) (by omega)
        rw [show o + (i - o) = i by omega] at this
        exact this
      · rw [h5 i (by omega), List.getElem?_drop, Array.getElem?_toList]
        congr 1
        omega
  rw [← this]
  exact h1
theorem Blk.rangeMid {w : World} {g t : Nat} {cs : Array Value} (h : Blk w g t cs) (o n : Nat) (l : List Value) (e : (cs.extract o (o + n)).toList = l) : w.rangeAt g o l := by
  have := World.rangeAt_of_block h o n
  rwa [e] at this
set_option maxRecDepth 100000 in
set_option maxHeartbeats 8000000 in
theorem takeT (st : Bool) (ttl x y : Int) (x0 : 0 ≤ x) (x1 : x ≤ 4294967295) (y0 : 0 ≤ y) (y1 : y ≤ 4294967295) (sp dp seq ack fl wi sm ur : Int) (os ls : List UInt8) (n m : Nat) (hn : os.length = n) (hm : ls.length = m) (n40 : n ≤ 40) (n4 : n % 4 = 0) (np : 0 < n) (m9 : m ≤ 9000) (hw : (⟨sp, dp, seq, ack, fl, wi, sm, ur, os, ls⟩ : Sg).wf) (BA : Option Addr) (q bc hb : Nat) (hq : 20 + n + m = q) (hbc : q ≤ bc ∧ bc ≤ maxLen) (hz : 65535 - norm (total true (pseudo x y 6 (q : Int) ++ (⟨sp, dp, seq, ack, fl, wi, sm, ur, os, ls⟩ : Sg).bytes)) = 0) (w : World) (hB : BS w w.heap.size BA (⟨sp, dp, seq, ack, fl, wi, sm, ur, os, ls⟩ : Sg).bytes) (hH : Blk w hb 210 #[.bool false, .bool st, .int .u8 ttl, .bool false, .int .u64 0, .int .u64 x, .bool false, .int .u64 0, .int .u64 y, .int .u16 0, .int .u16 0, .int .u8 6, .int .u16 0, .int .u16 0, .int .u32 0, .int .u32 0, .int .u8 0, .int .u16 0, .int .u16 0, .int .u16 0, .slice none 0 0, .slice none 0 0, .int .u16 0, .int .u16 0, .int .u16 0, .slice none 0 0, .int .u8 0, .int .u8 0, .int .u16 0, .int .u32 0, .slice none 0 0, .bool false, .slice BA q bc]) :
    Calls Tryz.prog 84 #[.pointer (some ⟨hb, 0, none⟩), .slice BA q bc] w fun e w' => ∃ VA vc UA uc, e = .returned (.int .i64 0) ∧ Blk w' hb 210 #[.bool false, .bool st, .int .u8 ttl, .bool false, .int .u64 0, .int .u64 x, .bool false, .int .u64 0, .int .u64 y, .int .u16 sp, .int .u16 dp, .int .u8 6, .int .u16 sp, .int .u16 dp, .int .u32 seq, .int .u32 ack, .int .u8 fl, .int .u16 wi, .int .u16 sm, .int .u16 ur, .slice VA n vc, .slice UA m uc, .int .u16 0, .int .u16 0, .int .u16 0, .slice none 0 0, .int .u8 0, .int .u8 0, .int .u16 0, .int .u32 0, .slice none 0 0, .bool false, .slice BA q bc] ∧ Row w' w.heap.size 5 (.slice VA n vc) (bcs os) ∧ Row w' w.heap.size 5 (.slice UA m uc) (bcs ls) ∧ Kept (fun i => i = hb) w w' := by
  have HBS := Lib.hid hB
  have HHB := Lib.hid hH
  have HQ := Lib.hid (show (⟨sp, dp, seq, ack, fl, wi, sm, ur, os, ls⟩ : Sg).bytes.length = q by rw [Sg.bytes_len, Sg.size, ← hq, hn, hm])
  have HZ := Lib.hid hz
  have HPA := Lib.hid (parseT sp dp seq ack fl wi sm ur os ls n m hn hm n40 n4 np m9 hw BA q bc hq hbc w hB)
  clear hB hH hz hn hm hw hbc
  go_enter Tryz.func84, Tryz.ntmps84
  go_wp2_with fail
  refine HPA.out.mono ?_
  rintro e w2 ⟨VA, vc, UA, uc, rfl, hv, hu, hk⟩
  have HV2 := Lib.hid hv
  have HU2 := Lib.hid hu
  have HK2 := Lib.hid hk
  have HHB2 := Lib.hid (HHB.out.kept hk (fun h => h))
  clear hv hu hk HPA
  go_upto_region 2 with (show wpList _ _ _ ((⟨none, .store 48 (.tmp 5) _, _, _, _, none⟩ : Oper) :: _) _ _; refine wpList_store_mid rfl 48 (.tmp 5) _ rfl w2.heap.size 0 #[.int .u16 sp, .int .u16 dp, .int .u32 seq, .int .u32 ack, .int .u8 fl, .int .u16 wi, .int .u16 sm, .int .u16 ur, .slice VA n vc, .slice UA m uc] rfl rfl ((Blk.new w2 48 #[.int .u16 0, .int .u16 0, .int .u32 0, .int .u32 0, .int .u8 0, .int .u16 0, .int .u16 0, .int .u16 0, .slice none 0 0, .slice none 0 0]).there rfl) (by kernel_rfl) (by simp [Value.oneCell']) ?_)
  generalize hwq : (World.setCells _ _ _ _) = w3
  have HX3 := Lib.hid (show Kept (fun _ => False) w2 w3 by rw [← hwq]; exact ((Kept.refl _ _).alloc _).then (Kept.setCells (S := fun i => i = w2.heap.size) rfl _ _ (Kept.refl _ _)) (fun i hi e => by omega))
  have HSB3 := Lib.hid (show Blk w3 w2.heap.size 48 #[.int .u16 sp, .int .u16 dp, .int .u32 seq, .int .u32 ack, .int .u8 fl, .int .u16 wi, .int .u16 sm, .int .u16 ur, .slice VA n vc, .slice UA m uc] by rw [← hwq]; exact (Blk.new w2 48 #[.int .u16 0, .int .u16 0, .int .u32 0, .int .u32 0, .int .u8 0, .int .u16 0, .int .u16 0, .int .u16 0, .slice none 0 0, .slice none 0 0]).setAll #[.int .u16 sp, .int .u16 dp, .int .u32 seq, .int .u32 ack, .int .u8 fl, .int .u16 wi, .int .u16 sm, .int .u16 ur, .slice VA n vc, .slice UA m uc] rfl)
  have HK3 := Lib.hid (HK2.out.trans HX3.out)
  have HHB3 := Lib.hid (HHB2.out.kept HX3.out (fun h => h))
  have HV3 := Lib.hid (Row.kept HV2.out HX3.out (fun _ _ h => h))
  have HU3 := Lib.hid (Row.kept HU2.out HX3.out (fun _ _ h => h))
  clear hwq
  have HNE := Lib.hid (show hb ≠ w2.heap.size by have := HHB2.out.lt; omega)
  obtain ⟨sb, hsb⟩ : ∃ sb, w2.heap.size = sb := ⟨_, rfl⟩
  rw [hsb] at HSB3 HNE ⊢
  clear hsb
  go_upto_region 4 with fail
  refine wp_region_kept 13 [(5, fun a u => a = .agg #[.bool false, .int .u64 0, .int .u64 x]), (10, fun a u => a = .agg #[.bool false, .int .u64 0, .int .u64 y]), (11, fun a u => a = .bool true)] ?st ?ne rfl (by kernel_rfl) (by kernel_rfl) ?_
  case st =>
    intro p hp
    simp only [List.mem_cons, List.not_mem_nil, or_false] at hp
    rcases hp with rfl | rfl | rfl
    · intro v u u' h hk; exact h
    · intro v u u' h hk; exact h
    · intro v u u' h hk; exact h
  case ne =>
    intro p hp
    simp only [List.mem_cons, List.not_mem_nil, or_false] at hp
    rcases hp with rfl | rfl | rfl
    · exact ⟨_, _, Kept.refl _ _, rfl⟩
    · exact ⟨_, _, Kept.refl _ _, rfl⟩
    · exact ⟨_, _, Kept.refl _ _, rfl⟩
  simp only [List.take_succ_cons, List.take_zero, List.drop_succ_cons, List.drop_zero]
  intro G pick hR hp1 hp2
  repeat (first | (refine wpR_det hp2 rfl ((hR.rel _).trans rfl) rfl ?_; intro K hK; go_big_quiet_op; go_big_quiet_on) | (refine wpR_ptr hp2 rfl ((hR.rel _).trans rfl) rfl rfl ?_; intro K hK; go_big_quiet_op; go_big_quiet_on) | (refine wpR_skip pick rfl ?_; intro K hK; go_big_quiet_op; go_big_quiet_on))
  refine wpR_rel pick rfl ((hR.rel _).trans rfl) ((hR.turns _).trans rfl) ?_ ?_
  · intro u hu
    have hk := hR.since hu.1
    have hks := hk.size
    refine relAt_load_mid 26 (.tmp 20) rfl hb 3 rfl [.bool false, .int .u64 0, .int .u64 x] _ ((HHB3.out.kept hk (fun h => h)).rangeMid 3 3 _ rfl) Tryz.underlying26 rfl (by kernel_rfl) ?_
    exact ⟨hR.into0 (Kept.refl _ _), hR.put 0 rfl rfl rfl⟩
  intro v hv
  obtain ⟨u, _, hu⟩ := hv
  obtain rfl := hR.get 0 rfl hu
  clear hu
  intro K hK
  go_big_quiet_op
  go_big_quiet_on
  repeat (first | (refine wpR_det hp2 rfl ((hR.rel _).trans rfl) rfl ?_; intro K hK; go_big_quiet_op; go_big_quiet_on) | (refine wpR_ptr hp2 rfl ((hR.rel _).trans rfl) rfl rfl ?_; intro K hK; go_big_quiet_op; go_big_quiet_on) | (refine wpR_skip pick rfl ?_; intro K hK; go_big_quiet_op; go_big_quiet_on))
  refine wpR_rel pick rfl ((hR.rel _).trans rfl) ((hR.turns _).trans rfl) ?_ ?_
  · intro u hu
    have hk := hR.since hu.1
    have hks := hk.size
    refine relAt_load_mid 26 (.tmp 25) rfl hb 6 rfl [.bool false, .int .u64 0, .int .u64 y] _ ((HHB3.out.kept hk (fun h => h)).rangeMid 6 3 _ rfl) Tryz.underlying26 rfl (by kernel_rfl) ?_
    exact ⟨hR.into0 (Kept.refl _ _), hR.put 1 rfl rfl rfl⟩
  intro v hv
  obtain ⟨u, _, hu⟩ := hv
  obtain rfl := hR.get 1 rfl hu
  clear hu
  intro K hK
  go_big_quiet_op
  go_big_quiet_on
  repeat (first | (refine wpR_det hp2 rfl ((hR.rel _).trans rfl) rfl ?_; intro K hK; go_big_quiet_op; go_big_quiet_on) | (refine wpR_ptr hp2 rfl ((hR.rel _).trans rfl) rfl rfl ?_; intro K hK; go_big_quiet_op; go_big_quiet_on) | (refine wpR_skip pick rfl ?_; intro K hK; go_big_quiet_op; go_big_quiet_on))
  refine wpR_rel pick rfl ((hR.rel _).trans rfl) ((hR.turns _).trans rfl) ?_ ?_
  · intro u hu
    have hk := hR.since hu.1
    have hks := hk.size
    unfold relAt
    go_simp
    refine (fineT BA q bc _ HQ.out (by omega) x y x0 x1 y0 y1 HZ.out u (HBS.out.on (HK3.out.trans hk) (fun _ _ h => h))).mono ?_
    rintro e' w' ⟨rfl, hk'⟩
    exact ⟨_, rfl, hR.into0 hk', hR.put 2 rfl rfl rfl⟩
  intro v hv
  obtain ⟨u, _, hu⟩ := hv
  obtain rfl := hR.get 2 rfl hu
  clear hu
  intro K hK
  go_big_quiet_op
  go_big_quiet_on
  repeat (first | (refine wpR_det hp2 rfl ((hR.rel _).trans rfl) rfl ?_; intro K hK; go_big_quiet_op; go_big_quiet_on) | (refine wpR_ptr hp2 rfl ((hR.rel _).trans rfl) rfl rfl ?_; intro K hK; go_big_quiet_op; go_big_quiet_on) | (refine wpR_skip pick rfl ?_; intro K hK; go_big_quiet_op; go_big_quiet_on))
  refine wpR_nil ?_
  intro w4 hk2 hF hM
  have HSB4 := Lib.hid (HSB3.out.kept hk2 (fun h => h))
  have HHB4 := Lib.hid (HHB3.out.kept hk2 (fun h => h))
  have HK4 := Lib.hid (HK3.out.trans hk2)
  have HV4 := Lib.hid (Row.kept HV3.out hk2 (fun _ _ h => h))
  have HU4 := Lib.hid (Row.kept HU3.out hk2 (fun _ _ h => h))
  clear hF hM hp1 hp2 hR hk2
  have HHW := Lib.hid (show hb < w.heap.size from HHB.out.lt)
  go_upto_region 6 with fail
  go_upto_region 7 with (first | (show wpList _ _ _ ((⟨_, .load 48 (.tmp 5), _, _, _, none⟩ : Oper) :: _) _ _; refine wpList_load_mid rfl 48 (.tmp 5) rfl sb 0 rfl [.int .u16 sp, .int .u16 dp, .int .u32 seq, .int .u32 ack, .int .u8 fl, .int .u16 wi, .int .u16 sm, .int .u16 ur, .slice VA n vc, .slice UA m uc] _ HSB4.out.range Tryz.underlying48 rfl (by kernel_rfl) ?_) | (show wpList _ _ _ ((⟨none, .store 48 (.tmp 32) _, _, _, _, none⟩ : Oper) :: _) _ _; refine wpList_store_mid rfl 48 (.tmp 32) _ rfl hb 12 #[.int .u16 sp, .int .u16 dp, .int .u32 seq, .int .u32 ack, .int .u8 fl, .int .u16 wi, .int .u16 sm, .int .u16 ur, .slice VA n vc, .slice UA m uc] rfl rfl (HHB4.out.thereMid 12 10 (by simp)) (by kernel_rfl) (by simp [Value.oneCell']) ?_))
  generalize hwq : (World.setCells _ _ _ _) = w5
  have HX5 := Lib.hid (show Kept (fun i => i = hb) w4 w5 by rw [← hwq]; exact Kept.setCells (S := fun i => i = hb) rfl _ _ (Kept.refl _ _))
  have HHB5 := Lib.hid (show Blk w5 hb 210 #[.bool false, .bool st, .int .u8 ttl, .bool false, .int .u64 0, .int .u64 x, .bool false, .int .u64 0, .int .u64 y, .int .u16 0, .int .u16 0, .int .u8 6, .int .u16 sp, .int .u16 dp, .int .u32 seq, .int .u32 ack, .int .u8 fl, .int .u16 wi, .int .u16 sm, .int .u16 ur, .slice VA n vc, .slice UA m uc, .int .u16 0, .int .u16 0, .int .u16 0, .slice none 0 0, .int .u8 0, .int .u8 0, .int .u16 0, .int .u32 0, .slice none 0 0, .bool false, .slice BA q bc] by rw [← hwq]; exact HHB4.out.setMid 12 _ _ (by simp) rfl)
  have HSB5 := Lib.hid (HSB4.out.kept HX5.out (fun h => HNE.out h.symm))
  clear hwq
  go_frame
  refine wp_region_add 14 (fun i => i = hb) [9, 13] [] [(9, fun a u => Blk u hb 210 #[.bool false, .bool st, .int .u8 ttl, .bool false, .int .u64 0, .int .u64 x, .bool false, .int .u64 0, .int .u64 y, .int .u16 sp, .int .u16 0, .int .u8 6, .int .u16 sp, .int .u16 dp, .int .u32 seq, .int .u32 ack, .int .u8 fl, .int .u16 wi, .int .u16 sm, .int .u16 ur, .slice VA n vc, .slice UA m uc, .int .u16 0, .int .u16 0, .int .u16 0, .slice none 0 0, .int .u8 0, .int .u8 0, .int .u16 0, .int .u32 0, .slice none 0 0, .bool false, .slice BA q bc]), (13, fun a u => Blk u hb 210 #[.bool false, .bool st, .int .u8 ttl, .bool false, .int .u64 0, .int .u64 x, .bool false, .int .u64 0, .int .u64 y, .int .u16 sp, .int .u16 dp, .int .u8 6, .int .u16 sp, .int .u16 dp, .int .u32 seq, .int .u32 ack, .int .u8 fl, .int .u16 wi, .int .u16 sm, .int .u16 ur, .slice VA n vc, .slice UA m uc, .int .u16 0, .int .u16 0, .int .u16 0, .slice none 0 0, .int .u8 0, .int .u8 0, .int .u16 0, .int .u32 0, .slice none 0 0, .bool false, .slice BA q bc])] ?st ?ne rfl (by kernel_rfl) (by kernel_rfl) (by kernel_rfl) ?_
  case st =>
    intro p hp
    simp only [List.mem_cons, List.not_mem_nil, or_false] at hp
    rcases hp with rfl | rfl
    · intro a u u' h hk; exact h.kept hk (fun h => h)
    · intro a u u' h hk; exact h.kept hk (fun h => h)
  case ne =>
    intro p hp
    simp only [List.mem_cons, List.not_mem_nil, or_false] at hp
    rcases hp with rfl | rfl
    · exact ⟨undef, w5.setCell ⟨hb, 9, none⟩ (.int .u16 sp), Kept.setIn (S := fun i => i = hb) (b := hb) rfl (Kept.refl _ _), HHB5.out.set_to rfl⟩
    · exact ⟨undef, (w5.setCell ⟨hb, 9, none⟩ (.int .u16 sp)).setCell ⟨hb, 10, none⟩ (.int .u16 dp), Kept.setIn (S := fun i => i = hb) (b := hb) rfl (Kept.setIn (S := fun i => i = hb) (b := hb) rfl (Kept.refl _ _)), (HHB5.out.set_to (cs' := #[.bool false, .bool st, .int .u8 ttl, .bool false, .int .u64 0, .int .u64 x, .bool false, .int .u64 0, .int .u64 y, .int .u16 sp, .int .u16 0, .int .u8 6, .int .u16 sp, .int .u16 dp, .int .u32 seq, .int .u32 ack, .int .u8 fl, .int .u16 wi, .int .u16 sm, .int .u16 ur, .slice VA n vc, .slice UA m uc, .int .u16 0, .int .u16 0, .int .u16 0, .slice none 0 0, .int .u8 0, .int .u8 0, .int .u16 0, .int .u32 0, .slice none 0 0, .bool false, .slice BA q bc]) rfl).set_to rfl⟩
  simp only [List.take_succ_cons, List.take_zero, List.drop_succ_cons, List.drop_zero]
  intro G pick hR hp1 hp2
  have sS : ∀ u i, (pick u).cell? ⟨sb, i, none⟩ = (#[.int .u16 sp, .int .u16 dp, .int .u32 seq, .int .u32 ack, .int .u8 fl, .int .u16 wi, .int .u16 sm, .int .u16 ur, .slice VA n vc, .slice UA m uc] : Array Value)[i]? := fun u i => ((hp1 u).cell HSB5.out.lt (fun h => HNE.out h.symm) _).trans (HSB5.out.cell i)
  repeat (first | (refine wpR_det hp2 rfl ((hR.rel _).trans rfl) rfl ?_; intro K hK; go_big_quiet_op; go_big_quiet_on) | (refine wpR_ptr hp2 rfl ((hR.rel _).trans rfl) rfl rfl ?_; intro K hK; go_big_quiet_op; go_big_quiet_on) | (refine wpR_skip pick rfl ?_; intro K hK; go_big_quiet_op; go_big_quiet_on))
  refine wpR_turn pick rfl ((hR.rel _).trans rfl) ((hR.turns _).trans rfl) ((hR.adds _).trans rfl) ?_ ?_
  · intro u hu hM
    have hk := hR.since hu.1
    have hks := hk.size
    have hK0 := hR.first hM
    have h5 := HHB5.out.kept hK0 (fun h => h)
    have cc := h5.cell
    have ff := h5.frozen
    have ll := h5.lt
    unfold relAt
    go_simp
    exact ⟨hR.into (Kept.setIn (S := fun i => i = hb) (b := hb) rfl (Kept.refl _ _)), hR.put 0 rfl rfl (h5.set_to rfl)⟩
  intro v hv
  obtain ⟨u, _, hu⟩ := hv
  obtain hT := hR.get 0 rfl hu
  clear hu
  intro K hK
  go_big_quiet_op
  go_big_quiet_on
  repeat (first | (refine wpR_det hp2 rfl ((hR.rel _).trans rfl) rfl ?_; intro K hK; go_big_quiet_op; go_big_quiet_on) | (refine wpR_ptr hp2 rfl ((hR.rel _).trans rfl) rfl rfl ?_; intro K hK; go_big_quiet_op; go_big_quiet_on) | (refine wpR_skip pick rfl ?_; intro K hK; go_big_quiet_op; go_big_quiet_on))
  refine wpR_turn pick rfl ((hR.rel _).trans rfl) ((hR.turns _).trans rfl) ((hR.adds _).trans rfl) ?_ ?_
  · intro u hu hM
    have hk := hR.since hu.1
    have hks := hk.size
    have h5 := hR.get 0 rfl hM
    have cc := h5.cell
    have ff := h5.frozen
    have ll := h5.lt
    unfold relAt
    go_simp
    exact ⟨hR.into (Kept.setIn (S := fun i => i = hb) (b := hb) rfl (Kept.refl _ _)), hR.put 1 rfl rfl (h5.set_to rfl)⟩
  intro v hv
  obtain ⟨u, _, hu⟩ := hv
  obtain hT := hR.get 1 rfl hu
  clear hu
  intro K hK
  go_big_quiet_op
  go_big_quiet_on
  repeat (first | (refine wpR_det hp2 rfl ((hR.rel _).trans rfl) rfl ?_; intro K hK; go_big_quiet_op; go_big_quiet_on) | (refine wpR_ptr hp2 rfl ((hR.rel _).trans rfl) rfl rfl ?_; intro K hK; go_big_quiet_op; go_big_quiet_on) | (refine wpR_skip pick rfl ?_; intro K hK; go_big_quiet_op; go_big_quiet_on))
  refine wpR_nil ?_
  intro w6 hk2 hF hM
  have HHB6 := Lib.hid (hR.get 1 rfl hM)
  have HX6 := Lib.hid (HX5.out.trans hk2)
  clear hF hM hp1 hp2 hR hk2 sS
  go_wp2_with fail
  (try go_meet)
  (try go_light)
  (try go_wp2_with fail)
  go_ret
  refine ⟨rfl, VA, vc, UA, uc, HHB6.out, ?_, ?_, (HK4.out.mono (fun _ _ h => h.elim)).trans HX6.out⟩
  · exact Row.kept HV4.out HX6.out (fun g hg e => by have := (HV2.out.lt g hg).1; have := HHW.out; omega)
  · exact Row.kept HU4.out HX6.out (fun g hg e => by have := (HU2.out.lt g hg).1; have := HHW.out; omega)
end Go.Proofs.YtdnbhmfofphblaaGreatDoor
