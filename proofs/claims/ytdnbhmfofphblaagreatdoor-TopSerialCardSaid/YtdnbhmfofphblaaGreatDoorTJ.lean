/- tunnel.Way.Wrap of a packet of version 4, between zero ends. -/
import Derived.Test.YtdnbhmfofphblaaGreatDoorTI
import Derived.Test.YtdnbhmfofphblaaGreatDoorD
namespace Go.Proofs.YtdnbhmfofphblaaGreatDoor
open Go.RowKit
set_option maxRecDepth 100000
set_option linter.unusedVariables false
set_option linter.unusedSimpArgs false
set_option maxRecDepth 100000 in
set_option maxHeartbeats 8000000 in
theorem wrapT (ttl : Int) (t0 : 0 < ttl) (t1 : ttl ≤ 255) (BA : Option Addr) (q bc : Nat) (b : List UInt8) (hq : b.length = q) (h0 : 0 < q) (h9 : q ≤ 60000) (hbc : q ≤ bc ∧ bc ≤ maxLen) (h4 : fld b 0 1 / 16 = 4) (hp : perr b = 0) (w : World) (hB : BS w w.heap.size BA b) :
    Calls Tryz.prog 26 #[.agg #[.bool false, .int .u64 0, .int .u64 0, .bool false, .int .u64 0, .int .u64 0, .int .u8 ttl], .slice BA q bc] w fun e w' => ∃ v, e = .returned (.tuple #[v, .int .i64 0]) ∧ Row w' w.heap.size 5 v (bcs ((⟨0, 0, 0, (phd b).stay, false, 0, ttl, 4, 0, 0, 0, []⟩ : Hd).pkt b)) ∧ Kept (fun _ => False) w w' := by
  have HBS := Lib.hid hB
  have HQ := Lib.hid hq
  have H4 := Lib.hid h4
  have HP := Lib.hid hp
  have HBC := Lib.hid hbc
  clear hB hq h4 hp hbc
  go_enter Tryz.func26, Tryz.ntmps26
  go_upto_region 1 with fail
  obtain ⟨w1, hw1⟩ : ∃ w1 : World, w1 = (w.alloc (.cells #[.bool false, .int .u64 0, .int .u64 0, .bool false, .int .u64 0, .int .u64 0, .int .u8 ttl] 101)) := ⟨_, rfl⟩
  have HTB1 := Lib.hid (show Blk w1 w.heap.size 101 #[.bool false, .int .u64 0, .int .u64 0, .bool false, .int .u64 0, .int .u64 0, .int .u8 ttl] by rw [hw1]; exact Blk.new _ _ _)
  have HK1 := Lib.hid (show Kept (fun _ => False) w w1 by rw [hw1]; exact (Kept.refl _ _).alloc _)
  rw [← hw1]
  clear hw1
  obtain ⟨tb, htb⟩ : ∃ tb, w.heap.size = tb := ⟨_, rfl⟩
  rw [htb] at HTB1
  (try rw [htb])
  have HNE := Lib.hid (show tb = w.heap.size + 0 ∧ True from ⟨by omega, trivial⟩)
  clear htb
  have cTB := HTB1.out.cell
  have lTB := HTB1.out.lt
  have fTB := HTB1.out.frozen
  have HSX := Lib.hid (six4 BA q bc w.heap.size b HQ.out h0 H4.out w1 ((HBS.out.kept HK1.out (Nat.le_refl _) (fun _ _ h => h))))
  go_wp2_with fail
  refine HSX.out.mono ?_
  rintro e w' ⟨rfl, rfl⟩
  clear HSX
  go_wp2_with (show wpList _ _ _ ((⟨_, .load 101 (.tmp 2), _, _, _, none⟩ : Oper) :: _) _ _; refine wpList_load_mid rfl 101 (.tmp 2) rfl tb 0 rfl [.bool false, .int .u64 0, .int .u64 0, .bool false, .int .u64 0, .int .u64 0, .int .u8 ttl] _ HTB1.out.range Tryz.underlying101 rfl (by kernel_rfl) ?_)
  refine (wayRight ttl t0 t1 w1).mono ?_
  rintro e w2 ⟨rfl, hk⟩
  have HK2 := Lib.hid (HK1.out.trans hk)
  have HS2 := Lib.hid (show Kept (fun _ => False) w1 w2 from hk)
  have HTB2 := Lib.hid (HTB1.out.kept hk (fun h => h))
  clear cTB lTB fTB
  have cTB := HTB2.out.cell
  have lTB := HTB2.out.lt
  have fTB := HTB2.out.frozen
  clear hk
  go_upto_region 8 with fail
  refine wp_region_kept 10 [(3, fun v u => v = .int .u8 4), (9, fun v u => ∃ g, v = .pointer (some ⟨g, 0, none⟩) ∧ w2.heap.size ≤ g ∧ Blk u g 190 #[.int .u8 0, .int .i64 0, .int .u16 0, .bool false, .bool false, .int .i64 0, .int .u8 0, .int .u8 0, .int .u16 0, .bool false, .int .u64 0, .int .u64 0, .bool false, .int .u64 0, .int .u64 0, .slice none 0 0])] ?st ?ne rfl (by kernel_rfl) (by kernel_rfl) ?_
  case st =>
    intro p hp
    simp only [List.mem_cons, List.not_mem_nil, or_false] at hp
    rcases hp with rfl | rfl
    · intro v u u' h hk; exact h
    · rintro v u u' ⟨g, h1, h2, h3⟩ hk; exact ⟨g, h1, h2, h3.kept hk (fun h => h)⟩
  case ne =>
    intro p hp
    simp only [List.mem_cons, List.not_mem_nil, or_false] at hp
    rcases hp with rfl | rfl
    · exact ⟨_, _, Kept.refl _ _, rfl⟩
    · exact ⟨_, _, (Kept.refl _ _).alloc _, _, rfl, Nat.le_refl _, Blk.new _ _ _⟩
  simp only [List.take_succ_cons, List.take_zero, List.drop_succ_cons, List.drop_zero]
  intro G pick hR hp1 hp2
  have sT : ∀ u i, (pick u).cell? ⟨tb, i, none⟩ = (#[.bool false, .int .u64 0, .int .u64 0, .bool false, .int .u64 0, .int .u64 0, .int .u8 ttl] : Array Value)[i]? := fun u i => ((hp1 u).cell HTB2.out.lt (fun h => h) _).trans (HTB2.out.cell i)
  repeat (first | (refine wpR_det hp2 rfl ((hR.rel _).trans rfl) rfl ?_; intro K hK; go_big_quiet_op; go_big_quiet_on) | (refine wpR_ptr hp2 rfl ((hR.rel _).trans rfl) rfl rfl ?_; intro K hK; go_big_quiet_op; go_big_quiet_on) | (refine wpR_skip pick rfl ?_; intro K hK; go_big_quiet_op; go_big_quiet_on))
  refine wpR_rel pick rfl ((hR.rel _).trans rfl) ((hR.turns _).trans rfl) ?_ ?_
  · intro u hu
    have hk := hR.since hu.1
    have hks := hk.size
    unfold relAt
    go_simp
    refine (proto4 u).mono ?_
    rintro e' w' ⟨rfl, rfl⟩
    exact ⟨_, rfl, hR.into0 (Kept.refl _ _), hR.put 0 rfl rfl rfl⟩
  intro v hv
  obtain ⟨u, _, hu⟩ := hv
  obtain rfl := hR.get 0 rfl hu
  clear hu
  intro K hK
  go_big_quiet_op
  go_big_quiet_on
  repeat (first | (refine wpR_det hp2 rfl ((hR.rel _).trans rfl) rfl ?_; intro K hK; go_big_quiet_op; go_big_quiet_on) | (refine wpR_ptr hp2 rfl ((hR.rel _).trans rfl) rfl rfl ?_; intro K hK; go_big_quiet_op; go_big_quiet_on) | (refine wpR_skip pick rfl ?_; intro K hK; go_big_quiet_op; go_big_quiet_on))
  refine wpR_rel pick rfl ((hR.rel _).trans rfl) ((hR.turns _).trans rfl) ?_ ?_
  · intro u hu
    have hk := hR.since hu.1
    have hks := hk.size
    unfold relAt
    go_simp
    exact ⟨hR.into0 ((Kept.refl _ _).alloc _), hR.put 1 rfl rfl ⟨_, rfl, hks, Blk.new _ _ _⟩⟩
  intro v hv
  obtain ⟨u, _, hu⟩ := hv
  obtain ⟨hb, rfl, hhb, -⟩ := hR.get 1 rfl hu
  clear hu
  have HHB := Lib.hid hhb
  clear hhb
  intro K hK
  go_big_quiet_op
  go_big_quiet_on
  repeat (first | (refine wpR_det hp2 rfl ((hR.rel _).trans rfl) rfl ?_; intro K hK; go_big_quiet_op; go_big_quiet_on) | (refine wpR_ptr hp2 rfl ((hR.rel _).trans rfl) rfl rfl ?_; intro K hK; go_big_quiet_op; go_big_quiet_on) | (refine wpR_skip pick rfl ?_; intro K hK; go_big_quiet_op; go_big_quiet_on))
  refine wpR_nil ?_
  intro w3 hk2 hF hM
  have hk := hk2
  have HK3 := Lib.hid (HK2.out.trans hk)
  have HS3 := Lib.hid (show Kept (fun _ => False) w2 w3 from hk)
  have HTB3 := Lib.hid (HTB2.out.kept hk (fun h => h))
  clear cTB lTB fTB
  have cTB := HTB3.out.cell
  have lTB := HTB3.out.lt
  have fTB := HTB3.out.frozen
  obtain ⟨g', e', -, hH3⟩ := (hR.get 1 rfl (hF _ _ (Got.upd_self _ _ _)))
  obtain rfl : hb = g' := by injection e' with e'; injection e' with e'; injection e'
  have HHB3 := Lib.hid hH3
  clear hk hk2 hF hM hp1 hp2 hR sT hH3 e'
  go_upto_region 10 with (show wpList _ _ _ ((⟨none, .store 190 (.tmp 8) _, _, _, _, none⟩ : Oper) :: _) _ _; refine wpList_store_mid rfl 190 (.tmp 8) _ rfl hb 0 #[.int .u8 0, .int .i64 0, .int .u16 0, .bool true, .bool false, .int .i64 0, .int .u8 ttl, .int .u8 4, .int .u16 0, .bool false, .int .u64 0, .int .u64 0, .bool false, .int .u64 0, .int .u64 0, .slice none 0 0] rfl rfl (HHB3.out.there rfl) (by kernel_rfl) (by simp [Value.oneCell']) ?_)
  generalize hwq : (World.setCells _ _ _ _) = w4
  have HX4 := Lib.hid (show Kept (fun i => i = hb) w3 w4 by rw [← hwq]; exact Kept.setCells (S := fun i => i = hb) rfl _ _ (Kept.refl _ _))
  have HHB4 := Lib.hid (show Blk w4 hb 190 #[.int .u8 0, .int .i64 0, .int .u16 0, .bool true, .bool false, .int .i64 0, .int .u8 ttl, .int .u8 4, .int .u16 0, .bool false, .int .u64 0, .int .u64 0, .bool false, .int .u64 0, .int .u64 0, .slice none 0 0] by rw [← hwq]; exact HHB3.out.setAll #[.int .u8 0, .int .i64 0, .int .u16 0, .bool true, .bool false, .int .i64 0, .int .u8 ttl, .int .u8 4, .int .u16 0, .bool false, .int .u64 0, .int .u64 0, .bool false, .int .u64 0, .int .u64 0, .slice none 0 0] rfl)
  have HWB := Lib.hid (show w.heap.size ≤ hb from Nat.le_trans HK2.out.size HHB.out)
  have HK4 := Lib.hid (HK3.out.then HX4.out (fun i hi e => by have := HWB.out; omega))
  clear hwq cTB lTB fTB
  have hpa := parse_any BA bc b w4 (by have := HQ.out; omega) ⟨by have := HQ.out; have := HBC.out.1; omega, HBC.out.2⟩ (HBS.out.on HK4.out (fun _ _ h => h))
  rw [HQ.out] at hpa
  have HPA := Lib.hid hpa
  clear hpa
  go_wp2_with fail
  refine HPA.out.mono ?_
  rintro e w5 ⟨hbw, h⟩
  rcases h with ⟨hne, _⟩ | ⟨_, v, x, rfl, hv, hx⟩
  · exact absurd HP.out hne
  obtain ⟨VA, vc, hve, -, -⟩ := hv.shape
  rw [bcs_length] at hve
  subst hve
  obtain ⟨XA, xc, hxe, -, -⟩ := hx.shape
  subst hxe
  have HK5 := Lib.hid (HK4.out.trans (Kept.ofB (S := fun _ => False) hbw))
  have HHB5 := Lib.hid (HHB4.out.kept (Kept.ofB (S := fun _ => False) hbw) (fun h => h))
  clear hbw hv hx HPA
  obtain ⟨H, hH⟩ : ∃ H, phd b = H := ⟨_, rfl⟩
  rw [hH]
  have HH := Lib.hid hH
  clear hH
  unfold Hd.cells
  go_upto_region 11 with (show wpList _ _ _ ((⟨none, .store 190 (.tmp 9) _, _, _, _, none⟩ : Oper) :: _) _ _; refine wpList_store_mid rfl 190 (.tmp 9) _ rfl w5.heap.size 0 #[.int .u8 H.tos, .int .i64 H.len, .int .u16 H.id, .bool H.stay, .bool H.more, .int .i64 H.off, .int .u8 H.ttl, .int .u8 H.proto, .int .u16 H.sum, .bool false, .int .u64 0, .int .u64 H.src, .bool false, .int .u64 0, .int .u64 H.dst, .slice VA H.opts.length vc] rfl rfl ((Blk.new w5 190 #[.int .u8 0, .int .i64 0, .int .u16 0, .bool false, .bool false, .int .i64 0, .int .u8 0, .int .u8 0, .int .u16 0, .bool false, .int .u64 0, .int .u64 0, .bool false, .int .u64 0, .int .u64 0, .slice none 0 0]).there rfl) (by kernel_rfl) (by simp [Value.oneCell']) ?_)
  generalize hwq : (World.setCells _ _ _ _) = w6
  have HX6 := Lib.hid (show Kept (fun _ => False) w5 w6 by rw [← hwq]; exact ((Kept.refl _ _).alloc _).then (Kept.setCells (S := fun i => i = w5.heap.size) rfl _ _ (Kept.refl _ _)) (fun i hi e => by omega))
  have HIB6 := Lib.hid (show Blk w6 w5.heap.size 190 #[.int .u8 H.tos, .int .i64 H.len, .int .u16 H.id, .bool H.stay, .bool H.more, .int .i64 H.off, .int .u8 H.ttl, .int .u8 H.proto, .int .u16 H.sum, .bool false, .int .u64 0, .int .u64 H.src, .bool false, .int .u64 0, .int .u64 H.dst, .slice VA H.opts.length vc] by rw [← hwq]; exact (Blk.new w5 190 #[.int .u8 0, .int .i64 0, .int .u16 0, .bool false, .bool false, .int .i64 0, .int .u8 0, .int .u8 0, .int .u16 0, .bool false, .int .u64 0, .int .u64 0, .bool false, .int .u64 0, .int .u64 0, .slice none 0 0]).setAll #[.int .u8 H.tos, .int .i64 H.len, .int .u16 H.id, .bool H.stay, .bool H.more, .int .i64 H.off, .int .u8 H.ttl, .int .u8 H.proto, .int .u16 H.sum, .bool false, .int .u64 0, .int .u64 H.src, .bool false, .int .u64 0, .int .u64 H.dst, .slice VA H.opts.length vc] rfl)
  have HK6 := Lib.hid (HK5.out.trans HX6.out)
  have HHB6 := Lib.hid (HHB5.out.kept HX6.out (fun h => h))
  clear hwq
  obtain ⟨ib, hib⟩ : ∃ ib, w5.heap.size = ib := ⟨_, rfl⟩
  rw [hib] at HIB6 ⊢
  clear hib
  have cI := HIB6.out.cell
  have lI := HIB6.out.lt
  have fI := HIB6.out.frozen
  have cH := HHB6.out.cell
  have lH := HHB6.out.lt
  have fH := HHB6.out.frozen
  go_upto_region 14 with fail
  generalize hwq : World.setCell _ _ _ = w7
  have HX7 := Lib.hid (show Kept (fun i => i = hb) w6 w7 by rw [← hwq]; exact Kept.setIn (S := fun i => i = hb) rfl (Kept.refl _ _))
  have HHB7 := Lib.hid (show Blk w7 hb 190 #[.int .u8 0, .int .i64 0, .int .u16 0, .bool H.stay, .bool false, .int .i64 0, .int .u8 ttl, .int .u8 4, .int .u16 0, .bool false, .int .u64 0, .int .u64 0, .bool false, .int .u64 0, .int .u64 0, .slice none 0 0] by rw [← hwq]; exact HHB6.out.set_to rfl)
  have HK7 := Lib.hid (HK6.out.then HX7.out (fun i hi e => by have := HWB.out; omega))
  clear hwq cI lI fI cH lH fH
  have HPK := Lib.hid (packet_yes 0 0 0 H.stay false 0 ttl 4 0 0 0 none 0 0 [] rfl (by omega) (by omega) (by omega) (by omega) (by omega) (by omega) (by omega) (by omega) t1 (by omega) (by omega) (by omega) (by omega) (by omega) (by omega) b BA q bc HQ.out h9 (by omega) w7 .nil (HBS.out.on HK7.out (fun _ _ h => h)))
  go_wp2_with (show wpList _ _ _ ((⟨_, .load 190 (.tmp 8), _, _, _, none⟩ : Oper) :: _) _ _; refine wpList_load_mid rfl 190 (.tmp 8) rfl hb 0 rfl [.int .u8 0, .int .i64 0, .int .u16 0, .bool H.stay, .bool false, .int .i64 0, .int .u8 ttl, .int .u8 4, .int .u16 0, .bool false, .int .u64 0, .int .u64 0, .bool false, .int .u64 0, .int .u64 0, .slice none 0 0] _ HHB7.out.range Tryz.underlying190 rfl (by kernel_rfl) ?_)
  refine HPK.out.mono ?_
  rintro e w8 ⟨v, rfl, hv, hbw⟩
  have HV8 := Lib.hid hv
  have HK8 := Lib.hid (HK7.out.trans (Kept.ofB (S := fun _ => False) hbw))
  clear hv hbw HPK
  go_wp2_with fail
  go_ret2
  refine ⟨_, rfl, ?_, HK8.out⟩
  rw [HH.out]
  exact HV8.out.more HK7.out.size
end Go.Proofs.YtdnbhmfofphblaaGreatDoor
