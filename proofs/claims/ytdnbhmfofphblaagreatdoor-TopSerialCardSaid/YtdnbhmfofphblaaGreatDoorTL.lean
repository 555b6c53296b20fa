/- ip4's Fragment; tunnel.outer and Unwrap of a packet of version 4. -/
import Derived.Test.YtdnbhmfofphblaaGreatDoorTJ
namespace Go.Proofs.YtdnbhmfofphblaaGreatDoor
open Go.RowKit
set_option maxRecDepth 100000
set_option linter.unusedVariables false
set_option linter.unusedSimpArgs false
set_option maxRecDepth 100000 in
set_option maxHeartbeats 8000000 in
theorem fragNo (H : Hd) (VA : Option Addr) (vc : Nat) (w : World) :
    Calls Tryz.prog 133 #[.agg #[.int .u8 H.tos, .int .i64 H.len, .int .u16 H.id, .bool H.stay, .bool false, .int .i64 0, .int .u8 H.ttl, .int .u8 H.proto, .int .u16 H.sum, .bool false, .int .u64 0, .int .u64 H.src, .bool false, .int .u64 0, .int .u64 H.dst, .slice VA H.opts.length vc]] w fun e w' => e = .returned (.bool false) ∧ Kept (fun _ => False) w w' := by
  go_enter Tryz.func133, Tryz.ntmps133
  go_wp2
  go_ret
  exact ⟨rfl, (Kept.refl _ _).alloc _⟩
theorem results_tct2 {P : Program} {fn : Func} {q p u v : Tmp} {ty : TypeId} (h : fn.results = #[.tmp q, .cell p ty, .tmp u, .tmp v]) (tmps : Array Value) (w : World) (g : Nat) (t : TypeId) (cs : Array Value) (d : TypeDesc)
    (hp : tmps.getD p undef = .pointer (some ⟨g, 0, none⟩)) (hg : Blk w g t cs)
    (hu : P.underlying ty = some d) (hd : (match d with | .struct _ | .array _ _ => true | _ => false) = true) (hi : (P.info? ty).map (·.size) = some cs.size) :
    (results fn tmps).run P w = .ok (.tuple #[tmps.getD q undef, .agg cs, tmps.getD u undef, tmps.getD v undef]) w := by
  have e : (results fn tmps).run P w =
      ((asAddr (tmps.getD p undef)).run P w).andThen fun a w₁ => ((loadVar ty a).run P w₁).andThen fun x w₂ => .ok (.tuple #[tmps.getD q undef, x, tmps.getD u undef, tmps.getD v undef]) w₂ := by
    simp only [results, h]
    simp [Sem.run_bind, Result.andThen]
  rw [e, hp]
  simp [asAddr, run_loadVar_row w g t ty cs (0, 0) d hg hu hd hi, Result.andThen]
theorem results_tct1 {P : Program} {fn : Func} {q p u : Tmp} {ty : TypeId} (h : fn.results = #[.tmp q, .cell p ty, .tmp u]) (tmps : Array Value) (w : World) (g : Nat) (t : TypeId) (cs : Array Value) (d : TypeDesc)
    (hp : tmps.getD p undef = .pointer (some ⟨g, 0, none⟩)) (hg : Blk w g t cs)
    (hu : P.underlying ty = some d) (hd : (match d with | .struct _ | .array _ _ => true | _ => false) = true) (hi : (P.info? ty).map (·.size) = some cs.size) :
    (results fn tmps).run P w = .ok (.tuple #[tmps.getD q undef, .agg cs, tmps.getD u undef]) w := by
  have e : (results fn tmps).run P w =
      ((asAddr (tmps.getD p undef)).run P w).andThen fun a w₁ => ((loadVar ty a).run P w₁).andThen fun x w₂ => .ok (.tuple #[tmps.getD q undef, x, tmps.getD u undef]) w₂ := by
    simp only [results, h]
    simp [Sem.run_bind, Result.andThen]
  rw [e, hp]
  simp [asAddr, run_loadVar_row w g t ty cs (0, 0) d hg hu hd hi, Result.andThen]
set_option maxRecDepth 100000 in
set_option maxHeartbeats 8000000 in
theorem outer4 (BA : Option Addr) (q bc : Nat) (b : List UInt8) (H : Hd) (hH : phd b = H) (hq : b.length = q) (h0 : 0 < q) (h9 : q ≤ 60000) (hbc : q ≤ bc ∧ bc ≤ maxLen) (h4 : fld b 0 1 / 16 = 4) (hp : perr b = 0) (hm : H.more = false) (ho : H.off = 0) (w : World) (hB : BS w w.heap.size BA b) :
    Calls Tryz.prog 123 #[.slice BA q bc] w fun e w' => ∃ XA xc, e = .returned (.tuple #[.slice XA (pld b).length xc, .agg #[.bool false, .int .u64 0, .int .u64 H.src, .bool false, .int .u64 0, .int .u64 H.dst, .int .u8 H.ttl], .int .u8 H.proto, .int .i64 0]) ∧ Row w' w.heap.size 5 (.slice XA (pld b).length xc) (bcs (pld b)) ∧ Kept (fun _ => False) w w' := by
  have HBS := Lib.hid hB
  have HQ := Lib.hid hq
  have H4 := Lib.hid h4
  have HP := Lib.hid hp
  have HBC := Lib.hid hbc
  have HH := Lib.hid hH
  have HMO := Lib.hid hm
  have HOF := Lib.hid ho
  clear hB hq h4 hp hbc hH hm ho
  go_enter Tryz.func123, Tryz.ntmps123
  go_upto_region 1 with fail
  obtain ⟨w1, hw1⟩ : ∃ w1 : World, w1 = (w.alloc (.cells #[.bool false, .int .u64 0, .int .u64 0, .bool false, .int .u64 0, .int .u64 0, .int .u8 0] 101)) := ⟨_, rfl⟩
  have HRB1 := Lib.hid (show Blk w1 w.heap.size 101 #[.bool false, .int .u64 0, .int .u64 0, .bool false, .int .u64 0, .int .u64 0, .int .u8 0] by rw [hw1]; exact Blk.new _ _ _)
  have HK1 := Lib.hid (show Kept (fun _ => False) w w1 by rw [hw1]; exact (Kept.refl _ _).alloc _)
  rw [← hw1]
  clear hw1
  obtain ⟨rb, hrb⟩ : ∃ rb, w.heap.size = rb := ⟨_, rfl⟩
  rw [hrb] at HRB1
  (try rw [hrb])
  have HNE := Lib.hid (show rb = w.heap.size + 0 ∧ True from ⟨by omega, trivial⟩)
  clear hrb
  have cRB := HRB1.out.cell
  have lRB := HRB1.out.lt
  have fRB := HRB1.out.frozen
  clear cRB lRB fRB
  have HSX := Lib.hid (six4 BA q bc w.heap.size b HQ.out h0 H4.out w1 ((HBS.out.kept HK1.out (Nat.le_refl _) (fun _ _ h => h))))
  go_wp2_with fail
  refine HSX.out.mono ?_
  rintro e w' ⟨rfl, rfl⟩
  clear HSX
  have hpa := parse_any BA bc b w1 (by have := HQ.out; omega) ⟨by have := HQ.out; have := HBC.out.1; omega, HBC.out.2⟩ (HBS.out.on HK1.out (fun _ _ h => h))
  rw [HQ.out] at hpa
  have HPA := Lib.hid hpa
  clear hpa
  go_wp2_with fail
  refine HPA.out.mono ?_
  rintro e w2 ⟨hbw, h⟩
  rcases h with ⟨hne, _⟩ | ⟨_, v, x, rfl, hv, hx⟩
  · exact absurd HP.out hne
  obtain ⟨VA, vc, hve, -, -⟩ := hv.shape
  rw [bcs_length] at hve
  subst hve
  obtain ⟨XA, xc, hxe, -, -⟩ := hx.shape
  rw [bcs_length] at hxe
  subst hxe
  have HX2 := Lib.hid hx
  have HK2 := Lib.hid (HK1.out.trans (Kept.ofB (S := fun _ => False) hbw))
  have HRB2 := Lib.hid (HRB1.out.kept (Kept.ofB (S := fun _ => False) hbw) (fun h => h))
  clear hbw hv hx HPA
  rw [HH.out]
  unfold Hd.cells
  rw [HMO.out, HOF.out]
  go_upto_region 8 with (show wpList _ _ _ ((⟨none, .store 190 (.tmp 11) _, _, _, _, none⟩ : Oper) :: _) _ _; refine wpList_store_mid rfl 190 (.tmp 11) _ rfl w2.heap.size 0 #[.int .u8 H.tos, .int .i64 H.len, .int .u16 H.id, .bool H.stay, .bool false, .int .i64 0, .int .u8 H.ttl, .int .u8 H.proto, .int .u16 H.sum, .bool false, .int .u64 0, .int .u64 H.src, .bool false, .int .u64 0, .int .u64 H.dst, .slice VA H.opts.length vc] rfl rfl ((Blk.new w2 190 #[.int .u8 0, .int .i64 0, .int .u16 0, .bool false, .bool false, .int .i64 0, .int .u8 0, .int .u8 0, .int .u16 0, .bool false, .int .u64 0, .int .u64 0, .bool false, .int .u64 0, .int .u64 0, .slice none 0 0]).there rfl) (by kernel_rfl) (by simp [Value.oneCell']) ?_)
  generalize hwq : (World.setCells _ _ _ _) = w3
  have HX3 := Lib.hid (show Kept (fun _ => False) w2 w3 by rw [← hwq]; exact ((Kept.refl _ _).alloc _).then (Kept.setCells (S := fun i => i = w2.heap.size) rfl _ _ (Kept.refl _ _)) (fun i hi e => by omega))
  have HHB3 := Lib.hid (show Blk w3 w2.heap.size 190 #[.int .u8 H.tos, .int .i64 H.len, .int .u16 H.id, .bool H.stay, .bool false, .int .i64 0, .int .u8 H.ttl, .int .u8 H.proto, .int .u16 H.sum, .bool false, .int .u64 0, .int .u64 H.src, .bool false, .int .u64 0, .int .u64 H.dst, .slice VA H.opts.length vc] by rw [← hwq]; exact (Blk.new w2 190 #[.int .u8 0, .int .i64 0, .int .u16 0, .bool false, .bool false, .int .i64 0, .int .u8 0, .int .u8 0, .int .u16 0, .bool false, .int .u64 0, .int .u64 0, .bool false, .int .u64 0, .int .u64 0, .slice none 0 0]).setAll #[.int .u8 H.tos, .int .i64 H.len, .int .u16 H.id, .bool H.stay, .bool false, .int .i64 0, .int .u8 H.ttl, .int .u8 H.proto, .int .u16 H.sum, .bool false, .int .u64 0, .int .u64 H.src, .bool false, .int .u64 0, .int .u64 H.dst, .slice VA H.opts.length vc] rfl)
  have HK3 := Lib.hid (HK2.out.trans HX3.out)
  have HRB3 := Lib.hid (HRB2.out.kept HX3.out (fun h => h))
  have HXR3 := Lib.hid (Row.kept HX2.out HX3.out (fun _ _ h => h))
  clear hwq
  obtain ⟨hb, hhb⟩ : ∃ hb, w2.heap.size = hb := ⟨_, rfl⟩
  rw [hhb] at HHB3 ⊢
  have HRBH := Lib.hid (show rb < hb by have := HRB2.out.lt; omega)
  clear hhb
  go_wp2_with (show wpList _ _ _ ((⟨_, .load 190 (.tmp 11), _, _, _, some _⟩ : Oper) :: _) _ _; refine wpList_load_g rfl 190 (.tmp 11) rfl hb 0 rfl [.int .u8 H.tos, .int .i64 H.len, .int .u16 H.id, .bool H.stay, .bool false, .int .i64 0, .int .u8 H.ttl, .int .u8 H.proto, .int .u16 H.sum, .bool false, .int .u64 0, .int .u64 H.src, .bool false, .int .u64 0, .int .u64 H.dst, .slice VA H.opts.length vc] _ HHB3.out.range Tryz.underlying190 rfl (by kernel_rfl) ?_)
  refine (fragNo H VA vc w3).mono ?_
  rintro e w4 ⟨rfl, hk⟩
  have HK4 := Lib.hid (HK3.out.trans hk)
  have HRB4 := Lib.hid (HRB3.out.kept hk (fun h => h))
  have HHB4 := Lib.hid (HHB3.out.kept hk (fun h => h))
  have HXR4 := Lib.hid (Row.kept HXR3.out hk (fun _ _ h => h))
  clear hk
  go_upto_region 10 with fail
  refine wp_region_add 15 (fun i => i = rb) [12] [] [(12, fun v u => Blk u rb 101 #[.bool false, .int .u64 0, .int .u64 H.src, .bool false, .int .u64 0, .int .u64 H.dst, .int .u8 H.ttl])] ?st ?ne rfl (by kernel_rfl) (by kernel_rfl) (by kernel_rfl) ?_
  case st =>
    intro p hp
    simp only [List.mem_cons, List.not_mem_nil, or_false] at hp
    subst hp
    · intro v u u' h hk; exact h.kept hk (fun h => h)
  case ne =>
    intro p hp
    simp only [List.mem_cons, List.not_mem_nil, or_false] at hp
    subst hp
    · exact ⟨undef, _, Kept.setCells (S := fun i => i = rb) rfl _ _ (Kept.refl _ _), HRB4.out.setAll #[.bool false, .int .u64 0, .int .u64 H.src, .bool false, .int .u64 0, .int .u64 H.dst, .int .u8 H.ttl] rfl⟩
  simp only [List.take_succ_cons, List.take_zero, List.drop_succ_cons, List.drop_zero]
  intro G pick hR hp1 hp2
  have sH : ∀ u i, (pick u).cell? ⟨hb, i, none⟩ = (#[.int .u8 H.tos, .int .i64 H.len, .int .u16 H.id, .bool H.stay, .bool false, .int .i64 0, .int .u8 H.ttl, .int .u8 H.proto, .int .u16 H.sum, .bool false, .int .u64 0, .int .u64 H.src, .bool false, .int .u64 0, .int .u64 H.dst, .slice VA H.opts.length vc] : Array Value)[i]? := fun u i => ((hp1 u).cell HHB4.out.lt (fun h => by have := HRBH.out; omega) _).trans (HHB4.out.cell i)
  repeat (first | (refine wpR_det hp2 rfl ((hR.rel _).trans rfl) rfl ?_; intro K hK; go_big_quiet_op; go_big_quiet_on) | (refine wpR_ptr hp2 rfl ((hR.rel _).trans rfl) rfl rfl ?_; intro K hK; go_big_quiet_op; go_big_quiet_on) | (refine wpR_skip pick rfl ?_; intro K hK; go_big_quiet_op; go_big_quiet_on))
  refine wpR_turn pick rfl ((hR.rel _).trans rfl) ((hR.turns _).trans rfl) ((hR.adds _).trans rfl) ?_ ?_
  · intro u hu hM
    have hk := hR.since hu.1
    have hks := hk.size
    have hK0 := hR.first hM
    refine relAt_store_mid 101 (.tmp 3) (.tmp 59) rfl rb 0 #[.bool false, .int .u64 0, .int .u64 H.src, .bool false, .int .u64 0, .int .u64 H.dst, .int .u8 H.ttl] rfl rfl ((HRB4.out.kept hK0 (fun h => h)).there rfl) (by kernel_rfl) (by simp [Value.oneCell']) ?_
    exact ⟨hR.into (Kept.setCells (S := fun i => i = rb) rfl _ _ (Kept.refl _ _)), hR.put 0 rfl rfl ((HRB4.out.kept hK0 (fun h => h)).setAll #[.bool false, .int .u64 0, .int .u64 H.src, .bool false, .int .u64 0, .int .u64 H.dst, .int .u8 H.ttl] rfl)⟩
  intro v hv
  obtain ⟨u, _, hu⟩ := hv
  obtain hT12 := hR.get 0 rfl hu
  clear hu
  intro K hK
  go_big_quiet_op
  go_big_quiet_on
  repeat (first | (refine wpR_det hp2 rfl ((hR.rel _).trans rfl) rfl ?_; intro K hK; go_big_quiet_op; go_big_quiet_on) | (refine wpR_ptr hp2 rfl ((hR.rel _).trans rfl) rfl rfl ?_; intro K hK; go_big_quiet_op; go_big_quiet_on) | (refine wpR_skip pick rfl ?_; intro K hK; go_big_quiet_op; go_big_quiet_on))
  refine wpR_nil ?_
  intro w6 hk2 hF hM
  have HRB6 := Lib.hid (hR.get 0 rfl hM)
  have HK6 := Lib.hid (HK4.out.then hk2 (fun i hi e => by have := HNE.out; omega))
  have HXR6 := Lib.hid (Row.kept HXR4.out hk2 (fun g hg e => by have := (HX2.out.lt g hg).1; have := HRB1.out.lt; omega))
  clear hF hM hp1 hp2 hR sH hk2
  go_wp2_with fail
  exact bodyPost_ret (results_tct2 (P := Tryz.prog) (show Tryz.f123.results = _ from rfl) _ _ rb 101 #[.bool false, .int .u64 0, .int .u64 H.src, .bool false, .int .u64 0, .int .u64 H.dst, .int .u8 H.ttl] _ rfl HRB6.out Tryz.underlying101 rfl (by kernel_rfl)) rfl ⟨XA, xc, rfl, HXR6.out.more HK1.out.size, HK6.out⟩
set_option maxRecDepth 100000 in
set_option maxHeartbeats 8000000 in
theorem unwrap4 (BA : Option Addr) (q bc : Nat) (b : List UInt8) (H : Hd) (hH : phd b = H) (hq : b.length = q) (h0 : 0 < q) (h9 : q ≤ 60000) (hbc : q ≤ bc ∧ bc ≤ maxLen) (h4 : fld b 0 1 / 16 = 4) (hp : perr b = 0) (hm : H.more = false) (ho : H.off = 0) (hpr : H.proto = 4) (hl : 0 < (pld b).length) (hl4 : fld (pld b) 0 1 / 16 = 4) (w : World) (hB : BS w w.heap.size BA b) :
    Calls Tryz.prog 72 #[.slice BA q bc] w fun e w' => ∃ XA xc, e = .returned (.tuple #[.slice XA (pld b).length xc, .agg #[.bool false, .int .u64 0, .int .u64 H.src, .bool false, .int .u64 0, .int .u64 H.dst, .int .u8 H.ttl], .int .i64 0]) ∧ Row w' w.heap.size 5 (.slice XA (pld b).length xc) (bcs (pld b)) ∧ Kept (fun _ => False) w w' := by
  have HBS := Lib.hid hB
  have HPR := Lib.hid hpr
  have HOU := Lib.hid (fun W (h : BS W W.heap.size BA b) => outer4 BA q bc b H hH hq h0 h9 hbc h4 hp hm ho W h)
  have HSX := Lib.hid (fun XA xc B W (h : BS W B XA (pld b)) => six4 XA (pld b).length xc B (pld b) rfl hl hl4 W h)
  obtain ⟨m, hm'⟩ : ∃ m, (pld b).length = m := ⟨_, rfl⟩
  rw [hm'] at HOU HSX ⊢
  have HM := Lib.hid hm'
  clear hB hq hH hp hm ho hpr hl hl4 hbc h4 hm'
  go_enter Tryz.func72, Tryz.ntmps72
  go_upto_region 1 with fail
  obtain ⟨w1, hw1⟩ : ∃ w1 : World, w1 = (w.alloc (.cells #[.bool false, .int .u64 0, .int .u64 0, .bool false, .int .u64 0, .int .u64 0, .int .u8 0] 101)) := ⟨_, rfl⟩
  have HRB1 := Lib.hid (show Blk w1 w.heap.size 101 #[.bool false, .int .u64 0, .int .u64 0, .bool false, .int .u64 0, .int .u64 0, .int .u8 0] by rw [hw1]; exact Blk.new _ _ _)
  have HK1 := Lib.hid (show Kept (fun _ => False) w w1 by rw [hw1]; exact (Kept.refl _ _).alloc _)
  rw [← hw1]
  clear hw1
  obtain ⟨rb, hrb⟩ : ∃ rb, w.heap.size = rb := ⟨_, rfl⟩
  rw [hrb] at HRB1
  (try rw [hrb])
  have HNE := Lib.hid (show rb = w.heap.size + 0 ∧ True from ⟨by omega, trivial⟩)
  clear hrb
  have cRB := HRB1.out.cell
  have lRB := HRB1.out.lt
  have fRB := HRB1.out.frozen
  clear cRB lRB fRB
  go_wp2_with fail
  refine (HOU.out w1 (HBS.out.on HK1.out (fun _ _ h => h))).mono ?_
  rintro e w2 ⟨XA, xc, rfl, hx, hk⟩
  have HX2 := Lib.hid hx
  have HK2 := Lib.hid (HK1.out.trans hk)
  have HRB2 := Lib.hid (HRB1.out.kept hk (fun h => h))
  clear hx hk HOU
  rw [HPR.out]
  go_upto_region 2 with (show wpList _ _ _ ((⟨none, .store 101 (.tmp 6) _, _, _, _, none⟩ : Oper) :: _) _ _; refine wpList_store_mid rfl 101 (.tmp 6) _ rfl w2.heap.size 0 #[.bool false, .int .u64 0, .int .u64 H.src, .bool false, .int .u64 0, .int .u64 H.dst, .int .u8 H.ttl] rfl rfl ((Blk.new w2 101 #[.bool false, .int .u64 0, .int .u64 0, .bool false, .int .u64 0, .int .u64 0, .int .u8 0]).there rfl) (by kernel_rfl) (by simp [Value.oneCell']) ?_)
  generalize hwq : (World.setCells _ _ _ _) = w3
  have HX3 := Lib.hid (show Kept (fun _ => False) w2 w3 by rw [← hwq]; exact ((Kept.refl _ _).alloc _).then (Kept.setCells (S := fun i => i = w2.heap.size) rfl _ _ (Kept.refl _ _)) (fun i hi e => by omega))
  have HTB3 := Lib.hid (show Blk w3 w2.heap.size 101 #[.bool false, .int .u64 0, .int .u64 H.src, .bool false, .int .u64 0, .int .u64 H.dst, .int .u8 H.ttl] by rw [← hwq]; exact (Blk.new w2 101 #[.bool false, .int .u64 0, .int .u64 0, .bool false, .int .u64 0, .int .u64 0, .int .u8 0]).setAll #[.bool false, .int .u64 0, .int .u64 H.src, .bool false, .int .u64 0, .int .u64 H.dst, .int .u8 H.ttl] rfl)
  have HK3 := Lib.hid (HK2.out.trans HX3.out)
  have HRB3 := Lib.hid (HRB2.out.kept HX3.out (fun h => h))
  have HXR3 := Lib.hid (Row.kept HX2.out HX3.out (fun _ _ h => h))
  clear hwq
  obtain ⟨tb, htb⟩ : ∃ tb, w2.heap.size = tb := ⟨_, rfl⟩
  rw [htb] at HTB3 ⊢
  have HTR := Lib.hid (show rb ≠ tb by have := HRB2.out.lt; omega)
  clear htb
  go_wp2_with fail
  refine (HSX.out XA xc w3.heap.size w3 HXR3.out.byt_bs).mono ?_
  rintro e w' ⟨rfl, rfl⟩
  go_wp2_with fail
  refine (proto4 w3).mono ?_
  rintro e w' ⟨rfl, rfl⟩
  go_upto_region 11 with fail
  refine wp_region_add 5 (fun i => i = rb) [3] [] [(1, fun v u => v = .agg #[.bool false, .int .u64 0, .int .u64 H.src, .bool false, .int .u64 0, .int .u64 H.dst, .int .u8 H.ttl]), (3, fun v u => Blk u rb 101 #[.bool false, .int .u64 0, .int .u64 H.src, .bool false, .int .u64 0, .int .u64 H.dst, .int .u8 H.ttl])] ?st ?ne rfl (by kernel_rfl) (by kernel_rfl) (by kernel_rfl) ?_
  case st =>
    intro p hp
    simp only [List.mem_cons, List.not_mem_nil, or_false] at hp
    rcases hp with rfl | rfl
    · intro v u u' h hk; exact h
    · intro v u u' h hk; exact h.kept hk (fun h => h)
  case ne =>
    intro p hp
    simp only [List.mem_cons, List.not_mem_nil, or_false] at hp
    rcases hp with rfl | rfl
    · exact ⟨_, _, Kept.refl _ _, rfl⟩
    · exact ⟨undef, _, Kept.setCells (S := fun i => i = rb) rfl _ _ (Kept.refl _ _), HRB3.out.setAll #[.bool false, .int .u64 0, .int .u64 H.src, .bool false, .int .u64 0, .int .u64 H.dst, .int .u8 H.ttl] rfl⟩
  simp only [List.take_succ_cons, List.take_zero, List.drop_succ_cons, List.drop_zero]
  intro G pick hR hp1 hp2
  repeat (first | (refine wpR_det hp2 rfl ((hR.rel _).trans rfl) rfl ?_; intro K hK; go_big_quiet_op; go_big_quiet_on) | (refine wpR_ptr hp2 rfl ((hR.rel _).trans rfl) rfl rfl ?_; intro K hK; go_big_quiet_op; go_big_quiet_on) | (refine wpR_skip pick rfl ?_; intro K hK; go_big_quiet_op; go_big_quiet_on))
  refine wpR_rel pick rfl ((hR.rel _).trans rfl) ((hR.turns _).trans rfl) ?_ ?_
  · intro u hu
    have hk := hR.since hu.1
    have hks := hk.size
    refine relAt_load_mid 101 (.tmp 6) rfl tb 0 rfl [.bool false, .int .u64 0, .int .u64 H.src, .bool false, .int .u64 0, .int .u64 H.dst, .int .u8 H.ttl] _ ((HTB3.out.kept hk (fun h => HTR.out h.symm)).range) Tryz.underlying101 rfl (by kernel_rfl) ?_
    exact ⟨hR.into0 (Kept.refl _ _), hR.put 0 rfl rfl rfl⟩
  intro v hv
  obtain ⟨u, _, hu⟩ := hv
  obtain rfl := hR.get 0 rfl hu
  clear hu
  intro K hK
  go_big_quiet_op
  go_big_quiet_on
  repeat (first | (refine wpR_det hp2 rfl ((hR.rel _).trans rfl) rfl ?_; intro K hK; go_big_quiet_op; go_big_quiet_on) | (refine wpR_ptr hp2 rfl ((hR.rel _).trans rfl) rfl rfl ?_; intro K hK; go_big_quiet_op; go_big_quiet_on) | (refine wpR_skip pick rfl ?_; intro K hK; go_big_quiet_op; go_big_quiet_on))
  refine wpR_turn pick rfl ((hR.rel _).trans rfl) ((hR.turns _).trans rfl) ((hR.adds _).trans rfl) ?_ ?_
  · intro u hu hM
    have hk := hR.since hu.1
    have hks := hk.size
    have hK0 := hR.first hM
    refine relAt_store_mid 101 (.tmp 3) (.tmp 43) rfl rb 0 #[.bool false, .int .u64 0, .int .u64 H.src, .bool false, .int .u64 0, .int .u64 H.dst, .int .u8 H.ttl] rfl rfl ((HRB3.out.kept hK0 (fun h => h)).there rfl) (by kernel_rfl) (by simp [Value.oneCell']) ?_
    exact ⟨hR.into (Kept.setCells (S := fun i => i = rb) rfl _ _ (Kept.refl _ _)), hR.put 1 rfl rfl ((HRB3.out.kept hK0 (fun h => h)).setAll #[.bool false, .int .u64 0, .int .u64 H.src, .bool false, .int .u64 0, .int .u64 H.dst, .int .u8 H.ttl] rfl)⟩
  intro v hv
  obtain ⟨u, _, hu⟩ := hv
  obtain hT3 := hR.get 1 rfl hu
  clear hu
  intro K hK
  go_big_quiet_op
  go_big_quiet_on
  repeat (first | (refine wpR_det hp2 rfl ((hR.rel _).trans rfl) rfl ?_; intro K hK; go_big_quiet_op; go_big_quiet_on) | (refine wpR_ptr hp2 rfl ((hR.rel _).trans rfl) rfl rfl ?_; intro K hK; go_big_quiet_op; go_big_quiet_on) | (refine wpR_skip pick rfl ?_; intro K hK; go_big_quiet_op; go_big_quiet_on))
  refine wpR_nil ?_
  intro w6 hk2 hF hM
  have HRB6 := Lib.hid (hR.get 1 rfl hM)
  have HK6 := Lib.hid (HK3.out.then hk2 (fun i hi e => by have := HNE.out; omega))
  have HXR6 := Lib.hid (Row.kept HXR3.out hk2 (fun g hg e => by have := (HX2.out.lt g hg).1; have := HRB1.out.lt; omega))
  clear hF hM hp1 hp2 hR hk2
  go_wp2_with fail
  exact bodyPost_ret (results_tct1 (P := Tryz.prog) (show Tryz.f72.results = _ from rfl) _ _ rb 101 #[.bool false, .int .u64 0, .int .u64 H.src, .bool false, .int .u64 0, .int .u64 H.dst, .int .u8 H.ttl] _ rfl HRB6.out Tryz.underlying101 rfl (by kernel_rfl)) rfl ⟨XA, xc, rfl, HXR6.out.more HK1.out.size, HK6.out⟩
end Go.Proofs.YtdnbhmfofphblaaGreatDoor
