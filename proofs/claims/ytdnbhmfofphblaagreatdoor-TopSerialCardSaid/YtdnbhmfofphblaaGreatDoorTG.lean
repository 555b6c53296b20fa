/- tcp's with, WithVal, WithEcho, at segments with time stamps and no load. -/
import Derived.Test.YtdnbhmfofphblaaGreatDoorTF
namespace Go.Proofs.YtdnbhmfofphblaaGreatDoor
open Go.RowKit
set_option maxRecDepth 100000
set_option linter.unusedVariables false
set_option linter.unusedSimpArgs false
theorem take_splice {α : Type} (L : List α) (off n : Nat) (cs : List α) (h : off + cs.length ≤ n) (hn : n ≤ L.length) : (splice L off cs).take n = splice (L.take n) off cs := by
  unfold splice
  rw [List.take_take, Nat.min_eq_left (by omega), List.take_append, List.take_append, List.take_of_length_le (l := L.take off) (by simp; omega), List.take_of_length_le (l := cs) (by simp; omega), List.length_take, Nat.min_eq_left (by omega), List.take_drop, show off + cs.length + (n - off - cs.length) = n by omega]
theorem Own.splice_ {w' : World} {e g cap off : Nat} {l x : List UInt8} {cur : Array Value} (h1 : l.length ≤ cap) (h2 : cap ≤ maxLen) (h3 : cur.size = cap) (h4 : cur.toList.take l.length = bcs l) (hf : off + x.length ≤ l.length)
    (h : w'.heap[g]? = some (.cells (splice cur.toList off (bcs x)).toArray e (0, 0))) : Own w' e g cap (over l off x) := by
  have hl : (over l off x).length = l.length := over_length l off x hf
  have hcl : cur.toList.length = cap := by rw [Array.length_toList]; exact h3
  refine ⟨_, h, by rw [hl]; exact h1, h2, ?_, ?_⟩
  · rw [List.size_toArray, length_splice _ _ _ (by rw [bcs_length]; omega)]; exact hcl
  · rw [hl, take_splice _ _ _ _ (by rw [bcs_length]; exact hf) (by omega), h4, splice_bytes]
    rfl
set_option maxRecDepth 100000 in
set_option maxHeartbeats 8000000 in
theorem with0T (sp dp seq ack fl wi sm ur : Int) (s0 : 0 ≤ sm) (s1 : sm ≤ 65535) (OA : Option Addr) (oc : Nat) (LA : Option Addr) (lc : Nat) (a e v : Int) (a0 : 0 ≤ a) (a1 : a ≤ 4294967295) (e0 : 0 ≤ e) (e1 : e ≤ 4294967295) (v0 : 0 ≤ v) (v1 : v ≤ 4294967295) (w : World) (hO : BS w w.heap.size OA ([1, 1, 8, 10] ++ (digs 4 a ++ digs 4 e))) :
    Calls Tryz.prog 81 #[.agg #[.int .u16 sp, .int .u16 dp, .int .u32 seq, .int .u32 ack, .int .u8 fl, .int .u16 wi, .int .u16 sm, .int .u16 ur, .slice OA 12 oc, .slice LA 0 lc], .int .i64 0, .int .u32 v] w fun e' w' => ∃ vg vc UA uc r, e' = .returned (.agg #[.int .u16 sp, .int .u16 dp, .int .u32 seq, .int .u32 ack, .int .u8 fl, .int .u16 wi, .int .u16 r, .int .u16 ur, .slice (some ⟨vg, 0, none⟩) 12 vc, .slice UA 0 uc]) ∧ 0 ≤ r ∧ r ≤ 65535 ∧ Row w' w.heap.size 5 (.slice (some ⟨vg, 0, none⟩) 12 vc) (bcs ([1, 1, 8, 10] ++ (digs 4 v ++ digs 4 e))) ∧ Kept (fun _ => False) w w' := by
  have hsz : (Tryz.prog.info? 5).map (·.size) = some 1 := by kernel_rfl
  have HO := Lib.hid hO
  have HL := Lib.hid (show ([1, 1, 8, 10] ++ (digs 4 a ++ digs 4 e)).length = 12 by simp [digs_length])
  have T := Lib.hid (fld_digs4 a e a0 a1 e0 e1)
  have H8 := Lib.hid (show (digs 4 a ++ digs 4 e).length = 8 by rw [List.length_append, digs_length, digs_length])
  clear hO
  go_enter Tryz.func81, Tryz.ntmps81
  go_upto_region 1 with fail
  obtain ⟨w1, hw1⟩ : ∃ w1 : World, w1 = ((w.alloc (.cells #[.int .u16 sp, .int .u16 dp, .int .u32 seq, .int .u32 ack, .int .u8 fl, .int .u16 wi, .int .u16 sm, .int .u16 ur, .slice OA 12 oc, .slice LA 0 lc] 48)).alloc (.cells #[.int .u16 0, .int .u16 0, .int .u32 0, .int .u32 0, .int .u8 0, .int .u16 0, .int .u16 0, .int .u16 0, .slice none 0 0, .slice none 0 0] 48)) := ⟨_, rfl⟩
  have HSB1 := Lib.hid (show Blk w1 w.heap.size 48 #[.int .u16 sp, .int .u16 dp, .int .u32 seq, .int .u32 ack, .int .u8 fl, .int .u16 wi, .int .u16 sm, .int .u16 ur, .slice OA 12 oc, .slice LA 0 lc] by rw [hw1]; exact (Blk.new _ _ _).alloc _)
  have HRB1 := Lib.hid (show Blk w1 (w.heap.size + 1) 48 #[.int .u16 0, .int .u16 0, .int .u32 0, .int .u32 0, .int .u8 0, .int .u16 0, .int .u16 0, .int .u16 0, .slice none 0 0, .slice none 0 0] by rw [hw1]; exact Blk.new_ (by simp) _ _)
  have HK1 := Lib.hid (show Kept (fun _ => False) w w1 by rw [hw1]; exact ((Kept.refl _ _).alloc _).alloc _)
  rw [← hw1]
  clear hw1
  obtain ⟨rb, hrb⟩ : ∃ rb, w.heap.size + 1 = rb := ⟨_, rfl⟩
  rw [hrb] at HRB1
  (try rw [hrb])
  obtain ⟨sb, hsb⟩ : ∃ sb, w.heap.size = sb := ⟨_, rfl⟩
  rw [hsb] at HSB1
  (try rw [hsb])
  have HNE := Lib.hid (show sb = w.heap.size + 0 ∧ rb = w.heap.size + 1 ∧ True from ⟨by omega, by omega, trivial⟩)
  clear hsb hrb
  have cSB := HSB1.out.cell
  have lSB := HSB1.out.lt
  have fSB := HSB1.out.frozen
  have cRB := HRB1.out.cell
  have lRB := HRB1.out.lt
  have fRB := HRB1.out.frozen
  have HCP := Lib.hid (copiedT sp dp seq ack fl wi sm ur OA oc LA lc ([1, 1, 8, 10] ++ (digs 4 a ++ digs 4 e)) [] 12 0 HL.out rfl (by omega) (by omega) w1 (HO.out.on HK1.out (fun _ _ h => h)) .nil)
  go_wp2_with (show wpList _ _ _ ((⟨_, .load 48 (.tmp 3), _, _, _, none⟩ : Oper) :: _) _ _; refine wpList_load_mid rfl 48 (.tmp 3) rfl sb 0 rfl [.int .u16 sp, .int .u16 dp, .int .u32 seq, .int .u32 ack, .int .u8 fl, .int .u16 wi, .int .u16 sm, .int .u16 ur, .slice OA 12 oc, .slice LA 0 lc] _ HSB1.out.range Tryz.underlying48 rfl (by kernel_rfl) ?_)
  refine HCP.out.mono ?_
  rintro e' w2 ⟨VA, vc, UA, uc, rfl, hv, -, hk⟩
  obtain ⟨vg, vc', hve, -, -, -⟩ := hv.at (i := 0) (by rw [bcs_length, HL.out]; omega)
  rw [bcs_length, HL.out] at hve
  injection hve with ea _ ec
  subst ea ec
  have HV2 := Lib.hid hv
  have HVC := Lib.hid (show 12 ≤ vc ∧ vc ≤ maxLen by obtain ⟨_, c', e', h1, h2⟩ := hv.shape; injection e' with _ _ ec; subst ec; rw [bcs_length, HL.out] at h1; exact ⟨h1, h2⟩)
  have HK2 := Lib.hid (HK1.out.trans hk)
  have HS2 := Lib.hid (show Kept (fun _ => False) w1 w2 from hk)
  have HSB2 := Lib.hid (HSB1.out.kept hk (fun h => h))
  have HRB2 := Lib.hid (HRB1.out.kept hk (fun h => h))
  clear cSB lSB fSB cRB lRB fRB
  have cSB := HSB2.out.cell
  have lSB := HSB2.out.lt
  have fSB := HSB2.out.frozen
  have cRB := HRB2.out.cell
  have lRB := HRB2.out.lt
  have fRB := HRB2.out.frozen
  clear hk hv HCP
  go_upto_region 2 with (show wpList _ _ _ ((⟨none, .store 48 (.tmp 3) _, _, _, _, none⟩ : Oper) :: _) _ _; refine wpList_store_mid rfl 48 (.tmp 3) _ rfl sb 0 #[.int .u16 sp, .int .u16 dp, .int .u32 seq, .int .u32 ack, .int .u8 fl, .int .u16 wi, .int .u16 sm, .int .u16 ur, .slice (some ⟨vg, 0, none⟩) 12 vc, .slice UA 0 uc] rfl rfl (HSB2.out.there rfl) (by kernel_rfl) (by simp [Value.oneCell']) ?_)
  generalize hwq : World.setCells _ _ _ _ = w3
  have HX3 := Lib.hid (show Kept (fun i => i = sb) w2 w3 by rw [← hwq]; exact Kept.setCells (S := fun i => i = sb) rfl _ _ (Kept.refl _ _))
  have HSB3 := Lib.hid (show Blk w3 sb 48 #[.int .u16 sp, .int .u16 dp, .int .u32 seq, .int .u32 ack, .int .u8 fl, .int .u16 wi, .int .u16 sm, .int .u16 ur, .slice (some ⟨vg, 0, none⟩) 12 vc, .slice UA 0 uc] by rw [← hwq]; exact HSB2.out.setAll #[.int .u16 sp, .int .u16 dp, .int .u32 seq, .int .u32 ack, .int .u8 fl, .int .u16 wi, .int .u16 sm, .int .u16 ur, .slice (some ⟨vg, 0, none⟩) 12 vc, .slice UA 0 uc] rfl)
  have HRB3 := Lib.hid (HRB2.out.kept HX3.out (fun h => by have := HNE.out; omega))
  have HK3 := Lib.hid (HK2.out.then HX3.out (fun i hi e => by have := HNE.out; omega))
  have HV3 := Lib.hid (Row.kept HV2.out HX3.out (fun g hg e => by have := (HV2.out.lt g hg).1; have := HSB1.out.lt; have := HRB1.out.lt; omega))
  clear cSB lSB fSB cRB lRB fRB
  clear hwq
  have cSB := HSB3.out.cell
  have lSB := HSB3.out.lt
  have fSB := HSB3.out.frozen
  have cRB := HRB3.out.cell
  have lRB := HRB3.out.lt
  have fRB := HRB3.out.frozen
  have HST := Lib.hid (stampsT (some ⟨vg, 0, none⟩) vc w3.heap.size (digs 4 a ++ digs 4 e) H8.out w3 HV3.out.byt_bs)
  obtain ⟨hvc1, hvc2⟩ := HVC.out
  unfold maxLen at hvc2
  go_wp2_with fail
  refine HST.out.mono ?_
  rintro e' w' ⟨rfl, rfl⟩
  clear HST
  have kc : ¬ vc = 4 := by omega
  have HY := Lib.hid (show BS w3 w3.heap.size (some ⟨vg, 4, none⟩) (digs 4 a) from by
    have h := (HV3.out.byt_bs.drop_ 4).take_ 4
    simpa [digs] using h)
  go_wp2_with fail
  have hqq := readL_any (some ⟨vg, 4, none⟩) (vc - 4) (digs 4 a) w3 (by rw [digs_length]; omega) HY.out
  rw [digs_length] at hqq
  refine hqq.mono ?_
  clear hqq
  rintro e' w4 ⟨rd, rfl, hrd, hR, hbw⟩
  have HRD4 := Lib.hid (show RdL w4 rd ((digs 4 a).drop 0) by rw [List.drop_zero]; exact hR)
  have HX4 := Lib.hid (Kept.ofB (S := fun _ => False) hbw)
  have HGE := Lib.hid hrd
  clear hR hbw hrd
  go_wp2_with fail
  refine (rdLong rd 0 (digs 4 a) a w4 (by rw [digs_length]; omega) (by rw [digs_length]; omega) (by have h := fld_digs 4 a [] (num_digs4 a a0 a1); rwa [List.append_nil] at h) HRD4.out).mono ?_
  rintro e' w5 ⟨rfl, -, hK⟩
  have HX5 := Lib.hid (HX4.out.then hK (fun i hi e => by have := HGE.out; omega))
  have HK5 := Lib.hid (HK3.out.trans HX5.out)
  have HSB5 := Lib.hid (HSB3.out.kept HX5.out (fun h => h))
  have HRB5 := Lib.hid (HRB3.out.kept HX5.out (fun h => h))
  have HV5 := Lib.hid (Row.kept HV3.out HX5.out (fun _ _ h => h))
  clear hK cSB lSB fSB cRB lRB fRB
  have cSB := HSB5.out.cell
  have lSB := HSB5.out.lt
  have fSB := HSB5.out.frozen
  have cRB := HRB5.out.cell
  have lRB := HRB5.out.lt
  have fRB := HRB5.out.frozen
  go_upto_region 7 with fail
  refine wp_region_kept 7 [(6, fun x u => ∃ g, x = .slice (some ⟨g, 0, none⟩) 4 4 ∧ w5.heap.size ≤ g ∧ Own u 5 g 4 (digs 4 v))] ?st ?ne rfl (by kernel_rfl) (by kernel_rfl) ?_
  case st =>
    intro p hp
    simp only [List.mem_cons, List.not_mem_nil, or_false] at hp
    subst hp
    · rintro x u u' ⟨g, h1, h2, h3⟩ hk; exact ⟨g, h1, h2, h3.kept hk (fun h => h)⟩
  case ne =>
    intro p hp
    simp only [List.mem_cons, List.not_mem_nil, or_false] at hp
    subst hp
    · exact ⟨_, _, (Kept.refl _ _).alloc (.cells (bcs (digs 4 v)).toArray 5), w5.heap.size, rfl, Nat.le_refl _, by simpa [digs_length] using Own.of_blk (l := digs 4 v) (Blk.new _ _ _) (by rw [digs_length]; decide)⟩
  simp only [List.take_succ_cons, List.take_zero, List.drop_succ_cons, List.drop_zero]
  intro G pick hR hp1 hp2
  have sF : ∀ u i, (pick u).cell? ⟨sb, i, none⟩ = (#[.int .u16 sp, .int .u16 dp, .int .u32 seq, .int .u32 ack, .int .u8 fl, .int .u16 wi, .int .u16 sm, .int .u16 ur, .slice (some ⟨vg, 0, none⟩) 12 vc, .slice UA 0 uc] : Array Value)[i]? := fun u i => ((hp1 u).cell HSB5.out.lt (fun h => h) _).trans (HSB5.out.cell i)
  repeat (first | (refine wpR_det hp2 rfl ((hR.rel _).trans rfl) rfl ?_; intro K hK; go_big_quiet_op; go_big_quiet_on) | (refine wpR_ptr hp2 rfl ((hR.rel _).trans rfl) rfl rfl ?_; intro K hK; go_big_quiet_op; go_big_quiet_on) | (refine wpR_skip pick rfl ?_; intro K hK; go_big_quiet_op; go_big_quiet_on))
  refine wpR_rel pick rfl ((hR.rel _).trans rfl) ((hR.turns _).trans rfl) ?_ ?_
  · intro u hu
    have hk := hR.since hu.1
    have hks := hk.size
    unfold relAt
    go_simp
    refine (put_nil 4 v u v0 (by omega) (by omega)).mono ?_
    rintro e' w' ⟨rfl, hO, hbw⟩
    exact ⟨_, rfl, hR.into0 (Kept.ofB hbw), hR.put 0 rfl rfl ⟨_, rfl, hks, by simpa using hO⟩⟩
  intro v hv
  obtain ⟨u, _, hu⟩ := hv
  obtain ⟨pg, rfl, hpg, -⟩ := hR.get 0 rfl hu
  clear hu
  have HPG := Lib.hid hpg
  clear hpg
  intro K hK
  go_big_quiet_op
  go_big_quiet_on
  repeat (first | (refine wpR_det hp2 rfl ((hR.rel _).trans rfl) rfl ?_; intro K hK; go_big_quiet_op; go_big_quiet_on) | (refine wpR_ptr hp2 rfl ((hR.rel _).trans rfl) rfl rfl ?_; intro K hK; go_big_quiet_op; go_big_quiet_on) | (refine wpR_skip pick rfl ?_; intro K hK; go_big_quiet_op; go_big_quiet_on))
  refine wpR_nil ?_
  intro w6 hk2 hF hM
  obtain ⟨pg', e', -, hO6⟩ := (hR.get 0 rfl (hF _ _ (Got.upd_self _ _ _)))
  obtain rfl : pg = pg' := by injection e' with e' _ _; injection e' with e'; injection e'
  have HO6 := Lib.hid hO6
  have hk := hk2
  have HK6 := Lib.hid (HK5.out.trans hk)
  have HS6 := Lib.hid (show Kept (fun _ => False) w5 w6 from hk)
  have HSB6 := Lib.hid (HSB5.out.kept hk (fun h => h))
  have HRB6 := Lib.hid (HRB5.out.kept hk (fun h => h))
  clear cSB lSB fSB cRB lRB fRB
  have cSB := HSB6.out.cell
  have lSB := HSB6.out.lt
  have fSB := HSB6.out.frozen
  have cRB := HRB6.out.cell
  have lRB := HRB6.out.lt
  have fRB := HRB6.out.frozen
  have HV6 := Lib.hid (Row.kept HV5.out hk2 (fun _ _ h => h))
  clear hk hk2 hF hM hp1 hp2 hR sF hO6 e'
  obtain ⟨how, -, hvb⟩ := Row.own HV6.out
  obtain ⟨cur, hcu, h1, h2, h3, h4⟩ := how
  have HVB := Lib.hid (show w1.heap.size ≤ vg from (HV2.out.lt vg rfl).1)
  have HC := Lib.hid (And.intro h1 (And.intro h2 (And.intro h3 h4)))
  have hcl : vc = cur.toList.length := by rw [Array.length_toList]; exact h3.symm
  clear h1 h2 h3 h4 hvb
  go_wp2_with (refine wpList_copy_splice rfl (.tmp 35) (.tmp 38) 44 44 rfl 5 Tryz.underlying44 hsz (some ⟨vg, 4, none⟩) (some ⟨pg, 0, none⟩) 8 (vc - 4) 4 4 rfl rfl vg 4 cur.toList 5 ?d1 (bcs (digs 4 v)) ?d2 ?d3 ?d4 (bcs_one _) vg w6 (Below.refl _ _) (Nat.le_refl _) ?_)
  case d1 => unfold Blk at hcu; simpa using hcu
  case d2 => rw [bcs_length, digs_length]; rfl
  case d3 => exact fun hp j v hj => by simpa [Addr.add_lit] using HO6.out.bytes.news j v hj
  case d4 => simp [bcs_length, digs_length]; have := HVC.out.1; have := HC.out.2.2.1; omega
  intro w7 H7 hb7
  have HOW := Lib.hid (Own.splice_ (off := 4) (x := digs 4 v) HC.out.1 HC.out.2.1 HC.out.2.2.1 HC.out.2.2.2 (by rw [HL.out, digs_length]; omega) H7.out)
  have HV7 := Lib.hid (show Row w7 w1.heap.size 5 (.slice (some ⟨vg, 0, none⟩) 12 vc) (bcs ([1, 1, 8, 10] ++ (digs 4 v ++ digs 4 e))) from by
    have h := HOW.out.row_ HVB.out (n := 12) (by rw [over_length _ _ _ (by rw [HL.out, digs_length]; omega), HL.out])
    have e : over ([1, 1, 8, 10] ++ (digs 4 a ++ digs 4 e)) 4 (digs 4 v) = [1, 1, 8, 10] ++ (digs 4 v ++ digs 4 e) := by simp [over, digs]
    rwa [e] at h)
  have HX7 := Lib.hid (Kept.of_below (S := fun i => vg ≤ i) hb7 (fun i _ h => h))
  have HK7 := Lib.hid (HK6.out.then HX7.out (fun i hi e => by have := HVB.out; have := HK1.out.size; omega))
  have HSB7 := Lib.hid (HSB6.out.kept HX7.out (fun h => by have := HVB.out; have := HSB1.out.lt; omega))
  have HRB7 := Lib.hid (HRB6.out.kept HX7.out (fun h => by have := HVB.out; have := HRB1.out.lt; omega))
  clear H7 hb7 hcu hcl cSB lSB fSB cRB lRB fRB
  have cSB := HSB7.out.cell
  have lSB := HSB7.out.lt
  have fSB := HSB7.out.frozen
  have cRB := HRB7.out.cell
  have lRB := HRB7.out.lt
  have fRB := HRB7.out.frozen
  go_wp2_with fail
  refine (updLongT sm a v s0 s1 a0 a1 v0 v1 w7).mono ?_
  rintro e' w' ⟨r, rfl, r0, r1, rfl⟩
  go_upto_region 12 with fail
  generalize hwq : World.setCell _ _ _ = w8
  have HX8 := Lib.hid (show Kept (fun i => i = sb) w7 w8 by rw [← hwq]; exact Kept.setIn (S := fun i => i = sb) rfl (Kept.refl _ _))
  have HSB8 := Lib.hid (show Blk w8 sb 48 #[.int .u16 sp, .int .u16 dp, .int .u32 seq, .int .u32 ack, .int .u8 fl, .int .u16 wi, .int .u16 r, .int .u16 ur, .slice (some ⟨vg, 0, none⟩) 12 vc, .slice UA 0 uc] by rw [← hwq]; exact HSB7.out.set_to rfl)
  have HRB8 := Lib.hid (HRB7.out.kept HX8.out (fun h => by have := HNE.out; omega))
  have HK8 := Lib.hid (HK7.out.then HX8.out (fun i hi e => by have := HNE.out; omega))
  have HV8 := Lib.hid (Row.kept HV7.out HX8.out (fun g hg e => by have := (HV2.out.lt g hg).1; have := HSB1.out.lt; have := HRB1.out.lt; omega))
  clear cSB lSB fSB cRB lRB fRB
  clear hwq
  have cSB := HSB8.out.cell
  have lSB := HSB8.out.lt
  have fSB := HSB8.out.frozen
  have cRB := HRB8.out.cell
  have lRB := HRB8.out.lt
  have fRB := HRB8.out.frozen
  go_wp2_with (first | (show wpList _ _ _ ((⟨_, .load 48 (.tmp 3), _, _, _, none⟩ : Oper) :: _) _ _; refine wpList_load_mid rfl 48 (.tmp 3) rfl sb 0 rfl [.int .u16 sp, .int .u16 dp, .int .u32 seq, .int .u32 ack, .int .u8 fl, .int .u16 wi, .int .u16 r, .int .u16 ur, .slice (some ⟨vg, 0, none⟩) 12 vc, .slice UA 0 uc] _ HSB8.out.range Tryz.underlying48 rfl (by kernel_rfl) ?_) | (show wpList _ _ _ ((⟨none, .store 48 (.tmp 6) _, _, _, _, none⟩ : Oper) :: _) _ _; refine wpList_store_mid rfl 48 (.tmp 6) _ rfl rb 0 #[.int .u16 sp, .int .u16 dp, .int .u32 seq, .int .u32 ack, .int .u8 fl, .int .u16 wi, .int .u16 r, .int .u16 ur, .slice (some ⟨vg, 0, none⟩) 12 vc, .slice UA 0 uc] rfl rfl (HRB8.out.there rfl) (by kernel_rfl) (by simp [Value.oneCell']) ?_))
  generalize hwq : World.setCells _ _ _ _ = w9
  have HX9 := Lib.hid (show Kept (fun i => i = rb) w8 w9 by rw [← hwq]; exact Kept.setCells (S := fun i => i = rb) rfl _ _ (Kept.refl _ _))
  have HSB9 := Lib.hid (HSB8.out.kept HX9.out (fun h => by have := HNE.out; omega))
  have HRB9 := Lib.hid (show Blk w9 rb 48 #[.int .u16 sp, .int .u16 dp, .int .u32 seq, .int .u32 ack, .int .u8 fl, .int .u16 wi, .int .u16 r, .int .u16 ur, .slice (some ⟨vg, 0, none⟩) 12 vc, .slice UA 0 uc] by rw [← hwq]; exact HRB8.out.setAll #[.int .u16 sp, .int .u16 dp, .int .u32 seq, .int .u32 ack, .int .u8 fl, .int .u16 wi, .int .u16 r, .int .u16 ur, .slice (some ⟨vg, 0, none⟩) 12 vc, .slice UA 0 uc] rfl)
  have HK9 := Lib.hid (HK8.out.then HX9.out (fun i hi e => by have := HNE.out; omega))
  have HV9 := Lib.hid (Row.kept HV8.out HX9.out (fun g hg e => by have := (HV2.out.lt g hg).1; have := HSB1.out.lt; have := HRB1.out.lt; omega))
  clear cSB lSB fSB cRB lRB fRB
  clear hwq
  have cSB := HSB9.out.cell
  have lSB := HSB9.out.lt
  have fSB := HSB9.out.frozen
  have cRB := HRB9.out.cell
  have lRB := HRB9.out.lt
  have fRB := HRB9.out.frozen
  exact bodyPost_ret (results_blk1 (P := Tryz.prog) (show Tryz.f81.results = _ from rfl) _ _ rb 48 #[.int .u16 sp, .int .u16 dp, .int .u32 seq, .int .u32 ack, .int .u8 fl, .int .u16 wi, .int .u16 r, .int .u16 ur, .slice (some ⟨vg, 0, none⟩) 12 vc, .slice UA 0 uc] _ rfl HRB9.out Tryz.underlying48 rfl (by kernel_rfl)) rfl ⟨vg, vc, UA, uc, r, rfl, r0, r1, HV9.out.more HK1.out.size, HK9.out⟩
set_option maxRecDepth 100000 in
set_option maxHeartbeats 8000000 in
theorem with4T (sp dp seq ack fl wi sm ur : Int) (s0 : 0 ≤ sm) (s1 : sm ≤ 65535) (OA : Option Addr) (oc : Nat) (LA : Option Addr) (lc : Nat) (a e v : Int) (a0 : 0 ≤ a) (a1 : a ≤ 4294967295) (e0 : 0 ≤ e) (e1 : e ≤ 4294967295) (v0 : 0 ≤ v) (v1 : v ≤ 4294967295) (w : World) (hO : BS w w.heap.size OA ([1, 1, 8, 10] ++ (digs 4 a ++ digs 4 e))) :
    Calls Tryz.prog 81 #[.agg #[.int .u16 sp, .int .u16 dp, .int .u32 seq, .int .u32 ack, .int .u8 fl, .int .u16 wi, .int .u16 sm, .int .u16 ur, .slice OA 12 oc, .slice LA 0 lc], .int .i64 4, .int .u32 v] w fun e' w' => ∃ vg vc UA uc r, e' = .returned (.agg #[.int .u16 sp, .int .u16 dp, .int .u32 seq, .int .u32 ack, .int .u8 fl, .int .u16 wi, .int .u16 r, .int .u16 ur, .slice (some ⟨vg, 0, none⟩) 12 vc, .slice UA 0 uc]) ∧ 0 ≤ r ∧ r ≤ 65535 ∧ Row w' w.heap.size 5 (.slice (some ⟨vg, 0, none⟩) 12 vc) (bcs ([1, 1, 8, 10] ++ (digs 4 a ++ digs 4 v))) ∧ Kept (fun _ => False) w w' := by
  have hsz : (Tryz.prog.info? 5).map (·.size) = some 1 := by kernel_rfl
  have HO := Lib.hid hO
  have HL := Lib.hid (show ([1, 1, 8, 10] ++ (digs 4 a ++ digs 4 e)).length = 12 by simp [digs_length])
  have T := Lib.hid (fld_digs4 a e a0 a1 e0 e1)
  have H8 := Lib.hid (show (digs 4 a ++ digs 4 e).length = 8 by rw [List.length_append, digs_length, digs_length])
  clear hO
  go_enter Tryz.func81, Tryz.ntmps81
  go_upto_region 1 with fail
  obtain ⟨w1, hw1⟩ : ∃ w1 : World, w1 = ((w.alloc (.cells #[.int .u16 sp, .int .u16 dp, .int .u32 seq, .int .u32 ack, .int .u8 fl, .int .u16 wi, .int .u16 sm, .int .u16 ur, .slice OA 12 oc, .slice LA 0 lc] 48)).alloc (.cells #[.int .u16 0, .int .u16 0, .int .u32 0, .int .u32 0, .int .u8 0, .int .u16 0, .int .u16 0, .int .u16 0, .slice none 0 0, .slice none 0 0] 48)) := ⟨_, rfl⟩
  have HSB1 := Lib.hid (show Blk w1 w.heap.size 48 #[.int .u16 sp, .int .u16 dp, .int .u32 seq, .int .u32 ack, .int .u8 fl, .int .u16 wi, .int .u16 sm, .int .u16 ur, .slice OA 12 oc, .slice LA 0 lc] by rw [hw1]; exact (Blk.new _ _ _).alloc _)
  have HRB1 := Lib.hid (show Blk w1 (w.heap.size + 1) 48 #[.int .u16 0, .int .u16 0, .int .u32 0, .int .u32 0, .int .u8 0, .int .u16 0, .int .u16 0, .int .u16 0, .slice none 0 0, .slice none 0 0] by rw [hw1]; exact Blk.new_ (by simp) _ _)
  have HK1 := Lib.hid (show Kept (fun _ => False) w w1 by rw [hw1]; exact ((Kept.refl _ _).alloc _).alloc _)
  rw [← hw1]
  clear hw1
  obtain ⟨rb, hrb⟩ : ∃ rb, w.heap.size + 1 = rb := ⟨_, rfl⟩
  rw [hrb] at HRB1
  (try rw [hrb])
  obtain ⟨sb, hsb⟩ : ∃ sb, w.heap.size = sb := ⟨_, rfl⟩
  rw [hsb] at HSB1
  (try rw [hsb])
  have HNE := Lib.hid (show sb = w.heap.size + 0 ∧ rb = w.heap.size + 1 ∧ True from ⟨by omega, by omega, trivial⟩)
  clear hsb hrb
  have cSB := HSB1.out.cell
  have lSB := HSB1.out.lt
  have fSB := HSB1.out.frozen
  have cRB := HRB1.out.cell
  have lRB := HRB1.out.lt
  have fRB := HRB1.out.frozen
  have HCP := Lib.hid (copiedT sp dp seq ack fl wi sm ur OA oc LA lc ([1, 1, 8, 10] ++ (digs 4 a ++ digs 4 e)) [] 12 0 HL.out rfl (by omega) (by omega) w1 (HO.out.on HK1.out (fun _ _ h => h)) .nil)
  go_wp2_with (show wpList _ _ _ ((⟨_, .load 48 (.tmp 3), _, _, _, none⟩ : Oper) :: _) _ _; refine wpList_load_mid rfl 48 (.tmp 3) rfl sb 0 rfl [.int .u16 sp, .int .u16 dp, .int .u32 seq, .int .u32 ack, .int .u8 fl, .int .u16 wi, .int .u16 sm, .int .u16 ur, .slice OA 12 oc, .slice LA 0 lc] _ HSB1.out.range Tryz.underlying48 rfl (by kernel_rfl) ?_)
  refine HCP.out.mono ?_
  rintro e' w2 ⟨VA, vc, UA, uc, rfl, hv, -, hk⟩
  obtain ⟨vg, vc', hve, -, -, -⟩ := hv.at (i := 0) (by rw [bcs_length, HL.out]; omega)
  rw [bcs_length, HL.out] at hve
  injection hve with ea _ ec
  subst ea ec
  have HV2 := Lib.hid hv
  have HVC := Lib.hid (show 12 ≤ vc ∧ vc ≤ maxLen by obtain ⟨_, c', e', h1, h2⟩ := hv.shape; injection e' with _ _ ec; subst ec; rw [bcs_length, HL.out] at h1; exact ⟨h1, h2⟩)
  have HK2 := Lib.hid (HK1.out.trans hk)
  have HS2 := Lib.hid (show Kept (fun _ => False) w1 w2 from hk)
  have HSB2 := Lib.hid (HSB1.out.kept hk (fun h => h))
  have HRB2 := Lib.hid (HRB1.out.kept hk (fun h => h))
  clear cSB lSB fSB cRB lRB fRB
  have cSB := HSB2.out.cell
  have lSB := HSB2.out.lt
  have fSB := HSB2.out.frozen
  have cRB := HRB2.out.cell
  have lRB := HRB2.out.lt
  have fRB := HRB2.out.frozen
  clear hk hv HCP
  go_upto_region 2 with (show wpList _ _ _ ((⟨none, .store 48 (.tmp 3) _, _, _, _, none⟩ : Oper) :: _) _ _; refine wpList_store_mid rfl 48 (.tmp 3) _ rfl sb 0 #[.int .u16 sp, .int .u16 dp, .int .u32 seq, .int .u32 ack, .int .u8 fl, .int .u16 wi, .int .u16 sm, .int .u16 ur, .slice (some ⟨vg, 0, none⟩) 12 vc, .slice UA 0 uc] rfl rfl (HSB2.out.there rfl) (by kernel_rfl) (by simp [Value.oneCell']) ?_)
  generalize hwq : World.setCells _ _ _ _ = w3
  have HX3 := Lib.hid (show Kept (fun i => i = sb) w2 w3 by rw [← hwq]; exact Kept.setCells (S := fun i => i = sb) rfl _ _ (Kept.refl _ _))
  have HSB3 := Lib.hid (show Blk w3 sb 48 #[.int .u16 sp, .int .u16 dp, .int .u32 seq, .int .u32 ack, .int .u8 fl, .int .u16 wi, .int .u16 sm, .int .u16 ur, .slice (some ⟨vg, 0, none⟩) 12 vc, .slice UA 0 uc] by rw [← hwq]; exact HSB2.out.setAll #[.int .u16 sp, .int .u16 dp, .int .u32 seq, .int .u32 ack, .int .u8 fl, .int .u16 wi, .int .u16 sm, .int .u16 ur, .slice (some ⟨vg, 0, none⟩) 12 vc, .slice UA 0 uc] rfl)
  have HRB3 := Lib.hid (HRB2.out.kept HX3.out (fun h => by have := HNE.out; omega))
  have HK3 := Lib.hid (HK2.out.then HX3.out (fun i hi e => by have := HNE.out; omega))
  have HV3 := Lib.hid (Row.kept HV2.out HX3.out (fun g hg e => by have := (HV2.out.lt g hg).1; have := HSB1.out.lt; have := HRB1.out.lt; omega))
  clear cSB lSB fSB cRB lRB fRB
  clear hwq
  have cSB := HSB3.out.cell
  have lSB := HSB3.out.lt
  have fSB := HSB3.out.frozen
  have cRB := HRB3.out.cell
  have lRB := HRB3.out.lt
  have fRB := HRB3.out.frozen
  have HST := Lib.hid (stampsT (some ⟨vg, 0, none⟩) vc w3.heap.size (digs 4 a ++ digs 4 e) H8.out w3 HV3.out.byt_bs)
  obtain ⟨hvc1, hvc2⟩ := HVC.out
  unfold maxLen at hvc2
  go_wp2_with fail
  refine HST.out.mono ?_
  rintro e' w' ⟨rfl, rfl⟩
  clear HST
  have kc : ¬ vc = 8 := by omega
  have HY := Lib.hid (show BS w3 w3.heap.size (some ⟨vg, 8, none⟩) (digs 4 e) from by
    have h := (HV3.out.byt_bs.drop_ 8).take_ 4
    simpa [digs] using h)
  go_wp2_with fail
  have hqq := readL_any (some ⟨vg, 8, none⟩) (vc - 8) (digs 4 e) w3 (by rw [digs_length]; omega) HY.out
  rw [digs_length] at hqq
  refine hqq.mono ?_
  clear hqq
  rintro e' w4 ⟨rd, rfl, hrd, hR, hbw⟩
  have HRD4 := Lib.hid (show RdL w4 rd ((digs 4 e).drop 0) by rw [List.drop_zero]; exact hR)
  have HX4 := Lib.hid (Kept.ofB (S := fun _ => False) hbw)
  have HGE := Lib.hid hrd
  clear hR hbw hrd
  go_wp2_with fail
  refine (rdLong rd 0 (digs 4 e) e w4 (by rw [digs_length]; omega) (by rw [digs_length]; omega) (by have h := fld_digs 4 e [] (num_digs4 e e0 e1); rwa [List.append_nil] at h) HRD4.out).mono ?_
  rintro e' w5 ⟨rfl, -, hK⟩
  have HX5 := Lib.hid (HX4.out.then hK (fun i hi e => by have := HGE.out; omega))
  have HK5 := Lib.hid (HK3.out.trans HX5.out)
  have HSB5 := Lib.hid (HSB3.out.kept HX5.out (fun h => h))
  have HRB5 := Lib.hid (HRB3.out.kept HX5.out (fun h => h))
  have HV5 := Lib.hid (Row.kept HV3.out HX5.out (fun _ _ h => h))
  clear hK cSB lSB fSB cRB lRB fRB
  have cSB := HSB5.out.cell
  have lSB := HSB5.out.lt
  have fSB := HSB5.out.frozen
  have cRB := HRB5.out.cell
  have lRB := HRB5.out.lt
  have fRB := HRB5.out.frozen
  go_upto_region 7 with fail
  refine wp_region_kept 7 [(6, fun x u => ∃ g, x = .slice (some ⟨g, 0, none⟩) 4 4 ∧ w5.heap.size ≤ g ∧ Own u 5 g 4 (digs 4 v))] ?st ?ne rfl (by kernel_rfl) (by kernel_rfl) ?_
  case st =>
    intro p hp
    simp only [List.mem_cons, List.not_mem_nil, or_false] at hp
    subst hp
    · rintro x u u' ⟨g, h1, h2, h3⟩ hk; exact ⟨g, h1, h2, h3.kept hk (fun h => h)⟩
  case ne =>
    intro p hp
    simp only [List.mem_cons, List.not_mem_nil, or_false] at hp
    subst hp
    · exact ⟨_, _, (Kept.refl _ _).alloc (.cells (bcs (digs 4 v)).toArray 5), w5.heap.size, rfl, Nat.le_refl _, by simpa [digs_length] using Own.of_blk (l := digs 4 v) (Blk.new _ _ _) (by rw [digs_length]; decide)⟩
  simp only [List.take_succ_cons, List.take_zero, List.drop_succ_cons, List.drop_zero]
  intro G pick hR hp1 hp2
  have sF : ∀ u i, (pick u).cell? ⟨sb, i, none⟩ = (#[.int .u16 sp, .int .u16 dp, .int .u32 seq, .int .u32 ack, .int .u8 fl, .int .u16 wi, .int .u16 sm, .int .u16 ur, .slice (some ⟨vg, 0, none⟩) 12 vc, .slice UA 0 uc] : Array Value)[i]? := fun u i => ((hp1 u).cell HSB5.out.lt (fun h => h) _).trans (HSB5.out.cell i)
  repeat (first | (refine wpR_det hp2 rfl ((hR.rel _).trans rfl) rfl ?_; intro K hK; go_big_quiet_op; go_big_quiet_on) | (refine wpR_ptr hp2 rfl ((hR.rel _).trans rfl) rfl rfl ?_; intro K hK; go_big_quiet_op; go_big_quiet_on) | (refine wpR_skip pick rfl ?_; intro K hK; go_big_quiet_op; go_big_quiet_on))
  refine wpR_rel pick rfl ((hR.rel _).trans rfl) ((hR.turns _).trans rfl) ?_ ?_
  · intro u hu
    have hk := hR.since hu.1
    have hks := hk.size
    unfold relAt
    go_simp
    refine (put_nil 4 v u v0 (by omega) (by omega)).mono ?_
    rintro e' w' ⟨rfl, hO, hbw⟩
    exact ⟨_, rfl, hR.into0 (Kept.ofB hbw), hR.put 0 rfl rfl ⟨_, rfl, hks, by simpa using hO⟩⟩
  intro v hv
  obtain ⟨u, _, hu⟩ := hv
  obtain ⟨pg, rfl, hpg, -⟩ := hR.get 0 rfl hu
  clear hu
  have HPG := Lib.hid hpg
  clear hpg
  intro K hK
  go_big_quiet_op
  go_big_quiet_on
  repeat (first | (refine wpR_det hp2 rfl ((hR.rel _).trans rfl) rfl ?_; intro K hK; go_big_quiet_op; go_big_quiet_on) | (refine wpR_ptr hp2 rfl ((hR.rel _).trans rfl) rfl rfl ?_; intro K hK; go_big_quiet_op; go_big_quiet_on) | (refine wpR_skip pick rfl ?_; intro K hK; go_big_quiet_op; go_big_quiet_on))
  refine wpR_nil ?_
  intro w6 hk2 hF hM
  obtain ⟨pg', e', -, hO6⟩ := (hR.get 0 rfl (hF _ _ (Got.upd_self _ _ _)))
  obtain rfl : pg = pg' := by injection e' with e' _ _; injection e' with e'; injection e'
  have HO6 := Lib.hid hO6
  have hk := hk2
  have HK6 := Lib.hid (HK5.out.trans hk)
  have HS6 := Lib.hid (show Kept (fun _ => False) w5 w6 from hk)
  have HSB6 := Lib.hid (HSB5.out.kept hk (fun h => h))
  have HRB6 := Lib.hid (HRB5.out.kept hk (fun h => h))
  clear cSB lSB fSB cRB lRB fRB
  have cSB := HSB6.out.cell
  have lSB := HSB6.out.lt
  have fSB := HSB6.out.frozen
  have cRB := HRB6.out.cell
  have lRB := HRB6.out.lt
  have fRB := HRB6.out.frozen
  have HV6 := Lib.hid (Row.kept HV5.out hk2 (fun _ _ h => h))
  clear hk hk2 hF hM hp1 hp2 hR sF hO6 e'
  obtain ⟨how, -, hvb⟩ := Row.own HV6.out
  obtain ⟨cur, hcu, h1, h2, h3, h4⟩ := how
  have HVB := Lib.hid (show w1.heap.size ≤ vg from (HV2.out.lt vg rfl).1)
  have HC := Lib.hid (And.intro h1 (And.intro h2 (And.intro h3 h4)))
  have hcl : vc = cur.toList.length := by rw [Array.length_toList]; exact h3.symm
  clear h1 h2 h3 h4 hvb
  go_wp2_with (refine wpList_copy_splice rfl (.tmp 35) (.tmp 38) 44 44 rfl 5 Tryz.underlying44 hsz (some ⟨vg, 8, none⟩) (some ⟨pg, 0, none⟩) 4 (vc - 8) 4 4 rfl rfl vg 8 cur.toList 5 ?d1 (bcs (digs 4 v)) ?d2 ?d3 ?d4 (bcs_one _) vg w6 (Below.refl _ _) (Nat.le_refl _) ?_)
  case d1 => unfold Blk at hcu; simpa using hcu
  case d2 => rw [bcs_length, digs_length]; rfl
  case d3 => exact fun hp j v hj => by simpa [Addr.add_lit] using HO6.out.bytes.news j v hj
  case d4 => simp [bcs_length, digs_length]; have := HVC.out.1; have := HC.out.2.2.1; omega
  intro w7 H7 hb7
  have HOW := Lib.hid (Own.splice_ (off := 8) (x := digs 4 v) HC.out.1 HC.out.2.1 HC.out.2.2.1 HC.out.2.2.2 (by rw [HL.out, digs_length]; omega) H7.out)
  have HV7 := Lib.hid (show Row w7 w1.heap.size 5 (.slice (some ⟨vg, 0, none⟩) 12 vc) (bcs ([1, 1, 8, 10] ++ (digs 4 a ++ digs 4 v))) from by
    have h := HOW.out.row_ HVB.out (n := 12) (by rw [over_length _ _ _ (by rw [HL.out, digs_length]; omega), HL.out])
    have e : over ([1, 1, 8, 10] ++ (digs 4 a ++ digs 4 e)) 8 (digs 4 v) = [1, 1, 8, 10] ++ (digs 4 a ++ digs 4 v) := by simp [over, digs]
    rwa [e] at h)
  have HX7 := Lib.hid (Kept.of_below (S := fun i => vg ≤ i) hb7 (fun i _ h => h))
  have HK7 := Lib.hid (HK6.out.then HX7.out (fun i hi e => by have := HVB.out; have := HK1.out.size; omega))
  have HSB7 := Lib.hid (HSB6.out.kept HX7.out (fun h => by have := HVB.out; have := HSB1.out.lt; omega))
  have HRB7 := Lib.hid (HRB6.out.kept HX7.out (fun h => by have := HVB.out; have := HRB1.out.lt; omega))
  clear H7 hb7 hcu hcl cSB lSB fSB cRB lRB fRB
  have cSB := HSB7.out.cell
  have lSB := HSB7.out.lt
  have fSB := HSB7.out.frozen
  have cRB := HRB7.out.cell
  have lRB := HRB7.out.lt
  have fRB := HRB7.out.frozen
  go_wp2_with fail
  refine (updLongT sm e v s0 s1 e0 e1 v0 v1 w7).mono ?_
  rintro e' w' ⟨r, rfl, r0, r1, rfl⟩
  go_upto_region 12 with fail
  generalize hwq : World.setCell _ _ _ = w8
  have HX8 := Lib.hid (show Kept (fun i => i = sb) w7 w8 by rw [← hwq]; exact Kept.setIn (S := fun i => i = sb) rfl (Kept.refl _ _))
  have HSB8 := Lib.hid (show Blk w8 sb 48 #[.int .u16 sp, .int .u16 dp, .int .u32 seq, .int .u32 ack, .int .u8 fl, .int .u16 wi, .int .u16 r, .int .u16 ur, .slice (some ⟨vg, 0, none⟩) 12 vc, .slice UA 0 uc] by rw [← hwq]; exact HSB7.out.set_to rfl)
  have HRB8 := Lib.hid (HRB7.out.kept HX8.out (fun h => by have := HNE.out; omega))
  have HK8 := Lib.hid (HK7.out.then HX8.out (fun i hi e => by have := HNE.out; omega))
  have HV8 := Lib.hid (Row.kept HV7.out HX8.out (fun g hg e => by have := (HV2.out.lt g hg).1; have := HSB1.out.lt; have := HRB1.out.lt; omega))
  clear cSB lSB fSB cRB lRB fRB
  clear hwq
  have cSB := HSB8.out.cell
  have lSB := HSB8.out.lt
  have fSB := HSB8.out.frozen
  have cRB := HRB8.out.cell
  have lRB := HRB8.out.lt
  have fRB := HRB8.out.frozen
  go_wp2_with (first | (show wpList _ _ _ ((⟨_, .load 48 (.tmp 3), _, _, _, none⟩ : Oper) :: _) _ _; refine wpList_load_mid rfl 48 (.tmp 3) rfl sb 0 rfl [.int .u16 sp, .int .u16 dp, .int .u32 seq, .int .u32 ack, .int .u8 fl, .int .u16 wi, .int .u16 r, .int .u16 ur, .slice (some ⟨vg, 0, none⟩) 12 vc, .slice UA 0 uc] _ HSB8.out.range Tryz.underlying48 rfl (by kernel_rfl) ?_) | (show wpList _ _ _ ((⟨none, .store 48 (.tmp 6) _, _, _, _, none⟩ : Oper) :: _) _ _; refine wpList_store_mid rfl 48 (.tmp 6) _ rfl rb 0 #[.int .u16 sp, .int .u16 dp, .int .u32 seq, .int .u32 ack, .int .u8 fl, .int .u16 wi, .int .u16 r, .int .u16 ur, .slice (some ⟨vg, 0, none⟩) 12 vc, .slice UA 0 uc] rfl rfl (HRB8.out.there rfl) (by kernel_rfl) (by simp [Value.oneCell']) ?_))
  generalize hwq : World.setCells _ _ _ _ = w9
  have HX9 := Lib.hid (show Kept (fun i => i = rb) w8 w9 by rw [← hwq]; exact Kept.setCells (S := fun i => i = rb) rfl _ _ (Kept.refl _ _))
  have HSB9 := Lib.hid (HSB8.out.kept HX9.out (fun h => by have := HNE.out; omega))
  have HRB9 := Lib.hid (show Blk w9 rb 48 #[.int .u16 sp, .int .u16 dp, .int .u32 seq, .int .u32 ack, .int .u8 fl, .int .u16 wi, .int .u16 r, .int .u16 ur, .slice (some ⟨vg, 0, none⟩) 12 vc, .slice UA 0 uc] by rw [← hwq]; exact HRB8.out.setAll #[.int .u16 sp, .int .u16 dp, .int .u32 seq, .int .u32 ack, .int .u8 fl, .int .u16 wi, .int .u16 r, .int .u16 ur, .slice (some ⟨vg, 0, none⟩) 12 vc, .slice UA 0 uc] rfl)
  have HK9 := Lib.hid (HK8.out.then HX9.out (fun i hi e => by have := HNE.out; omega))
  have HV9 := Lib.hid (Row.kept HV8.out HX9.out (fun g hg e => by have := (HV2.out.lt g hg).1; have := HSB1.out.lt; have := HRB1.out.lt; omega))
  clear cSB lSB fSB cRB lRB fRB
  clear hwq
  have cSB := HSB9.out.cell
  have lSB := HSB9.out.lt
  have fSB := HSB9.out.frozen
  have cRB := HRB9.out.cell
  have lRB := HRB9.out.lt
  have fRB := HRB9.out.frozen
  exact bodyPost_ret (results_blk1 (P := Tryz.prog) (show Tryz.f81.results = _ from rfl) _ _ rb 48 #[.int .u16 sp, .int .u16 dp, .int .u32 seq, .int .u32 ack, .int .u8 fl, .int .u16 wi, .int .u16 r, .int .u16 ur, .slice (some ⟨vg, 0, none⟩) 12 vc, .slice UA 0 uc] _ rfl HRB9.out Tryz.underlying48 rfl (by kernel_rfl)) rfl ⟨vg, vc, UA, uc, r, rfl, r0, r1, HV9.out.more HK1.out.size, HK9.out⟩
set_option maxRecDepth 100000 in
set_option maxHeartbeats 8000000 in
theorem withValT (sp dp seq ack fl wi sm ur : Int) (s0 : 0 ≤ sm) (s1 : sm ≤ 65535) (OA : Option Addr) (oc : Nat) (LA : Option Addr) (lc : Nat) (a e v : Int) (a0 : 0 ≤ a) (a1 : a ≤ 4294967295) (e0 : 0 ≤ e) (e1 : e ≤ 4294967295) (v0 : 0 ≤ v) (v1 : v ≤ 4294967295) (w : World) (hO : BS w w.heap.size OA ([1, 1, 8, 10] ++ (digs 4 a ++ digs 4 e))) :
    Calls Tryz.prog 32 #[.agg #[.int .u16 sp, .int .u16 dp, .int .u32 seq, .int .u32 ack, .int .u8 fl, .int .u16 wi, .int .u16 sm, .int .u16 ur, .slice OA 12 oc, .slice LA 0 lc], .int .u32 v] w fun e' w' => ∃ vg vc UA uc r, e' = .returned (.agg #[.int .u16 sp, .int .u16 dp, .int .u32 seq, .int .u32 ack, .int .u8 fl, .int .u16 wi, .int .u16 r, .int .u16 ur, .slice (some ⟨vg, 0, none⟩) 12 vc, .slice UA 0 uc]) ∧ 0 ≤ r ∧ r ≤ 65535 ∧ Row w' w.heap.size 5 (.slice (some ⟨vg, 0, none⟩) 12 vc) (bcs ([1, 1, 8, 10] ++ (digs 4 v ++ digs 4 e))) ∧ Kept (fun _ => False) w w' := by
  have HO := Lib.hid hO
  clear hO
  go_enter Tryz.func32, Tryz.ntmps32
  go_upto_region 1 with fail
  obtain ⟨w1, hw1⟩ : ∃ w1 : World, w1 = ((w.alloc (.cells #[.int .u16 sp, .int .u16 dp, .int .u32 seq, .int .u32 ack, .int .u8 fl, .int .u16 wi, .int .u16 sm, .int .u16 ur, .slice OA 12 oc, .slice LA 0 lc] 48)).alloc (.cells #[.int .u16 0, .int .u16 0, .int .u32 0, .int .u32 0, .int .u8 0, .int .u16 0, .int .u16 0, .int .u16 0, .slice none 0 0, .slice none 0 0] 48)) := ⟨_, rfl⟩
  have HSB1 := Lib.hid (show Blk w1 w.heap.size 48 #[.int .u16 sp, .int .u16 dp, .int .u32 seq, .int .u32 ack, .int .u8 fl, .int .u16 wi, .int .u16 sm, .int .u16 ur, .slice OA 12 oc, .slice LA 0 lc] by rw [hw1]; exact (Blk.new _ _ _).alloc _)
  have HRB1 := Lib.hid (show Blk w1 (w.heap.size + 1) 48 #[.int .u16 0, .int .u16 0, .int .u32 0, .int .u32 0, .int .u8 0, .int .u16 0, .int .u16 0, .int .u16 0, .slice none 0 0, .slice none 0 0] by rw [hw1]; exact Blk.new_ (by simp) _ _)
  have HK1 := Lib.hid (show Kept (fun _ => False) w w1 by rw [hw1]; exact ((Kept.refl _ _).alloc _).alloc _)
  rw [← hw1]
  clear hw1
  obtain ⟨rb, hrb⟩ : ∃ rb, w.heap.size + 1 = rb := ⟨_, rfl⟩
  rw [hrb] at HRB1
  (try rw [hrb])
  obtain ⟨sb, hsb⟩ : ∃ sb, w.heap.size = sb := ⟨_, rfl⟩
  rw [hsb] at HSB1
  (try rw [hsb])
  have HNE := Lib.hid (show sb = w.heap.size + 0 ∧ rb = w.heap.size + 1 ∧ True from ⟨by omega, by omega, trivial⟩)
  clear hsb hrb
  have cSB := HSB1.out.cell
  have lSB := HSB1.out.lt
  have fSB := HSB1.out.frozen
  have cRB := HRB1.out.cell
  have lRB := HRB1.out.lt
  have fRB := HRB1.out.frozen
  have HW := Lib.hid (with0T sp dp seq ack fl wi sm ur s0 s1 OA oc LA lc a e v a0 a1 e0 e1 v0 v1 w1 (HO.out.on HK1.out (fun _ _ h => h)))
  go_wp2_with (show wpList _ _ _ ((⟨_, .load 48 (.tmp 2), _, _, _, none⟩ : Oper) :: _) _ _; refine wpList_load_mid rfl 48 (.tmp 2) rfl sb 0 rfl [.int .u16 sp, .int .u16 dp, .int .u32 seq, .int .u32 ack, .int .u8 fl, .int .u16 wi, .int .u16 sm, .int .u16 ur, .slice OA 12 oc, .slice LA 0 lc] _ HSB1.out.range Tryz.underlying48 rfl (by kernel_rfl) ?_)
  refine HW.out.mono ?_
  rintro e' w2 ⟨vg, vc, UA, uc, r, rfl, r0, r1, hv, hk⟩
  have HV2 := Lib.hid hv
  have HK2 := Lib.hid (HK1.out.trans hk)
  have HS2 := Lib.hid (show Kept (fun _ => False) w1 w2 from hk)
  have HSB2 := Lib.hid (HSB1.out.kept hk (fun h => h))
  have HRB2 := Lib.hid (HRB1.out.kept hk (fun h => h))
  clear cSB lSB fSB cRB lRB fRB
  have cSB := HSB2.out.cell
  have lSB := HSB2.out.lt
  have fSB := HSB2.out.frozen
  have cRB := HRB2.out.cell
  have lRB := HRB2.out.lt
  have fRB := HRB2.out.frozen
  clear hk hv HW
  go_wp2_with (show wpList _ _ _ ((⟨none, .store 48 (.tmp 4) _, _, _, _, none⟩ : Oper) :: _) _ _; refine wpList_store_mid rfl 48 (.tmp 4) _ rfl rb 0 #[.int .u16 sp, .int .u16 dp, .int .u32 seq, .int .u32 ack, .int .u8 fl, .int .u16 wi, .int .u16 r, .int .u16 ur, .slice (some ⟨vg, 0, none⟩) 12 vc, .slice UA 0 uc] rfl rfl (HRB2.out.there rfl) (by kernel_rfl) (by simp [Value.oneCell']) ?_)
  generalize hwq : World.setCells _ _ _ _ = w3
  have HX3 := Lib.hid (show Kept (fun i => i = rb) w2 w3 by rw [← hwq]; exact Kept.setCells (S := fun i => i = rb) rfl _ _ (Kept.refl _ _))
  have HSB3 := Lib.hid (HSB2.out.kept HX3.out (fun h => by have := HNE.out; omega))
  have HRB3 := Lib.hid (show Blk w3 rb 48 #[.int .u16 sp, .int .u16 dp, .int .u32 seq, .int .u32 ack, .int .u8 fl, .int .u16 wi, .int .u16 r, .int .u16 ur, .slice (some ⟨vg, 0, none⟩) 12 vc, .slice UA 0 uc] by rw [← hwq]; exact HRB2.out.setAll #[.int .u16 sp, .int .u16 dp, .int .u32 seq, .int .u32 ack, .int .u8 fl, .int .u16 wi, .int .u16 r, .int .u16 ur, .slice (some ⟨vg, 0, none⟩) 12 vc, .slice UA 0 uc] rfl)
  have HK3 := Lib.hid (HK2.out.then HX3.out (fun i hi e => by have := HNE.out; omega))
  have HV3 := Lib.hid (Row.kept HV2.out HX3.out (fun g hg e => by have := (HV2.out.lt g hg).1; have := HSB1.out.lt; have := HRB1.out.lt; omega))
  clear cSB lSB fSB cRB lRB fRB
  clear hwq
  have cSB := HSB3.out.cell
  have lSB := HSB3.out.lt
  have fSB := HSB3.out.frozen
  have cRB := HRB3.out.cell
  have lRB := HRB3.out.lt
  have fRB := HRB3.out.frozen
  exact bodyPost_ret (results_blk1 (P := Tryz.prog) (show Tryz.f32.results = _ from rfl) _ _ rb 48 #[.int .u16 sp, .int .u16 dp, .int .u32 seq, .int .u32 ack, .int .u8 fl, .int .u16 wi, .int .u16 r, .int .u16 ur, .slice (some ⟨vg, 0, none⟩) 12 vc, .slice UA 0 uc] _ rfl HRB3.out Tryz.underlying48 rfl (by kernel_rfl)) rfl ⟨vg, vc, UA, uc, r, rfl, r0, r1, HV3.out.more HK1.out.size, HK3.out⟩
set_option maxRecDepth 100000 in
set_option maxHeartbeats 8000000 in
theorem withEchoT (sp dp seq ack fl wi sm ur : Int) (s0 : 0 ≤ sm) (s1 : sm ≤ 65535) (OA : Option Addr) (oc : Nat) (LA : Option Addr) (lc : Nat) (a e v : Int) (a0 : 0 ≤ a) (a1 : a ≤ 4294967295) (e0 : 0 ≤ e) (e1 : e ≤ 4294967295) (v0 : 0 ≤ v) (v1 : v ≤ 4294967295) (w : World) (hO : BS w w.heap.size OA ([1, 1, 8, 10] ++ (digs 4 a ++ digs 4 e))) :
    Calls Tryz.prog 126 #[.agg #[.int .u16 sp, .int .u16 dp, .int .u32 seq, .int .u32 ack, .int .u8 fl, .int .u16 wi, .int .u16 sm, .int .u16 ur, .slice OA 12 oc, .slice LA 0 lc], .int .u32 v] w fun e' w' => ∃ vg vc UA uc r, e' = .returned (.agg #[.int .u16 sp, .int .u16 dp, .int .u32 seq, .int .u32 ack, .int .u8 fl, .int .u16 wi, .int .u16 r, .int .u16 ur, .slice (some ⟨vg, 0, none⟩) 12 vc, .slice UA 0 uc]) ∧ 0 ≤ r ∧ r ≤ 65535 ∧ Row w' w.heap.size 5 (.slice (some ⟨vg, 0, none⟩) 12 vc) (bcs ([1, 1, 8, 10] ++ (digs 4 a ++ digs 4 v))) ∧ Kept (fun _ => False) w w' := by
  have HO := Lib.hid hO
  clear hO
  go_enter Tryz.func126, Tryz.ntmps126
  go_upto_region 1 with fail
  obtain ⟨w1, hw1⟩ : ∃ w1 : World, w1 = ((w.alloc (.cells #[.int .u16 sp, .int .u16 dp, .int .u32 seq, .int .u32 ack, .int .u8 fl, .int .u16 wi, .int .u16 sm, .int .u16 ur, .slice OA 12 oc, .slice LA 0 lc] 48)).alloc (.cells #[.int .u16 0, .int .u16 0, .int .u32 0, .int .u32 0, .int .u8 0, .int .u16 0, .int .u16 0, .int .u16 0, .slice none 0 0, .slice none 0 0] 48)) := ⟨_, rfl⟩
  have HSB1 := Lib.hid (show Blk w1 w.heap.size 48 #[.int .u16 sp, .int .u16 dp, .int .u32 seq, .int .u32 ack, .int .u8 fl, .int .u16 wi, .int .u16 sm, .int .u16 ur, .slice OA 12 oc, .slice LA 0 lc] by rw [hw1]; exact (Blk.new _ _ _).alloc _)
  have HRB1 := Lib.hid (show Blk w1 (w.heap.size + 1) 48 #[.int .u16 0, .int .u16 0, .int .u32 0, .int .u32 0, .int .u8 0, .int .u16 0, .int .u16 0, .int .u16 0, .slice none 0 0, .slice none 0 0] by rw [hw1]; exact Blk.new_ (by simp) _ _)
  have HK1 := Lib.hid (show Kept (fun _ => False) w w1 by rw [hw1]; exact ((Kept.refl _ _).alloc _).alloc _)
  rw [← hw1]
  clear hw1
  obtain ⟨rb, hrb⟩ : ∃ rb, w.heap.size + 1 = rb := ⟨_, rfl⟩
  rw [hrb] at HRB1
  (try rw [hrb])
  obtain ⟨sb, hsb⟩ : ∃ sb, w.heap.size = sb := ⟨_, rfl⟩
  rw [hsb] at HSB1
  (try rw [hsb])
  have HNE := Lib.hid (show sb = w.heap.size + 0 ∧ rb = w.heap.size + 1 ∧ True from ⟨by omega, by omega, trivial⟩)
  clear hsb hrb
  have cSB := HSB1.out.cell
  have lSB := HSB1.out.lt
  have fSB := HSB1.out.frozen
  have cRB := HRB1.out.cell
  have lRB := HRB1.out.lt
  have fRB := HRB1.out.frozen
  have HW := Lib.hid (with4T sp dp seq ack fl wi sm ur s0 s1 OA oc LA lc a e v a0 a1 e0 e1 v0 v1 w1 (HO.out.on HK1.out (fun _ _ h => h)))
  go_wp2_with (show wpList _ _ _ ((⟨_, .load 48 (.tmp 2), _, _, _, none⟩ : Oper) :: _) _ _; refine wpList_load_mid rfl 48 (.tmp 2) rfl sb 0 rfl [.int .u16 sp, .int .u16 dp, .int .u32 seq, .int .u32 ack, .int .u8 fl, .int .u16 wi, .int .u16 sm, .int .u16 ur, .slice OA 12 oc, .slice LA 0 lc] _ HSB1.out.range Tryz.underlying48 rfl (by kernel_rfl) ?_)
  refine HW.out.mono ?_
  rintro e' w2 ⟨vg, vc, UA, uc, r, rfl, r0, r1, hv, hk⟩
  have HV2 := Lib.hid hv
  have HK2 := Lib.hid (HK1.out.trans hk)
  have HS2 := Lib.hid (show Kept (fun _ => False) w1 w2 from hk)
  have HSB2 := Lib.hid (HSB1.out.kept hk (fun h => h))
  have HRB2 := Lib.hid (HRB1.out.kept hk (fun h => h))
  clear cSB lSB fSB cRB lRB fRB
  have cSB := HSB2.out.cell
  have lSB := HSB2.out.lt
  have fSB := HSB2.out.frozen
  have cRB := HRB2.out.cell
  have lRB := HRB2.out.lt
  have fRB := HRB2.out.frozen
  clear hk hv HW
  go_wp2_with (show wpList _ _ _ ((⟨none, .store 48 (.tmp 4) _, _, _, _, none⟩ : Oper) :: _) _ _; refine wpList_store_mid rfl 48 (.tmp 4) _ rfl rb 0 #[.int .u16 sp, .int .u16 dp, .int .u32 seq, .int .u32 ack, .int .u8 fl, .int .u16 wi, .int .u16 r, .int .u16 ur, .slice (some ⟨vg, 0, none⟩) 12 vc, .slice UA 0 uc] rfl rfl (HRB2.out.there rfl) (by kernel_rfl) (by simp [Value.oneCell']) ?_)
  generalize hwq : World.setCells _ _ _ _ = w3
  have HX3 := Lib.hid (show Kept (fun i => i = rb) w2 w3 by rw [← hwq]; exact Kept.setCells (S := fun i => i = rb) rfl _ _ (Kept.refl _ _))
  have HSB3 := Lib.hid (HSB2.out.kept HX3.out (fun h => by have := HNE.out; omega))
  have HRB3 := Lib.hid (show Blk w3 rb 48 #[.int .u16 sp, .int .u16 dp, .int .u32 seq, .int .u32 ack, .int .u8 fl, .int .u16 wi, .int .u16 r, .int .u16 ur, .slice (some ⟨vg, 0, none⟩) 12 vc, .slice UA 0 uc] by rw [← hwq]; exact HRB2.out.setAll #[.int .u16 sp, .int .u16 dp, .int .u32 seq, .int .u32 ack, .int .u8 fl, .int .u16 wi, .int .u16 r, .int .u16 ur, .slice (some ⟨vg, 0, none⟩) 12 vc, .slice UA 0 uc] rfl)
  have HK3 := Lib.hid (HK2.out.then HX3.out (fun i hi e => by have := HNE.out; omega))
  have HV3 := Lib.hid (Row.kept HV2.out HX3.out (fun g hg e => by have := (HV2.out.lt g hg).1; have := HSB1.out.lt; have := HRB1.out.lt; omega))
  clear cSB lSB fSB cRB lRB fRB
  clear hwq
  have cSB := HSB3.out.cell
  have lSB := HSB3.out.lt
  have fSB := HSB3.out.frozen
  have cRB := HRB3.out.cell
  have lRB := HRB3.out.lt
  have fRB := HRB3.out.frozen
  exact bodyPost_ret (results_blk1 (P := Tryz.prog) (show Tryz.f126.results = _ from rfl) _ _ rb 48 #[.int .u16 sp, .int .u16 dp, .int .u32 seq, .int .u32 ack, .int .u8 fl, .int .u16 wi, .int .u16 r, .int .u16 ur, .slice (some ⟨vg, 0, none⟩) 12 vc, .slice UA 0 uc] _ rfl HRB3.out Tryz.underlying48 rfl (by kernel_rfl)) rfl ⟨vg, vc, UA, uc, r, rfl, r0, r1, HV3.out.more HK1.out.size, HK3.out⟩
end Go.Proofs.YtdnbhmfofphblaaGreatDoor
