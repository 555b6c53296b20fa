/- The reference's word, Plus, Update, Stamps, With at the segment that 'opened' makes. -/
import Derived.Test.YtdnbhmfofphblaaGreatDoorTS
import Derived.Test.YtdnbhmfofphblaaGreatDoorRefSet
import Derived.Test.YtdnbhmfofphblaaGreatDoorRefBytes
namespace Go.Proofs.YtdnbhmfofphblaaGreatDoor
open Go.RowKit
set_option maxRecDepth 100000
set_option linter.unusedVariables false
set_option linter.unusedSimpArgs false
theorem refWord (a b : Int) (w : World) :
    Calls Tryz.prog 60 #[.int .u8 a, .int .u8 b] w fun e w' => ∃ r, e = .returned (.int .u16 r) ∧ w = w' := by
  go_enter Tryz.func60, Tryz.ntmps60
  go_wp2
  go_ret
  exact ⟨_, rfl, rfl⟩
theorem refPlus (a b : Int) (w : World) :
    Calls Tryz.prog 113 #[.int .u32 a, .int .u32 b] w fun e w' => ∃ r, e = .returned (.int .u32 r) ∧ w = w' := by
  go_enter Tryz.func113, Tryz.ntmps113
  go_wp2
  all_goals (go_ret; exact ⟨_, rfl, rfl⟩)
theorem refUpd (s a b : Int) (w : World) :
    Calls Tryz.prog 59 #[.int .u16 s, .int .u16 a, .int .u16 b] w fun e w' => ∃ r, e = .returned (.int .u16 r) ∧ w = w' := by
  go_enter Tryz.func59, Tryz.ntmps59
  go_wp2_with fail
  refine (refPlus _ _ w).mono ?_
  rintro e w' ⟨r, rfl, rfl⟩
  go_wp2_with fail
  refine (refPlus _ _ w).mono ?_
  rintro e w' ⟨t, rfl, rfl⟩
  go_wp2_with fail
  go_ret
  exact ⟨_, rfl, rfl⟩
set_option maxHeartbeats 4000000 in
theorem refStamps (ob : Nat) (w : World) (hB : Blk w ob 5 #[.int .u8 1, .int .u8 1, .int .u8 8, .int .u8 10, .int .u8 0, .int .u8 0, .int .u8 0, .int .u8 0, .int .u8 0, .int .u8 0, .int .u8 0, .int .u8 0]) :
    Calls Tryz.prog 57 #[.slice (some ⟨ob, 0, none⟩) 12 12] w fun e w' => e = .returned (.int .i64 4) ∧ w = w' := by
  have q0 : w.cell? ⟨ob, 0, none⟩ = some (.int .u8 1) := hB.cell 0
  have q1 : w.cell? ⟨ob, 1, none⟩ = some (.int .u8 1) := hB.cell 1
  have q2 : w.cell? ⟨ob, 2, none⟩ = some (.int .u8 8) := hB.cell 2
  have q3 : w.cell? ⟨ob, 3, none⟩ = some (.int .u8 10) := hB.cell 3
  clear hB
  go_enter Tryz.func57, Tryz.ntmps57
  go_wp2
  go_loop [3] (fun i => i = .int .i64 0 ∨ i = .int .i64 1 ∨ i = .int .i64 2) (fun i => 5 - (intOf i).toNat)
  case atStart => exact .inl rfl
  case round =>
    rcases hrel with rfl | rfl | rfl
    · go_wp2
      go_round
      case rel => exact .inr (.inl rfl)
      case measure => simp [intOf]
    · go_wp2
      go_round
      case rel => exact .inr (.inr rfl)
      case measure => simp [intOf]
    · go_wp2
      go_ret
      exact ⟨rfl, rfl⟩
theorem Byt.turn_ {w w' : World} {v : Value} {l : List UInt8} {g t n : Nat} {cs : Array Value} (h : Byt w v l) (hl : l.length = n) (hb : Blk w g t cs) (hs : cs.size < n) (hk : Kept (fun i => i = g) w w') : Byt w' v l := by
  obtain ⟨VA, c, e, h1, h2, h3⟩ := h
  obtain ⟨b, off, hlt, rfl, hc⟩ := h3.at (k := l.length - 1) (by omega)
  have hne : b ≠ g := by
    rintro rfl
    have := hc (l.length - 1) (by omega)
    rw [hb.cell, Array.getElem?_eq_none (by omega)] at this
    cases this
  exact ⟨_, c, e, h1, h2, BS.of_at (fun k hk' => (hk.cell hlt hne _).trans (hc k hk')) (Nat.lt_of_lt_of_le hlt hk.size)⟩
theorem own12 {w : World} {ob : Nat} (h : Blk w ob 5 #[.int .u8 1, .int .u8 1, .int .u8 8, .int .u8 10, .int .u8 0, .int .u8 0, .int .u8 0, .int .u8 0, .int .u8 0, .int .u8 0, .int .u8 0, .int .u8 0]) : Own w 5 ob 12 [1, 1, 8, 10, 0, 0, 0, 0, 0, 0, 0, 0] := Own.of_blk (l := [1, 1, 8, 10, 0, 0, 0, 0, 0, 0, 0, 0]) h (by decide)
set_option maxRecDepth 100000 in
set_option maxHeartbeats 8000000 in
theorem refWith (sp dp mk : Int) (m0 : 0 ≤ mk) (m1 : mk ≤ 65535) (ob : Nat) (w : World) (hO : Blk w ob 5 #[.int .u8 1, .int .u8 1, .int .u8 8, .int .u8 10, .int .u8 0, .int .u8 0, .int .u8 0, .int .u8 0, .int .u8 0, .int .u8 0, .int .u8 0, .int .u8 0]) :
    Calls Tryz.prog 23 #[.agg #[.int .u16 sp, .int .u16 dp, .int .u32 0, .int .u32 0, .int .u8 2, .int .u16 0, .int .u16 0, .int .u16 0, .slice (some ⟨ob, 0, none⟩) 12 12, .slice none 0 0], .int .i64 4, .int .u32 mk] w fun e w' => ∃ VA vc r, e = .returned (.agg #[.int .u16 sp, .int .u16 dp, .int .u32 0, .int .u32 0, .int .u8 2, .int .u16 0, .int .u16 r, .int .u16 0, .slice VA 12 vc, .slice none 0 0]) ∧ Byt w' (.slice VA 12 vc) ([1, 1, 8, 10, 0, 0, 0, 0] ++ digs 4 mk) ∧ Kept (fun _ => False) w w' := by
  have HO := Lib.hid hO
  have HL12 := Lib.hid (show ([1, 1, 8, 10, 0, 0, 0, 0] ++ digs 4 mk).length = 12 by rw [List.length_append, digs_length]; rfl)
  clear hO
  go_enter Tryz.func23, Tryz.ntmps23
  go_upto_region 1 with fail
  obtain ⟨w1, hw1⟩ : ∃ w1 : World, w1 = ((w.alloc (.cells #[.int .u16 sp, .int .u16 dp, .int .u32 0, .int .u32 0, .int .u8 2, .int .u16 0, .int .u16 0, .int .u16 0, .slice (some ⟨ob, 0, none⟩) 12 12, .slice none 0 0] 96)).alloc (.cells #[.int .u16 0, .int .u16 0, .int .u32 0, .int .u32 0, .int .u8 0, .int .u16 0, .int .u16 0, .int .u16 0, .slice none 0 0, .slice none 0 0] 96)) := ⟨_, rfl⟩
  have HSB1 := Lib.hid (show Blk w1 w.heap.size 96 #[.int .u16 sp, .int .u16 dp, .int .u32 0, .int .u32 0, .int .u8 2, .int .u16 0, .int .u16 0, .int .u16 0, .slice (some ⟨ob, 0, none⟩) 12 12, .slice none 0 0] by rw [hw1]; exact (Blk.new _ _ _).alloc _)
  have HRB1 := Lib.hid (show Blk w1 (w.heap.size + 1) 96 #[.int .u16 0, .int .u16 0, .int .u32 0, .int .u32 0, .int .u8 0, .int .u16 0, .int .u16 0, .int .u16 0, .slice none 0 0, .slice none 0 0] by rw [hw1]; exact Blk.new_ (by simp) _ _)
  have HK1 := Lib.hid (show Kept (fun _ => False) w w1 by rw [hw1]; exact ((Kept.refl _ _).alloc _).alloc _)
  rw [← hw1]
  clear hw1
  obtain ⟨rb, hrb⟩ : ∃ rb, w.heap.size + 1 = rb := ⟨_, rfl⟩
  rw [hrb] at HRB1
  (try rw [hrb])
  obtain ⟨sb, hsb⟩ : ∃ sb, w.heap.size = sb := ⟨_, rfl⟩
  rw [hsb] at HSB1
  (try rw [hsb])
  have HNE := Lib.hid (show sb = w.heap.size + 0 ∧ rb = w.heap.size + 1 ∧ True from ⟨by omega, by omega, trivial⟩)
  clear hsb hrb
  have cSB := HSB1.out.cell
  have lSB := HSB1.out.lt
  have fSB := HSB1.out.frozen
  have cRB := HRB1.out.cell
  have lRB := HRB1.out.lt
  have fRB := HRB1.out.frozen
  have HOB1 := Lib.hid (HO.out.kept HK1.out (fun h => h))
  go_wp2_with fail
  refine (refStamps ob w1 HOB1.out).mono ?_
  rintro e w' ⟨rfl, rfl⟩
  go_wp2_with fail
  refine (refBytes_any 4 mk 4 w1 m0 (by omega) (by omega)).mono ?_
  rintro e w2 ⟨rfl, hx, hbw⟩
  have hk := Kept.ofB (S := fun _ => False) hbw
  have HK2 := Lib.hid (HK1.out.trans hk)
  have HS2 := Lib.hid (show Kept (fun _ => False) w1 w2 from hk)
  have HSB2 := Lib.hid (HSB1.out.kept hk (fun h => h))
  have HRB2 := Lib.hid (HRB1.out.kept hk (fun h => h))
  clear cSB lSB fSB cRB lRB fRB
  have cSB := HSB2.out.cell
  have lSB := HSB2.out.lt
  have fSB := HSB2.out.frozen
  have cRB := HRB2.out.cell
  have lRB := HRB2.out.lt
  have fRB := HRB2.out.frozen
  have HOB2 := Lib.hid (HOB1.out.kept hk (fun h => h))
  obtain ⟨xg, hxg⟩ : ∃ xg, w1.heap.size = xg := ⟨_, rfl⟩
  rw [hxg] at hx ⊢
  have HXO2 := Lib.hid hx
  have HXS := Lib.hid (show sb < xg by have := HSB1.out.lt; omega)
  have HOS := Lib.hid (show ob < sb by have := HO.out.lt; have := HNE.out; omega)
  clear hk hx hbw hxg cSB lSB fSB cRB lRB fRB
  go_upto_region 8 with fail
  refine wp_region_peek 34 (fun i => i = sb) [33] [] [1] [(8, fun v u => ∃ r, v = .int .u16 r), (15, fun v u => ∃ r, v = .int .u16 r), (16, fun v u => ∃ r, v = .int .u16 r), (23, fun v u => ∃ r, v = .int .u16 r), (30, fun v u => ∃ r, v = .int .u16 r), (31, fun v u => ∃ r, v = .int .u16 r), (33, fun v u => ∃ r, Blk u sb 96 #[.int .u16 sp, .int .u16 dp, .int .u32 0, .int .u32 0, .int .u8 2, .int .u16 0, .int .u16 r, .int .u16 0, .slice (some ⟨ob, 0, none⟩) 12 12, .slice none 0 0])] ?st ?ne rfl (by kernel_rfl) (by kernel_rfl) (by kernel_rfl) (by kernel_rfl) ?_
  case st =>
    intro p hp
    simp only [List.mem_cons, List.not_mem_nil, or_false] at hp
    rcases hp with rfl | rfl | rfl | rfl | rfl | rfl | rfl
    · intro v u u' h hk; exact h
    · intro v u u' h hk; exact h
    · intro v u u' h hk; exact h
    · intro v u u' h hk; exact h
    · intro v u u' h hk; exact h
    · intro v u u' h hk; exact h
    · rintro a u u' ⟨r, h⟩ hk; exact ⟨r, h.kept hk (fun h => h)⟩
  case ne =>
    intro p hp
    simp only [List.mem_cons, List.not_mem_nil, or_false] at hp
    rcases hp with rfl | rfl | rfl | rfl | rfl | rfl | rfl
    · exact ⟨_, _, Kept.refl _ _, 0, rfl⟩
    · exact ⟨_, _, Kept.refl _ _, 0, rfl⟩
    · exact ⟨_, _, Kept.refl _ _, 0, rfl⟩
    · exact ⟨_, _, Kept.refl _ _, 0, rfl⟩
    · exact ⟨_, _, Kept.refl _ _, 0, rfl⟩
    · exact ⟨_, _, Kept.refl _ _, 0, rfl⟩
    · exact ⟨undef, w2.setCell ⟨sb, 6, none⟩ (.int .u16 0), Kept.setIn (S := fun i => i = sb) (b := sb) rfl (Kept.refl _ _), 0, HSB2.out.set_to rfl⟩
  simp only [List.take_succ_cons, List.take_zero, List.drop_succ_cons, List.drop_zero]
  intro G pick pick0 hR hp1 hp2 hpk hq1 hq2
  have sS : ∀ u i, (pick0 u).cell? ⟨sb, i, none⟩ = (#[.int .u16 sp, .int .u16 dp, .int .u32 0, .int .u32 0, .int .u8 2, .int .u16 0, .int .u16 0, .int .u16 0, .slice (some ⟨ob, 0, none⟩) 12 12, .slice none 0 0] : Array Value)[i]? := fun u i => ((hq1 u).cell HSB2.out.lt (fun h => h) _).trans (HSB2.out.cell i)
  have sO8 : ∀ u, (pick u).cell? ⟨ob, 8, none⟩ = some (.int .u8 0) := fun u => ((hp1 u).cell HOB2.out.lt (fun h => by have := HOS.out; omega) _).trans (HOB2.out.cell 8)
  have sO9 : ∀ u, (pick u).cell? ⟨ob, 9, none⟩ = some (.int .u8 0) := fun u => ((hp1 u).cell HOB2.out.lt (fun h => by have := HOS.out; omega) _).trans (HOB2.out.cell 9)
  have sO10 : ∀ u, (pick u).cell? ⟨ob, 10, none⟩ = some (.int .u8 0) := fun u => ((hp1 u).cell HOB2.out.lt (fun h => by have := HOS.out; omega) _).trans (HOB2.out.cell 10)
  have sO11 : ∀ u, (pick u).cell? ⟨ob, 11, none⟩ = some (.int .u8 0) := fun u => ((hp1 u).cell HOB2.out.lt (fun h => by have := HOS.out; omega) _).trans (HOB2.out.cell 11)
  have sX0 : ∀ u, (pick u).cell? ⟨xg, 0, none⟩ = some (.int .u8 ((digs 4 mk)[0]'(by rw [digs_length]; omega)).toNat) := fun u => ((hp1 u).cell HXO2.out.lt (fun h => by have := HXS.out; omega) _).trans (HXO2.out.cell (by rw [digs_length]; omega))
  have sX1 : ∀ u, (pick u).cell? ⟨xg, 1, none⟩ = some (.int .u8 ((digs 4 mk)[1]'(by rw [digs_length]; omega)).toNat) := fun u => ((hp1 u).cell HXO2.out.lt (fun h => by have := HXS.out; omega) _).trans (HXO2.out.cell (by rw [digs_length]; omega))
  have sX2 : ∀ u, (pick u).cell? ⟨xg, 2, none⟩ = some (.int .u8 ((digs 4 mk)[2]'(by rw [digs_length]; omega)).toNat) := fun u => ((hp1 u).cell HXO2.out.lt (fun h => by have := HXS.out; omega) _).trans (HXO2.out.cell (by rw [digs_length]; omega))
  have sX3 : ∀ u, (pick u).cell? ⟨xg, 3, none⟩ = some (.int .u8 ((digs 4 mk)[3]'(by rw [digs_length]; omega)).toNat) := fun u => ((hp1 u).cell HXO2.out.lt (fun h => by have := HXS.out; omega) _).trans (HXO2.out.cell (by rw [digs_length]; omega))
  repeat (first | (refine wpR_peek hq2 rfl ((hR.rel _).trans rfl) ((hpk _).trans rfl) rfl ?_; intro K hK; go_big_quiet_op; go_big_quiet_on) | (refine wpR_det hp2 rfl ((hR.rel _).trans rfl) rfl ?_; intro K hK; go_big_quiet_op; go_big_quiet_on) | (refine wpR_ptr hp2 rfl ((hR.rel _).trans rfl) rfl rfl ?_; intro K hK; go_big_quiet_op; go_big_quiet_on) | (refine wpR_skip pick rfl ?_; intro K hK; go_big_quiet_op; go_big_quiet_on))
  refine wpR_rel pick rfl ((hR.rel _).trans rfl) ((hR.turns _).trans rfl) ?_ ?_
  · intro u hu
    have hk := hR.since hu.1
    have hks := hk.size
    unfold relAt
    go_simp
    refine (refWord _ _ u).mono ?_
    rintro e' w' ⟨r, rfl, rfl⟩
    exact ⟨_, rfl, hR.into0 (Kept.refl _ _), hR.put 0 rfl rfl ⟨_, rfl⟩⟩
  intro v hv
  obtain ⟨u, _, hu⟩ := hv
  obtain ⟨r8, rfl⟩ := hR.get 0 rfl hu
  clear hu
  intro K hK
  go_big_quiet_op
  go_big_quiet_on
  repeat (first | (refine wpR_peek hq2 rfl ((hR.rel _).trans rfl) ((hpk _).trans rfl) rfl ?_; intro K hK; go_big_quiet_op; go_big_quiet_on) | (refine wpR_det hp2 rfl ((hR.rel _).trans rfl) rfl ?_; intro K hK; go_big_quiet_op; go_big_quiet_on) | (refine wpR_ptr hp2 rfl ((hR.rel _).trans rfl) rfl rfl ?_; intro K hK; go_big_quiet_op; go_big_quiet_on) | (refine wpR_skip pick rfl ?_; intro K hK; go_big_quiet_op; go_big_quiet_on))
  refine wpR_rel pick rfl ((hR.rel _).trans rfl) ((hR.turns _).trans rfl) ?_ ?_
  · intro u hu
    have hk := hR.since hu.1
    have hks := hk.size
    unfold relAt
    go_simp
    refine (refWord _ _ u).mono ?_
    rintro e' w' ⟨r, rfl, rfl⟩
    exact ⟨_, rfl, hR.into0 (Kept.refl _ _), hR.put 1 rfl rfl ⟨_, rfl⟩⟩
  intro v hv
  obtain ⟨u, _, hu⟩ := hv
  obtain ⟨r15, rfl⟩ := hR.get 1 rfl hu
  clear hu
  intro K hK
  go_big_quiet_op
  go_big_quiet_on
  repeat (first | (refine wpR_peek hq2 rfl ((hR.rel _).trans rfl) ((hpk _).trans rfl) rfl ?_; intro K hK; go_big_quiet_op; go_big_quiet_on) | (refine wpR_det hp2 rfl ((hR.rel _).trans rfl) rfl ?_; intro K hK; go_big_quiet_op; go_big_quiet_on) | (refine wpR_ptr hp2 rfl ((hR.rel _).trans rfl) rfl rfl ?_; intro K hK; go_big_quiet_op; go_big_quiet_on) | (refine wpR_skip pick rfl ?_; intro K hK; go_big_quiet_op; go_big_quiet_on))
  refine wpR_rel pick rfl ((hR.rel _).trans rfl) ((hR.turns _).trans rfl) ?_ ?_
  · intro u hu
    have hk := hR.since hu.1
    have hks := hk.size
    unfold relAt
    go_simp
    refine (refUpd _ _ _ u).mono ?_
    rintro e' w' ⟨r, rfl, rfl⟩
    exact ⟨_, rfl, hR.into0 (Kept.refl _ _), hR.put 2 rfl rfl ⟨_, rfl⟩⟩
  intro v hv
  obtain ⟨u, _, hu⟩ := hv
  obtain ⟨r16, rfl⟩ := hR.get 2 rfl hu
  clear hu
  intro K hK
  go_big_quiet_op
  go_big_quiet_on
  repeat (first | (refine wpR_peek hq2 rfl ((hR.rel _).trans rfl) ((hpk _).trans rfl) rfl ?_; intro K hK; go_big_quiet_op; go_big_quiet_on) | (refine wpR_det hp2 rfl ((hR.rel _).trans rfl) rfl ?_; intro K hK; go_big_quiet_op; go_big_quiet_on) | (refine wpR_ptr hp2 rfl ((hR.rel _).trans rfl) rfl rfl ?_; intro K hK; go_big_quiet_op; go_big_quiet_on) | (refine wpR_skip pick rfl ?_; intro K hK; go_big_quiet_op; go_big_quiet_on))
  refine wpR_rel pick rfl ((hR.rel _).trans rfl) ((hR.turns _).trans rfl) ?_ ?_
  · intro u hu
    have hk := hR.since hu.1
    have hks := hk.size
    unfold relAt
    go_simp
    refine (refWord _ _ u).mono ?_
    rintro e' w' ⟨r, rfl, rfl⟩
    exact ⟨_, rfl, hR.into0 (Kept.refl _ _), hR.put 3 rfl rfl ⟨_, rfl⟩⟩
  intro v hv
  obtain ⟨u, _, hu⟩ := hv
  obtain ⟨r23, rfl⟩ := hR.get 3 rfl hu
  clear hu
  intro K hK
  go_big_quiet_op
  go_big_quiet_on
  repeat (first | (refine wpR_peek hq2 rfl ((hR.rel _).trans rfl) ((hpk _).trans rfl) rfl ?_; intro K hK; go_big_quiet_op; go_big_quiet_on) | (refine wpR_det hp2 rfl ((hR.rel _).trans rfl) rfl ?_; intro K hK; go_big_quiet_op; go_big_quiet_on) | (refine wpR_ptr hp2 rfl ((hR.rel _).trans rfl) rfl rfl ?_; intro K hK; go_big_quiet_op; go_big_quiet_on) | (refine wpR_skip pick rfl ?_; intro K hK; go_big_quiet_op; go_big_quiet_on))
  refine wpR_rel pick rfl ((hR.rel _).trans rfl) ((hR.turns _).trans rfl) ?_ ?_
  · intro u hu
    have hk := hR.since hu.1
    have hks := hk.size
    unfold relAt
    go_simp
    refine (refWord _ _ u).mono ?_
    rintro e' w' ⟨r, rfl, rfl⟩
    exact ⟨_, rfl, hR.into0 (Kept.refl _ _), hR.put 4 rfl rfl ⟨_, rfl⟩⟩
  intro v hv
  obtain ⟨u, _, hu⟩ := hv
  obtain ⟨r30, rfl⟩ := hR.get 4 rfl hu
  clear hu
  intro K hK
  go_big_quiet_op
  go_big_quiet_on
  repeat (first | (refine wpR_peek hq2 rfl ((hR.rel _).trans rfl) ((hpk _).trans rfl) rfl ?_; intro K hK; go_big_quiet_op; go_big_quiet_on) | (refine wpR_det hp2 rfl ((hR.rel _).trans rfl) rfl ?_; intro K hK; go_big_quiet_op; go_big_quiet_on) | (refine wpR_ptr hp2 rfl ((hR.rel _).trans rfl) rfl rfl ?_; intro K hK; go_big_quiet_op; go_big_quiet_on) | (refine wpR_skip pick rfl ?_; intro K hK; go_big_quiet_op; go_big_quiet_on))
  refine wpR_rel pick rfl ((hR.rel _).trans rfl) ((hR.turns _).trans rfl) ?_ ?_
  · intro u hu
    have hk := hR.since hu.1
    have hks := hk.size
    unfold relAt
    go_simp
    refine (refUpd _ _ _ u).mono ?_
    rintro e' w' ⟨r, rfl, rfl⟩
    exact ⟨_, rfl, hR.into0 (Kept.refl _ _), hR.put 5 rfl rfl ⟨_, rfl⟩⟩
  intro v hv
  obtain ⟨u, _, hu⟩ := hv
  obtain ⟨r31, rfl⟩ := hR.get 5 rfl hu
  clear hu
  intro K hK
  go_big_quiet_op
  go_big_quiet_on
  repeat (first | (refine wpR_peek hq2 rfl ((hR.rel _).trans rfl) ((hpk _).trans rfl) rfl ?_; intro K hK; go_big_quiet_op; go_big_quiet_on) | (refine wpR_det hp2 rfl ((hR.rel _).trans rfl) rfl ?_; intro K hK; go_big_quiet_op; go_big_quiet_on) | (refine wpR_ptr hp2 rfl ((hR.rel _).trans rfl) rfl rfl ?_; intro K hK; go_big_quiet_op; go_big_quiet_on) | (refine wpR_skip pick rfl ?_; intro K hK; go_big_quiet_op; go_big_quiet_on))
  refine wpR_turn pick rfl ((hR.rel _).trans rfl) ((hR.turns _).trans rfl) ((hR.adds _).trans rfl) ?_ ?_
  · intro u hu hM
    have hk := hR.since hu.1
    have hks := hk.size
    have h5 := HSB2.out.kept (hR.first hM) (fun h => h)
    have cc := h5.cell
    have ff := h5.frozen
    have ll := h5.lt
    unfold relAt
    go_simp
    exact ⟨hR.into (Kept.setIn (S := fun i => i = sb) (b := sb) rfl (Kept.refl _ _)), hR.put 6 rfl rfl ⟨_, h5.set_to rfl⟩⟩
  intro v hv
  obtain ⟨u, _, hu⟩ := hv
  obtain hT := hR.get 6 rfl hu
  clear hu
  intro K hK
  go_big_quiet_op
  go_big_quiet_on
  repeat (first | (refine wpR_peek hq2 rfl ((hR.rel _).trans rfl) ((hpk _).trans rfl) rfl ?_; intro K hK; go_big_quiet_op; go_big_quiet_on) | (refine wpR_det hp2 rfl ((hR.rel _).trans rfl) rfl ?_; intro K hK; go_big_quiet_op; go_big_quiet_on) | (refine wpR_ptr hp2 rfl ((hR.rel _).trans rfl) rfl rfl ?_; intro K hK; go_big_quiet_op; go_big_quiet_on) | (refine wpR_skip pick rfl ?_; intro K hK; go_big_quiet_op; go_big_quiet_on))
  refine wpR_nil ?_
  intro w3 hk2 hF hM
  obtain ⟨rr, hsb⟩ := hR.get 6 rfl hM
  have HSB3 := Lib.hid hsb
  have HOB3 := Lib.hid (HOB2.out.kept hk2 (fun h => by have := HOS.out; omega))
  have HXO3 := Lib.hid (HXO2.out.kept hk2 (fun h => by have := HXS.out; omega))
  have HRB3 := Lib.hid (HRB2.out.kept hk2 (fun h => by have := HNE.out; omega))
  have HK3 := Lib.hid (HK2.out.then hk2 (fun i hi e => by have := HNE.out; omega))
  clear hsb hF hM hp1 hp2 hpk hq1 hq2 hR hk2 sO8 sX0 sO9 sX1 sO10 sX2 sO11 sX3 sS
  have hse := refSet_any (some ⟨ob, 0, none⟩) (some ⟨xg, 0, none⟩) 12 4 8 [1, 1, 8, 10, 0, 0, 0, 0, 0, 0, 0, 0] (digs 4 mk) w3 (by decide) (own12 HOB3.out).bs HXO3.out.bs (by rw [digs_length]; decide) (by rw [digs_length]; decide)
  rw [digs_length] at hse
  have HSE := Lib.hid (show Calls Tryz.prog 61 #[.slice (some ⟨ob, 0, none⟩) 12 12, .int .i64 8, .slice (some ⟨xg, 0, none⟩) 4 4] w3 _ from hse)
  clear hse
  have cS := HSB3.out.cell
  have lS := HSB3.out.lt
  have fS := HSB3.out.frozen
  go_wp2_with fail
  refine HSE.out.mono ?_
  rintro e w4 ⟨v, rfl, hv, hbw⟩
  have hk := Kept.ofB (S := fun _ => False) hbw
  have ho : over [1, 1, 8, 10, 0, 0, 0, 0, 0, 0, 0, 0] 8 (digs 4 mk) = [1, 1, 8, 10, 0, 0, 0, 0] ++ digs 4 mk := by rfl
  rw [ho] at hv
  have HV4 := Lib.hid hv
  obtain ⟨VA, vc, hve, -, -, -⟩ := hv
  have hve : v = .slice VA 12 vc := hve
  subst hve
  have HK4 := Lib.hid (HK3.out.trans hk)
  have HSB4 := Lib.hid (HSB3.out.kept hk (fun h => h))
  have HRB4 := Lib.hid (HRB3.out.kept hk (fun h => h))
  clear hk hbw ho HSE cS lS fS
  have cS := HSB4.out.cell
  have lS := HSB4.out.lt
  have fS := HSB4.out.frozen
  go_upto_region 11 with fail
  generalize hwq : World.setCell _ _ _ = w5
  have HX5 := Lib.hid (show Kept (fun i => i = sb) w4 w5 by rw [← hwq]; exact Kept.setIn (S := fun i => i = sb) rfl (Kept.refl _ _))
  have HSB5 := Lib.hid (show Blk w5 sb 96 #[.int .u16 sp, .int .u16 dp, .int .u32 0, .int .u32 0, .int .u8 2, .int .u16 0, .int .u16 rr, .int .u16 0, .slice VA 12 vc, .slice none 0 0] by rw [← hwq]; exact HSB4.out.set_to rfl)
  have HRB5 := Lib.hid (HRB4.out.kept HX5.out (fun h => by have := HNE.out; omega))
  have HK5 := Lib.hid (HK4.out.then HX5.out (fun i hi e => by have := HNE.out; omega))
  clear hwq cS lS fS
  go_wp2_with (first | (show wpList _ _ _ ((⟨_, .load 96 (.tmp 3), _, _, _, none⟩ : Oper) :: _) _ _; refine wpList_load_mid rfl 96 (.tmp 3) rfl sb 0 rfl [.int .u16 sp, .int .u16 dp, .int .u32 0, .int .u32 0, .int .u8 2, .int .u16 0, .int .u16 rr, .int .u16 0, .slice VA 12 vc, .slice none 0 0] _ HSB5.out.range Tryz.underlying96 rfl (by kernel_rfl) ?_) | (show wpList _ _ _ ((⟨none, .store 96 (.tmp 6) _, _, _, _, none⟩ : Oper) :: _) _ _; refine wpList_store_mid rfl 96 (.tmp 6) _ rfl rb 0 #[.int .u16 sp, .int .u16 dp, .int .u32 0, .int .u32 0, .int .u8 2, .int .u16 0, .int .u16 rr, .int .u16 0, .slice VA 12 vc, .slice none 0 0] rfl rfl (HRB5.out.there rfl) (by kernel_rfl) (by simp [Value.oneCell']) ?_))
  generalize hwq : (World.setCells _ _ _ _) = w6
  have HX6 := Lib.hid (show Kept (fun i => i = rb) w5 w6 by rw [← hwq]; exact Kept.setCells (S := fun i => i = rb) rfl _ _ (Kept.refl _ _))
  have HRB6 := Lib.hid (show Blk w6 rb 96 #[.int .u16 sp, .int .u16 dp, .int .u32 0, .int .u32 0, .int .u8 2, .int .u16 0, .int .u16 rr, .int .u16 0, .slice VA 12 vc, .slice none 0 0] by rw [← hwq]; exact HRB5.out.setAll #[.int .u16 sp, .int .u16 dp, .int .u32 0, .int .u32 0, .int .u8 2, .int .u16 0, .int .u16 rr, .int .u16 0, .slice VA 12 vc, .slice none 0 0] rfl)
  clear hwq
  exact bodyPost_ret (results_blk1 (P := Tryz.prog) (show Tryz.f23.results = _ from rfl) _ _ rb 96 #[.int .u16 sp, .int .u16 dp, .int .u32 0, .int .u32 0, .int .u8 2, .int .u16 0, .int .u16 rr, .int .u16 0, .slice VA 12 vc, .slice none 0 0] _ rfl HRB6.out Tryz.underlying96 rfl (by kernel_rfl)) rfl ⟨VA, vc, rr, rfl, (HV4.out.turn_ HL12.out HSB4.out (by simp) HX5.out).turn_ HL12.out HRB5.out (by simp) HX6.out, HK5.out.then HX6.out (fun i hi e => by have := HNE.out; omega)⟩
end Go.Proofs.YtdnbhmfofphblaaGreatDoor
