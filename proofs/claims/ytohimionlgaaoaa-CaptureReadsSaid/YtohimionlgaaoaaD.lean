/- The law CaptureWrites, walked. -/
import Derived.Test.YtohimionlgaaoaaC
namespace Go.Proofs.Ytohimionlgaaoaa
open Go.RowKit
set_option linter.unusedVariables false
def writeL (sm : Bool) (se pa : Int) (dl : List UInt8) (pl : Int) : List UInt8 := (writeLs sm se pa dl pl).flatten
theorem writes_long (sm na : Bool) (mo li se pa pl : Int) (DA : Option Addr) (dc : Nat) (dl : List UInt8) (w : World) (h : 2000 < dl.length) (hl : dl.length ≤ 9223372036854775807) :
    Calls Try.prog 3 #[.agg #[.bool sm, .bool na, .int .u32 mo, .int .u32 li], .agg #[.int .u32 se, .int .u32 pa, .int .u32 pl, .slice DA dl.length dc]] w fun e w' => e = .returned (.bool true) ∧ Below w.heap.size w w' := by
  have hI : (2000 : Int) < (dl.length : Int) := by omega
  go_enter Try.func3, Try.ntmps3
  go_wp2_with fail
  refine (awake_any _).mono ?_
  rintro e w1 ⟨rfl, hb1⟩
  have HW := Lib.hid (kept_of bel_two hb1)
  clear hb1
  go_wp2_with fail
  go_ret
  exact ⟨rfl, HW.out⟩
set_option maxRecDepth 100000 in
set_option maxHeartbeats 4000000 in
theorem writes_any (sm na : Bool) (mo li se pa pl : Int) (DA : Option Addr) (dc : Nat) (dl : List UInt8) (w : World) (hmo : 0 ≤ mo ∧ mo ≤ 4294967295) (hli : 0 ≤ li ∧ li ≤ 4294967295) (hse : 0 ≤ se ∧ se ≤ 4294967295) (hpa : 0 ≤ pa ∧ pa ≤ 4294967295) (hpl : 0 ≤ pl ∧ pl ≤ 4294967295) (hdl : dl.length ≤ 2000) (hdc : dl.length ≤ dc) (hdm : dc ≤ maxLen) (hD : BS w w.heap.size DA dl) :
    Calls Try.prog 3 #[.agg #[.bool sm, .bool na, .int .u32 mo, .int .u32 li], .agg #[.int .u32 se, .int .u32 pa, .int .u32 pl, .slice DA dl.length dc]] w fun e w' => e = .returned (.bool true) ∧ Below w.heap.size w w' := by
  have HRT := Lib.hid (fun u => right_any sm na mo li se pa pl DA dc dl u hmo hli hse hpa hpl hdl)
  have HRR := Lib.hid (fun u => refRight_any sm na mo li se pa pl DA dc dl u hmo hli hse hpa hpl hdl)
  obtain ⟨rb, hrb⟩ : ∃ rb, rightB na mo pa pl dl.length = rb := ⟨_, rfl⟩
  have HRB := Lib.hid hrb
  rw [hrb] at HRT HRR
  clear hrb
  obtain ⟨mo0, mo1⟩ := hmo
  obtain ⟨li0, li1⟩ := hli
  obtain ⟨se0, se1⟩ := hse
  obtain ⟨pa0, pa1⟩ := hpa
  obtain ⟨pl0, pl1⟩ := hpl
  have HD := Lib.hid hD
  have HDM := Lib.hid hdm
  have HHL := Lib.hid (show (headL sm na mo li).length ≤ 1000000 by unfold headL; rw [headLs_len]; omega)
  have HWL := Lib.hid (show (writeL sm se pa dl pl).length ≤ 1000000 from writeLs_len sm se pa dl pl hdl)
  clear hD hdm
  go_enter Try.func3, Try.ntmps3
  go_wp2_with fail
  obtain ⟨w1, hw1⟩ : ∃ w1 : World, w1 = (w.alloc (.cells #[.bool sm, .bool na, .int .u32 mo, .int .u32 li] 24)).alloc (.cells #[.int .u32 se, .int .u32 pa, .int .u32 pl, .slice DA dl.length dc] 27) := ⟨_, rfl⟩
  have HF1 := Lib.hid (show Blk w1 w.heap.size 24 #[.bool sm, .bool na, .int .u32 mo, .int .u32 li] by rw [hw1]; exact (Blk.new _ _ _).alloc _)
  have HP1 := Lib.hid (show Blk w1 (w.heap.size + 1) 27 #[.int .u32 se, .int .u32 pa, .int .u32 pl, .slice DA dl.length dc] by rw [hw1]; exact Blk.new_ (by simp) _ _)
  have HW1 := Lib.hid (show Below w.heap.size w w1 by rw [hw1]; exact bel_two)
  rw [← hw1]
  clear hw1
  obtain ⟨pb, hpb⟩ : ∃ pb, w.heap.size + 1 = pb := ⟨_, rfl⟩
  rw [hpb] at HP1 ⊢
  obtain ⟨fb, hfb⟩ : ∃ fb, w.heap.size = fb := ⟨_, rfl⟩
  rw [hfb] at HF1 ⊢
  clear hfb hpb
  refine (to_any sm na mo li w1).mono ?_
  rintro e w2 ⟨rfl, hb2⟩
  have hs2 := hb2.size
  have HF2 := Lib.hid (HF1.out.below hb2 HF1.out.lt)
  have HP2 := Lib.hid (HP1.out.below hb2 HP1.out.lt)
  have HW2 := Lib.hid (kept_of HW1.out hb2)
  clear hb2 HF1 HP1 HW1
  go_upto_region 4 with fail
  obtain ⟨w3, hw3⟩ : ∃ w3 : World, w3 = w2.alloc (.cells #[.bool sm, .bool na, .int .u32 mo, .int .u32 li] 29) := ⟨_, rfl⟩
  have hk3 : Kept (fun _ => False) w2 w3 := by rw [hw3]; exact (Kept.refl _ _).alloc _
  have HX3 := Lib.hid (show Blk w3 w2.heap.size 29 #[.bool sm, .bool na, .int .u32 mo, .int .u32 li] by rw [hw3]; exact Blk.new _ _ _)
  have HF3 := Lib.hid (HF2.out.kept hk3 (fun h => h))
  have HP3 := Lib.hid (HP2.out.kept hk3 (fun h => h))
  have HW3 := Lib.hid (keptK HW2.out hk3)
  rw [← hw3]
  clear hw3 hk3 HF2 HP2 HW2
  obtain ⟨xb, hxb⟩ : ∃ xb, w2.heap.size = xb := ⟨_, rfl⟩
  rw [hxb] at HX3 ⊢
  clear hxb hs2
  have f0 := HF3.out.cell 0
  have f1 := HF3.out.cell 1
  have f2 := HF3.out.cell 2
  have f3 := HF3.out.cell 3
  have fl := HF3.out.lt
  have g0 := HP3.out.cell 0
  have g1 := HP3.out.cell 1
  have g2 := HP3.out.cell 2
  have g3 := HP3.out.cell 3
  have pbl := HP3.out.lt
  have x0 := HX3.out.cell 0
  have x1 := HX3.out.cell 1
  have x2 := HX3.out.cell 2
  have x3 := HX3.out.cell 3
  have xl := HX3.out.lt
  simp at f0 f1 f2 f3 g0 g1 g2 g3 x0 x1 x2 x3
  refine wp_region_kept 17 [(1, fun v u => Byt u v (headL sm na mo li)), (2, fun v u => v = .string ⟨(headL sm na mo li).toArray⟩), (4, fun v u => Byt u v (headL sm na mo li)), (5, fun v u => v = .string ⟨(headL sm na mo li).toArray⟩), (10, fun v u => v = .agg #[.int .u32 se, .int .u32 pa, .int .u32 pl, .slice DA dl.length dc]), (11, fun v u => v = .bool rb), (14, fun v u => v = .bool rb)] ?st ?ne rfl (by kernel_rfl) (by kernel_rfl) ?_
  case st =>
    intro p hp
    simp only [List.mem_cons, List.not_mem_nil, or_false] at hp
    rcases hp with rfl | rfl | rfl | rfl | rfl | rfl | rfl
    · intro v u u' h hk; exact h.on0 hk
    · intro v u u' h hk; exact h
    · intro v u u' h hk; exact h.on0 hk
    · intro v u u' h hk; exact h
    · intro v u u' h hk; exact h
    · intro v u u' h hk; exact h
    · intro v u u' h hk; exact h
  case ne =>
    intro p hp
    simp only [List.mem_cons, List.not_mem_nil, or_false] at hp
    rcases hp with rfl | rfl | rfl | rfl | rfl | rfl | rfl
    · exact Byt.some _ _ (by have := HHL.out; unfold maxLen; omega)
    · exact ⟨_, _, Kept.refl _ _, rfl⟩
    · exact Byt.some _ _ (by have := HHL.out; unfold maxLen; omega)
    · exact ⟨_, _, Kept.refl _ _, rfl⟩
    · exact ⟨_, _, Kept.refl _ _, rfl⟩
    · exact ⟨_, _, Kept.refl _ _, rfl⟩
    · exact ⟨_, _, Kept.refl _ _, rfl⟩
  simp only [List.take_succ_cons, List.take_zero, List.drop_succ_cons, List.drop_zero]
  intro G pick hR hp1 hp2
  have p0 : ∀ u, (pick u).cell? ⟨fb, 0, none⟩ = some (.bool sm) := fun u => ((hp1 u).cell fl (fun h => h) _).trans f0
  have p1 : ∀ u, (pick u).cell? ⟨fb, 1, none⟩ = some (.bool na) := fun u => ((hp1 u).cell fl (fun h => h) _).trans f1
  have p2 : ∀ u, (pick u).cell? ⟨fb, 2, none⟩ = some (.int .u32 mo) := fun u => ((hp1 u).cell fl (fun h => h) _).trans f2
  have p3 : ∀ u, (pick u).cell? ⟨fb, 3, none⟩ = some (.int .u32 li) := fun u => ((hp1 u).cell fl (fun h => h) _).trans f3
  have q0 : ∀ u, (pick u).cell? ⟨pb, 0, none⟩ = some (.int .u32 se) := fun u => ((hp1 u).cell pbl (fun h => h) _).trans g0
  have q1 : ∀ u, (pick u).cell? ⟨pb, 1, none⟩ = some (.int .u32 pa) := fun u => ((hp1 u).cell pbl (fun h => h) _).trans g1
  have q2 : ∀ u, (pick u).cell? ⟨pb, 2, none⟩ = some (.int .u32 pl) := fun u => ((hp1 u).cell pbl (fun h => h) _).trans g2
  have q3 : ∀ u, (pick u).cell? ⟨pb, 3, none⟩ = some (.slice DA dl.length dc) := fun u => ((hp1 u).cell pbl (fun h => h) _).trans g3
  have r0 : ∀ u, (pick u).cell? ⟨xb, 0, none⟩ = some (.bool sm) := fun u => ((hp1 u).cell xl (fun h => h) _).trans x0
  have r1 : ∀ u, (pick u).cell? ⟨xb, 1, none⟩ = some (.bool na) := fun u => ((hp1 u).cell xl (fun h => h) _).trans x1
  have r2 : ∀ u, (pick u).cell? ⟨xb, 2, none⟩ = some (.int .u32 mo) := fun u => ((hp1 u).cell xl (fun h => h) _).trans x2
  have r3 : ∀ u, (pick u).cell? ⟨xb, 3, none⟩ = some (.int .u32 li) := fun u => ((hp1 u).cell xl (fun h => h) _).trans x3
  repeat (first | (refine wpR_det hp2 rfl ((hR.rel _).trans rfl) rfl ?_; intro K hK; go_big_quiet_op; go_big_quiet_on) | (refine wpR_ptr hp2 rfl ((hR.rel _).trans rfl) rfl rfl ?_; intro K hK; go_big_quiet_op; go_big_quiet_on) | (refine wpR_skip pick rfl ?_; intro K hK; go_big_quiet_op; go_big_quiet_on))
  refine wpR_rel pick rfl ((hR.rel _).trans rfl) ((hR.turns _).trans rfl) ?_ ?_
  · intro u hu
    have hk := hR.since hu.1
    have hks := hk.size
    have hz := (head_any sm na mo li u ⟨mo0, mo1⟩ ⟨li0, li1⟩)
    unfold relAt
    go_simp
    refine hz.mono ?_
    rintro e w' ⟨v, rfl, hT, hb'⟩
    exact ⟨_, rfl, hR.intoB hb', hR.put 0 rfl rfl hT⟩
  intro v hv
  obtain ⟨u, _, hu⟩ := hv
  obtain ⟨A1, c1, rfl, -, -, -⟩ := hR.get 0 rfl hu
  clear hu
  intro K hK
  go_big_quiet_op
  go_big_quiet_on
  repeat (first | (refine wpR_det hp2 rfl ((hR.rel _).trans rfl) rfl ?_; intro K hK; go_big_quiet_op; go_big_quiet_on) | (refine wpR_ptr hp2 rfl ((hR.rel _).trans rfl) rfl rfl ?_; intro K hK; go_big_quiet_op; go_big_quiet_on) | (refine wpR_skip pick rfl ?_; intro K hK; go_big_quiet_op; go_big_quiet_on))
  refine wpR_rel pick rfl ((hR.rel _).trans rfl) ((hR.turns _).trans rfl) ?_ ?_
  · intro u hu
    have hk := hR.since hu.1
    have hks := hk.size
    obtain ⟨A', c', e, -, -, hB⟩ := (hR.get 0 rfl (hu.2 _ _ (Got.upd_self _ _ _) (by kernel_rfl)))
    injection e with e1 e2 e3
    subst e1 e3
    have hcv := hB.conv (P := Try.prog) (c := c1) Try.underlying25 Try.underlying5 Try.underlying9
    clear hB
    unfold relAt
    go_simp
    exact ⟨hR.into0 (Kept.refl _ _), hR.put 1 rfl rfl rfl⟩
  intro v hv
  obtain ⟨u, _, hu⟩ := hv
  obtain rfl := hR.get 1 rfl hu
  clear hu
  intro K hK
  go_big_quiet_op
  go_big_quiet_on
  repeat (first | (refine wpR_det hp2 rfl ((hR.rel _).trans rfl) rfl ?_; intro K hK; go_big_quiet_op; go_big_quiet_on) | (refine wpR_ptr hp2 rfl ((hR.rel _).trans rfl) rfl rfl ?_; intro K hK; go_big_quiet_op; go_big_quiet_on) | (refine wpR_skip pick rfl ?_; intro K hK; go_big_quiet_op; go_big_quiet_on))
  refine wpR_rel pick rfl ((hR.rel _).trans rfl) ((hR.turns _).trans rfl) ?_ ?_
  · intro u hu
    have hk := hR.since hu.1
    have hks := hk.size
    have hz := (refHead_any sm na mo li u ⟨mo0, mo1⟩ ⟨li0, li1⟩)
    unfold relAt
    go_simp
    refine hz.mono ?_
    rintro e w' ⟨v, rfl, hT, hb'⟩
    exact ⟨_, rfl, hR.intoB hb', hR.put 2 rfl rfl hT⟩
  intro v hv
  obtain ⟨u, _, hu⟩ := hv
  obtain ⟨A4, c4, rfl, -, -, -⟩ := hR.get 2 rfl hu
  clear hu
  intro K hK
  go_big_quiet_op
  go_big_quiet_on
  repeat (first | (refine wpR_det hp2 rfl ((hR.rel _).trans rfl) rfl ?_; intro K hK; go_big_quiet_op; go_big_quiet_on) | (refine wpR_ptr hp2 rfl ((hR.rel _).trans rfl) rfl rfl ?_; intro K hK; go_big_quiet_op; go_big_quiet_on) | (refine wpR_skip pick rfl ?_; intro K hK; go_big_quiet_op; go_big_quiet_on))
  refine wpR_rel pick rfl ((hR.rel _).trans rfl) ((hR.turns _).trans rfl) ?_ ?_
  · intro u hu
    have hk := hR.since hu.1
    have hks := hk.size
    obtain ⟨A', c', e, -, -, hB⟩ := (hR.get 2 rfl (hu.2 _ _ (Got.upd_self _ _ _) (by kernel_rfl)))
    injection e with e1 e2 e3
    subst e1 e3
    have hcv := hB.conv (P := Try.prog) (c := c4) Try.underlying25 Try.underlying5 Try.underlying9
    clear hB
    unfold relAt
    go_simp
    exact ⟨hR.into0 (Kept.refl _ _), hR.put 3 rfl rfl rfl⟩
  intro v hv
  obtain ⟨u, _, hu⟩ := hv
  obtain rfl := hR.get 3 rfl hu
  clear hu
  intro K hK
  go_big_quiet_op
  go_big_quiet_on
  repeat (first | (refine wpR_det hp2 rfl ((hR.rel _).trans rfl) rfl ?_; intro K hK; go_big_quiet_op; go_big_quiet_on) | (refine wpR_ptr hp2 rfl ((hR.rel _).trans rfl) rfl rfl ?_; intro K hK; go_big_quiet_op; go_big_quiet_on) | (refine wpR_skip pick rfl ?_; intro K hK; go_big_quiet_op; go_big_quiet_on))
  refine wpR_rel pick rfl ((hR.rel _).trans rfl) ((hR.turns _).trans rfl) ?_ ?_
  · intro u hu
    have hk := hR.since hu.1
    have hks := hk.size
    unfold relAt
    go_simp
    refine (packet_any se pa pl DA dc dl u).mono ?_
    rintro e w' ⟨rfl, hb'⟩
    exact ⟨_, rfl, hR.intoB hb', hR.put 4 rfl rfl rfl⟩
  intro v hv
  obtain ⟨u, _, hu⟩ := hv
  obtain rfl := hR.get 4 rfl hu
  clear hu
  intro K hK
  go_big_quiet_op
  go_big_quiet_on
  repeat (first | (refine wpR_det hp2 rfl ((hR.rel _).trans rfl) rfl ?_; intro K hK; go_big_quiet_op; go_big_quiet_on) | (refine wpR_ptr hp2 rfl ((hR.rel _).trans rfl) rfl rfl ?_; intro K hK; go_big_quiet_op; go_big_quiet_on) | (refine wpR_skip pick rfl ?_; intro K hK; go_big_quiet_op; go_big_quiet_on))
  refine wpR_rel pick rfl ((hR.rel _).trans rfl) ((hR.turns _).trans rfl) ?_ ?_
  · intro u hu
    have hk := hR.since hu.1
    have hks := hk.size
    have hz := HRT.out u
    unfold relAt
    go_simp
    refine hz.mono ?_
    rintro e w' ⟨rfl, hb'⟩
    exact ⟨_, rfl, hR.intoB hb', hR.put 5 rfl rfl rfl⟩
  intro v hv
  obtain ⟨u, _, hu⟩ := hv
  obtain rfl := hR.get 5 rfl hu
  clear hu
  intro K hK
  go_big_quiet_op
  go_big_quiet_on
  repeat (first | (refine wpR_det hp2 rfl ((hR.rel _).trans rfl) rfl ?_; intro K hK; go_big_quiet_op; go_big_quiet_on) | (refine wpR_ptr hp2 rfl ((hR.rel _).trans rfl) rfl rfl ?_; intro K hK; go_big_quiet_op; go_big_quiet_on) | (refine wpR_skip pick rfl ?_; intro K hK; go_big_quiet_op; go_big_quiet_on))
  refine wpR_rel pick rfl ((hR.rel _).trans rfl) ((hR.turns _).trans rfl) ?_ ?_
  · intro u hu
    have hk := hR.since hu.1
    have hks := hk.size
    have hz := HRR.out u
    unfold relAt
    go_simp
    refine hz.mono ?_
    rintro e w' ⟨rfl, hb'⟩
    exact ⟨_, rfl, hR.intoB hb', hR.put 6 rfl rfl rfl⟩
  intro v hv
  obtain ⟨u, _, hu⟩ := hv
  obtain rfl := hR.get 6 rfl hu
  clear hu
  intro K hK
  go_big_quiet_op
  go_big_quiet_on
  repeat (first | (refine wpR_det hp2 rfl ((hR.rel _).trans rfl) rfl ?_; intro K hK; go_big_quiet_op; go_big_quiet_on) | (refine wpR_ptr hp2 rfl ((hR.rel _).trans rfl) rfl rfl ?_; intro K hK; go_big_quiet_op; go_big_quiet_on) | (refine wpR_skip pick rfl ?_; intro K hK; go_big_quiet_op; go_big_quiet_on))
  refine wpR_nil ?_
  intro w4 hk2 hF hM
  have HF4 := Lib.hid (HF3.out.kept hk2 (fun h => h))
  have HP4 := Lib.hid (HP3.out.kept hk2 (fun h => h))
  have HX4 := Lib.hid (HX3.out.kept hk2 (fun h => h))
  have HW4 := Lib.hid (keptK HW3.out hk2)
  clear hF hM hk2 hp1 hp2 hR p0 p1 p2 p3 q0 q1 q2 q3 r0 r1 r2 r3 f0 f1 f2 f3 g0 g1 g2 g3 x0 x1 x2 x3 fl pbl xl
  clear HF3 HP3 HX3 HW3
  have f0 := HF4.out.cell 0
  have f1 := HF4.out.cell 1
  have f2 := HF4.out.cell 2
  have f3 := HF4.out.cell 3
  have fl := HF4.out.lt
  have g0 := HP4.out.cell 0
  have g1 := HP4.out.cell 1
  have g2 := HP4.out.cell 2
  have g3 := HP4.out.cell 3
  have pbl := HP4.out.lt
  have x0 := HX4.out.cell 0
  have x1 := HX4.out.cell 1
  have x2 := HX4.out.cell 2
  have x3 := HX4.out.cell 3
  have xl := HX4.out.lt
  simp at f0 f1 f2 f3 g0 g1 g2 g3 x0 x1 x2 x3
  go_wp2_with fail
  refine (HRR.out w4).mono ?_
  rintro e w5 ⟨rfl, hb5⟩
  have HF5 := Lib.hid (HF4.out.below hb5 HF4.out.lt)
  have HP5 := Lib.hid (HP4.out.below hb5 HP4.out.lt)
  have HX5 := Lib.hid (HX4.out.below hb5 HX4.out.lt)
  have HW5 := Lib.hid (kept_of HW4.out hb5)
  clear hb5 HF4 HP4 HX4 HW4 f0 f1 f2 f3 g0 g1 g2 g3 x0 x1 x2 x3 fl pbl xl
  cases rb with
  | false =>
    go_upto_region 7 with fail
    have f0 := HF5.out.cell 0
    have f1 := HF5.out.cell 1
    have f2 := HF5.out.cell 2
    have f3 := HF5.out.cell 3
    have fl := HF5.out.lt
    have g0 := HP5.out.cell 0
    have g1 := HP5.out.cell 1
    have g2 := HP5.out.cell 2
    have g3 := HP5.out.cell 3
    have pbl := HP5.out.lt
    have x0 := HX5.out.cell 0
    have x1 := HX5.out.cell 1
    have x2 := HX5.out.cell 2
    have x3 := HX5.out.cell 3
    have xl := HX5.out.lt
    simp at f0 f1 f2 f3 g0 g1 g2 g3 x0 x1 x2 x3
    refine wp_region_kept 9 [(2, fun v u => v = .agg #[.int .u32 se, .int .u32 pa, .int .u32 pl, .slice DA dl.length dc]), (3, fun v u => v = .slice none 0 0), (7, fun v u => v = .bool true)] ?st ?ne rfl (by kernel_rfl) (by kernel_rfl) ?_
    case st =>
      intro p hp
      simp only [List.mem_cons, List.not_mem_nil, or_false] at hp
      rcases hp with rfl | rfl | rfl
      · intro v u u' h hk; exact h
      · intro v u u' h hk; exact h
      · intro v u u' h hk; exact h
    case ne =>
      intro p hp
      simp only [List.mem_cons, List.not_mem_nil, or_false] at hp
      rcases hp with rfl | rfl | rfl
      · exact ⟨_, _, Kept.refl _ _, rfl⟩
      · exact ⟨_, _, Kept.refl _ _, rfl⟩
      · exact ⟨_, _, Kept.refl _ _, rfl⟩
    simp only [List.take_succ_cons, List.take_zero, List.drop_succ_cons, List.drop_zero]
    intro G pick hR hp1 hp2
    have p0 : ∀ u, (pick u).cell? ⟨fb, 0, none⟩ = some (.bool sm) := fun u => ((hp1 u).cell fl (fun h => h) _).trans f0
    have p1 : ∀ u, (pick u).cell? ⟨fb, 1, none⟩ = some (.bool na) := fun u => ((hp1 u).cell fl (fun h => h) _).trans f1
    have p2 : ∀ u, (pick u).cell? ⟨fb, 2, none⟩ = some (.int .u32 mo) := fun u => ((hp1 u).cell fl (fun h => h) _).trans f2
    have p3 : ∀ u, (pick u).cell? ⟨fb, 3, none⟩ = some (.int .u32 li) := fun u => ((hp1 u).cell fl (fun h => h) _).trans f3
    have q0 : ∀ u, (pick u).cell? ⟨pb, 0, none⟩ = some (.int .u32 se) := fun u => ((hp1 u).cell pbl (fun h => h) _).trans g0
    have q1 : ∀ u, (pick u).cell? ⟨pb, 1, none⟩ = some (.int .u32 pa) := fun u => ((hp1 u).cell pbl (fun h => h) _).trans g1
    have q2 : ∀ u, (pick u).cell? ⟨pb, 2, none⟩ = some (.int .u32 pl) := fun u => ((hp1 u).cell pbl (fun h => h) _).trans g2
    have q3 : ∀ u, (pick u).cell? ⟨pb, 3, none⟩ = some (.slice DA dl.length dc) := fun u => ((hp1 u).cell pbl (fun h => h) _).trans g3
    have r0 : ∀ u, (pick u).cell? ⟨xb, 0, none⟩ = some (.bool sm) := fun u => ((hp1 u).cell xl (fun h => h) _).trans x0
    have r1 : ∀ u, (pick u).cell? ⟨xb, 1, none⟩ = some (.bool na) := fun u => ((hp1 u).cell xl (fun h => h) _).trans x1
    have r2 : ∀ u, (pick u).cell? ⟨xb, 2, none⟩ = some (.int .u32 mo) := fun u => ((hp1 u).cell xl (fun h => h) _).trans x2
    have r3 : ∀ u, (pick u).cell? ⟨xb, 3, none⟩ = some (.int .u32 li) := fun u => ((hp1 u).cell xl (fun h => h) _).trans x3
    repeat (first | (refine wpR_det hp2 rfl ((hR.rel _).trans rfl) rfl ?_; intro K hK; go_big_quiet_op; go_big_quiet_on) | (refine wpR_ptr hp2 rfl ((hR.rel _).trans rfl) rfl rfl ?_; intro K hK; go_big_quiet_op; go_big_quiet_on) | (refine wpR_skip pick rfl ?_; intro K hK; go_big_quiet_op; go_big_quiet_on))
    refine wpR_rel pick rfl ((hR.rel _).trans rfl) ((hR.turns _).trans rfl) ?_ ?_
    · intro u hu
      have hk := hR.since hu.1
      have hks := hk.size
      unfold relAt
      go_simp
      refine (packet_any se pa pl DA dc dl u).mono ?_
      rintro e w' ⟨rfl, hb'⟩
      exact ⟨_, rfl, hR.intoB hb', hR.put 0 rfl rfl rfl⟩
    intro v hv
    obtain ⟨u, _, hu⟩ := hv
    obtain rfl := hR.get 0 rfl hu
    clear hu
    intro K hK
    go_big_quiet_op
    go_big_quiet_on
    repeat (first | (refine wpR_det hp2 rfl ((hR.rel _).trans rfl) rfl ?_; intro K hK; go_big_quiet_op; go_big_quiet_on) | (refine wpR_ptr hp2 rfl ((hR.rel _).trans rfl) rfl rfl ?_; intro K hK; go_big_quiet_op; go_big_quiet_on) | (refine wpR_skip pick rfl ?_; intro K hK; go_big_quiet_op; go_big_quiet_on))
    refine wpR_rel pick rfl ((hR.rel _).trans rfl) ((hR.turns _).trans rfl) ?_ ?_
    · intro u hu
      have hk := hR.since hu.1
      have hks := hk.size
      have hz := write_no sm na mo li se pa pl DA dc dl u ⟨mo0, mo1⟩ ⟨li0, li1⟩ ⟨se0, se1⟩ ⟨pa0, pa1⟩ ⟨pl0, pl1⟩ hdl HRB.out
      unfold relAt
      go_simp
      refine hz.mono ?_
      rintro e w' ⟨rfl, hb'⟩
      exact ⟨_, rfl, hR.intoB hb', hR.put 1 rfl rfl rfl⟩
    intro v hv
    obtain ⟨u, _, hu⟩ := hv
    obtain rfl := hR.get 1 rfl hu
    clear hu
    intro K hK
    go_big_quiet_op
    go_big_quiet_on
    repeat (first | (refine wpR_det hp2 rfl ((hR.rel _).trans rfl) rfl ?_; intro K hK; go_big_quiet_op; go_big_quiet_on) | (refine wpR_ptr hp2 rfl ((hR.rel _).trans rfl) rfl rfl ?_; intro K hK; go_big_quiet_op; go_big_quiet_on) | (refine wpR_skip pick rfl ?_; intro K hK; go_big_quiet_op; go_big_quiet_on))
    refine wpR_rel pick rfl ((hR.rel _).trans rfl) ((hR.turns _).trans rfl) ?_ ?_
    · intro u hu
      have hk := hR.since hu.1
      have hks := hk.size
      unfold relAt
      go_simp
      refine (awake_any u).mono ?_
      rintro e w' ⟨rfl, hb'⟩
      exact ⟨_, rfl, hR.intoB hb', hR.put 2 rfl rfl rfl⟩
    intro v hv
    obtain ⟨u, _, hu⟩ := hv
    obtain rfl := hR.get 2 rfl hu
    clear hu
    intro K hK
    go_big_quiet_op
    go_big_quiet_on
    repeat (first | (refine wpR_det hp2 rfl ((hR.rel _).trans rfl) rfl ?_; intro K hK; go_big_quiet_op; go_big_quiet_on) | (refine wpR_ptr hp2 rfl ((hR.rel _).trans rfl) rfl rfl ?_; intro K hK; go_big_quiet_op; go_big_quiet_on) | (refine wpR_skip pick rfl ?_; intro K hK; go_big_quiet_op; go_big_quiet_on))
    refine wpR_nil ?_
    intro w6 hk2 hF hM
    have HWZ := Lib.hid (keptK HW5.out hk2)
    clear hF hM hk2 hp1 hp2 hR p0 p1 p2 p3 q0 q1 q2 q3 r0 r1 r2 r3 f0 f1 f2 f3 g0 g1 g2 g3 x0 x1 x2 x3 fl pbl xl
    go_wp2_with fail
    go_ret
    exact ⟨rfl, HWZ.out⟩
  | true =>
    go_upto_region 8 with fail
    have f0 := HF5.out.cell 0
    have f1 := HF5.out.cell 1
    have f2 := HF5.out.cell 2
    have f3 := HF5.out.cell 3
    have fl := HF5.out.lt
    have g0 := HP5.out.cell 0
    have g1 := HP5.out.cell 1
    have g2 := HP5.out.cell 2
    have g3 := HP5.out.cell 3
    have pbl := HP5.out.lt
    have x0 := HX5.out.cell 0
    have x1 := HX5.out.cell 1
    have x2 := HX5.out.cell 2
    have x3 := HX5.out.cell 3
    have xl := HX5.out.lt
    simp at f0 f1 f2 f3 g0 g1 g2 g3 x0 x1 x2 x3
    refine wp_region_kept 13 [(2, fun v u => v = .agg #[.int .u32 se, .int .u32 pa, .int .u32 pl, .slice DA dl.length dc]), (3, fun v u => Byt u v (writeL sm se pa dl pl)), (4, fun v u => v = .string ⟨(writeL sm se pa dl pl).toArray⟩), (7, fun v u => Byt u v (writeL sm se pa dl pl)), (8, fun v u => v = .string ⟨(writeL sm se pa dl pl).toArray⟩), (11, fun v u => v = .bool true)] ?st ?ne rfl (by kernel_rfl) (by kernel_rfl) ?_
    case st =>
      intro p hp
      simp only [List.mem_cons, List.not_mem_nil, or_false] at hp
      rcases hp with rfl | rfl | rfl | rfl | rfl | rfl
      · intro v u u' h hk; exact h
      · intro v u u' h hk; exact h.on0 hk
      · intro v u u' h hk; exact h
      · intro v u u' h hk; exact h.on0 hk
      · intro v u u' h hk; exact h
      · intro v u u' h hk; exact h
    case ne =>
      intro p hp
      simp only [List.mem_cons, List.not_mem_nil, or_false] at hp
      rcases hp with rfl | rfl | rfl | rfl | rfl | rfl
      · exact ⟨_, _, Kept.refl _ _, rfl⟩
      · exact Byt.some _ _ (by have := HWL.out; unfold maxLen; omega)
      · exact ⟨_, _, Kept.refl _ _, rfl⟩
      · exact Byt.some _ _ (by have := HWL.out; unfold maxLen; omega)
      · exact ⟨_, _, Kept.refl _ _, rfl⟩
      · exact ⟨_, _, Kept.refl _ _, rfl⟩
    simp only [List.take_succ_cons, List.take_zero, List.drop_succ_cons, List.drop_zero]
    intro G pick hR hp1 hp2
    have p0 : ∀ u, (pick u).cell? ⟨fb, 0, none⟩ = some (.bool sm) := fun u => ((hp1 u).cell fl (fun h => h) _).trans f0
    have p1 : ∀ u, (pick u).cell? ⟨fb, 1, none⟩ = some (.bool na) := fun u => ((hp1 u).cell fl (fun h => h) _).trans f1
    have p2 : ∀ u, (pick u).cell? ⟨fb, 2, none⟩ = some (.int .u32 mo) := fun u => ((hp1 u).cell fl (fun h => h) _).trans f2
    have p3 : ∀ u, (pick u).cell? ⟨fb, 3, none⟩ = some (.int .u32 li) := fun u => ((hp1 u).cell fl (fun h => h) _).trans f3
    have q0 : ∀ u, (pick u).cell? ⟨pb, 0, none⟩ = some (.int .u32 se) := fun u => ((hp1 u).cell pbl (fun h => h) _).trans g0
    have q1 : ∀ u, (pick u).cell? ⟨pb, 1, none⟩ = some (.int .u32 pa) := fun u => ((hp1 u).cell pbl (fun h => h) _).trans g1
    have q2 : ∀ u, (pick u).cell? ⟨pb, 2, none⟩ = some (.int .u32 pl) := fun u => ((hp1 u).cell pbl (fun h => h) _).trans g2
    have q3 : ∀ u, (pick u).cell? ⟨pb, 3, none⟩ = some (.slice DA dl.length dc) := fun u => ((hp1 u).cell pbl (fun h => h) _).trans g3
    have r0 : ∀ u, (pick u).cell? ⟨xb, 0, none⟩ = some (.bool sm) := fun u => ((hp1 u).cell xl (fun h => h) _).trans x0
    have r1 : ∀ u, (pick u).cell? ⟨xb, 1, none⟩ = some (.bool na) := fun u => ((hp1 u).cell xl (fun h => h) _).trans x1
    have r2 : ∀ u, (pick u).cell? ⟨xb, 2, none⟩ = some (.int .u32 mo) := fun u => ((hp1 u).cell xl (fun h => h) _).trans x2
    have r3 : ∀ u, (pick u).cell? ⟨xb, 3, none⟩ = some (.int .u32 li) := fun u => ((hp1 u).cell xl (fun h => h) _).trans x3
    repeat (first | (refine wpR_det hp2 rfl ((hR.rel _).trans rfl) rfl ?_; intro K hK; go_big_quiet_op; go_big_quiet_on) | (refine wpR_ptr hp2 rfl ((hR.rel _).trans rfl) rfl rfl ?_; intro K hK; go_big_quiet_op; go_big_quiet_on) | (refine wpR_skip pick rfl ?_; intro K hK; go_big_quiet_op; go_big_quiet_on))
    refine wpR_rel pick rfl ((hR.rel _).trans rfl) ((hR.turns _).trans rfl) ?_ ?_
    · intro u hu
      have hk := hR.since hu.1
      have hks := hk.size
      unfold relAt
      go_simp
      refine (packet_any se pa pl DA dc dl u).mono ?_
      rintro e w' ⟨rfl, hb'⟩
      exact ⟨_, rfl, hR.intoB hb', hR.put 0 rfl rfl rfl⟩
    intro v hv
    obtain ⟨u, _, hu⟩ := hv
    obtain rfl := hR.get 0 rfl hu
    clear hu
    intro K hK
    go_big_quiet_op
    go_big_quiet_on
    repeat (first | (refine wpR_det hp2 rfl ((hR.rel _).trans rfl) rfl ?_; intro K hK; go_big_quiet_op; go_big_quiet_on) | (refine wpR_ptr hp2 rfl ((hR.rel _).trans rfl) rfl rfl ?_; intro K hK; go_big_quiet_op; go_big_quiet_on) | (refine wpR_skip pick rfl ?_; intro K hK; go_big_quiet_op; go_big_quiet_on))
    refine wpR_rel pick rfl ((hR.rel _).trans rfl) ((hR.turns _).trans rfl) ?_ ?_
    · intro u hu
      have hk := hR.since hu.1
      have hks := hk.size
      have hz := (write_any sm na mo li se pa pl DA dc dl u ⟨mo0, mo1⟩ ⟨li0, li1⟩ ⟨se0, se1⟩ ⟨pa0, pa1⟩ ⟨pl0, pl1⟩ hdl hdc HDM.out (HD.out.onB (keptK HW5.out hk) (Nat.le_refl _)) HRB.out)
      unfold relAt
      go_simp
      refine hz.mono ?_
      rintro e w' ⟨v, rfl, hT, hb'⟩
      exact ⟨_, rfl, hR.intoB hb', hR.put 1 rfl rfl hT⟩
    intro v hv
    obtain ⟨u, _, hu⟩ := hv
    obtain ⟨A3, c3, rfl, -, -, -⟩ := hR.get 1 rfl hu
    clear hu
    intro K hK
    go_big_quiet_op
    go_big_quiet_on
    repeat (first | (refine wpR_det hp2 rfl ((hR.rel _).trans rfl) rfl ?_; intro K hK; go_big_quiet_op; go_big_quiet_on) | (refine wpR_ptr hp2 rfl ((hR.rel _).trans rfl) rfl rfl ?_; intro K hK; go_big_quiet_op; go_big_quiet_on) | (refine wpR_skip pick rfl ?_; intro K hK; go_big_quiet_op; go_big_quiet_on))
    refine wpR_rel pick rfl ((hR.rel _).trans rfl) ((hR.turns _).trans rfl) ?_ ?_
    · intro u hu
      have hk := hR.since hu.1
      have hks := hk.size
      obtain ⟨A', c', e, -, -, hB⟩ := (hR.get 1 rfl (hu.2 _ _ (Got.upd_self _ _ _) (by kernel_rfl)))
      injection e with e1 e2 e3
      subst e1 e3
      have hcv := hB.conv (P := Try.prog) (c := c3) Try.underlying25 Try.underlying5 Try.underlying9
      clear hB
      unfold relAt
      go_simp
      exact ⟨hR.into0 (Kept.refl _ _), hR.put 2 rfl rfl rfl⟩
    intro v hv
    obtain ⟨u, _, hu⟩ := hv
    obtain rfl := hR.get 2 rfl hu
    clear hu
    intro K hK
    go_big_quiet_op
    go_big_quiet_on
    repeat (first | (refine wpR_det hp2 rfl ((hR.rel _).trans rfl) rfl ?_; intro K hK; go_big_quiet_op; go_big_quiet_on) | (refine wpR_ptr hp2 rfl ((hR.rel _).trans rfl) rfl rfl ?_; intro K hK; go_big_quiet_op; go_big_quiet_on) | (refine wpR_skip pick rfl ?_; intro K hK; go_big_quiet_op; go_big_quiet_on))
    refine wpR_rel pick rfl ((hR.rel _).trans rfl) ((hR.turns _).trans rfl) ?_ ?_
    · intro u hu
      have hk := hR.since hu.1
      have hks := hk.size
      have hz := (refWrite_any sm na mo li se pa pl DA dc dl u ⟨mo0, mo1⟩ ⟨li0, li1⟩ ⟨se0, se1⟩ ⟨pa0, pa1⟩ ⟨pl0, pl1⟩ hdl hdc HDM.out (HD.out.onB (keptK HW5.out hk) (Nat.le_refl _)))
      unfold relAt
      go_simp
      refine hz.mono ?_
      rintro e w' ⟨v, rfl, hT, hb'⟩
      exact ⟨_, rfl, hR.intoB hb', hR.put 3 rfl rfl hT⟩
    intro v hv
    obtain ⟨u, _, hu⟩ := hv
    obtain ⟨A7, c7, rfl, -, -, -⟩ := hR.get 3 rfl hu
    clear hu
    intro K hK
    go_big_quiet_op
    go_big_quiet_on
    repeat (first | (refine wpR_det hp2 rfl ((hR.rel _).trans rfl) rfl ?_; intro K hK; go_big_quiet_op; go_big_quiet_on) | (refine wpR_ptr hp2 rfl ((hR.rel _).trans rfl) rfl rfl ?_; intro K hK; go_big_quiet_op; go_big_quiet_on) | (refine wpR_skip pick rfl ?_; intro K hK; go_big_quiet_op; go_big_quiet_on))
    refine wpR_rel pick rfl ((hR.rel _).trans rfl) ((hR.turns _).trans rfl) ?_ ?_
    · intro u hu
      have hk := hR.since hu.1
      have hks := hk.size
      obtain ⟨A', c', e, -, -, hB⟩ := (hR.get 3 rfl (hu.2 _ _ (Got.upd_self _ _ _) (by kernel_rfl)))
      injection e with e1 e2 e3
      subst e1 e3
      have hcv := hB.conv (P := Try.prog) (c := c7) Try.underlying25 Try.underlying5 Try.underlying9
      clear hB
      unfold relAt
      go_simp
      exact ⟨hR.into0 (Kept.refl _ _), hR.put 4 rfl rfl rfl⟩
    intro v hv
    obtain ⟨u, _, hu⟩ := hv
    obtain rfl := hR.get 4 rfl hu
    clear hu
    intro K hK
    go_big_quiet_op
    go_big_quiet_on
    repeat (first | (refine wpR_det hp2 rfl ((hR.rel _).trans rfl) rfl ?_; intro K hK; go_big_quiet_op; go_big_quiet_on) | (refine wpR_ptr hp2 rfl ((hR.rel _).trans rfl) rfl rfl ?_; intro K hK; go_big_quiet_op; go_big_quiet_on) | (refine wpR_skip pick rfl ?_; intro K hK; go_big_quiet_op; go_big_quiet_on))
    refine wpR_rel pick rfl ((hR.rel _).trans rfl) ((hR.turns _).trans rfl) ?_ ?_
    · intro u hu
      have hk := hR.since hu.1
      have hks := hk.size
      unfold relAt
      go_simp
      refine (awake_any u).mono ?_
      rintro e w' ⟨rfl, hb'⟩
      exact ⟨_, rfl, hR.intoB hb', hR.put 5 rfl rfl rfl⟩
    intro v hv
    obtain ⟨u, _, hu⟩ := hv
    obtain rfl := hR.get 5 rfl hu
    clear hu
    intro K hK
    go_big_quiet_op
    go_big_quiet_on
    repeat (first | (refine wpR_det hp2 rfl ((hR.rel _).trans rfl) rfl ?_; intro K hK; go_big_quiet_op; go_big_quiet_on) | (refine wpR_ptr hp2 rfl ((hR.rel _).trans rfl) rfl rfl ?_; intro K hK; go_big_quiet_op; go_big_quiet_on) | (refine wpR_skip pick rfl ?_; intro K hK; go_big_quiet_op; go_big_quiet_on))
    refine wpR_nil ?_
    intro w6 hk2 hF hM
    have HWZ := Lib.hid (keptK HW5.out hk2)
    clear hF hM hk2 hp1 hp2 hR p0 p1 p2 p3 q0 q1 q2 q3 r0 r1 r2 r3 f0 f1 f2 f3 g0 g1 g2 g3 x0 x1 x2 x3 fl pbl xl
    go_wp2_with fail
    go_ret
    exact ⟨rfl, HWZ.out⟩
structure FileV where
  small : Bool
  nano : Bool
  most : Int
  link : Int
def FileV.cs (a : FileV) : List Value := [.bool a.small, .bool a.nano, .int .u32 a.most, .int .u32 a.link]
theorem FileV.cs_len (a : FileV) : a.cs.length = 4 := rfl
def FileV.wf (a : FileV) (w : World) : Prop := (0 ≤ a.most ∧ a.most ≤ 4294967295) ∧ (0 ≤ a.link ∧ a.link ≤ 4294967295)
theorem trod_FileV {H : Type} {enc : TypeId × Value → H} {w : World} {base : Nat} {spare : Nat → Bool} {held : Bool} {fuel : Nat} {l : List Value} {x : DataW H × List MemPlace} (h : DataW.trod enc Try.prog w base spare held fuel 24 l = some x) (hl : l.length = 4) : ∃ a : FileV, l = a.cs ∧ a.wf w := by
  match l, hl with
  | [c0, c1, c2, c3], _ =>
    obtain ⟨xs, n, -, -, -, hlen, hg⟩ := DataW.trod_struct Try.underlying24 h
    have hlk : xs.length = 4 := hlen
    have g0 : DataW.trod enc Try.prog w base spare held n 4 (([c0, c1, c2, c3].drop 0).take (Try.prog.cellsOf 4)) = xs[0]? := hg 0 _ rfl
    rw [show Try.prog.cellsOf 4 = 1 by kernel_rfl, List.getElem?_eq_getElem (by omega)] at g0
    have g1 : DataW.trod enc Try.prog w base spare held n 4 (([c0, c1, c2, c3].drop 1).take (Try.prog.cellsOf 4)) = xs[1]? := hg 1 _ rfl
    rw [show Try.prog.cellsOf 4 = 1 by kernel_rfl, List.getElem?_eq_getElem (by omega)] at g1
    have g2 : DataW.trod enc Try.prog w base spare held n 22 (([c0, c1, c2, c3].drop 2).take (Try.prog.cellsOf 22)) = xs[2]? := hg 2 _ rfl
    rw [show Try.prog.cellsOf 22 = 1 by kernel_rfl, List.getElem?_eq_getElem (by omega)] at g2
    have g3 : DataW.trod enc Try.prog w base spare held n 22 (([c0, c1, c2, c3].drop 3).take (Try.prog.cellsOf 22)) = xs[3]? := hg 3 _ rfl
    rw [show Try.prog.cellsOf 22 = 1 by kernel_rfl, List.getElem?_eq_getElem (by omega)] at g3
    obtain ⟨a0, e0, -⟩ := DataW.trod_bool Try.underlying4 g0
    simp at e0
    subst e0
    obtain ⟨a1, e1, -⟩ := DataW.trod_bool Try.underlying4 g1
    simp at e1
    subst e1
    obtain ⟨a2, e2, -, z2⟩ := DataW.trod_int Try.underlying22 g2
    simp [Lit.wf, IntKind.min, IntKind.max, IntKind.signed, IntKind.bits] at e2 z2
    subst e2
    obtain ⟨a3, e3, -, z3⟩ := DataW.trod_int Try.underlying22 g3
    simp [Lit.wf, IntKind.min, IntKind.max, IntKind.signed, IntKind.bits] at e3 z3
    subst e3
    exact ⟨⟨a0, a1, a2, a3⟩, rfl, ⟨⟨by simpa using z2.1, by simpa using z2.2⟩, ⟨by simpa using z3.1, by simpa using z3.2⟩⟩⟩
structure PackV where
  sec : Int
  part : Int
  len : Int
  data : BV
def PackV.cs (a : PackV) : List Value := [.int .u32 a.sec, .int .u32 a.part, .int .u32 a.len, a.data.val]
theorem PackV.cs_len (a : PackV) : a.cs.length = 4 := rfl
def PackV.wf (a : PackV) (w : World) : Prop := (0 ≤ a.sec ∧ a.sec ≤ 4294967295) ∧ (0 ≤ a.part ∧ a.part ≤ 4294967295) ∧ (0 ≤ a.len ∧ a.len ≤ 4294967295) ∧ a.data.ok w
theorem trod_PackV {H : Type} {enc : TypeId × Value → H} {w : World} {base : Nat} {spare : Nat → Bool} {held : Bool} {fuel : Nat} {l : List Value} {x : DataW H × List MemPlace} (h : DataW.trod enc Try.prog w base spare held fuel 27 l = some x) (hl : l.length = 4) : ∃ a : PackV, l = a.cs ∧ a.wf w := by
  match l, hl with
  | [c0, c1, c2, c3], _ =>
    obtain ⟨xs, n, -, -, -, hlen, hg⟩ := DataW.trod_struct Try.underlying27 h
    have hlk : xs.length = 4 := hlen
    have g0 : DataW.trod enc Try.prog w base spare held n 22 (([c0, c1, c2, c3].drop 0).take (Try.prog.cellsOf 22)) = xs[0]? := hg 0 _ rfl
    rw [show Try.prog.cellsOf 22 = 1 by kernel_rfl, List.getElem?_eq_getElem (by omega)] at g0
    have g1 : DataW.trod enc Try.prog w base spare held n 22 (([c0, c1, c2, c3].drop 1).take (Try.prog.cellsOf 22)) = xs[1]? := hg 1 _ rfl
    rw [show Try.prog.cellsOf 22 = 1 by kernel_rfl, List.getElem?_eq_getElem (by omega)] at g1
    have g2 : DataW.trod enc Try.prog w base spare held n 22 (([c0, c1, c2, c3].drop 2).take (Try.prog.cellsOf 22)) = xs[2]? := hg 2 _ rfl
    rw [show Try.prog.cellsOf 22 = 1 by kernel_rfl, List.getElem?_eq_getElem (by omega)] at g2
    have g3 : DataW.trod enc Try.prog w base spare held n 25 (([c0, c1, c2, c3].drop 3).take (Try.prog.cellsOf 25)) = xs[3]? := hg 3 _ rfl
    rw [show Try.prog.cellsOf 25 = 1 by kernel_rfl, List.getElem?_eq_getElem (by omega)] at g3
    obtain ⟨a0, e0, -, z0⟩ := DataW.trod_int Try.underlying22 g0
    simp [Lit.wf, IntKind.min, IntKind.max, IntKind.signed, IntKind.bits] at e0 z0
    subst e0
    obtain ⟨a1, e1, -, z1⟩ := DataW.trod_int Try.underlying22 g1
    simp [Lit.wf, IntKind.min, IntKind.max, IntKind.signed, IntKind.bits] at e1 z1
    subst e1
    obtain ⟨a2, e2, -, z2⟩ := DataW.trod_int Try.underlying22 g2
    simp [Lit.wf, IntKind.min, IntKind.max, IntKind.signed, IntKind.bits] at e2 z2
    subst e2
    obtain ⟨a3, rfl, z3⟩ := trod_bytes Try.underlying25 Try.underlying5 (by kernel_rfl) g3
    exact ⟨⟨a0, a1, a2, a3⟩, rfl, ⟨⟨by simpa using z0.1, by simpa using z0.2⟩, ⟨by simpa using z1.1, by simpa using z1.2⟩, ⟨by simpa using z2.1, by simpa using z2.2⟩, z3⟩⟩
open Go.ChangeShapes Go.WideShapes Go.ChangeAt in
theorem open_file {H : Type} {enc : TypeId × Value → H} {w : World} {base : Nat} {spare : Nat → Bool} {held : Bool} {r : Reach} {b0 : Nat} {v : Value} {d : DataW H} {p : List MemPlace} (hv : Value.okWide Try.prog w r b0 24 v) (h : DataW.Trod enc Try.prog w base spare held 24 v d p) : ∃ a : FileV, v = .agg a.cs.toArray ∧ a.wf w := by
  obtain ⟨cs, rfl, hsz⟩ := okWide_struct Try.underlying24 hv
  obtain ⟨l⟩ := cs
  obtain ⟨fuel, hf⟩ := h
  obtain ⟨a, rfl, ha⟩ := trod_FileV (l := l) hf (hsz.trans (by kernel_rfl))
  exact ⟨a, rfl, ha⟩
open Go.ChangeShapes Go.WideShapes Go.ChangeAt in
theorem open_pack {H : Type} {enc : TypeId × Value → H} {w : World} {base : Nat} {spare : Nat → Bool} {held : Bool} {r : Reach} {b0 : Nat} {v : Value} {d : DataW H} {p : List MemPlace} (hv : Value.okWide Try.prog w r b0 27 v) (h : DataW.Trod enc Try.prog w base spare held 27 v d p) : ∃ a : PackV, v = .agg a.cs.toArray ∧ a.wf w := by
  obtain ⟨cs, rfl, hsz⟩ := okWide_struct Try.underlying27 hv
  obtain ⟨l⟩ := cs
  obtain ⟨fuel, hf⟩ := h
  obtain ⟨a, rfl, ha⟩ := trod_PackV (l := l) hf (hsz.trans (by kernel_rfl))
  exact ⟨a, rfl, ha⟩
theorem writes_l (f : FileV) (p : PackV) (w : World) (hf : f.wf w) (hp : p.wf w) : Calls Try.prog 3 #[.agg f.cs.toArray, .agg p.cs.toArray] w fun e w' => e = .returned (.bool true) ∧ Below w.heap.size w w' := by
  obtain ⟨h1, h2, h3⟩ := hp.2.2.2
  by_cases h : 2000 < p.data.l.length
  · exact writes_long f.small f.nano f.most f.link p.sec p.part p.len p.data.A p.data.c p.data.l w h (by unfold maxLen at h2; omega)
  · exact writes_any f.small f.nano f.most f.link p.sec p.part p.len p.data.A p.data.c p.data.l w hf.1 hf.2 hp.1 hp.2.1 hp.2.2.1 (by omega) h1 h2 h3
end Go.Proofs.Ytohimionlgaaoaa
