/- The law CaptureReads at bytes that begin with no head. -/
import Derived.Test.YtohimionlgaaoaaU
namespace Go.Proofs.Ytohimionlgaaoaa
open Go.RowKit
set_option linter.unusedVariables false
set_option maxRecDepth 10000 in
set_option maxHeartbeats 16000000 in
theorem reads_20 (gs gn : Bool) (gm gl : Int) (mt : Nat) (A : Option Addr) (c : Nat) (b : List UInt8) (w : World) (hgm : 0 ≤ gm ∧ gm ≤ 4294967295) (hgl : 0 ≤ gl ∧ gl ≤ 4294967295) (hmt : mt ≤ 255) (hl : b.length ≤ 2000) (hc : b.length ≤ c) (hcm : c ≤ maxLen) (hB : BS w w.heap.size A b) (hno : noF b) (her : errOf b = 20) :
    Calls Try.prog 4 #[.slice A b.length c, .agg #[.bool gs, .bool gn, .int .u32 gm, .int .u32 gl], .int .u8 (mt : Int)] w fun e w' => e = .returned (.bool true) ∧ Below w.heap.size w w' := by
  have HB := Lib.hid hB
  have GM := Lib.hid hgm
  have GL := Lib.hid hgl
  have HC := Lib.hid (show b.length ≤ c ∧ c ≤ maxLen from ⟨hc, hcm⟩)
  clear hB hgm hgl
  unfold maxLen at hcm
  have HO := Lib.hid (fun u (hu : BS u u.heap.size A b) => by have h := open_no A c b u (by omega) HC.out.1 HC.out.2 hu hno; rw [her] at h; exact h)
  have HRO := Lib.hid (fun u (hu : BS u u.heap.size A b) => by have h := refOpen_no A c b u (by omega) HC.out.1 HC.out.2 hu hno; rw [her] at h; exact h)
  have HRD := Lib.hid (fun u (hu : BS u u.heap.size A b) => by have h := read_no A c b u (by omega) HC.out.1 HC.out.2 hu hno; rw [her] at h; exact h)
  clear hno her
  go_enter Try.func4, Try.ntmps4
  have i1 : ¬ (2000 : Int) < (b.length : Int) := by omega
  go_upto_region 1 with fail
  obtain ⟨w1, hw1⟩ : ∃ w1 : World, w1 = w.alloc (.cells #[.bool gs, .bool gn, .int .u32 gm, .int .u32 gl] 24) := ⟨_, rfl⟩
  have HG4 := Lib.hid (show Blk w1 w.heap.size 24 #[.bool gs, .bool gn, .int .u32 gm, .int .u32 gl] by rw [hw1]; exact Blk.new _ _ _)
  have HKw1 := Lib.hid (show Kept (fun _ => False) w w1 by rw [hw1]; exact (Kept.refl _ _).alloc _)
  rw [← hw1]
  clear hw1
  obtain ⟨g4, hg4⟩ : ∃ g, w.heap.size = g := ⟨_, rfl⟩
  rw [hg4] at HG4 ⊢
  clear hg4
  go_wp2_with fail
  refine (HO.out w1 (HB.out.on HKw1.out (fun _ _ h => h))).mono ?_
  rintro e w2 ⟨rfl, hb2⟩
  have HKa := Lib.hid (show Kept (fun _ => False) w1 w2 from Kept.quietly hb2)
  clear hb2
  go_upto_region 4 with fail
  obtain ⟨w3, hw3⟩ : ∃ w3 : World, w3 = w2.alloc (.cells #[.bool false, .bool false, .int .u32 0, .int .u32 0] 29) := ⟨_, rfl⟩
  have HG7 := Lib.hid (show Blk w3 w2.heap.size 29 #[.bool false, .bool false, .int .u32 0, .int .u32 0] by rw [hw3]; exact Blk.new _ _ _)
  have HKw3 := Lib.hid (show Kept (fun _ => False) w2 w3 by rw [hw3]; exact (Kept.refl _ _).alloc _)
  rw [← hw3]
  clear hw3
  obtain ⟨g7, hg7⟩ : ∃ g, w2.heap.size = g := ⟨_, rfl⟩
  rw [hg7] at HG7 ⊢
  clear hg7
  have HKb := Lib.hid (show Kept (fun _ => False) w w3 from (HKw1.out.trans HKa.out).trans HKw3.out)
  go_wp2_with fail
  refine (HRO.out w3 (HB.out.on HKb.out (fun _ _ h => h))).mono ?_
  rintro e w4 ⟨rfl, hb4⟩
  have HKc := Lib.hid (show Kept (fun _ => False) w3 w4 from Kept.quietly hb4)
  clear hb4
  go_upto_region 5 with fail
  obtain ⟨w5, hw5⟩ : ∃ w5 : World, w5 = w4.alloc (.cells #[.bool false, .bool false, .int .u32 0, .int .u32 0] 24) := ⟨_, rfl⟩
  have HG10 := Lib.hid (show Blk w5 w4.heap.size 24 #[.bool false, .bool false, .int .u32 0, .int .u32 0] by rw [hw5]; exact Blk.new _ _ _)
  have HKw5 := Lib.hid (show Kept (fun _ => False) w4 w5 by rw [hw5]; exact (Kept.refl _ _).alloc _)
  rw [← hw5]
  clear hw5
  obtain ⟨g10, hg10⟩ : ∃ g, w4.heap.size = g := ⟨_, rfl⟩
  rw [hg10] at HG10 ⊢
  clear hg10
  have HG7o := HG7
  clear HG7
  have HG7 := Lib.hid (HG7o.out.kept (HKc.out.trans HKw5.out) (fun h => h))
  have HKW5 := Lib.hid (show Kept (fun _ => False) w w5 from HKb.out.trans (HKc.out.trans HKw5.out))
  refine wp_region_kept 21 [(2, fun v u => v = .agg #[.bool false, .bool false, .int .u32 0, .int .u32 0]), (3, fun v u => v = .bool false)] ?st ?ne rfl (by kernel_rfl) (by kernel_rfl) ?_
  case st =>
    intro p hp
    simp only [List.mem_cons, List.not_mem_nil, or_false] at hp
    rcases hp with rfl | rfl
    · intro v u u' h hk; exact h
    · intro v u u' h hk; exact h
  case ne =>
    intro p hp
    simp only [List.mem_cons, List.not_mem_nil, or_false] at hp
    rcases hp with rfl | rfl
    · exact ⟨_, _, Kept.refl _ _, rfl⟩
    · exact ⟨_, _, Kept.refl _ _, rfl⟩
  simp only [List.take_succ_cons, List.take_zero, List.drop_succ_cons, List.drop_zero]
  intro G pick hR hp1 hp2
  have p0 : ∀ u, (pick u).cell? ⟨g7, 0, none⟩ = some (.bool false) := fun u => ((hp1 u).cell HG7.out.lt (fun h => h) _).trans (HG7.out.cell 0)
  have p1 : ∀ u, (pick u).cell? ⟨g7, 1, none⟩ = some (.bool false) := fun u => ((hp1 u).cell HG7.out.lt (fun h => h) _).trans (HG7.out.cell 1)
  have p2 : ∀ u, (pick u).cell? ⟨g7, 2, none⟩ = some (.int .u32 0) := fun u => ((hp1 u).cell HG7.out.lt (fun h => h) _).trans (HG7.out.cell 2)
  have p3 : ∀ u, (pick u).cell? ⟨g7, 3, none⟩ = some (.int .u32 0) := fun u => ((hp1 u).cell HG7.out.lt (fun h => h) _).trans (HG7.out.cell 3)
  have q0 : ∀ u, (pick u).cell? ⟨g10, 0, none⟩ = some (.bool false) := fun u => ((hp1 u).cell HG10.out.lt (fun h => h) _).trans (HG10.out.cell 0)
  have q1 : ∀ u, (pick u).cell? ⟨g10, 1, none⟩ = some (.bool false) := fun u => ((hp1 u).cell HG10.out.lt (fun h => h) _).trans (HG10.out.cell 1)
  have q2 : ∀ u, (pick u).cell? ⟨g10, 2, none⟩ = some (.int .u32 0) := fun u => ((hp1 u).cell HG10.out.lt (fun h => h) _).trans (HG10.out.cell 2)
  have q3 : ∀ u, (pick u).cell? ⟨g10, 3, none⟩ = some (.int .u32 0) := fun u => ((hp1 u).cell HG10.out.lt (fun h => h) _).trans (HG10.out.cell 3)
  repeat (first | (refine wpR_det hp2 rfl ((hR.rel _).trans rfl) rfl ?_; intro K hK; go_big_quiet_op; go_big_quiet_on) | (refine wpR_ptr hp2 rfl ((hR.rel _).trans rfl) rfl rfl ?_; intro K hK; go_big_quiet_op; go_big_quiet_on) | (refine wpR_skip pick rfl ?_; intro K hK; go_big_quiet_op; go_big_quiet_on))
  refine wpR_rel pick rfl ((hR.rel _).trans rfl) ((hR.turns _).trans rfl) ?_ ?_
  · intro u hu
    have hk := hR.since hu.1
    have hks := hk.size
    have hz := to_any false false 0 0 u
    unfold relAt
    go_simp
    refine hz.mono ?_
    rintro e w' ⟨rfl, hb'⟩
    exact ⟨_, rfl, hR.intoB hb', hR.put 0 rfl rfl rfl⟩
  intro v hv
  obtain ⟨u, _, hu⟩ := hv
  obtain rfl := hR.get 0 rfl hu
  clear hu
  intro K hK
  go_big_quiet_op
  go_big_quiet_on
  repeat (first | (refine wpR_det hp2 rfl ((hR.rel _).trans rfl) rfl ?_; intro K hK; go_big_quiet_op; go_big_quiet_on) | (refine wpR_ptr hp2 rfl ((hR.rel _).trans rfl) rfl rfl ?_; intro K hK; go_big_quiet_op; go_big_quiet_on) | (refine wpR_skip pick rfl ?_; intro K hK; go_big_quiet_op; go_big_quiet_on))
  refine wpR_rel pick rfl ((hR.rel _).trans rfl) ((hR.turns _).trans rfl) ?_ ?_
  · intro u hu
    have hk := hR.since hu.1
    have hks := hk.size
    unfold relAt
    go_simp
    exact ⟨hR.same, hR.put 1 rfl rfl rfl⟩
  intro v hv
  obtain ⟨u, _, hu⟩ := hv
  obtain rfl := hR.get 1 rfl hu
  clear hu
  intro K hK
  go_big_quiet_op
  go_big_quiet_on
  repeat (first | (refine wpR_det hp2 rfl ((hR.rel _).trans rfl) rfl ?_; intro K hK; go_big_quiet_op; go_big_quiet_on) | (refine wpR_ptr hp2 rfl ((hR.rel _).trans rfl) rfl rfl ?_; intro K hK; go_big_quiet_op; go_big_quiet_on) | (refine wpR_skip pick rfl ?_; intro K hK; go_big_quiet_op; go_big_quiet_on))
  refine wpR_nil ?_
  intro w6 hk2 hF hM
  have HKd := Lib.hid hk2
  clear hF hM hk2 hp1 hp2 hR p0 p1 p2 p3 q0 q1 q2 q3
  have HKW6 := Lib.hid (show Kept (fun _ => False) w w6 from HKW5.out.trans HKd.out)
  have HG46 := Lib.hid (HG4.out.kept (HKa.out.trans (HKw3.out.trans (HKc.out.trans (HKw5.out.trans HKd.out)))) (fun h => h))
  clear HG4
  obtain ⟨ps, hps⟩ : ∃ ps, (alls gs gn gm b).1 = ps := ⟨_, rfl⟩
  have HPS := Lib.hid hps
  have hpl := alls_len gs gn gm b
  rw [hps] at hpl
  obtain ⟨us, hus⟩ : ∃ us, (alls gs gn gm b).2 = us := ⟨_, rfl⟩
  have hra := refAllW gs gn gm gl A c b w6 GM.out GL.out (by omega) HC.out.1 HC.out.2 (HB.out.on HKW6.out (fun _ _ h => h))
  rw [hps, hus] at hra
  have HRA := Lib.hid hra
  clear hps hus hra
  have cg := HG46.out.cell
  go_wp2_with fail
  refine HRA.out.mono ?_
  rintro e w7 ⟨v, rfl, hM, hb7⟩
  obtain ⟨MA, mc, rfl, hm1, hm2⟩ := hM.shape
  have HMW := Lib.hid (hM.more HKW6.out.size)
  have HKe := Lib.hid (show Kept (fun _ => False) w6 w7 from Kept.quietly hb7)
  have HKW := Lib.hid (show Kept (fun _ => False) w w7 from HKW6.out.trans HKe.out)
  have HG4 := Lib.hid (HG46.out.kept HKe.out (fun h => h))
  clear hM hb7 HRA cg
  go_upto_region 8 with fail
  have cv : IntKind.i64.wrap (mt : Int) = (mt : Int) := IntWalk.i64_in _ (by omega)
  obtain ⟨jj, hjj⟩ : ∃ j, min ps.length mt = j := ⟨_, rfl⟩
  have HTK := Lib.hid (show ps.take jj = ps.take mt by rw [← hjj, Nat.min_comm]; simp [List.take_eq_take_iff])
  have HMIN := Lib.hid (show min (ps.length : Int) (mt : Int) = (jj : Int) by rw [← hjj]; omega)
  have hjl : jj ≤ ps.length := by omega
  have hj0 : (jj : Int) ≤ (mc : Int) := by omega
  have hj1 : (0 : Int) ≤ (jj : Int) := by omega
  have HEX1 := Lib.hid (show ∃ v u, Kept (fun _ => False) w7 u ∧ PksO u w.heap.size v ps from by
    have hz := alll_any gs gn gm gl A c b 300 w7 GM.out GL.out (by omega) (by omega) (HB.out.on HKW.out (fun _ _ h => h))
    rw [HPS.out, List.take_of_length_le (show ps.length ≤ 300 by omega)] at hz
    obtain ⟨e, u, v, -, h1, h2⟩ := calls_some hz
    exact ⟨v, u, Kept.quietly h2, h1.more HKW.out.size⟩)
  have HEX2 := Lib.hid (show ∃ v u, Kept (fun _ => False) w7 u ∧ PksO u w.heap.size v (ps.take jj) from by
    have hz := alll_any gs gn gm gl A c b mt w7 GM.out GL.out (by omega) (by omega) (HB.out.on HKW.out (fun _ _ h => h))
    rw [HPS.out, ← HTK.out] at hz
    obtain ⟨e, u, v, -, h1, h2⟩ := calls_some hz
    exact ⟨v, u, Kept.quietly h2, h1.more HKW.out.size⟩)
  refine wp_region_kept 24 [(1, fun v u => v = .agg #[.bool gs, .bool gn, .int .u32 gm, .int .u32 gl]), (3, fun v u => PksO u w.heap.size v ps), (5, fun v u => v = .bool true), (9, fun v u => v = .agg #[.bool gs, .bool gn, .int .u32 gm, .int .u32 gl]), (13, fun v u => PksO u w.heap.size v (ps.take jj)), (19, fun v u => v = .int .i64 (jj : Int)), (20, fun v u => v = .slice MA jj mc), (21, fun v u => v = .bool true)] ?st ?ne rfl (by kernel_rfl) (by kernel_rfl) ?_
  case st =>
    intro p hp
    simp only [List.mem_cons, List.not_mem_nil, or_false] at hp
    rcases hp with rfl | rfl | rfl | rfl | rfl | rfl | rfl | rfl
    · intro v u u' h hk; exact h
    · intro v u u' h hk; exact h.on hk
    · intro v u u' h hk; exact h
    · intro v u u' h hk; exact h
    · intro v u u' h hk; exact h.on hk
    · intro v u u' h hk; exact h
    · intro v u u' h hk; exact h
    · intro v u u' h hk; exact h
  case ne =>
    intro p hp
    simp only [List.mem_cons, List.not_mem_nil, or_false] at hp
    rcases hp with rfl | rfl | rfl | rfl | rfl | rfl | rfl | rfl
    · exact ⟨_, _, Kept.refl _ _, rfl⟩
    · exact HEX1.out
    · exact ⟨_, _, Kept.refl _ _, rfl⟩
    · exact ⟨_, _, Kept.refl _ _, rfl⟩
    · exact HEX2.out
    · exact ⟨_, _, Kept.refl _ _, rfl⟩
    · exact ⟨_, _, Kept.refl _ _, rfl⟩
    · exact ⟨_, _, Kept.refl _ _, rfl⟩
  simp only [List.take_succ_cons, List.take_zero, List.drop_succ_cons, List.drop_zero]
  intro G pick hR hp1 hp2
  have p0 : ∀ u, (pick u).cell? ⟨g4, 0, none⟩ = some (.bool gs) := fun u => ((hp1 u).cell HG4.out.lt (fun h => h) _).trans (HG4.out.cell 0)
  have p1 : ∀ u, (pick u).cell? ⟨g4, 1, none⟩ = some (.bool gn) := fun u => ((hp1 u).cell HG4.out.lt (fun h => h) _).trans (HG4.out.cell 1)
  have p2 : ∀ u, (pick u).cell? ⟨g4, 2, none⟩ = some (.int .u32 gm) := fun u => ((hp1 u).cell HG4.out.lt (fun h => h) _).trans (HG4.out.cell 2)
  have p3 : ∀ u, (pick u).cell? ⟨g4, 3, none⟩ = some (.int .u32 gl) := fun u => ((hp1 u).cell HG4.out.lt (fun h => h) _).trans (HG4.out.cell 3)
  repeat (first | (refine wpR_det hp2 rfl ((hR.rel _).trans rfl) rfl ?_; intro K hK; go_big_quiet_op; go_big_quiet_on) | (refine wpR_ptr hp2 rfl ((hR.rel _).trans rfl) rfl rfl ?_; intro K hK; go_big_quiet_op; go_big_quiet_on) | (refine wpR_skip pick rfl ?_; intro K hK; go_big_quiet_op; go_big_quiet_on))
  refine wpR_rel pick rfl ((hR.rel _).trans rfl) ((hR.turns _).trans rfl) ?_ ?_
  · intro u hu
    have hk := hR.since hu.1
    have hks := hk.size
    have hz := to_any gs gn gm gl u
    unfold relAt
    go_simp
    refine hz.mono ?_
    rintro e w' ⟨rfl, hb'⟩
    exact ⟨_, rfl, hR.intoB hb', hR.put 0 rfl rfl rfl⟩
  intro v hv
  obtain ⟨u, _, hu⟩ := hv
  obtain rfl := hR.get 0 rfl hu
  clear hu
  intro K hK
  go_big_quiet_op
  go_big_quiet_on
  repeat (first | (refine wpR_det hp2 rfl ((hR.rel _).trans rfl) rfl ?_; intro K hK; go_big_quiet_op; go_big_quiet_on) | (refine wpR_ptr hp2 rfl ((hR.rel _).trans rfl) rfl rfl ?_; intro K hK; go_big_quiet_op; go_big_quiet_on) | (refine wpR_skip pick rfl ?_; intro K hK; go_big_quiet_op; go_big_quiet_on))
  refine wpR_rel pick rfl ((hR.rel _).trans rfl) ((hR.turns _).trans rfl) ?_ ?_
  · intro u hu
    have hk := hR.since hu.1
    have hks := hk.size
    have hz := alll_any gs gn gm gl A c b 300 u GM.out GL.out (by omega) (by omega) (HB.out.on (HKW.out.trans hk) (fun _ _ h => h))
    rw [HPS.out, List.take_of_length_le (show ps.length ≤ 300 by omega)] at hz
    unfold relAt
    go_simp
    refine hz.mono ?_
    rintro e w' ⟨v, rfl, hT, hb'⟩
    exact ⟨_, rfl, hR.intoB hb', hR.put 1 rfl rfl (hT.more (Nat.le_trans HKW.out.size hks))⟩
  intro v hv
  obtain ⟨u, _, hu⟩ := hv
  obtain hT3 := hR.get 1 rfl hu
  clear hu
  obtain ⟨PA, pc, rfl, -, -⟩ := hT3.shape
  clear hT3
  intro K hK
  go_big_quiet_op
  go_big_quiet_on
  repeat (first | (refine wpR_det hp2 rfl ((hR.rel _).trans rfl) rfl ?_; intro K hK; go_big_quiet_op; go_big_quiet_on) | (refine wpR_ptr hp2 rfl ((hR.rel _).trans rfl) rfl rfl ?_; intro K hK; go_big_quiet_op; go_big_quiet_on) | (refine wpR_skip pick rfl ?_; intro K hK; go_big_quiet_op; go_big_quiet_on))
  refine wpR_rel pick rfl ((hR.rel _).trans rfl) ((hR.turns _).trans rfl) ?_ ?_
  · intro u hu
    have hk := hR.since hu.1
    have hks := hk.size
    have hz := same_rt (j := ps.length) (hR.get 1 rfl (hu.2 _ _ (Got.upd_self _ _ _) (by kernel_rfl))) (HMW.out.on hk) (Nat.le_refl _) (by omega) (by omega)
    rw [List.take_length, decide_eq_true rfl] at hz
    unfold relAt
    go_simp
    refine hz.mono ?_
    rintro e w' ⟨rfl, hb'⟩
    exact ⟨_, rfl, hR.into0 hb', hR.put 2 rfl rfl rfl⟩
  intro v hv
  obtain ⟨u, _, hu⟩ := hv
  obtain rfl := hR.get 2 rfl hu
  clear hu
  intro K hK
  go_big_quiet_op
  go_big_quiet_on
  repeat (first | (refine wpR_det hp2 rfl ((hR.rel _).trans rfl) rfl ?_; intro K hK; go_big_quiet_op; go_big_quiet_on) | (refine wpR_ptr hp2 rfl ((hR.rel _).trans rfl) rfl rfl ?_; intro K hK; go_big_quiet_op; go_big_quiet_on) | (refine wpR_skip pick rfl ?_; intro K hK; go_big_quiet_op; go_big_quiet_on))
  refine wpR_rel pick rfl ((hR.rel _).trans rfl) ((hR.turns _).trans rfl) ?_ ?_
  · intro u hu
    have hk := hR.since hu.1
    have hks := hk.size
    have hz := to_any gs gn gm gl u
    unfold relAt
    go_simp
    refine hz.mono ?_
    rintro e w' ⟨rfl, hb'⟩
    exact ⟨_, rfl, hR.intoB hb', hR.put 3 rfl rfl rfl⟩
  intro v hv
  obtain ⟨u, _, hu⟩ := hv
  obtain rfl := hR.get 3 rfl hu
  clear hu
  intro K hK
  go_big_quiet_op
  go_big_quiet_on
  repeat (first | (refine wpR_det hp2 rfl ((hR.rel _).trans rfl) rfl ?_; intro K hK; go_big_quiet_op; go_big_quiet_on) | (refine wpR_ptr hp2 rfl ((hR.rel _).trans rfl) rfl rfl ?_; intro K hK; go_big_quiet_op; go_big_quiet_on) | (refine wpR_skip pick rfl ?_; intro K hK; go_big_quiet_op; go_big_quiet_on))
  refine wpR_rel pick rfl ((hR.rel _).trans rfl) ((hR.turns _).trans rfl) ?_ ?_
  · intro u hu
    have hk := hR.since hu.1
    have hks := hk.size
    have hz := alll_any gs gn gm gl A c b mt u GM.out GL.out (by omega) (by omega) (HB.out.on (HKW.out.trans hk) (fun _ _ h => h))
    rw [HPS.out, ← HTK.out] at hz
    unfold relAt
    go_simp
    refine hz.mono ?_
    rintro e w' ⟨v, rfl, hT, hb'⟩
    exact ⟨_, rfl, hR.intoB hb', hR.put 4 rfl rfl (hT.more (Nat.le_trans HKW.out.size hks))⟩
  intro v hv
  obtain ⟨u, _, hu⟩ := hv
  obtain hT4 := hR.get 4 rfl hu
  clear hu
  obtain ⟨QA, qc, hqe, -, -⟩ := hT4.shape
  rw [List.length_take, Nat.min_eq_left hjl] at hqe
  subst hqe
  clear hT4
  intro K hK
  go_big_quiet_op
  go_big_quiet_on
  repeat (first | (refine wpR_det hp2 rfl ((hR.rel _).trans rfl) rfl ?_; intro K hK; go_big_quiet_op; go_big_quiet_on) | (refine wpR_ptr hp2 rfl ((hR.rel _).trans rfl) rfl rfl ?_; intro K hK; go_big_quiet_op; go_big_quiet_on) | (refine wpR_skip pick rfl ?_; intro K hK; go_big_quiet_op; go_big_quiet_on))
  refine wpR_rel pick rfl ((hR.rel _).trans rfl) ((hR.turns _).trans rfl) ?_ ?_
  · intro u hu
    have hk := hR.since hu.1
    have hks := hk.size
    have hmin := HMIN.out
    unfold relAt
    go_simp
    exact ⟨hR.same, hR.put 5 rfl rfl rfl⟩
  intro v hv
  obtain ⟨u, _, hu⟩ := hv
  obtain rfl := hR.get 5 rfl hu
  clear hu
  intro K hK
  go_big_quiet_op
  go_big_quiet_on
  repeat (first | (refine wpR_det hp2 rfl ((hR.rel _).trans rfl) rfl ?_; intro K hK; go_big_quiet_op; go_big_quiet_on) | (refine wpR_ptr hp2 rfl ((hR.rel _).trans rfl) rfl rfl ?_; intro K hK; go_big_quiet_op; go_big_quiet_on) | (refine wpR_skip pick rfl ?_; intro K hK; go_big_quiet_op; go_big_quiet_on))
  refine wpR_rel pick rfl ((hR.rel _).trans rfl) ((hR.turns _).trans rfl) ?_ ?_
  · intro u hu
    have hk := hR.since hu.1
    have hks := hk.size
    have hj0 : (jj : Int) ≤ (mc : Int) := by omega
    have hj1 : (0 : Int) ≤ (jj : Int) := by omega
    unfold relAt
    go_simp
    exact ⟨hR.same, hR.put 6 rfl rfl rfl⟩
  intro v hv
  obtain ⟨u, _, hu⟩ := hv
  obtain rfl := hR.get 6 rfl hu
  clear hu
  intro K hK
  go_big_quiet_op
  go_big_quiet_on
  repeat (first | (refine wpR_det hp2 rfl ((hR.rel _).trans rfl) rfl ?_; intro K hK; go_big_quiet_op; go_big_quiet_on) | (refine wpR_ptr hp2 rfl ((hR.rel _).trans rfl) rfl rfl ?_; intro K hK; go_big_quiet_op; go_big_quiet_on) | (refine wpR_skip pick rfl ?_; intro K hK; go_big_quiet_op; go_big_quiet_on))
  refine wpR_rel pick rfl ((hR.rel _).trans rfl) ((hR.turns _).trans rfl) ?_ ?_
  · intro u hu
    have hk := hR.since hu.1
    have hks := hk.size
    have hz := same_rt (j := jj) (hR.get 4 rfl (hu.2 _ _ (Got.upd_old (Got.upd_old (Got.upd_self _ _ _) rfl) rfl) (by kernel_rfl))) (HMW.out.on hk) (by omega) (by rw [List.length_take]; omega) (by omega)
    rw [decide_eq_true rfl] at hz
    unfold relAt
    go_simp
    refine hz.mono ?_
    rintro e w' ⟨rfl, hb'⟩
    exact ⟨_, rfl, hR.into0 hb', hR.put 7 rfl rfl rfl⟩
  intro v hv
  obtain ⟨u, _, hu⟩ := hv
  obtain rfl := hR.get 7 rfl hu
  clear hu
  intro K hK
  go_big_quiet_op
  go_big_quiet_on
  repeat (first | (refine wpR_det hp2 rfl ((hR.rel _).trans rfl) rfl ?_; intro K hK; go_big_quiet_op; go_big_quiet_on) | (refine wpR_ptr hp2 rfl ((hR.rel _).trans rfl) rfl rfl ?_; intro K hK; go_big_quiet_op; go_big_quiet_on) | (refine wpR_skip pick rfl ?_; intro K hK; go_big_quiet_op; go_big_quiet_on))
  refine wpR_nil ?_
  intro w8 hk2 hF hM
  have HKf := Lib.hid hk2
  have HKW8 := Lib.hid (show Kept (fun _ => False) w w8 from HKW.out.trans hk2)
  clear hF hM hk2 hp1 hp2 hR p0 p1 p2 p3 cv hj0 hj1
  go_wp2_with fail
  refine (HRD.out w8 (HB.out.on HKW8.out (fun _ _ h => h))).mono ?_
  rintro e w9 ⟨rfl, hb9⟩
  have HBY := Lib.hid (show Below w.heap.size w (w9.alloc (.cells #[.bool false, .bool false, .int .u32 0, .int .u32 0] 29)) from ((HKW8.out.trans (Kept.quietly hb9)).alloc _).below (Nat.le_refl _) (fun i h => h.elim))
  clear hb9
  go_wp2_with fail
  refine (awake_any _).mono ?_
  rintro e wz ⟨rfl, hbz⟩
  have HBZ := Lib.hid (HBY.out.trans (hbz.mono HBY.out.size))
  clear hbz
  go_wp2_with fail
  go_ret
  exact ⟨rfl, HBZ.out⟩
set_option maxRecDepth 10000 in
set_option maxHeartbeats 16000000 in
theorem reads_21 (gs gn : Bool) (gm gl : Int) (mt : Nat) (A : Option Addr) (c : Nat) (b : List UInt8) (w : World) (hgm : 0 ≤ gm ∧ gm ≤ 4294967295) (hgl : 0 ≤ gl ∧ gl ≤ 4294967295) (hmt : mt ≤ 255) (hl : b.length ≤ 2000) (hc : b.length ≤ c) (hcm : c ≤ maxLen) (hB : BS w w.heap.size A b) (hno : noF b) (her : errOf b = 21) :
    Calls Try.prog 4 #[.slice A b.length c, .agg #[.bool gs, .bool gn, .int .u32 gm, .int .u32 gl], .int .u8 (mt : Int)] w fun e w' => e = .returned (.bool true) ∧ Below w.heap.size w w' := by
  have HB := Lib.hid hB
  have GM := Lib.hid hgm
  have GL := Lib.hid hgl
  have HC := Lib.hid (show b.length ≤ c ∧ c ≤ maxLen from ⟨hc, hcm⟩)
  clear hB hgm hgl
  unfold maxLen at hcm
  have HO := Lib.hid (fun u (hu : BS u u.heap.size A b) => by have h := open_no A c b u (by omega) HC.out.1 HC.out.2 hu hno; rw [her] at h; exact h)
  have HRO := Lib.hid (fun u (hu : BS u u.heap.size A b) => by have h := refOpen_no A c b u (by omega) HC.out.1 HC.out.2 hu hno; rw [her] at h; exact h)
  have HRD := Lib.hid (fun u (hu : BS u u.heap.size A b) => by have h := read_no A c b u (by omega) HC.out.1 HC.out.2 hu hno; rw [her] at h; exact h)
  clear hno her
  go_enter Try.func4, Try.ntmps4
  have i1 : ¬ (2000 : Int) < (b.length : Int) := by omega
  go_upto_region 1 with fail
  obtain ⟨w1, hw1⟩ : ∃ w1 : World, w1 = w.alloc (.cells #[.bool gs, .bool gn, .int .u32 gm, .int .u32 gl] 24) := ⟨_, rfl⟩
  have HG4 := Lib.hid (show Blk w1 w.heap.size 24 #[.bool gs, .bool gn, .int .u32 gm, .int .u32 gl] by rw [hw1]; exact Blk.new _ _ _)
  have HKw1 := Lib.hid (show Kept (fun _ => False) w w1 by rw [hw1]; exact (Kept.refl _ _).alloc _)
  rw [← hw1]
  clear hw1
  obtain ⟨g4, hg4⟩ : ∃ g, w.heap.size = g := ⟨_, rfl⟩
  rw [hg4] at HG4 ⊢
  clear hg4
  go_wp2_with fail
  refine (HO.out w1 (HB.out.on HKw1.out (fun _ _ h => h))).mono ?_
  rintro e w2 ⟨rfl, hb2⟩
  have HKa := Lib.hid (show Kept (fun _ => False) w1 w2 from Kept.quietly hb2)
  clear hb2
  go_upto_region 4 with fail
  obtain ⟨w3, hw3⟩ : ∃ w3 : World, w3 = w2.alloc (.cells #[.bool false, .bool false, .int .u32 0, .int .u32 0] 29) := ⟨_, rfl⟩
  have HG7 := Lib.hid (show Blk w3 w2.heap.size 29 #[.bool false, .bool false, .int .u32 0, .int .u32 0] by rw [hw3]; exact Blk.new _ _ _)
  have HKw3 := Lib.hid (show Kept (fun _ => False) w2 w3 by rw [hw3]; exact (Kept.refl _ _).alloc _)
  rw [← hw3]
  clear hw3
  obtain ⟨g7, hg7⟩ : ∃ g, w2.heap.size = g := ⟨_, rfl⟩
  rw [hg7] at HG7 ⊢
  clear hg7
  have HKb := Lib.hid (show Kept (fun _ => False) w w3 from (HKw1.out.trans HKa.out).trans HKw3.out)
  go_wp2_with fail
  refine (HRO.out w3 (HB.out.on HKb.out (fun _ _ h => h))).mono ?_
  rintro e w4 ⟨rfl, hb4⟩
  have HKc := Lib.hid (show Kept (fun _ => False) w3 w4 from Kept.quietly hb4)
  clear hb4
  go_upto_region 5 with fail
  obtain ⟨w5, hw5⟩ : ∃ w5 : World, w5 = w4.alloc (.cells #[.bool false, .bool false, .int .u32 0, .int .u32 0] 24) := ⟨_, rfl⟩
  have HG10 := Lib.hid (show Blk w5 w4.heap.size 24 #[.bool false, .bool false, .int .u32 0, .int .u32 0] by rw [hw5]; exact Blk.new _ _ _)
  have HKw5 := Lib.hid (show Kept (fun _ => False) w4 w5 by rw [hw5]; exact (Kept.refl _ _).alloc _)
  rw [← hw5]
  clear hw5
  obtain ⟨g10, hg10⟩ : ∃ g, w4.heap.size = g := ⟨_, rfl⟩
  rw [hg10] at HG10 ⊢
  clear hg10
  have HG7o := HG7
  clear HG7
  have HG7 := Lib.hid (HG7o.out.kept (HKc.out.trans HKw5.out) (fun h => h))
  have HKW5 := Lib.hid (show Kept (fun _ => False) w w5 from HKb.out.trans (HKc.out.trans HKw5.out))
  refine wp_region_kept 21 [(2, fun v u => v = .agg #[.bool false, .bool false, .int .u32 0, .int .u32 0]), (3, fun v u => v = .bool false)] ?st ?ne rfl (by kernel_rfl) (by kernel_rfl) ?_
  case st =>
    intro p hp
    simp only [List.mem_cons, List.not_mem_nil, or_false] at hp
    rcases hp with rfl | rfl
    · intro v u u' h hk; exact h
    · intro v u u' h hk; exact h
  case ne =>
    intro p hp
    simp only [List.mem_cons, List.not_mem_nil, or_false] at hp
    rcases hp with rfl | rfl
    · exact ⟨_, _, Kept.refl _ _, rfl⟩
    · exact ⟨_, _, Kept.refl _ _, rfl⟩
  simp only [List.take_succ_cons, List.take_zero, List.drop_succ_cons, List.drop_zero]
  intro G pick hR hp1 hp2
  have p0 : ∀ u, (pick u).cell? ⟨g7, 0, none⟩ = some (.bool false) := fun u => ((hp1 u).cell HG7.out.lt (fun h => h) _).trans (HG7.out.cell 0)
  have p1 : ∀ u, (pick u).cell? ⟨g7, 1, none⟩ = some (.bool false) := fun u => ((hp1 u).cell HG7.out.lt (fun h => h) _).trans (HG7.out.cell 1)
  have p2 : ∀ u, (pick u).cell? ⟨g7, 2, none⟩ = some (.int .u32 0) := fun u => ((hp1 u).cell HG7.out.lt (fun h => h) _).trans (HG7.out.cell 2)
  have p3 : ∀ u, (pick u).cell? ⟨g7, 3, none⟩ = some (.int .u32 0) := fun u => ((hp1 u).cell HG7.out.lt (fun h => h) _).trans (HG7.out.cell 3)
  have q0 : ∀ u, (pick u).cell? ⟨g10, 0, none⟩ = some (.bool false) := fun u => ((hp1 u).cell HG10.out.lt (fun h => h) _).trans (HG10.out.cell 0)
  have q1 : ∀ u, (pick u).cell? ⟨g10, 1, none⟩ = some (.bool false) := fun u => ((hp1 u).cell HG10.out.lt (fun h => h) _).trans (HG10.out.cell 1)
  have q2 : ∀ u, (pick u).cell? ⟨g10, 2, none⟩ = some (.int .u32 0) := fun u => ((hp1 u).cell HG10.out.lt (fun h => h) _).trans (HG10.out.cell 2)
  have q3 : ∀ u, (pick u).cell? ⟨g10, 3, none⟩ = some (.int .u32 0) := fun u => ((hp1 u).cell HG10.out.lt (fun h => h) _).trans (HG10.out.cell 3)
  repeat (first | (refine wpR_det hp2 rfl ((hR.rel _).trans rfl) rfl ?_; intro K hK; go_big_quiet_op; go_big_quiet_on) | (refine wpR_ptr hp2 rfl ((hR.rel _).trans rfl) rfl rfl ?_; intro K hK; go_big_quiet_op; go_big_quiet_on) | (refine wpR_skip pick rfl ?_; intro K hK; go_big_quiet_op; go_big_quiet_on))
  refine wpR_rel pick rfl ((hR.rel _).trans rfl) ((hR.turns _).trans rfl) ?_ ?_
  · intro u hu
    have hk := hR.since hu.1
    have hks := hk.size
    have hz := to_any false false 0 0 u
    unfold relAt
    go_simp
    refine hz.mono ?_
    rintro e w' ⟨rfl, hb'⟩
    exact ⟨_, rfl, hR.intoB hb', hR.put 0 rfl rfl rfl⟩
  intro v hv
  obtain ⟨u, _, hu⟩ := hv
  obtain rfl := hR.get 0 rfl hu
  clear hu
  intro K hK
  go_big_quiet_op
  go_big_quiet_on
  repeat (first | (refine wpR_det hp2 rfl ((hR.rel _).trans rfl) rfl ?_; intro K hK; go_big_quiet_op; go_big_quiet_on) | (refine wpR_ptr hp2 rfl ((hR.rel _).trans rfl) rfl rfl ?_; intro K hK; go_big_quiet_op; go_big_quiet_on) | (refine wpR_skip pick rfl ?_; intro K hK; go_big_quiet_op; go_big_quiet_on))
  refine wpR_rel pick rfl ((hR.rel _).trans rfl) ((hR.turns _).trans rfl) ?_ ?_
  · intro u hu
    have hk := hR.since hu.1
    have hks := hk.size
    unfold relAt
    go_simp
    exact ⟨hR.same, hR.put 1 rfl rfl rfl⟩
  intro v hv
  obtain ⟨u, _, hu⟩ := hv
  obtain rfl := hR.get 1 rfl hu
  clear hu
  intro K hK
  go_big_quiet_op
  go_big_quiet_on
  repeat (first | (refine wpR_det hp2 rfl ((hR.rel _).trans rfl) rfl ?_; intro K hK; go_big_quiet_op; go_big_quiet_on) | (refine wpR_ptr hp2 rfl ((hR.rel _).trans rfl) rfl rfl ?_; intro K hK; go_big_quiet_op; go_big_quiet_on) | (refine wpR_skip pick rfl ?_; intro K hK; go_big_quiet_op; go_big_quiet_on))
  refine wpR_nil ?_
  intro w6 hk2 hF hM
  have HKd := Lib.hid hk2
  clear hF hM hk2 hp1 hp2 hR p0 p1 p2 p3 q0 q1 q2 q3
  have HKW6 := Lib.hid (show Kept (fun _ => False) w w6 from HKW5.out.trans HKd.out)
  have HG46 := Lib.hid (HG4.out.kept (HKa.out.trans (HKw3.out.trans (HKc.out.trans (HKw5.out.trans HKd.out)))) (fun h => h))
  clear HG4
  obtain ⟨ps, hps⟩ : ∃ ps, (alls gs gn gm b).1 = ps := ⟨_, rfl⟩
  have HPS := Lib.hid hps
  have hpl := alls_len gs gn gm b
  rw [hps] at hpl
  obtain ⟨us, hus⟩ : ∃ us, (alls gs gn gm b).2 = us := ⟨_, rfl⟩
  have hra := refAllW gs gn gm gl A c b w6 GM.out GL.out (by omega) HC.out.1 HC.out.2 (HB.out.on HKW6.out (fun _ _ h => h))
  rw [hps, hus] at hra
  have HRA := Lib.hid hra
  clear hps hus hra
  have cg := HG46.out.cell
  go_wp2_with fail
  refine HRA.out.mono ?_
  rintro e w7 ⟨v, rfl, hM, hb7⟩
  obtain ⟨MA, mc, rfl, hm1, hm2⟩ := hM.shape
  have HMW := Lib.hid (hM.more HKW6.out.size)
  have HKe := Lib.hid (show Kept (fun _ => False) w6 w7 from Kept.quietly hb7)
  have HKW := Lib.hid (show Kept (fun _ => False) w w7 from HKW6.out.trans HKe.out)
  have HG4 := Lib.hid (HG46.out.kept HKe.out (fun h => h))
  clear hM hb7 HRA cg
  go_upto_region 8 with fail
  have cv : IntKind.i64.wrap (mt : Int) = (mt : Int) := IntWalk.i64_in _ (by omega)
  obtain ⟨jj, hjj⟩ : ∃ j, min ps.length mt = j := ⟨_, rfl⟩
  have HTK := Lib.hid (show ps.take jj = ps.take mt by rw [← hjj, Nat.min_comm]; simp [List.take_eq_take_iff])
  have HMIN := Lib.hid (show min (ps.length : Int) (mt : Int) = (jj : Int) by rw [← hjj]; omega)
  have hjl : jj ≤ ps.length := by omega
  have hj0 : (jj : Int) ≤ (mc : Int) := by omega
  have hj1 : (0 : Int) ≤ (jj : Int) := by omega
  have HEX1 := Lib.hid (show ∃ v u, Kept (fun _ => False) w7 u ∧ PksO u w.heap.size v ps from by
    have hz := alll_any gs gn gm gl A c b 300 w7 GM.out GL.out (by omega) (by omega) (HB.out.on HKW.out (fun _ _ h => h))
    rw [HPS.out, List.take_of_length_le (show ps.length ≤ 300 by omega)] at hz
    obtain ⟨e, u, v, -, h1, h2⟩ := calls_some hz
    exact ⟨v, u, Kept.quietly h2, h1.more HKW.out.size⟩)
  have HEX2 := Lib.hid (show ∃ v u, Kept (fun _ => False) w7 u ∧ PksO u w.heap.size v (ps.take jj) from by
    have hz := alll_any gs gn gm gl A c b mt w7 GM.out GL.out (by omega) (by omega) (HB.out.on HKW.out (fun _ _ h => h))
    rw [HPS.out, ← HTK.out] at hz
    obtain ⟨e, u, v, -, h1, h2⟩ := calls_some hz
    exact ⟨v, u, Kept.quietly h2, h1.more HKW.out.size⟩)
  refine wp_region_kept 24 [(1, fun v u => v = .agg #[.bool gs, .bool gn, .int .u32 gm, .int .u32 gl]), (3, fun v u => PksO u w.heap.size v ps), (5, fun v u => v = .bool true), (9, fun v u => v = .agg #[.bool gs, .bool gn, .int .u32 gm, .int .u32 gl]), (13, fun v u => PksO u w.heap.size v (ps.take jj)), (19, fun v u => v = .int .i64 (jj : Int)), (20, fun v u => v = .slice MA jj mc), (21, fun v u => v = .bool true)] ?st ?ne rfl (by kernel_rfl) (by kernel_rfl) ?_
  case st =>
    intro p hp
    simp only [List.mem_cons, List.not_mem_nil, or_false] at hp
    rcases hp with rfl | rfl | rfl | rfl | rfl | rfl | rfl | rfl
    · intro v u u' h hk; exact h
    · intro v u u' h hk; exact h.on hk
    · intro v u u' h hk; exact h
    · intro v u u' h hk; exact h
    · intro v u u' h hk; exact h.on hk
    · intro v u u' h hk; exact h
    · intro v u u' h hk; exact h
    · intro v u u' h hk; exact h
  case ne =>
    intro p hp
    simp only [List.mem_cons, List.not_mem_nil, or_false] at hp
    rcases hp with rfl | rfl | rfl | rfl | rfl | rfl | rfl | rfl
    · exact ⟨_, _, Kept.refl _ _, rfl⟩
    · exact HEX1.out
    · exact ⟨_, _, Kept.refl _ _, rfl⟩
    · exact ⟨_, _, Kept.refl _ _, rfl⟩
    · exact HEX2.out
    · exact ⟨_, _, Kept.refl _ _, rfl⟩
    · exact ⟨_, _, Kept.refl _ _, rfl⟩
    · exact ⟨_, _, Kept.refl _ _, rfl⟩
  simp only [List.take_succ_cons, List.take_zero, List.drop_succ_cons, List.drop_zero]
  intro G pick hR hp1 hp2
  have p0 : ∀ u, (pick u).cell? ⟨g4, 0, none⟩ = some (.bool gs) := fun u => ((hp1 u).cell HG4.out.lt (fun h => h) _).trans (HG4.out.cell 0)
  have p1 : ∀ u, (pick u).cell? ⟨g4, 1, none⟩ = some (.bool gn) := fun u => ((hp1 u).cell HG4.out.lt (fun h => h) _).trans (HG4.out.cell 1)
  have p2 : ∀ u, (pick u).cell? ⟨g4, 2, none⟩ = some (.int .u32 gm) := fun u => ((hp1 u).cell HG4.out.lt (fun h => h) _).trans (HG4.out.cell 2)
  have p3 : ∀ u, (pick u).cell? ⟨g4, 3, none⟩ = some (.int .u32 gl) := fun u => ((hp1 u).cell HG4.out.lt (fun h => h) _).trans (HG4.out.cell 3)
  repeat (first | (refine wpR_det hp2 rfl ((hR.rel _).trans rfl) rfl ?_; intro K hK; go_big_quiet_op; go_big_quiet_on) | (refine wpR_ptr hp2 rfl ((hR.rel _).trans rfl) rfl rfl ?_; intro K hK; go_big_quiet_op; go_big_quiet_on) | (refine wpR_skip pick rfl ?_; intro K hK; go_big_quiet_op; go_big_quiet_on))
  refine wpR_rel pick rfl ((hR.rel _).trans rfl) ((hR.turns _).trans rfl) ?_ ?_
  · intro u hu
    have hk := hR.since hu.1
    have hks := hk.size
    have hz := to_any gs gn gm gl u
    unfold relAt
    go_simp
    refine hz.mono ?_
    rintro e w' ⟨rfl, hb'⟩
    exact ⟨_, rfl, hR.intoB hb', hR.put 0 rfl rfl rfl⟩
  intro v hv
  obtain ⟨u, _, hu⟩ := hv
  obtain rfl := hR.get 0 rfl hu
  clear hu
  intro K hK
  go_big_quiet_op
  go_big_quiet_on
  repeat (first | (refine wpR_det hp2 rfl ((hR.rel _).trans rfl) rfl ?_; intro K hK; go_big_quiet_op; go_big_quiet_on) | (refine wpR_ptr hp2 rfl ((hR.rel _).trans rfl) rfl rfl ?_; intro K hK; go_big_quiet_op; go_big_quiet_on) | (refine wpR_skip pick rfl ?_; intro K hK; go_big_quiet_op; go_big_quiet_on))
  refine wpR_rel pick rfl ((hR.rel _).trans rfl) ((hR.turns _).trans rfl) ?_ ?_
  · intro u hu
    have hk := hR.since hu.1
    have hks := hk.size
    have hz := alll_any gs gn gm gl A c b 300 u GM.out GL.out (by omega) (by omega) (HB.out.on (HKW.out.trans hk) (fun _ _ h => h))
    rw [HPS.out, List.take_of_length_le (show ps.length ≤ 300 by omega)] at hz
    unfold relAt
    go_simp
    refine hz.mono ?_
    rintro e w' ⟨v, rfl, hT, hb'⟩
    exact ⟨_, rfl, hR.intoB hb', hR.put 1 rfl rfl (hT.more (Nat.le_trans HKW.out.size hks))⟩
  intro v hv
  obtain ⟨u, _, hu⟩ := hv
  obtain hT3 := hR.get 1 rfl hu
  clear hu
  obtain ⟨PA, pc, rfl, -, -⟩ := hT3.shape
  clear hT3
  intro K hK
  go_big_quiet_op
  go_big_quiet_on
  repeat (first | (refine wpR_det hp2 rfl ((hR.rel _).trans rfl) rfl ?_; intro K hK; go_big_quiet_op; go_big_quiet_on) | (refine wpR_ptr hp2 rfl ((hR.rel _).trans rfl) rfl rfl ?_; intro K hK; go_big_quiet_op; go_big_quiet_on) | (refine wpR_skip pick rfl ?_; intro K hK; go_big_quiet_op; go_big_quiet_on))
  refine wpR_rel pick rfl ((hR.rel _).trans rfl) ((hR.turns _).trans rfl) ?_ ?_
  · intro u hu
    have hk := hR.since hu.1
    have hks := hk.size
    have hz := same_rt (j := ps.length) (hR.get 1 rfl (hu.2 _ _ (Got.upd_self _ _ _) (by kernel_rfl))) (HMW.out.on hk) (Nat.le_refl _) (by omega) (by omega)
    rw [List.take_length, decide_eq_true rfl] at hz
    unfold relAt
    go_simp
    refine hz.mono ?_
    rintro e w' ⟨rfl, hb'⟩
    exact ⟨_, rfl, hR.into0 hb', hR.put 2 rfl rfl rfl⟩
  intro v hv
  obtain ⟨u, _, hu⟩ := hv
  obtain rfl := hR.get 2 rfl hu
  clear hu
  intro K hK
  go_big_quiet_op
  go_big_quiet_on
  repeat (first | (refine wpR_det hp2 rfl ((hR.rel _).trans rfl) rfl ?_; intro K hK; go_big_quiet_op; go_big_quiet_on) | (refine wpR_ptr hp2 rfl ((hR.rel _).trans rfl) rfl rfl ?_; intro K hK; go_big_quiet_op; go_big_quiet_on) | (refine wpR_skip pick rfl ?_; intro K hK; go_big_quiet_op; go_big_quiet_on))
  refine wpR_rel pick rfl ((hR.rel _).trans rfl) ((hR.turns _).trans rfl) ?_ ?_
  · intro u hu
    have hk := hR.since hu.1
    have hks := hk.size
    have hz := to_any gs gn gm gl u
    unfold relAt
    go_simp
    refine hz.mono ?_
    rintro e w' ⟨rfl, hb'⟩
    exact ⟨_, rfl, hR.intoB hb', hR.put 3 rfl rfl rfl⟩
  intro v hv
  obtain ⟨u, _, hu⟩ := hv
  obtain rfl := hR.get 3 rfl hu
  clear hu
  intro K hK
  go_big_quiet_op
  go_big_quiet_on
  repeat (first | (refine wpR_det hp2 rfl ((hR.rel _).trans rfl) rfl ?_; intro K hK; go_big_quiet_op; go_big_quiet_on) | (refine wpR_ptr hp2 rfl ((hR.rel _).trans rfl) rfl rfl ?_; intro K hK; go_big_quiet_op; go_big_quiet_on) | (refine wpR_skip pick rfl ?_; intro K hK; go_big_quiet_op; go_big_quiet_on))
  refine wpR_rel pick rfl ((hR.rel _).trans rfl) ((hR.turns _).trans rfl) ?_ ?_
  · intro u hu
    have hk := hR.since hu.1
    have hks := hk.size
    have hz := alll_any gs gn gm gl A c b mt u GM.out GL.out (by omega) (by omega) (HB.out.on (HKW.out.trans hk) (fun _ _ h => h))
    rw [HPS.out, ← HTK.out] at hz
    unfold relAt
    go_simp
    refine hz.mono ?_
    rintro e w' ⟨v, rfl, hT, hb'⟩
    exact ⟨_, rfl, hR.intoB hb', hR.put 4 rfl rfl (hT.more (Nat.le_trans HKW.out.size hks))⟩
  intro v hv
  obtain ⟨u, _, hu⟩ := hv
  obtain hT4 := hR.get 4 rfl hu
  clear hu
  obtain ⟨QA, qc, hqe, -, -⟩ := hT4.shape
  rw [List.length_take, Nat.min_eq_left hjl] at hqe
  subst hqe
  clear hT4
  intro K hK
  go_big_quiet_op
  go_big_quiet_on
  repeat (first | (refine wpR_det hp2 rfl ((hR.rel _).trans rfl) rfl ?_; intro K hK; go_big_quiet_op; go_big_quiet_on) | (refine wpR_ptr hp2 rfl ((hR.rel _).trans rfl) rfl rfl ?_; intro K hK; go_big_quiet_op; go_big_quiet_on) | (refine wpR_skip pick rfl ?_; intro K hK; go_big_quiet_op; go_big_quiet_on))
  refine wpR_rel pick rfl ((hR.rel _).trans rfl) ((hR.turns _).trans rfl) ?_ ?_
  · intro u hu
    have hk := hR.since hu.1
    have hks := hk.size
    have hmin := HMIN.out
    unfold relAt
    go_simp
    exact ⟨hR.same, hR.put 5 rfl rfl rfl⟩
  intro v hv
  obtain ⟨u, _, hu⟩ := hv
  obtain rfl := hR.get 5 rfl hu
  clear hu
  intro K hK
  go_big_quiet_op
  go_big_quiet_on
  repeat (first | (refine wpR_det hp2 rfl ((hR.rel _).trans rfl) rfl ?_; intro K hK; go_big_quiet_op; go_big_quiet_on) | (refine wpR_ptr hp2 rfl ((hR.rel _).trans rfl) rfl rfl ?_; intro K hK; go_big_quiet_op; go_big_quiet_on) | (refine wpR_skip pick rfl ?_; intro K hK; go_big_quiet_op; go_big_quiet_on))
  refine wpR_rel pick rfl ((hR.rel _).trans rfl) ((hR.turns _).trans rfl) ?_ ?_
  · intro u hu
    have hk := hR.since hu.1
    have hks := hk.size
    have hj0 : (jj : Int) ≤ (mc : Int) := by omega
    have hj1 : (0 : Int) ≤ (jj : Int) := by omega
    unfold relAt
    go_simp
    exact ⟨hR.same, hR.put 6 rfl rfl rfl⟩
  intro v hv
  obtain ⟨u, _, hu⟩ := hv
  obtain rfl := hR.get 6 rfl hu
  clear hu
  intro K hK
  go_big_quiet_op
  go_big_quiet_on
  repeat (first | (refine wpR_det hp2 rfl ((hR.rel _).trans rfl) rfl ?_; intro K hK; go_big_quiet_op; go_big_quiet_on) | (refine wpR_ptr hp2 rfl ((hR.rel _).trans rfl) rfl rfl ?_; intro K hK; go_big_quiet_op; go_big_quiet_on) | (refine wpR_skip pick rfl ?_; intro K hK; go_big_quiet_op; go_big_quiet_on))
  refine wpR_rel pick rfl ((hR.rel _).trans rfl) ((hR.turns _).trans rfl) ?_ ?_
  · intro u hu
    have hk := hR.since hu.1
    have hks := hk.size
    have hz := same_rt (j := jj) (hR.get 4 rfl (hu.2 _ _ (Got.upd_old (Got.upd_old (Got.upd_self _ _ _) rfl) rfl) (by kernel_rfl))) (HMW.out.on hk) (by omega) (by rw [List.length_take]; omega) (by omega)
    rw [decide_eq_true rfl] at hz
    unfold relAt
    go_simp
    refine hz.mono ?_
    rintro e w' ⟨rfl, hb'⟩
    exact ⟨_, rfl, hR.into0 hb', hR.put 7 rfl rfl rfl⟩
  intro v hv
  obtain ⟨u, _, hu⟩ := hv
  obtain rfl := hR.get 7 rfl hu
  clear hu
  intro K hK
  go_big_quiet_op
  go_big_quiet_on
  repeat (first | (refine wpR_det hp2 rfl ((hR.rel _).trans rfl) rfl ?_; intro K hK; go_big_quiet_op; go_big_quiet_on) | (refine wpR_ptr hp2 rfl ((hR.rel _).trans rfl) rfl rfl ?_; intro K hK; go_big_quiet_op; go_big_quiet_on) | (refine wpR_skip pick rfl ?_; intro K hK; go_big_quiet_op; go_big_quiet_on))
  refine wpR_nil ?_
  intro w8 hk2 hF hM
  have HKf := Lib.hid hk2
  have HKW8 := Lib.hid (show Kept (fun _ => False) w w8 from HKW.out.trans hk2)
  clear hF hM hk2 hp1 hp2 hR p0 p1 p2 p3 cv hj0 hj1
  go_wp2_with fail
  refine (HRD.out w8 (HB.out.on HKW8.out (fun _ _ h => h))).mono ?_
  rintro e w9 ⟨rfl, hb9⟩
  have HBY := Lib.hid (show Below w.heap.size w (w9.alloc (.cells #[.bool false, .bool false, .int .u32 0, .int .u32 0] 29)) from ((HKW8.out.trans (Kept.quietly hb9)).alloc _).below (Nat.le_refl _) (fun i h => h.elim))
  clear hb9
  go_wp2_with fail
  refine (awake_any _).mono ?_
  rintro e wz ⟨rfl, hbz⟩
  have HBZ := Lib.hid (HBY.out.trans (hbz.mono HBY.out.size))
  clear hbz
  go_wp2_with fail
  go_ret
  exact ⟨rfl, HBZ.out⟩
end Go.Proofs.Ytohimionlgaaoaa
