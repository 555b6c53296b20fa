/- The law CaptureReads at bytes that begin with a head. -/
import Derived.Test.YtohimionlgaaoaaU
namespace Go.Proofs.Ytohimionlgaaoaa
open Go.RowKit
set_option linter.unusedVariables false
set_option maxRecDepth 10000 in
set_option maxHeartbeats 16000000 in
theorem reads_yes (gs gn : Bool) (gm gl : Int) (mt : Nat) (A : Option Addr) (c : Nat) (b : List UInt8) (w : World) (hgm : 0 ≤ gm ∧ gm ≤ 4294967295) (hgl : 0 ≤ gl ∧ gl ≤ 4294967295) (hmt : mt ≤ 255) (hl : b.length ≤ 2000) (hc : b.length ≤ c) (hcm : c ≤ maxLen) (hB : BS w w.heap.size A b) (sm na : Bool) (mo li : Int) (hok : okF sm na b) (hmo : ofL sm ((b.drop 16).take 4) = mo) (hli : ofL sm ((b.drop 20).take 4) = li) :
    Calls Try.prog 4 #[.slice A b.length c, .agg #[.bool gs, .bool gn, .int .u32 gm, .int .u32 gl], .int .u8 (mt : Int)] w fun e w' => e = .returned (.bool true) ∧ Below w.heap.size w w' := by
  have HB := Lib.hid hB
  have GM := Lib.hid hgm
  have GL := Lib.hid hgl
  have HC := Lib.hid (show b.length ≤ c ∧ c ≤ maxLen from ⟨hc, hcm⟩)
  clear hB hgm hgl
  unfold maxLen at hcm
  have HO := Lib.hid (fun u (hu : BS u u.heap.size A b) => open_yes A c b u (by omega) HC.out.1 HC.out.2 hu hok hmo hli)
  have HRO := Lib.hid (fun u (hu : BS u u.heap.size A b) => refOpen_yes A c b u (by omega) HC.out.1 HC.out.2 hu hok hmo hli)
  have HOK := Lib.hid hok
  have h24 := okF_len hok
  have HMO := Lib.hid hmo
  have HLI := Lib.hid hli
  have MO := Lib.hid (show 0 ≤ mo ∧ mo ≤ 4294967295 by rw [← hmo]; exact ofL_range sm _ (by rw [List.length_take, List.length_drop]; omega))
  have LI := Lib.hid (show 0 ≤ li ∧ li ≤ 4294967295 by rw [← hli]; exact ofL_range sm _ (by rw [List.length_take, List.length_drop]; omega))
  clear hok hmo hli
  obtain ⟨bb, o, hbb, rfl, hby⟩ := HB.out.at (k := 0) (by omega)
  clear hby
  obtain ⟨SA, hSA⟩ : ∃ S : Option Addr, (if c = 24 then some ⟨bb, o, none⟩ else some ⟨bb, o + 24, none⟩) = S := ⟨_, rfl⟩
  obtain ⟨y, hy⟩ : ∃ y, b.drop 24 = y := ⟨_, rfl⟩
  have HYE := Lib.hid hy
  have HYN := Lib.hid (show y.length = b.length - 24 by rw [← hy, List.length_drop])
  have hyn : y.length + 24 = b.length := by rw [← hy, List.length_drop]; omega
  have HYB := Lib.hid (show BS w w.heap.size SA y by
    rw [← hSA, ← hy]
    split
    · exact .inl (List.drop_eq_nil_of_le (by omega))
    · exact HB.out.drop_ 24)
  have HSA := Lib.hid hSA
  rw [hy] at HO
  clear hSA hy
  obtain ⟨qs, hqs⟩ : ∃ qs, (alls sm na mo y).1 = qs := ⟨_, rfl⟩
  have HQS := Lib.hid hqs
  have hql := alls_len sm na mo y
  rw [hqs] at hql
  obtain ⟨uq, huq⟩ : ∃ uq, (alls sm na mo y).2 = uq := ⟨_, rfl⟩
  have HUQ := Lib.hid huq
  clear hqs huq
  go_enter Try.func4, Try.ntmps4
  have i1 : ¬ (2000 : Int) < (b.length : Int) := by omega
  go_upto_region 1 with fail
  obtain ⟨w1, hw1⟩ : ∃ w1 : World, w1 = w.alloc (.cells #[.bool gs, .bool gn, .int .u32 gm, .int .u32 gl] 24) := ⟨_, rfl⟩
  have HG4 := Lib.hid (show Blk w1 w.heap.size 24 #[.bool gs, .bool gn, .int .u32 gm, .int .u32 gl] by rw [hw1]; exact Blk.new _ _ _)
  have HKw1 := Lib.hid (show Kept (fun _ => False) w w1 by rw [hw1]; exact (Kept.refl _ _).alloc _)
  rw [← hw1]
  clear hw1
  obtain ⟨g4, hg4⟩ : ∃ g, w.heap.size = g := ⟨_, rfl⟩
  rw [hg4] at HG4 ⊢
  clear hg4
  go_wp2_with fail
  refine (HO.out w1 (HB.out.on HKw1.out (fun _ _ h => h))).mono ?_
  rintro e w2 ⟨v, rfl, hv, hb2⟩
  obtain ⟨RA, rc, rfl, -, -⟩ := hv.shape
  rw [bcs_length] at hv ⊢
  have HRV := Lib.hid hv
  clear hv
  have HKa := Lib.hid (show Kept (fun _ => False) w1 w2 from Kept.quietly hb2)
  clear hb2
  go_upto_region 4 with fail
  obtain ⟨w3, hw3⟩ : ∃ w3 : World, w3 = w2.alloc (.cells #[.bool sm, .bool na, .int .u32 mo, .int .u32 li] 29) := ⟨_, rfl⟩
  have HG7 := Lib.hid (show Blk w3 w2.heap.size 29 #[.bool sm, .bool na, .int .u32 mo, .int .u32 li] by rw [hw3]; exact Blk.new _ _ _)
  have HKw3 := Lib.hid (show Kept (fun _ => False) w2 w3 by rw [hw3]; exact (Kept.refl _ _).alloc _)
  rw [← hw3]
  clear hw3
  obtain ⟨g7, hg7⟩ : ∃ g, w2.heap.size = g := ⟨_, rfl⟩
  rw [hg7] at HG7 ⊢
  clear hg7
  have HKb := Lib.hid (show Kept (fun _ => False) w w3 from (HKw1.out.trans HKa.out).trans HKw3.out)
  go_wp2_with fail
  refine (HRO.out w3 (HB.out.on HKb.out (fun _ _ h => h))).mono ?_
  rintro e w4 ⟨rfl, hb4⟩
  have HKc := Lib.hid (show Kept (fun _ => False) w3 w4 from Kept.quietly hb4)
  clear hb4
  go_upto_region 5 with fail
  obtain ⟨w5, hw5⟩ : ∃ w5 : World, w5 = w4.alloc (.cells #[.bool sm, .bool na, .int .u32 mo, .int .u32 li] 24) := ⟨_, rfl⟩
  have HG10 := Lib.hid (show Blk w5 w4.heap.size 24 #[.bool sm, .bool na, .int .u32 mo, .int .u32 li] by rw [hw5]; exact Blk.new _ _ _)
  have HKw5 := Lib.hid (show Kept (fun _ => False) w4 w5 by rw [hw5]; exact (Kept.refl _ _).alloc _)
  rw [← hw5]
  clear hw5
  obtain ⟨g10, hg10⟩ : ∃ g, w4.heap.size = g := ⟨_, rfl⟩
  rw [hg10] at HG10 ⊢
  clear hg10
  have HG7o := HG7
  clear HG7
  have HG7 := Lib.hid (HG7o.out.kept (HKc.out.trans HKw5.out) (fun h => h))
  have HKW5 := Lib.hid (show Kept (fun _ => False) w w5 from HKb.out.trans (HKc.out.trans HKw5.out))
  have HRB := Lib.hid (show BS w5 w5.heap.size RA y from by
    obtain ⟨A', c', e, -, -, h⟩ := HRV.out.byt
    cases e
    exact h.on (HKw3.out.trans (HKc.out.trans HKw5.out)) (fun _ _ h => h))
  have hsl0 : (24 : Int) ≤ (b.length : Int) := by omega
  refine wp_region_kept 21 [(2, fun v u => v = .agg #[.bool sm, .bool na, .int .u32 mo, .int .u32 li]), (3, fun v u => v = .bool false), (14, fun v u => v = .string ⟨y.toArray⟩), (16, fun v u => v = .slice SA (b.length - 24) (c - 24)), (17, fun v u => v = .string ⟨y.toArray⟩)] ?st ?ne rfl (by kernel_rfl) (by kernel_rfl) ?_
  case st =>
    intro p hp
    simp only [List.mem_cons, List.not_mem_nil, or_false] at hp
    rcases hp with rfl | rfl | rfl | rfl | rfl
    · intro v u u' h hk; exact h
    · intro v u u' h hk; exact h
    · intro v u u' h hk; exact h
    · intro v u u' h hk; exact h
    · intro v u u' h hk; exact h
  case ne =>
    intro p hp
    simp only [List.mem_cons, List.not_mem_nil, or_false] at hp
    rcases hp with rfl | rfl | rfl | rfl | rfl
    · exact ⟨_, _, Kept.refl _ _, rfl⟩
    · exact ⟨_, _, Kept.refl _ _, rfl⟩
    · exact ⟨_, _, Kept.refl _ _, rfl⟩
    · exact ⟨_, _, Kept.refl _ _, rfl⟩
    · exact ⟨_, _, Kept.refl _ _, rfl⟩
  simp only [List.take_succ_cons, List.take_zero, List.drop_succ_cons, List.drop_zero]
  intro G pick hR hp1 hp2
  have p0 : ∀ u, (pick u).cell? ⟨g7, 0, none⟩ = some (.bool sm) := fun u => ((hp1 u).cell HG7.out.lt (fun h => h) _).trans (HG7.out.cell 0)
  have p1 : ∀ u, (pick u).cell? ⟨g7, 1, none⟩ = some (.bool na) := fun u => ((hp1 u).cell HG7.out.lt (fun h => h) _).trans (HG7.out.cell 1)
  have p2 : ∀ u, (pick u).cell? ⟨g7, 2, none⟩ = some (.int .u32 mo) := fun u => ((hp1 u).cell HG7.out.lt (fun h => h) _).trans (HG7.out.cell 2)
  have p3 : ∀ u, (pick u).cell? ⟨g7, 3, none⟩ = some (.int .u32 li) := fun u => ((hp1 u).cell HG7.out.lt (fun h => h) _).trans (HG7.out.cell 3)
  have q0 : ∀ u, (pick u).cell? ⟨g10, 0, none⟩ = some (.bool sm) := fun u => ((hp1 u).cell HG10.out.lt (fun h => h) _).trans (HG10.out.cell 0)
  have q1 : ∀ u, (pick u).cell? ⟨g10, 1, none⟩ = some (.bool na) := fun u => ((hp1 u).cell HG10.out.lt (fun h => h) _).trans (HG10.out.cell 1)
  have q2 : ∀ u, (pick u).cell? ⟨g10, 2, none⟩ = some (.int .u32 mo) := fun u => ((hp1 u).cell HG10.out.lt (fun h => h) _).trans (HG10.out.cell 2)
  have q3 : ∀ u, (pick u).cell? ⟨g10, 3, none⟩ = some (.int .u32 li) := fun u => ((hp1 u).cell HG10.out.lt (fun h => h) _).trans (HG10.out.cell 3)
  repeat (first | (refine wpR_det hp2 rfl ((hR.rel _).trans rfl) rfl ?_; intro K hK; go_big_quiet_op; go_big_quiet_on) | (refine wpR_ptr hp2 rfl ((hR.rel _).trans rfl) rfl rfl ?_; intro K hK; go_big_quiet_op; go_big_quiet_on) | (refine wpR_skip pick rfl ?_; intro K hK; go_big_quiet_op; go_big_quiet_on))
  refine wpR_rel pick rfl ((hR.rel _).trans rfl) ((hR.turns _).trans rfl) ?_ ?_
  · intro u hu
    have hk := hR.since hu.1
    have hks := hk.size
    have hz := to_any sm na mo li u
    unfold relAt
    go_simp
    refine hz.mono ?_
    rintro e w' ⟨rfl, hb'⟩
    exact ⟨_, rfl, hR.intoB hb', hR.put 0 rfl rfl rfl⟩
  intro v hv
  obtain ⟨u, _, hu⟩ := hv
  obtain rfl := hR.get 0 rfl hu
  clear hu
  intro K hK
  go_big_quiet_op
  go_big_quiet_on
  repeat (first | (refine wpR_det hp2 rfl ((hR.rel _).trans rfl) rfl ?_; intro K hK; go_big_quiet_op; go_big_quiet_on) | (refine wpR_ptr hp2 rfl ((hR.rel _).trans rfl) rfl rfl ?_; intro K hK; go_big_quiet_op; go_big_quiet_on) | (refine wpR_skip pick rfl ?_; intro K hK; go_big_quiet_op; go_big_quiet_on))
  refine wpR_rel pick rfl ((hR.rel _).trans rfl) ((hR.turns _).trans rfl) ?_ ?_
  · intro u hu
    have hk := hR.since hu.1
    have hks := hk.size
    unfold relAt
    go_simp
    exact ⟨hR.same, hR.put 1 rfl rfl rfl⟩
  intro v hv
  obtain ⟨u, _, hu⟩ := hv
  obtain rfl := hR.get 1 rfl hu
  clear hu
  intro K hK
  go_big_quiet_op
  go_big_quiet_on
  repeat (first | (refine wpR_det hp2 rfl ((hR.rel _).trans rfl) rfl ?_; intro K hK; go_big_quiet_op; go_big_quiet_on) | (refine wpR_ptr hp2 rfl ((hR.rel _).trans rfl) rfl rfl ?_; intro K hK; go_big_quiet_op; go_big_quiet_on) | (refine wpR_skip pick rfl ?_; intro K hK; go_big_quiet_op; go_big_quiet_on))
  refine wpR_rel pick rfl ((hR.rel _).trans rfl) ((hR.turns _).trans rfl) ?_ ?_
  · intro u hu
    have hk := hR.since hu.1
    have hks := hk.size
    have hbs := HRB.out.on hk (fun _ _ h => h)
    have hcv := hbs.conv Try.underlying25 Try.underlying5 Try.underlying9 (c := rc)
    clear hbs
    unfold relAt
    go_simp
    exact ⟨hR.same, hR.put 2 rfl rfl rfl⟩
  intro v hv
  obtain ⟨u, _, hu⟩ := hv
  obtain rfl := hR.get 2 rfl hu
  clear hu
  intro K hK
  go_big_quiet_op
  go_big_quiet_on
  repeat (first | (refine wpR_det hp2 rfl ((hR.rel _).trans rfl) rfl ?_; intro K hK; go_big_quiet_op; go_big_quiet_on) | (refine wpR_ptr hp2 rfl ((hR.rel _).trans rfl) rfl rfl ?_; intro K hK; go_big_quiet_op; go_big_quiet_on) | (refine wpR_skip pick rfl ?_; intro K hK; go_big_quiet_op; go_big_quiet_on))
  refine wpR_rel pick rfl ((hR.rel _).trans rfl) ((hR.turns _).trans rfl) ?_ ?_
  · intro u hu
    have hk := hR.since hu.1
    have hks := hk.size
    unfold relAt
    go_simp
    rw [HSA.out]
    exact ⟨hR.same, hR.put 3 rfl rfl rfl⟩
  intro v hv
  obtain ⟨u, _, hu⟩ := hv
  obtain rfl := hR.get 3 rfl hu
  clear hu
  intro K hK
  go_big_quiet_op
  go_big_quiet_on
  repeat (first | (refine wpR_det hp2 rfl ((hR.rel _).trans rfl) rfl ?_; intro K hK; go_big_quiet_op; go_big_quiet_on) | (refine wpR_ptr hp2 rfl ((hR.rel _).trans rfl) rfl rfl ?_; intro K hK; go_big_quiet_op; go_big_quiet_on) | (refine wpR_skip pick rfl ?_; intro K hK; go_big_quiet_op; go_big_quiet_on))
  refine wpR_rel pick rfl ((hR.rel _).trans rfl) ((hR.turns _).trans rfl) ?_ ?_
  · intro u hu
    have hk := hR.since hu.1
    have hks := hk.size
    have hbs := HYB.out.on (HKW5.out.trans hk) (fun _ _ h => h)
    have hcv := hbs.conv Try.underlying25 Try.underlying5 Try.underlying9 (c := c - 24)
    rw [HYN.out] at hcv
    clear hbs
    unfold relAt
    go_simp
    exact ⟨hR.same, hR.put 4 rfl rfl rfl⟩
  intro v hv
  obtain ⟨u, _, hu⟩ := hv
  obtain rfl := hR.get 4 rfl hu
  clear hu
  intro K hK
  go_big_quiet_op
  go_big_quiet_on
  repeat (first | (refine wpR_det hp2 rfl ((hR.rel _).trans rfl) rfl ?_; intro K hK; go_big_quiet_op; go_big_quiet_on) | (refine wpR_ptr hp2 rfl ((hR.rel _).trans rfl) rfl rfl ?_; intro K hK; go_big_quiet_op; go_big_quiet_on) | (refine wpR_skip pick rfl ?_; intro K hK; go_big_quiet_op; go_big_quiet_on))
  refine wpR_nil ?_
  intro w6 hk2 hF hM
  have HKd := Lib.hid hk2
  clear hF hM hk2 hp1 hp2 hR p0 p1 p2 p3 q0 q1 q2 q3
  have HKW6 := Lib.hid (show Kept (fun _ => False) w w6 from HKW5.out.trans HKd.out)
  have HG46 := Lib.hid (HG4.out.kept (HKa.out.trans (HKw3.out.trans (HKc.out.trans (HKw5.out.trans HKd.out)))) (fun h => h))
  clear HG4
  obtain ⟨ps, hps⟩ : ∃ ps, (alls gs gn gm b).1 = ps := ⟨_, rfl⟩
  have HPS := Lib.hid hps
  have hpl := alls_len gs gn gm b
  rw [hps] at hpl
  obtain ⟨us, hus⟩ : ∃ us, (alls gs gn gm b).2 = us := ⟨_, rfl⟩
  have hra := refAllW gs gn gm gl (some ⟨bb, o, none⟩) c b w6 GM.out GL.out (by omega) HC.out.1 HC.out.2 (HB.out.on HKW6.out (fun _ _ h => h))
  rw [hps, hus] at hra
  have HRA := Lib.hid hra
  clear hps hus hra
  have cg := HG46.out.cell
  go_wp2_with fail
  refine HRA.out.mono ?_
  rintro e w7 ⟨v, rfl, hM, hb7⟩
  obtain ⟨MA, mc, rfl, hm1, hm2⟩ := hM.shape
  have HMW := Lib.hid (hM.more HKW6.out.size)
  have HKe := Lib.hid (show Kept (fun _ => False) w6 w7 from Kept.quietly hb7)
  have HKW := Lib.hid (show Kept (fun _ => False) w w7 from HKW6.out.trans HKe.out)
  have HG4 := Lib.hid (HG46.out.kept HKe.out (fun h => h))
  clear hM hb7 HRA cg
  go_upto_region 8 with fail
  have cv : IntKind.i64.wrap (mt : Int) = (mt : Int) := IntWalk.i64_in _ (by omega)
  obtain ⟨jj, hjj⟩ : ∃ j, min ps.length mt = j := ⟨_, rfl⟩
  have HTK := Lib.hid (show ps.take jj = ps.take mt by rw [← hjj, Nat.min_comm]; simp [List.take_eq_take_iff])
  have HMIN := Lib.hid (show min (ps.length : Int) (mt : Int) = (jj : Int) by rw [← hjj]; omega)
  have hjl : jj ≤ ps.length := by omega
  have hj0 : (jj : Int) ≤ (mc : Int) := by omega
  have hj1 : (0 : Int) ≤ (jj : Int) := by omega
  have HEX1 := Lib.hid (show ∃ v u, Kept (fun _ => False) w7 u ∧ PksO u w.heap.size v ps from by
    have hz := alll_any gs gn gm gl (some ⟨bb, o, none⟩) c b 300 w7 GM.out GL.out (by omega) (by omega) (HB.out.on HKW.out (fun _ _ h => h))
    rw [HPS.out, List.take_of_length_le (show ps.length ≤ 300 by omega)] at hz
    obtain ⟨e, u, v, -, h1, h2⟩ := calls_some hz
    exact ⟨v, u, Kept.quietly h2, h1.more HKW.out.size⟩)
  have HEX2 := Lib.hid (show ∃ v u, Kept (fun _ => False) w7 u ∧ PksO u w.heap.size v (ps.take jj) from by
    have hz := alll_any gs gn gm gl (some ⟨bb, o, none⟩) c b mt w7 GM.out GL.out (by omega) (by omega) (HB.out.on HKW.out (fun _ _ h => h))
    rw [HPS.out, ← HTK.out] at hz
    obtain ⟨e, u, v, -, h1, h2⟩ := calls_some hz
    exact ⟨v, u, Kept.quietly h2, h1.more HKW.out.size⟩)
  refine wp_region_kept 24 [(1, fun v u => v = .agg #[.bool gs, .bool gn, .int .u32 gm, .int .u32 gl]), (3, fun v u => PksO u w.heap.size v ps), (5, fun v u => v = .bool true), (9, fun v u => v = .agg #[.bool gs, .bool gn, .int .u32 gm, .int .u32 gl]), (13, fun v u => PksO u w.heap.size v (ps.take jj)), (19, fun v u => v = .int .i64 (jj : Int)), (20, fun v u => v = .slice MA jj mc), (21, fun v u => v = .bool true)] ?st ?ne rfl (by kernel_rfl) (by kernel_rfl) ?_
  case st =>
    intro p hp
    simp only [List.mem_cons, List.not_mem_nil, or_false] at hp
    rcases hp with rfl | rfl | rfl | rfl | rfl | rfl | rfl | rfl
    · intro v u u' h hk; exact h
    · intro v u u' h hk; exact h.on hk
    · intro v u u' h hk; exact h
    · intro v u u' h hk; exact h
    · intro v u u' h hk; exact h.on hk
    · intro v u u' h hk; exact h
    · intro v u u' h hk; exact h
    · intro v u u' h hk; exact h
  case ne =>
    intro p hp
    simp only [List.mem_cons, List.not_mem_nil, or_false] at hp
    rcases hp with rfl | rfl | rfl | rfl | rfl | rfl | rfl | rfl
    · exact ⟨_, _, Kept.refl _ _, rfl⟩
    · exact HEX1.out
    · exact ⟨_, _, Kept.refl _ _, rfl⟩
    · exact ⟨_, _, Kept.refl _ _, rfl⟩
    · exact HEX2.out
    · exact ⟨_, _, Kept.refl _ _, rfl⟩
    · exact ⟨_, _, Kept.refl _ _, rfl⟩
    · exact ⟨_, _, Kept.refl _ _, rfl⟩
  simp only [List.take_succ_cons, List.take_zero, List.drop_succ_cons, List.drop_zero]
  intro G pick hR hp1 hp2
  have p0 : ∀ u, (pick u).cell? ⟨g4, 0, none⟩ = some (.bool gs) := fun u => ((hp1 u).cell HG4.out.lt (fun h => h) _).trans (HG4.out.cell 0)
  have p1 : ∀ u, (pick u).cell? ⟨g4, 1, none⟩ = some (.bool gn) := fun u => ((hp1 u).cell HG4.out.lt (fun h => h) _).trans (HG4.out.cell 1)
  have p2 : ∀ u, (pick u).cell? ⟨g4, 2, none⟩ = some (.int .u32 gm) := fun u => ((hp1 u).cell HG4.out.lt (fun h => h) _).trans (HG4.out.cell 2)
  have p3 : ∀ u, (pick u).cell? ⟨g4, 3, none⟩ = some (.int .u32 gl) := fun u => ((hp1 u).cell HG4.out.lt (fun h => h) _).trans (HG4.out.cell 3)
  repeat (first | (refine wpR_det hp2 rfl ((hR.rel _).trans rfl) rfl ?_; intro K hK; go_big_quiet_op; go_big_quiet_on) | (refine wpR_ptr hp2 rfl ((hR.rel _).trans rfl) rfl rfl ?_; intro K hK; go_big_quiet_op; go_big_quiet_on) | (refine wpR_skip pick rfl ?_; intro K hK; go_big_quiet_op; go_big_quiet_on))
  refine wpR_rel pick rfl ((hR.rel _).trans rfl) ((hR.turns _).trans rfl) ?_ ?_
  · intro u hu
    have hk := hR.since hu.1
    have hks := hk.size
    have hz := to_any gs gn gm gl u
    unfold relAt
    go_simp
    refine hz.mono ?_
    rintro e w' ⟨rfl, hb'⟩
    exact ⟨_, rfl, hR.intoB hb', hR.put 0 rfl rfl rfl⟩
  intro v hv
  obtain ⟨u, _, hu⟩ := hv
  obtain rfl := hR.get 0 rfl hu
  clear hu
  intro K hK
  go_big_quiet_op
  go_big_quiet_on
  repeat (first | (refine wpR_det hp2 rfl ((hR.rel _).trans rfl) rfl ?_; intro K hK; go_big_quiet_op; go_big_quiet_on) | (refine wpR_ptr hp2 rfl ((hR.rel _).trans rfl) rfl rfl ?_; intro K hK; go_big_quiet_op; go_big_quiet_on) | (refine wpR_skip pick rfl ?_; intro K hK; go_big_quiet_op; go_big_quiet_on))
  refine wpR_rel pick rfl ((hR.rel _).trans rfl) ((hR.turns _).trans rfl) ?_ ?_
  · intro u hu
    have hk := hR.since hu.1
    have hks := hk.size
    have hz := alll_any gs gn gm gl (some ⟨bb, o, none⟩) c b 300 u GM.out GL.out (by omega) (by omega) (HB.out.on (HKW.out.trans hk) (fun _ _ h => h))
    rw [HPS.out, List.take_of_length_le (show ps.length ≤ 300 by omega)] at hz
    unfold relAt
    go_simp
    refine hz.mono ?_
    rintro e w' ⟨v, rfl, hT, hb'⟩
    exact ⟨_, rfl, hR.intoB hb', hR.put 1 rfl rfl (hT.more (Nat.le_trans HKW.out.size hks))⟩
  intro v hv
  obtain ⟨u, _, hu⟩ := hv
  obtain hT3 := hR.get 1 rfl hu
  clear hu
  obtain ⟨PA, pc, rfl, -, -⟩ := hT3.shape
  clear hT3
  intro K hK
  go_big_quiet_op
  go_big_quiet_on
  repeat (first | (refine wpR_det hp2 rfl ((hR.rel _).trans rfl) rfl ?_; intro K hK; go_big_quiet_op; go_big_quiet_on) | (refine wpR_ptr hp2 rfl ((hR.rel _).trans rfl) rfl rfl ?_; intro K hK; go_big_quiet_op; go_big_quiet_on) | (refine wpR_skip pick rfl ?_; intro K hK; go_big_quiet_op; go_big_quiet_on))
  refine wpR_rel pick rfl ((hR.rel _).trans rfl) ((hR.turns _).trans rfl) ?_ ?_
  · intro u hu
    have hk := hR.since hu.1
    have hks := hk.size
    have hz := same_rt (j := ps.length) (hR.get 1 rfl (hu.2 _ _ (Got.upd_self _ _ _) (by kernel_rfl))) (HMW.out.on hk) (Nat.le_refl _) (by omega) (by omega)
    rw [List.take_length, decide_eq_true rfl] at hz
    unfold relAt
    go_simp
    refine hz.mono ?_
    rintro e w' ⟨rfl, hb'⟩
    exact ⟨_, rfl, hR.into0 hb', hR.put 2 rfl rfl rfl⟩
  intro v hv
  obtain ⟨u, _, hu⟩ := hv
  obtain rfl := hR.get 2 rfl hu
  clear hu
  intro K hK
  go_big_quiet_op
  go_big_quiet_on
  repeat (first | (refine wpR_det hp2 rfl ((hR.rel _).trans rfl) rfl ?_; intro K hK; go_big_quiet_op; go_big_quiet_on) | (refine wpR_ptr hp2 rfl ((hR.rel _).trans rfl) rfl rfl ?_; intro K hK; go_big_quiet_op; go_big_quiet_on) | (refine wpR_skip pick rfl ?_; intro K hK; go_big_quiet_op; go_big_quiet_on))
  refine wpR_rel pick rfl ((hR.rel _).trans rfl) ((hR.turns _).trans rfl) ?_ ?_
  · intro u hu
    have hk := hR.since hu.1
    have hks := hk.size
    have hz := to_any gs gn gm gl u
    unfold relAt
    go_simp
    refine hz.mono ?_
    rintro e w' ⟨rfl, hb'⟩
    exact ⟨_, rfl, hR.intoB hb', hR.put 3 rfl rfl rfl⟩
  intro v hv
  obtain ⟨u, _, hu⟩ := hv
  obtain rfl := hR.get 3 rfl hu
  clear hu
  intro K hK
  go_big_quiet_op
  go_big_quiet_on
  repeat (first | (refine wpR_det hp2 rfl ((hR.rel _).trans rfl) rfl ?_; intro K hK; go_big_quiet_op; go_big_quiet_on) | (refine wpR_ptr hp2 rfl ((hR.rel _).trans rfl) rfl rfl ?_; intro K hK; go_big_quiet_op; go_big_quiet_on) | (refine wpR_skip pick rfl ?_; intro K hK; go_big_quiet_op; go_big_quiet_on))
  refine wpR_rel pick rfl ((hR.rel _).trans rfl) ((hR.turns _).trans rfl) ?_ ?_
  · intro u hu
    have hk := hR.since hu.1
    have hks := hk.size
    have hz := alll_any gs gn gm gl (some ⟨bb, o, none⟩) c b mt u GM.out GL.out (by omega) (by omega) (HB.out.on (HKW.out.trans hk) (fun _ _ h => h))
    rw [HPS.out, ← HTK.out] at hz
    unfold relAt
    go_simp
    refine hz.mono ?_
    rintro e w' ⟨v, rfl, hT, hb'⟩
    exact ⟨_, rfl, hR.intoB hb', hR.put 4 rfl rfl (hT.more (Nat.le_trans HKW.out.size hks))⟩
  intro v hv
  obtain ⟨u, _, hu⟩ := hv
  obtain hT4 := hR.get 4 rfl hu
  clear hu
  obtain ⟨QA, qc, hqe, -, -⟩ := hT4.shape
  rw [List.length_take, Nat.min_eq_left hjl] at hqe
  subst hqe
  clear hT4
  intro K hK
  go_big_quiet_op
  go_big_quiet_on
  repeat (first | (refine wpR_det hp2 rfl ((hR.rel _).trans rfl) rfl ?_; intro K hK; go_big_quiet_op; go_big_quiet_on) | (refine wpR_ptr hp2 rfl ((hR.rel _).trans rfl) rfl rfl ?_; intro K hK; go_big_quiet_op; go_big_quiet_on) | (refine wpR_skip pick rfl ?_; intro K hK; go_big_quiet_op; go_big_quiet_on))
  refine wpR_rel pick rfl ((hR.rel _).trans rfl) ((hR.turns _).trans rfl) ?_ ?_
  · intro u hu
    have hk := hR.since hu.1
    have hks := hk.size
    have hmin := HMIN.out
    unfold relAt
    go_simp
    exact ⟨hR.same, hR.put 5 rfl rfl rfl⟩
  intro v hv
  obtain ⟨u, _, hu⟩ := hv
  obtain rfl := hR.get 5 rfl hu
  clear hu
  intro K hK
  go_big_quiet_op
  go_big_quiet_on
  repeat (first | (refine wpR_det hp2 rfl ((hR.rel _).trans rfl) rfl ?_; intro K hK; go_big_quiet_op; go_big_quiet_on) | (refine wpR_ptr hp2 rfl ((hR.rel _).trans rfl) rfl rfl ?_; intro K hK; go_big_quiet_op; go_big_quiet_on) | (refine wpR_skip pick rfl ?_; intro K hK; go_big_quiet_op; go_big_quiet_on))
  refine wpR_rel pick rfl ((hR.rel _).trans rfl) ((hR.turns _).trans rfl) ?_ ?_
  · intro u hu
    have hk := hR.since hu.1
    have hks := hk.size
    have hj0 : (jj : Int) ≤ (mc : Int) := by omega
    have hj1 : (0 : Int) ≤ (jj : Int) := by omega
    unfold relAt
    go_simp
    exact ⟨hR.same, hR.put 6 rfl rfl rfl⟩
  intro v hv
  obtain ⟨u, _, hu⟩ := hv
  obtain rfl := hR.get 6 rfl hu
  clear hu
  intro K hK
  go_big_quiet_op
  go_big_quiet_on
  repeat (first | (refine wpR_det hp2 rfl ((hR.rel _).trans rfl) rfl ?_; intro K hK; go_big_quiet_op; go_big_quiet_on) | (refine wpR_ptr hp2 rfl ((hR.rel _).trans rfl) rfl rfl ?_; intro K hK; go_big_quiet_op; go_big_quiet_on) | (refine wpR_skip pick rfl ?_; intro K hK; go_big_quiet_op; go_big_quiet_on))
  refine wpR_rel pick rfl ((hR.rel _).trans rfl) ((hR.turns _).trans rfl) ?_ ?_
  · intro u hu
    have hk := hR.since hu.1
    have hks := hk.size
    have hz := same_rt (j := jj) (hR.get 4 rfl (hu.2 _ _ (Got.upd_old (Got.upd_old (Got.upd_self _ _ _) rfl) rfl) (by kernel_rfl))) (HMW.out.on hk) (by omega) (by rw [List.length_take]; omega) (by omega)
    rw [decide_eq_true rfl] at hz
    unfold relAt
    go_simp
    refine hz.mono ?_
    rintro e w' ⟨rfl, hb'⟩
    exact ⟨_, rfl, hR.into0 hb', hR.put 7 rfl rfl rfl⟩
  intro v hv
  obtain ⟨u, _, hu⟩ := hv
  obtain rfl := hR.get 7 rfl hu
  clear hu
  intro K hK
  go_big_quiet_op
  go_big_quiet_on
  repeat (first | (refine wpR_det hp2 rfl ((hR.rel _).trans rfl) rfl ?_; intro K hK; go_big_quiet_op; go_big_quiet_on) | (refine wpR_ptr hp2 rfl ((hR.rel _).trans rfl) rfl rfl ?_; intro K hK; go_big_quiet_op; go_big_quiet_on) | (refine wpR_skip pick rfl ?_; intro K hK; go_big_quiet_op; go_big_quiet_on))
  refine wpR_nil ?_
  intro w8 hk2 hF hM
  have HKf := Lib.hid hk2
  have HKW8 := Lib.hid (show Kept (fun _ => False) w w8 from HKW.out.trans hk2)
  clear hF hM hk2 hp1 hp2 hR p0 p1 p2 p3 cv hj0 hj1
  by_cases hq : uq = b.length - 24
  · as_aux_lemma =>
    have HG78 := Lib.hid (HG7.out.kept (HKd.out.trans (HKe.out.trans HKf.out)) (fun h => h))
    have HG108 := Lib.hid (HG10.out.kept (HKd.out.trans (HKe.out.trans HKf.out)) (fun h => h))
    have HRD := Lib.hid (read_all (some ⟨bb, o, none⟩) c b w8 (by omega) HC.out.1 HC.out.2 (HB.out.on HKW8.out (fun _ _ h => h)) HOK.out HMO.out HLI.out (by rw [HYE.out, HUQ.out]; exact hq))
    rw [HYE.out, HQS.out] at HRD
    go_wp2_with fail
    refine HRD.out.mono ?_
    rintro e w9 ⟨v9, rfl, hP9, hb9⟩
    obtain ⟨XA, xc, rfl, -, -⟩ := hP9.shape
    have HP9 := Lib.hid (hP9.more HKW8.out.size)
    clear hP9
    have HKg := Lib.hid (show Kept (fun _ => False) w8 w9 from Kept.quietly hb9)
    clear hb9 HRD
    go_upto_region 11 with fail
    obtain ⟨wA, hwA⟩ : ∃ wA : World, wA = w9.alloc (.cells #[.bool sm, .bool na, .int .u32 mo, .int .u32 li] 29) := ⟨_, rfl⟩
    have HG14 := Lib.hid (show Blk wA w9.heap.size 29 #[.bool sm, .bool na, .int .u32 mo, .int .u32 li] by rw [hwA]; exact Blk.new _ _ _)
    have HKwA := Lib.hid (show Kept (fun _ => False) w9 wA by rw [hwA]; exact (Kept.refl _ _).alloc _)
    rw [← hwA]
    clear hwA
    obtain ⟨g14, hg14⟩ : ∃ g, w9.heap.size = g := ⟨_, rfl⟩
    rw [hg14] at HG14 ⊢
    clear hg14
    have HKWX := Lib.hid (show Kept (fun _ => False) w wA from HKW8.out.trans (HKg.out.trans HKwA.out))
    have HG10x := Lib.hid (HG108.out.kept (HKg.out.trans HKwA.out) (fun h => h))
    go_upto_region 13 with fail
    have HEX3 := Lib.hid (show ∃ v u, Kept (fun _ => False) wA u ∧ ∃ m, v = Value.tuple #[m, .int .i64 (uq : Int)] ∧ PksW u w.heap.size m qs from by
      have hz := refAllW sm na mo li SA (c - 24) y wA MO.out LI.out (by omega) (by omega) (by unfold maxLen; omega) (HYB.out.on HKWX.out (fun _ _ h => h))
      rw [HQS.out, HUQ.out] at hz
      obtain ⟨e, u, m, -, h1, h2⟩ := calls_some hz
      exact ⟨_, u, Kept.quietly h2, m, rfl, h1.more HKWX.out.size⟩)
    refine wp_region_kept 9 [(2, fun v u => v = .slice SA (b.length - 24) (c - 24)), (3, fun v u => ∃ m, v = .tuple #[m, .int .i64 (uq : Int)] ∧ PksW u w.heap.size m qs)] ?st ?ne rfl (by kernel_rfl) (by kernel_rfl) ?_
    case st =>
      intro p hp
      simp only [List.mem_cons, List.not_mem_nil, or_false] at hp
      rcases hp with rfl | rfl
      · intro v u u' h hk; exact h
      · rintro v u u' ⟨m, h1, h2⟩ hk; exact ⟨m, h1, h2.on hk⟩
    case ne =>
      intro p hp
      simp only [List.mem_cons, List.not_mem_nil, or_false] at hp
      rcases hp with rfl | rfl
      · exact ⟨_, _, Kept.refl _ _, rfl⟩
      · exact HEX3.out
    simp only [List.take_succ_cons, List.take_zero, List.drop_succ_cons, List.drop_zero]
    intro G pick hR hp1 hp2
    have q0 : ∀ u, (pick u).cell? ⟨g10, 0, none⟩ = some (.bool sm) := fun u => ((hp1 u).cell HG10x.out.lt (fun h => h) _).trans (HG10x.out.cell 0)
    have q1 : ∀ u, (pick u).cell? ⟨g10, 1, none⟩ = some (.bool na) := fun u => ((hp1 u).cell HG10x.out.lt (fun h => h) _).trans (HG10x.out.cell 1)
    have q2 : ∀ u, (pick u).cell? ⟨g10, 2, none⟩ = some (.int .u32 mo) := fun u => ((hp1 u).cell HG10x.out.lt (fun h => h) _).trans (HG10x.out.cell 2)
    have q3 : ∀ u, (pick u).cell? ⟨g10, 3, none⟩ = some (.int .u32 li) := fun u => ((hp1 u).cell HG10x.out.lt (fun h => h) _).trans (HG10x.out.cell 3)
    repeat (first | (refine wpR_det hp2 rfl ((hR.rel _).trans rfl) rfl ?_; intro K hK; go_big_quiet_op; go_big_quiet_on) | (refine wpR_ptr hp2 rfl ((hR.rel _).trans rfl) rfl rfl ?_; intro K hK; go_big_quiet_op; go_big_quiet_on) | (refine wpR_skip pick rfl ?_; intro K hK; go_big_quiet_op; go_big_quiet_on))
    refine wpR_rel pick rfl ((hR.rel _).trans rfl) ((hR.turns _).trans rfl) ?_ ?_
    · intro u hu
      have hk := hR.since hu.1
      have hks := hk.size
      unfold relAt
      go_simp
      rw [HSA.out]
      exact ⟨hR.same, hR.put 0 rfl rfl rfl⟩
    intro v hv
    obtain ⟨u, _, hu⟩ := hv
    obtain rfl := hR.get 0 rfl hu
    clear hu
    intro K hK
    go_big_quiet_op
    go_big_quiet_on
    repeat (first | (refine wpR_det hp2 rfl ((hR.rel _).trans rfl) rfl ?_; intro K hK; go_big_quiet_op; go_big_quiet_on) | (refine wpR_ptr hp2 rfl ((hR.rel _).trans rfl) rfl rfl ?_; intro K hK; go_big_quiet_op; go_big_quiet_on) | (refine wpR_skip pick rfl ?_; intro K hK; go_big_quiet_op; go_big_quiet_on))
    refine wpR_rel pick rfl ((hR.rel _).trans rfl) ((hR.turns _).trans rfl) ?_ ?_
    · intro u hu
      have hk := hR.since hu.1
      have hks := hk.size
      have hz := refAllW sm na mo li SA (c - 24) y u MO.out LI.out (by omega) (by omega) (by unfold maxLen; omega) (HYB.out.on (HKWX.out.trans hk) (fun _ _ h => h))
      rw [HQS.out, HUQ.out, HYN.out] at hz
      unfold relAt
      go_simp
      refine hz.mono ?_
      rintro e w' ⟨m, rfl, hT, hb'⟩
      exact ⟨_, rfl, hR.intoB hb', hR.put 1 rfl rfl ⟨m, rfl, hT.more (Nat.le_trans HKWX.out.size hks)⟩⟩
    intro v hv
    obtain ⟨u, _, hu⟩ := hv
    obtain ⟨m13, rfl, hT13⟩ := hR.get 1 rfl hu
    clear hu
    obtain ⟨NA, nc, rfl, -, -⟩ := hT13.shape
    clear hT13
    intro K hK
    go_big_quiet_op
    go_big_quiet_on
    repeat (first | (refine wpR_det hp2 rfl ((hR.rel _).trans rfl) rfl ?_; intro K hK; go_big_quiet_op; go_big_quiet_on) | (refine wpR_ptr hp2 rfl ((hR.rel _).trans rfl) rfl rfl ?_; intro K hK; go_big_quiet_op; go_big_quiet_on) | (refine wpR_skip pick rfl ?_; intro K hK; go_big_quiet_op; go_big_quiet_on))
    refine wpR_nil ?_
    intro wz0 hk2 hF hM
    obtain ⟨m', e', HW13'⟩ := (hR.get 1 rfl (hF _ _ (Got.upd_self _ _ _)))
    injection e' with e'
    injection e' with e'
    injection e' with e1 e2
    subst e1
    have HW13 := Lib.hid HW13'
    have HKh := Lib.hid hk2
    clear hF hM hk2 hp1 hp2 hR q0 q1 q2 q3 HW13' e2
    have HKWZ := Lib.hid (show Kept (fun _ => False) w wz0 from HKWX.out.trans HKh.out)
    have HBZ0 := Lib.hid (HKWZ.out.below (Nat.le_refl _) (fun i h => h.elim))
    have hqI : (uq : Int) = (b.length : Int) - 24 := by omega
    have HG7z := Lib.hid (HG78.out.kept (HKg.out.trans (HKwA.out.trans HKh.out)) (fun h => h))
    have HG14z := Lib.hid (HG14.out.kept HKh.out (fun h => h))
    have c7 := HG7z.out.cell
    have c14 := HG14z.out.cell
    have hsm := same_rt (j := qs.length) (HP9.out.on (HKwA.out.trans HKh.out)) HW13.out (Nat.le_refl _) (by omega) (by omega)
    rw [List.take_length, decide_eq_true rfl] at hsm
    have HSM := Lib.hid hsm
    clear hsm
    go_wp2_with fail
    refine HSM.out.mono ?_
    rintro e wB ⟨rfl, hkB⟩
    have HBB := Lib.hid (show Below w.heap.size w wB from (HKWZ.out.trans hkB).below (Nat.le_refl _) (fun i h => h.elim))
    clear hkB c7 c14
    go_wp2_with fail
    refine (awake_any _).mono ?_
    rintro e wz ⟨rfl, hbz⟩
    have HBZ := Lib.hid (HBB.out.trans (hbz.mono HBB.out.size))
    clear hbz
    go_wp2_with fail
    go_ret
    exact ⟨rfl, HBZ.out⟩
  · as_aux_lemma =>
    have HG78 := Lib.hid (HG7.out.kept (HKd.out.trans (HKe.out.trans HKf.out)) (fun h => h))
    have HG108 := Lib.hid (HG10.out.kept (HKd.out.trans (HKe.out.trans HKf.out)) (fun h => h))
    have HRD := Lib.hid (read_part (some ⟨bb, o, none⟩) c b w8 (by omega) HC.out.1 HC.out.2 (HB.out.on HKW8.out (fun _ _ h => h)) HOK.out HMO.out HLI.out (by rw [HYE.out, HUQ.out]; exact hq))
    go_wp2_with fail
    refine HRD.out.mono ?_
    rintro e w9 ⟨rfl, hb9⟩
    have HKg := Lib.hid (show Kept (fun _ => False) w8 w9 from Kept.quietly hb9)
    clear hb9 HRD
    go_upto_region 11 with fail
    obtain ⟨wA, hwA⟩ : ∃ wA : World, wA = w9.alloc (.cells #[.bool false, .bool false, .int .u32 0, .int .u32 0] 29) := ⟨_, rfl⟩
    have HG14 := Lib.hid (show Blk wA w9.heap.size 29 #[.bool false, .bool false, .int .u32 0, .int .u32 0] by rw [hwA]; exact Blk.new _ _ _)
    have HKwA := Lib.hid (show Kept (fun _ => False) w9 wA by rw [hwA]; exact (Kept.refl _ _).alloc _)
    rw [← hwA]
    clear hwA
    obtain ⟨g14, hg14⟩ : ∃ g, w9.heap.size = g := ⟨_, rfl⟩
    rw [hg14] at HG14 ⊢
    clear hg14
    have HKWX := Lib.hid (show Kept (fun _ => False) w wA from HKW8.out.trans (HKg.out.trans HKwA.out))
    have HG10x := Lib.hid (HG108.out.kept (HKg.out.trans HKwA.out) (fun h => h))
    go_upto_region 13 with fail
    have HEX3 := Lib.hid (show ∃ v u, Kept (fun _ => False) wA u ∧ ∃ m, v = Value.tuple #[m, .int .i64 (uq : Int)] ∧ PksW u w.heap.size m qs from by
      have hz := refAllW sm na mo li SA (c - 24) y wA MO.out LI.out (by omega) (by omega) (by unfold maxLen; omega) (HYB.out.on HKWX.out (fun _ _ h => h))
      rw [HQS.out, HUQ.out] at hz
      obtain ⟨e, u, m, -, h1, h2⟩ := calls_some hz
      exact ⟨_, u, Kept.quietly h2, m, rfl, h1.more HKWX.out.size⟩)
    refine wp_region_kept 9 [(2, fun v u => v = .slice SA (b.length - 24) (c - 24)), (3, fun v u => ∃ m, v = .tuple #[m, .int .i64 (uq : Int)] ∧ PksW u w.heap.size m qs)] ?st ?ne rfl (by kernel_rfl) (by kernel_rfl) ?_
    case st =>
      intro p hp
      simp only [List.mem_cons, List.not_mem_nil, or_false] at hp
      rcases hp with rfl | rfl
      · intro v u u' h hk; exact h
      · rintro v u u' ⟨m, h1, h2⟩ hk; exact ⟨m, h1, h2.on hk⟩
    case ne =>
      intro p hp
      simp only [List.mem_cons, List.not_mem_nil, or_false] at hp
      rcases hp with rfl | rfl
      · exact ⟨_, _, Kept.refl _ _, rfl⟩
      · exact HEX3.out
    simp only [List.take_succ_cons, List.take_zero, List.drop_succ_cons, List.drop_zero]
    intro G pick hR hp1 hp2
    have q0 : ∀ u, (pick u).cell? ⟨g10, 0, none⟩ = some (.bool sm) := fun u => ((hp1 u).cell HG10x.out.lt (fun h => h) _).trans (HG10x.out.cell 0)
    have q1 : ∀ u, (pick u).cell? ⟨g10, 1, none⟩ = some (.bool na) := fun u => ((hp1 u).cell HG10x.out.lt (fun h => h) _).trans (HG10x.out.cell 1)
    have q2 : ∀ u, (pick u).cell? ⟨g10, 2, none⟩ = some (.int .u32 mo) := fun u => ((hp1 u).cell HG10x.out.lt (fun h => h) _).trans (HG10x.out.cell 2)
    have q3 : ∀ u, (pick u).cell? ⟨g10, 3, none⟩ = some (.int .u32 li) := fun u => ((hp1 u).cell HG10x.out.lt (fun h => h) _).trans (HG10x.out.cell 3)
    repeat (first | (refine wpR_det hp2 rfl ((hR.rel _).trans rfl) rfl ?_; intro K hK; go_big_quiet_op; go_big_quiet_on) | (refine wpR_ptr hp2 rfl ((hR.rel _).trans rfl) rfl rfl ?_; intro K hK; go_big_quiet_op; go_big_quiet_on) | (refine wpR_skip pick rfl ?_; intro K hK; go_big_quiet_op; go_big_quiet_on))
    refine wpR_rel pick rfl ((hR.rel _).trans rfl) ((hR.turns _).trans rfl) ?_ ?_
    · intro u hu
      have hk := hR.since hu.1
      have hks := hk.size
      unfold relAt
      go_simp
      rw [HSA.out]
      exact ⟨hR.same, hR.put 0 rfl rfl rfl⟩
    intro v hv
    obtain ⟨u, _, hu⟩ := hv
    obtain rfl := hR.get 0 rfl hu
    clear hu
    intro K hK
    go_big_quiet_op
    go_big_quiet_on
    repeat (first | (refine wpR_det hp2 rfl ((hR.rel _).trans rfl) rfl ?_; intro K hK; go_big_quiet_op; go_big_quiet_on) | (refine wpR_ptr hp2 rfl ((hR.rel _).trans rfl) rfl rfl ?_; intro K hK; go_big_quiet_op; go_big_quiet_on) | (refine wpR_skip pick rfl ?_; intro K hK; go_big_quiet_op; go_big_quiet_on))
    refine wpR_rel pick rfl ((hR.rel _).trans rfl) ((hR.turns _).trans rfl) ?_ ?_
    · intro u hu
      have hk := hR.since hu.1
      have hks := hk.size
      have hz := refAllW sm na mo li SA (c - 24) y u MO.out LI.out (by omega) (by omega) (by unfold maxLen; omega) (HYB.out.on (HKWX.out.trans hk) (fun _ _ h => h))
      rw [HQS.out, HUQ.out, HYN.out] at hz
      unfold relAt
      go_simp
      refine hz.mono ?_
      rintro e w' ⟨m, rfl, hT, hb'⟩
      exact ⟨_, rfl, hR.intoB hb', hR.put 1 rfl rfl ⟨m, rfl, hT.more (Nat.le_trans HKWX.out.size hks)⟩⟩
    intro v hv
    obtain ⟨u, _, hu⟩ := hv
    obtain ⟨m13, rfl, hT13⟩ := hR.get 1 rfl hu
    clear hu
    obtain ⟨NA, nc, rfl, -, -⟩ := hT13.shape
    clear hT13
    intro K hK
    go_big_quiet_op
    go_big_quiet_on
    repeat (first | (refine wpR_det hp2 rfl ((hR.rel _).trans rfl) rfl ?_; intro K hK; go_big_quiet_op; go_big_quiet_on) | (refine wpR_ptr hp2 rfl ((hR.rel _).trans rfl) rfl rfl ?_; intro K hK; go_big_quiet_op; go_big_quiet_on) | (refine wpR_skip pick rfl ?_; intro K hK; go_big_quiet_op; go_big_quiet_on))
    refine wpR_nil ?_
    intro wz0 hk2 hF hM
    obtain ⟨m', e', HW13'⟩ := (hR.get 1 rfl (hF _ _ (Got.upd_self _ _ _)))
    injection e' with e'
    injection e' with e'
    injection e' with e1 e2
    subst e1
    have HW13 := Lib.hid HW13'
    have HKh := Lib.hid hk2
    clear hF hM hk2 hp1 hp2 hR q0 q1 q2 q3 HW13' e2
    have HKWZ := Lib.hid (show Kept (fun _ => False) w wz0 from HKWX.out.trans HKh.out)
    have HBZ0 := Lib.hid (HKWZ.out.below (Nat.le_refl _) (fun i h => h.elim))
    have hqI : ¬ (uq : Int) = (b.length : Int) - 24 := by omega
    go_wp2_with fail
    refine (awake_any _).mono ?_
    rintro e wz ⟨rfl, hbz⟩
    have HBZ := Lib.hid (HBZ0.out.trans (hbz.mono HBZ0.out.size))
    clear hbz
    go_wp2_with fail
    go_ret
    exact ⟨rfl, HBZ.out⟩
end Go.Proofs.Ytohimionlgaaoaa
