/- Heads, and packets as a file has them. -/
import Derived.Test.YtohimionlgaaoaaA
import Derived.Test.YtohimionlgaaoaaBysN
import Derived.IntWalk
namespace Go.Proofs.Ytohimionlgaaoaa
open Go.RowKit
set_option linter.unusedVariables false
def headLs (sm : Bool) (mk mo li : Int) : List (List UInt8) := [numL sm 4 mk, numL sm 2 2, numL sm 2 4, numL sm 4 0, numL sm 4 0, numL sm 4 mo, numL sm 4 li]
def markI (na : Bool) : Int := if na then 2712812621 else 2712847316
def headL (sm na : Bool) (mo li : Int) : List UInt8 := (headLs sm (markI na) mo li).flatten
theorem headLs_ok (sm : Bool) (mk mo li : Int) : ∀ l ∈ headLs sm mk mo li, l.length ≤ maxLen := by
  intro l hl
  simp only [headLs, List.mem_cons, List.not_mem_nil, or_false] at hl
  unfold maxLen
  rcases hl with rfl | rfl | rfl | rfl | rfl | rfl | rfl <;> rw [numL_len] <;> omega
theorem headLs_len (sm : Bool) (mk mo li : Int) : (headLs sm mk mo li).flatten.length = 24 := by simp [headLs, numL_len]
def writeLs (sm : Bool) (se pa : Int) (dl : List UInt8) (pl : Int) : List (List UInt8) := [numL sm 4 se, numL sm 4 pa, numL sm 4 (dl.length : Int), numL sm 4 pl, dl]
theorem writeLs_ok (sm : Bool) (se pa : Int) (dl : List UInt8) (pl : Int) (h : dl.length ≤ 2000) : ∀ l ∈ writeLs sm se pa dl pl, l.length ≤ maxLen := by
  intro l hl
  simp only [writeLs, List.mem_cons, List.not_mem_nil, or_false] at hl
  unfold maxLen
  rcases hl with rfl | rfl | rfl | rfl | rfl
  · rw [numL_len]; omega
  · rw [numL_len]; omega
  · rw [numL_len]; omega
  · rw [numL_len]; omega
  · omega
theorem writeLs_len (sm : Bool) (se pa : Int) (dl : List UInt8) (pl : Int) (h : dl.length ≤ 2000) : (writeLs sm se pa dl pl).flatten.length ≤ 1000000 := by simp [writeLs, numL_len]; omega
set_option maxRecDepth 100000 in
set_option maxHeartbeats 4000000 in
theorem head_any (sm na : Bool) (mo li : Int) (w : World) (hmo : 0 ≤ mo ∧ mo ≤ 4294967295) (hli : 0 ≤ li ∧ li ≤ 4294967295) :
    Calls Try.prog 8 #[.agg #[.bool sm, .bool na, .int .u32 mo, .int .u32 li]] w fun e w' => ∃ v, e = .returned v ∧ Byt w' v (headL sm na mo li) ∧ Below w.heap.size w w' := by
  obtain ⟨mo0, mo1⟩ := hmo
  obtain ⟨li0, li1⟩ := hli
  cases na with
  | true =>
    have HLS := Lib.hid (headLs_ok sm 2712812621 mo li)
    have HFL := Lib.hid (show (headLs sm 2712812621 mo li).flatten.length ≤ 1000000 by rw [headLs_len]; omega)
    go_enter Try.func8, Try.ntmps8
    go_upto_region 4 with fail
    obtain ⟨w1, hw1⟩ : ∃ w1 : World, w1 = w.alloc (.cells #[.bool sm, .bool true, .int .u32 mo, .int .u32 li] 29) := ⟨_, rfl⟩
    have HF := Lib.hid (show Blk w1 w.heap.size 29 #[.bool sm, .bool true, .int .u32 mo, .int .u32 li] by rw [hw1]; exact Blk.new _ _ _)
    have HW := Lib.hid (show Below w.heap.size w w1 by rw [hw1]; exact (Below.refl _ _).alloc (Nat.le_refl _) _)
    rw [← hw1]
    clear hw1
    obtain ⟨fb, hfb⟩ : ∃ fb, w.heap.size = fb := ⟨_, rfl⟩
    rw [hfb] at HF ⊢
    clear hfb
    have f0 := HF.out.cell 0
    have f1 := HF.out.cell 1
    have f2 := HF.out.cell 2
    have f3 := HF.out.cell 3
    simp at f0 f1 f2 f3
    have fl := HF.out.lt
    have cv1 : IntKind.u64.wrap mo = mo := IntWalk.u64_in _ (by omega)
    have cv2 : IntKind.u64.wrap li = li := IntWalk.u64_in _ (by omega)
    refine wp_region_kept 23 [(2, fun v u => Byt u v (numL sm 4 2712812621)), (4, fun v u => Byt u v (numL sm 2 2)), (6, fun v u => Byt u v (numL sm 2 4)), (8, fun v u => Byt u v (numL sm 4 0)), (10, fun v u => Byt u v (numL sm 4 0)), (15, fun v u => Byt u v (numL sm 4 mo)), (20, fun v u => Byt u v (numL sm 4 li)), (21, fun v u => BysN 7 u v (headLs sm 2712812621 mo li)), (22, fun v u => Byt u v ((headLs sm 2712812621 mo li)).flatten)] ?st ?ne rfl (by kernel_rfl) (by kernel_rfl) ?_
    case st =>
      intro p hp
      simp only [List.mem_cons, List.not_mem_nil, or_false] at hp
      rcases hp with rfl | rfl | rfl | rfl | rfl | rfl | rfl | rfl | rfl
      · intro v u u' h hk; exact h.on0 hk
      · intro v u u' h hk; exact h.on0 hk
      · intro v u u' h hk; exact h.on0 hk
      · intro v u u' h hk; exact h.on0 hk
      · intro v u u' h hk; exact h.on0 hk
      · intro v u u' h hk; exact h.on0 hk
      · intro v u u' h hk; exact h.on0 hk
      · intro v u u' h hk; exact h.on0 hk
      · intro v u u' h hk; exact h.on0 hk
    case ne =>
      intro p hp
      simp only [List.mem_cons, List.not_mem_nil, or_false] at hp
      rcases hp with rfl | rfl | rfl | rfl | rfl | rfl | rfl | rfl | rfl
      · exact Byt.some _ _ (by rw [numL_len]; unfold maxLen; omega)
      · exact Byt.some _ _ (by rw [numL_len]; unfold maxLen; omega)
      · exact Byt.some _ _ (by rw [numL_len]; unfold maxLen; omega)
      · exact Byt.some _ _ (by rw [numL_len]; unfold maxLen; omega)
      · exact Byt.some _ _ (by rw [numL_len]; unfold maxLen; omega)
      · exact Byt.some _ _ (by rw [numL_len]; unfold maxLen; omega)
      · exact Byt.some _ _ (by rw [numL_len]; unfold maxLen; omega)
      · exact BysN.some _ _ _ rfl HLS.out
      · exact Byt.some _ _ (by have := HFL.out; unfold maxLen; omega)
    simp only [List.take_succ_cons, List.take_zero, List.drop_succ_cons, List.drop_zero]
    intro G pick hR hp1 hp2
    have p0 : ∀ u, (pick u).cell? ⟨fb, 0, none⟩ = some (.bool sm) := fun u => ((hp1 u).cell fl (fun h => h) _).trans f0
    have p1 : ∀ u, (pick u).cell? ⟨fb, 1, none⟩ = some (.bool true) := fun u => ((hp1 u).cell fl (fun h => h) _).trans f1
    have p2 : ∀ u, (pick u).cell? ⟨fb, 2, none⟩ = some (.int .u32 mo) := fun u => ((hp1 u).cell fl (fun h => h) _).trans f2
    have p3 : ∀ u, (pick u).cell? ⟨fb, 3, none⟩ = some (.int .u32 li) := fun u => ((hp1 u).cell fl (fun h => h) _).trans f3
    repeat (first | (refine wpR_det hp2 rfl ((hR.rel _).trans rfl) rfl ?_; intro K hK; go_big_quiet_op; go_big_quiet_on) | (refine wpR_ptr hp2 rfl ((hR.rel _).trans rfl) rfl rfl ?_; intro K hK; go_big_quiet_op; go_big_quiet_on) | (refine wpR_skip pick rfl ?_; intro K hK; go_big_quiet_op; go_big_quiet_on))
    refine wpR_rel pick rfl ((hR.rel _).trans rfl) ((hR.turns _).trans rfl) ?_ ?_
    · intro u hu
      have hk := hR.since hu.1
      have hks := hk.size
      have hz := num_any sm true mo li 4 2712812621 u (by omega) (by omega) (by omega) (by omega)
      unfold relAt
      go_simp
      refine hz.mono ?_
      rintro e w' ⟨v, rfl, hT, hb'⟩
      exact ⟨_, rfl, hR.intoB hb', hR.put 0 rfl rfl hT⟩
    intro v hv
    obtain ⟨u, _, hu⟩ := hv
    obtain ⟨A2, c2, rfl, -, -, -⟩ := hR.get 0 rfl hu
    clear hu
    rw [numL_len]
    intro K hK
    go_big_quiet_op
    go_big_quiet_on
    repeat (first | (refine wpR_det hp2 rfl ((hR.rel _).trans rfl) rfl ?_; intro K hK; go_big_quiet_op; go_big_quiet_on) | (refine wpR_ptr hp2 rfl ((hR.rel _).trans rfl) rfl rfl ?_; intro K hK; go_big_quiet_op; go_big_quiet_on) | (refine wpR_skip pick rfl ?_; intro K hK; go_big_quiet_op; go_big_quiet_on))
    refine wpR_rel pick rfl ((hR.rel _).trans rfl) ((hR.turns _).trans rfl) ?_ ?_
    · intro u hu
      have hk := hR.since hu.1
      have hks := hk.size
      have hz := num_any sm true mo li 2 2 u (by omega) (by omega) (by omega) (by omega)
      unfold relAt
      go_simp
      refine hz.mono ?_
      rintro e w' ⟨v, rfl, hT, hb'⟩
      exact ⟨_, rfl, hR.intoB hb', hR.put 1 rfl rfl hT⟩
    intro v hv
    obtain ⟨u, _, hu⟩ := hv
    obtain ⟨A4, c4, rfl, -, -, -⟩ := hR.get 1 rfl hu
    clear hu
    rw [numL_len]
    intro K hK
    go_big_quiet_op
    go_big_quiet_on
    repeat (first | (refine wpR_det hp2 rfl ((hR.rel _).trans rfl) rfl ?_; intro K hK; go_big_quiet_op; go_big_quiet_on) | (refine wpR_ptr hp2 rfl ((hR.rel _).trans rfl) rfl rfl ?_; intro K hK; go_big_quiet_op; go_big_quiet_on) | (refine wpR_skip pick rfl ?_; intro K hK; go_big_quiet_op; go_big_quiet_on))
    refine wpR_rel pick rfl ((hR.rel _).trans rfl) ((hR.turns _).trans rfl) ?_ ?_
    · intro u hu
      have hk := hR.since hu.1
      have hks := hk.size
      have hz := num_any sm true mo li 2 4 u (by omega) (by omega) (by omega) (by omega)
      unfold relAt
      go_simp
      refine hz.mono ?_
      rintro e w' ⟨v, rfl, hT, hb'⟩
      exact ⟨_, rfl, hR.intoB hb', hR.put 2 rfl rfl hT⟩
    intro v hv
    obtain ⟨u, _, hu⟩ := hv
    obtain ⟨A6, c6, rfl, -, -, -⟩ := hR.get 2 rfl hu
    clear hu
    rw [numL_len]
    intro K hK
    go_big_quiet_op
    go_big_quiet_on
    repeat (first | (refine wpR_det hp2 rfl ((hR.rel _).trans rfl) rfl ?_; intro K hK; go_big_quiet_op; go_big_quiet_on) | (refine wpR_ptr hp2 rfl ((hR.rel _).trans rfl) rfl rfl ?_; intro K hK; go_big_quiet_op; go_big_quiet_on) | (refine wpR_skip pick rfl ?_; intro K hK; go_big_quiet_op; go_big_quiet_on))
    refine wpR_rel pick rfl ((hR.rel _).trans rfl) ((hR.turns _).trans rfl) ?_ ?_
    · intro u hu
      have hk := hR.since hu.1
      have hks := hk.size
      have hz := num_any sm true mo li 4 0 u (by omega) (by omega) (by omega) (by omega)
      unfold relAt
      go_simp
      refine hz.mono ?_
      rintro e w' ⟨v, rfl, hT, hb'⟩
      exact ⟨_, rfl, hR.intoB hb', hR.put 3 rfl rfl hT⟩
    intro v hv
    obtain ⟨u, _, hu⟩ := hv
    obtain ⟨A8, c8, rfl, -, -, -⟩ := hR.get 3 rfl hu
    clear hu
    rw [numL_len]
    intro K hK
    go_big_quiet_op
    go_big_quiet_on
    repeat (first | (refine wpR_det hp2 rfl ((hR.rel _).trans rfl) rfl ?_; intro K hK; go_big_quiet_op; go_big_quiet_on) | (refine wpR_ptr hp2 rfl ((hR.rel _).trans rfl) rfl rfl ?_; intro K hK; go_big_quiet_op; go_big_quiet_on) | (refine wpR_skip pick rfl ?_; intro K hK; go_big_quiet_op; go_big_quiet_on))
    refine wpR_rel pick rfl ((hR.rel _).trans rfl) ((hR.turns _).trans rfl) ?_ ?_
    · intro u hu
      have hk := hR.since hu.1
      have hks := hk.size
      have hz := num_any sm true mo li 4 0 u (by omega) (by omega) (by omega) (by omega)
      unfold relAt
      go_simp
      refine hz.mono ?_
      rintro e w' ⟨v, rfl, hT, hb'⟩
      exact ⟨_, rfl, hR.intoB hb', hR.put 4 rfl rfl hT⟩
    intro v hv
    obtain ⟨u, _, hu⟩ := hv
    obtain ⟨A10, c10, rfl, -, -, -⟩ := hR.get 4 rfl hu
    clear hu
    rw [numL_len]
    intro K hK
    go_big_quiet_op
    go_big_quiet_on
    repeat (first | (refine wpR_det hp2 rfl ((hR.rel _).trans rfl) rfl ?_; intro K hK; go_big_quiet_op; go_big_quiet_on) | (refine wpR_ptr hp2 rfl ((hR.rel _).trans rfl) rfl rfl ?_; intro K hK; go_big_quiet_op; go_big_quiet_on) | (refine wpR_skip pick rfl ?_; intro K hK; go_big_quiet_op; go_big_quiet_on))
    refine wpR_rel pick rfl ((hR.rel _).trans rfl) ((hR.turns _).trans rfl) ?_ ?_
    · intro u hu
      have hk := hR.since hu.1
      have hks := hk.size
      have hz := num_any sm true mo li 4 mo u (by omega) (by omega) (by omega) (by omega)
      unfold relAt
      go_simp
      refine hz.mono ?_
      rintro e w' ⟨v, rfl, hT, hb'⟩
      exact ⟨_, rfl, hR.intoB hb', hR.put 5 rfl rfl hT⟩
    intro v hv
    obtain ⟨u, _, hu⟩ := hv
    obtain ⟨A15, c15, rfl, -, -, -⟩ := hR.get 5 rfl hu
    clear hu
    rw [numL_len]
    intro K hK
    go_big_quiet_op
    go_big_quiet_on
    repeat (first | (refine wpR_det hp2 rfl ((hR.rel _).trans rfl) rfl ?_; intro K hK; go_big_quiet_op; go_big_quiet_on) | (refine wpR_ptr hp2 rfl ((hR.rel _).trans rfl) rfl rfl ?_; intro K hK; go_big_quiet_op; go_big_quiet_on) | (refine wpR_skip pick rfl ?_; intro K hK; go_big_quiet_op; go_big_quiet_on))
    refine wpR_rel pick rfl ((hR.rel _).trans rfl) ((hR.turns _).trans rfl) ?_ ?_
    · intro u hu
      have hk := hR.since hu.1
      have hks := hk.size
      have hz := num_any sm true mo li 4 li u (by omega) (by omega) (by omega) (by omega)
      unfold relAt
      go_simp
      refine hz.mono ?_
      rintro e w' ⟨v, rfl, hT, hb'⟩
      exact ⟨_, rfl, hR.intoB hb', hR.put 6 rfl rfl hT⟩
    intro v hv
    obtain ⟨u, _, hu⟩ := hv
    obtain ⟨A20, c20, rfl, -, -, -⟩ := hR.get 6 rfl hu
    clear hu
    rw [numL_len]
    intro K hK
    go_big_quiet_op
    go_big_quiet_on
    repeat (first | (refine wpR_det hp2 rfl ((hR.rel _).trans rfl) rfl ?_; intro K hK; go_big_quiet_op; go_big_quiet_on) | (refine wpR_ptr hp2 rfl ((hR.rel _).trans rfl) rfl rfl ?_; intro K hK; go_big_quiet_op; go_big_quiet_on) | (refine wpR_skip pick rfl ?_; intro K hK; go_big_quiet_op; go_big_quiet_on))
    refine wpR_rel pick rfl ((hR.rel _).trans rfl) ((hR.turns _).trans rfl) ?_ ?_
    · intro u hu
      have hk := hR.since hu.1
      have hks := hk.size
      have b0 := (hR.get 0 rfl (hu.2 _ _ (Got.upd_old (Got.upd_old (Got.upd_old (Got.upd_old (Got.upd_old (Got.upd_old (Got.upd_self _ _ _) rfl) rfl) rfl) rfl) rfl) rfl) (by kernel_rfl)))
      have b1 := (hR.get 1 rfl (hu.2 _ _ (Got.upd_old (Got.upd_old (Got.upd_old (Got.upd_old (Got.upd_old (Got.upd_self _ _ _) rfl) rfl) rfl) rfl) rfl) (by kernel_rfl)))
      have b2 := (hR.get 2 rfl (hu.2 _ _ (Got.upd_old (Got.upd_old (Got.upd_old (Got.upd_old (Got.upd_self _ _ _) rfl) rfl) rfl) rfl) (by kernel_rfl)))
      have b3 := (hR.get 3 rfl (hu.2 _ _ (Got.upd_old (Got.upd_old (Got.upd_old (Got.upd_self _ _ _) rfl) rfl) rfl) (by kernel_rfl)))
      have b4 := (hR.get 4 rfl (hu.2 _ _ (Got.upd_old (Got.upd_old (Got.upd_self _ _ _) rfl) rfl) (by kernel_rfl)))
      have b5 := (hR.get 5 rfl (hu.2 _ _ (Got.upd_old (Got.upd_self _ _ _) rfl) (by kernel_rfl)))
      have b6 := (hR.get 6 rfl (hu.2 _ _ (Got.upd_self _ _ _) (by kernel_rfl)))
      have hal : Al u [.slice A2 4 c2, .slice A4 2 c4, .slice A6 2 c6, .slice A8 4 c8, .slice A10 4 c10, .slice A15 4 c15, .slice A20 4 c20] (headLs sm 2712812621 mo li) := ⟨b0, b1, b2, b3, b4, b5, b6, trivial⟩
      clear b0 b1 b2 b3 b4 b5 b6
      unfold relAt
      go_simp
      refine ⟨hR.into0 ((Kept.refl _ _).alloc _), hR.put 7 rfl rfl ⟨u.heap.size, [.slice A2 4 c2, .slice A4 2 c4, .slice A6 2 c6, .slice A8 4 c8, .slice A10 4 c10, .slice A15 4 c15, .slice A20 4 c20], rfl, rfl, (hal.on0 ((Kept.refl _ _).alloc _)).bys (Blk.new _ _ _)⟩⟩
    intro v hv
    obtain ⟨u, _, hu⟩ := hv
    obtain ⟨gb, vsb, rfl, -, -⟩ := hR.get 7 rfl hu
    clear hu
    intro K hK
    go_big_quiet_op
    go_big_quiet_on
    repeat (first | (refine wpR_det hp2 rfl ((hR.rel _).trans rfl) rfl ?_; intro K hK; go_big_quiet_op; go_big_quiet_on) | (refine wpR_ptr hp2 rfl ((hR.rel _).trans rfl) rfl rfl ?_; intro K hK; go_big_quiet_op; go_big_quiet_on) | (refine wpR_skip pick rfl ?_; intro K hK; go_big_quiet_op; go_big_quiet_on))
    refine wpR_rel pick rfl ((hR.rel _).trans rfl) ((hR.turns _).trans rfl) ?_ ?_
    · intro u hu
      have hk := hR.since hu.1
      have hks := hk.size
      obtain ⟨g', vs', e, hn', hB⟩ := (hR.get 7 rfl (hu.2 _ _ (Got.upd_self _ _ _) (by kernel_rfl)))
      obtain rfl : gb = g' := by injection e with e; injection e with e; injection e
      have hz := slConcat_any gb 7 vs' (headLs sm 2712812621 mo li) u hB (by rw [hn']; omega) HFL.out
      rw [hn'] at hz
      clear hB e
      unfold relAt
      go_simp
      refine hz.mono ?_
      rintro e w' ⟨v, rfl, hT, hb'⟩
      exact ⟨_, rfl, hR.intoB hb', hR.put 8 rfl rfl hT⟩
    intro v hv
    obtain ⟨u, _, hu⟩ := hv
    obtain hT := hR.get 8 rfl hu
    clear hu
    clear hT
    intro K hK
    go_big_quiet_op
    go_big_quiet_on
    repeat (first | (refine wpR_det hp2 rfl ((hR.rel _).trans rfl) rfl ?_; intro K hK; go_big_quiet_op; go_big_quiet_on) | (refine wpR_ptr hp2 rfl ((hR.rel _).trans rfl) rfl rfl ?_; intro K hK; go_big_quiet_op; go_big_quiet_on) | (refine wpR_skip pick rfl ?_; intro K hK; go_big_quiet_op; go_big_quiet_on))
    refine wpR_nil ?_
    intro w2 hk2 hF hM
    have HZ := Lib.hid ((hR.get 8 rfl (hF _ _ (Got.upd_self _ _ _))))
    have HWZ := Lib.hid (keptK HW.out hk2)
    clear hF hM hk2 hp1 hp2 hR p0 p1 p2 p3
    go_wp2_with fail
    go_ret
    exact ⟨_, rfl, HZ.out, HWZ.out⟩
  | false =>
    have HLS := Lib.hid (headLs_ok sm 2712847316 mo li)
    have HFL := Lib.hid (show (headLs sm 2712847316 mo li).flatten.length ≤ 1000000 by rw [headLs_len]; omega)
    go_enter Try.func8, Try.ntmps8
    go_upto_region 4 with fail
    obtain ⟨w1, hw1⟩ : ∃ w1 : World, w1 = w.alloc (.cells #[.bool sm, .bool false, .int .u32 mo, .int .u32 li] 29) := ⟨_, rfl⟩
    have HF := Lib.hid (show Blk w1 w.heap.size 29 #[.bool sm, .bool false, .int .u32 mo, .int .u32 li] by rw [hw1]; exact Blk.new _ _ _)
    have HW := Lib.hid (show Below w.heap.size w w1 by rw [hw1]; exact (Below.refl _ _).alloc (Nat.le_refl _) _)
    rw [← hw1]
    clear hw1
    obtain ⟨fb, hfb⟩ : ∃ fb, w.heap.size = fb := ⟨_, rfl⟩
    rw [hfb] at HF ⊢
    clear hfb
    have f0 := HF.out.cell 0
    have f1 := HF.out.cell 1
    have f2 := HF.out.cell 2
    have f3 := HF.out.cell 3
    simp at f0 f1 f2 f3
    have fl := HF.out.lt
    have cv1 : IntKind.u64.wrap mo = mo := IntWalk.u64_in _ (by omega)
    have cv2 : IntKind.u64.wrap li = li := IntWalk.u64_in _ (by omega)
    refine wp_region_kept 23 [(2, fun v u => Byt u v (numL sm 4 2712847316)), (4, fun v u => Byt u v (numL sm 2 2)), (6, fun v u => Byt u v (numL sm 2 4)), (8, fun v u => Byt u v (numL sm 4 0)), (10, fun v u => Byt u v (numL sm 4 0)), (15, fun v u => Byt u v (numL sm 4 mo)), (20, fun v u => Byt u v (numL sm 4 li)), (21, fun v u => BysN 7 u v (headLs sm 2712847316 mo li)), (22, fun v u => Byt u v ((headLs sm 2712847316 mo li)).flatten)] ?st ?ne rfl (by kernel_rfl) (by kernel_rfl) ?_
    case st =>
      intro p hp
      simp only [List.mem_cons, List.not_mem_nil, or_false] at hp
      rcases hp with rfl | rfl | rfl | rfl | rfl | rfl | rfl | rfl | rfl
      · intro v u u' h hk; exact h.on0 hk
      · intro v u u' h hk; exact h.on0 hk
      · intro v u u' h hk; exact h.on0 hk
      · intro v u u' h hk; exact h.on0 hk
      · intro v u u' h hk; exact h.on0 hk
      · intro v u u' h hk; exact h.on0 hk
      · intro v u u' h hk; exact h.on0 hk
      · intro v u u' h hk; exact h.on0 hk
      · intro v u u' h hk; exact h.on0 hk
    case ne =>
      intro p hp
      simp only [List.mem_cons, List.not_mem_nil, or_false] at hp
      rcases hp with rfl | rfl | rfl | rfl | rfl | rfl | rfl | rfl | rfl
      · exact Byt.some _ _ (by rw [numL_len]; unfold maxLen; omega)
      · exact Byt.some _ _ (by rw [numL_len]; unfold maxLen; omega)
      · exact Byt.some _ _ (by rw [numL_len]; unfold maxLen; omega)
      · exact Byt.some _ _ (by rw [numL_len]; unfold maxLen; omega)
      · exact Byt.some _ _ (by rw [numL_len]; unfold maxLen; omega)
      · exact Byt.some _ _ (by rw [numL_len]; unfold maxLen; omega)
      · exact Byt.some _ _ (by rw [numL_len]; unfold maxLen; omega)
      · exact BysN.some _ _ _ rfl HLS.out
      · exact Byt.some _ _ (by have := HFL.out; unfold maxLen; omega)
    simp only [List.take_succ_cons, List.take_zero, List.drop_succ_cons, List.drop_zero]
    intro G pick hR hp1 hp2
    have p0 : ∀ u, (pick u).cell? ⟨fb, 0, none⟩ = some (.bool sm) := fun u => ((hp1 u).cell fl (fun h => h) _).trans f0
    have p1 : ∀ u, (pick u).cell? ⟨fb, 1, none⟩ = some (.bool false) := fun u => ((hp1 u).cell fl (fun h => h) _).trans f1
    have p2 : ∀ u, (pick u).cell? ⟨fb, 2, none⟩ = some (.int .u32 mo) := fun u => ((hp1 u).cell fl (fun h => h) _).trans f2
    have p3 : ∀ u, (pick u).cell? ⟨fb, 3, none⟩ = some (.int .u32 li) := fun u => ((hp1 u).cell fl (fun h => h) _).trans f3
    repeat (first | (refine wpR_det hp2 rfl ((hR.rel _).trans rfl) rfl ?_; intro K hK; go_big_quiet_op; go_big_quiet_on) | (refine wpR_ptr hp2 rfl ((hR.rel _).trans rfl) rfl rfl ?_; intro K hK; go_big_quiet_op; go_big_quiet_on) | (refine wpR_skip pick rfl ?_; intro K hK; go_big_quiet_op; go_big_quiet_on))
    refine wpR_rel pick rfl ((hR.rel _).trans rfl) ((hR.turns _).trans rfl) ?_ ?_
    · intro u hu
      have hk := hR.since hu.1
      have hks := hk.size
      have hz := num_any sm false mo li 4 2712847316 u (by omega) (by omega) (by omega) (by omega)
      unfold relAt
      go_simp
      refine hz.mono ?_
      rintro e w' ⟨v, rfl, hT, hb'⟩
      exact ⟨_, rfl, hR.intoB hb', hR.put 0 rfl rfl hT⟩
    intro v hv
    obtain ⟨u, _, hu⟩ := hv
    obtain ⟨A2, c2, rfl, -, -, -⟩ := hR.get 0 rfl hu
    clear hu
    rw [numL_len]
    intro K hK
    go_big_quiet_op
    go_big_quiet_on
    repeat (first | (refine wpR_det hp2 rfl ((hR.rel _).trans rfl) rfl ?_; intro K hK; go_big_quiet_op; go_big_quiet_on) | (refine wpR_ptr hp2 rfl ((hR.rel _).trans rfl) rfl rfl ?_; intro K hK; go_big_quiet_op; go_big_quiet_on) | (refine wpR_skip pick rfl ?_; intro K hK; go_big_quiet_op; go_big_quiet_on))
    refine wpR_rel pick rfl ((hR.rel _).trans rfl) ((hR.turns _).trans rfl) ?_ ?_
    · intro u hu
      have hk := hR.since hu.1
      have hks := hk.size
      have hz := num_any sm false mo li 2 2 u (by omega) (by omega) (by omega) (by omega)
      unfold relAt
      go_simp
      refine hz.mono ?_
      rintro e w' ⟨v, rfl, hT, hb'⟩
      exact ⟨_, rfl, hR.intoB hb', hR.put 1 rfl rfl hT⟩
    intro v hv
    obtain ⟨u, _, hu⟩ := hv
    obtain ⟨A4, c4, rfl, -, -, -⟩ := hR.get 1 rfl hu
    clear hu
    rw [numL_len]
    intro K hK
    go_big_quiet_op
    go_big_quiet_on
    repeat (first | (refine wpR_det hp2 rfl ((hR.rel _).trans rfl) rfl ?_; intro K hK; go_big_quiet_op; go_big_quiet_on) | (refine wpR_ptr hp2 rfl ((hR.rel _).trans rfl) rfl rfl ?_; intro K hK; go_big_quiet_op; go_big_quiet_on) | (refine wpR_skip pick rfl ?_; intro K hK; go_big_quiet_op; go_big_quiet_on))
    refine wpR_rel pick rfl ((hR.rel _).trans rfl) ((hR.turns _).trans rfl) ?_ ?_
    · intro u hu
      have hk := hR.since hu.1
      have hks := hk.size
      have hz := num_any sm false mo li 2 4 u (by omega) (by omega) (by omega) (by omega)
      unfold relAt
      go_simp
      refine hz.mono ?_
      rintro e w' ⟨v, rfl, hT, hb'⟩
      exact ⟨_, rfl, hR.intoB hb', hR.put 2 rfl rfl hT⟩
    intro v hv
    obtain ⟨u, _, hu⟩ := hv
    obtain ⟨A6, c6, rfl, -, -, -⟩ := hR.get 2 rfl hu
    clear hu
    rw [numL_len]
    intro K hK
    go_big_quiet_op
    go_big_quiet_on
    repeat (first | (refine wpR_det hp2 rfl ((hR.rel _).trans rfl) rfl ?_; intro K hK; go_big_quiet_op; go_big_quiet_on) | (refine wpR_ptr hp2 rfl ((hR.rel _).trans rfl) rfl rfl ?_; intro K hK; go_big_quiet_op; go_big_quiet_on) | (refine wpR_skip pick rfl ?_; intro K hK; go_big_quiet_op; go_big_quiet_on))
    refine wpR_rel pick rfl ((hR.rel _).trans rfl) ((hR.turns _).trans rfl) ?_ ?_
    · intro u hu
      have hk := hR.since hu.1
      have hks := hk.size
      have hz := num_any sm false mo li 4 0 u (by omega) (by omega) (by omega) (by omega)
      unfold relAt
      go_simp
      refine hz.mono ?_
      rintro e w' ⟨v, rfl, hT, hb'⟩
      exact ⟨_, rfl, hR.intoB hb', hR.put 3 rfl rfl hT⟩
    intro v hv
    obtain ⟨u, _, hu⟩ := hv
    obtain ⟨A8, c8, rfl, -, -, -⟩ := hR.get 3 rfl hu
    clear hu
    rw [numL_len]
    intro K hK
    go_big_quiet_op
    go_big_quiet_on
    repeat (first | (refine wpR_det hp2 rfl ((hR.rel _).trans rfl) rfl ?_; intro K hK; go_big_quiet_op; go_big_quiet_on) | (refine wpR_ptr hp2 rfl ((hR.rel _).trans rfl) rfl rfl ?_; intro K hK; go_big_quiet_op; go_big_quiet_on) | (refine wpR_skip pick rfl ?_; intro K hK; go_big_quiet_op; go_big_quiet_on))
    refine wpR_rel pick rfl ((hR.rel _).trans rfl) ((hR.turns _).trans rfl) ?_ ?_
    · intro u hu
      have hk := hR.since hu.1
      have hks := hk.size
      have hz := num_any sm false mo li 4 0 u (by omega) (by omega) (by omega) (by omega)
      unfold relAt
      go_simp
      refine hz.mono ?_
      rintro e w' ⟨v, rfl, hT, hb'⟩
      exact ⟨_, rfl, hR.intoB hb', hR.put 4 rfl rfl hT⟩
    intro v hv
    obtain ⟨u, _, hu⟩ := hv
    obtain ⟨A10, c10, rfl, -, -, -⟩ := hR.get 4 rfl hu
    clear hu
    rw [numL_len]
    intro K hK
    go_big_quiet_op
    go_big_quiet_on
    repeat (first | (refine wpR_det hp2 rfl ((hR.rel _).trans rfl) rfl ?_; intro K hK; go_big_quiet_op; go_big_quiet_on) | (refine wpR_ptr hp2 rfl ((hR.rel _).trans rfl) rfl rfl ?_; intro K hK; go_big_quiet_op; go_big_quiet_on) | (refine wpR_skip pick rfl ?_; intro K hK; go_big_quiet_op; go_big_quiet_on))
    refine wpR_rel pick rfl ((hR.rel _).trans rfl) ((hR.turns _).trans rfl) ?_ ?_
    · intro u hu
      have hk := hR.since hu.1
      have hks := hk.size
      have hz := num_any sm false mo li 4 mo u (by omega) (by omega) (by omega) (by omega)
      unfold relAt
      go_simp
      refine hz.mono ?_
      rintro e w' ⟨v, rfl, hT, hb'⟩
      exact ⟨_, rfl, hR.intoB hb', hR.put 5 rfl rfl hT⟩
    intro v hv
    obtain ⟨u, _, hu⟩ := hv
    obtain ⟨A15, c15, rfl, -, -, -⟩ := hR.get 5 rfl hu
    clear hu
    rw [numL_len]
    intro K hK
    go_big_quiet_op
    go_big_quiet_on
    repeat (first | (refine wpR_det hp2 rfl ((hR.rel _).trans rfl) rfl ?_; intro K hK; go_big_quiet_op; go_big_quiet_on) | (refine wpR_ptr hp2 rfl ((hR.rel _).trans rfl) rfl rfl ?_; intro K hK; go_big_quiet_op; go_big_quiet_on) | (refine wpR_skip pick rfl ?_; intro K hK; go_big_quiet_op; go_big_quiet_on))
    refine wpR_rel pick rfl ((hR.rel _).trans rfl) ((hR.turns _).trans rfl) ?_ ?_
    · intro u hu
      have hk := hR.since hu.1
      have hks := hk.size
      have hz := num_any sm false mo li 4 li u (by omega) (by omega) (by omega) (by omega)
      unfold relAt
      go_simp
      refine hz.mono ?_
      rintro e w' ⟨v, rfl, hT, hb'⟩
      exact ⟨_, rfl, hR.intoB hb', hR.put 6 rfl rfl hT⟩
    intro v hv
    obtain ⟨u, _, hu⟩ := hv
    obtain ⟨A20, c20, rfl, -, -, -⟩ := hR.get 6 rfl hu
    clear hu
    rw [numL_len]
    intro K hK
    go_big_quiet_op
    go_big_quiet_on
    repeat (first | (refine wpR_det hp2 rfl ((hR.rel _).trans rfl) rfl ?_; intro K hK; go_big_quiet_op; go_big_quiet_on) | (refine wpR_ptr hp2 rfl ((hR.rel _).trans rfl) rfl rfl ?_; intro K hK; go_big_quiet_op; go_big_quiet_on) | (refine wpR_skip pick rfl ?_; intro K hK; go_big_quiet_op; go_big_quiet_on))
    refine wpR_rel pick rfl ((hR.rel _).trans rfl) ((hR.turns _).trans rfl) ?_ ?_
    · intro u hu
      have hk := hR.since hu.1
      have hks := hk.size
      have b0 := (hR.get 0 rfl (hu.2 _ _ (Got.upd_old (Got.upd_old (Got.upd_old (Got.upd_old (Got.upd_old (Got.upd_old (Got.upd_self _ _ _) rfl) rfl) rfl) rfl) rfl) rfl) (by kernel_rfl)))
      have b1 := (hR.get 1 rfl (hu.2 _ _ (Got.upd_old (Got.upd_old (Got.upd_old (Got.upd_old (Got.upd_old (Got.upd_self _ _ _) rfl) rfl) rfl) rfl) rfl) (by kernel_rfl)))
      have b2 := (hR.get 2 rfl (hu.2 _ _ (Got.upd_old (Got.upd_old (Got.upd_old (Got.upd_old (Got.upd_self _ _ _) rfl) rfl) rfl) rfl) (by kernel_rfl)))
      have b3 := (hR.get 3 rfl (hu.2 _ _ (Got.upd_old (Got.upd_old (Got.upd_old (Got.upd_self _ _ _) rfl) rfl) rfl) (by kernel_rfl)))
      have b4 := (hR.get 4 rfl (hu.2 _ _ (Got.upd_old (Got.upd_old (Got.upd_self _ _ _) rfl) rfl) (by kernel_rfl)))
      have b5 := (hR.get 5 rfl (hu.2 _ _ (Got.upd_old (Got.upd_self _ _ _) rfl) (by kernel_rfl)))
      have b6 := (hR.get 6 rfl (hu.2 _ _ (Got.upd_self _ _ _) (by kernel_rfl)))
      have hal : Al u [.slice A2 4 c2, .slice A4 2 c4, .slice A6 2 c6, .slice A8 4 c8, .slice A10 4 c10, .slice A15 4 c15, .slice A20 4 c20] (headLs sm 2712847316 mo li) := ⟨b0, b1, b2, b3, b4, b5, b6, trivial⟩
      clear b0 b1 b2 b3 b4 b5 b6
      unfold relAt
      go_simp
      refine ⟨hR.into0 ((Kept.refl _ _).alloc _), hR.put 7 rfl rfl ⟨u.heap.size, [.slice A2 4 c2, .slice A4 2 c4, .slice A6 2 c6, .slice A8 4 c8, .slice A10 4 c10, .slice A15 4 c15, .slice A20 4 c20], rfl, rfl, (hal.on0 ((Kept.refl _ _).alloc _)).bys (Blk.new _ _ _)⟩⟩
    intro v hv
    obtain ⟨u, _, hu⟩ := hv
    obtain ⟨gb, vsb, rfl, -, -⟩ := hR.get 7 rfl hu
    clear hu
    intro K hK
    go_big_quiet_op
    go_big_quiet_on
    repeat (first | (refine wpR_det hp2 rfl ((hR.rel _).trans rfl) rfl ?_; intro K hK; go_big_quiet_op; go_big_quiet_on) | (refine wpR_ptr hp2 rfl ((hR.rel _).trans rfl) rfl rfl ?_; intro K hK; go_big_quiet_op; go_big_quiet_on) | (refine wpR_skip pick rfl ?_; intro K hK; go_big_quiet_op; go_big_quiet_on))
    refine wpR_rel pick rfl ((hR.rel _).trans rfl) ((hR.turns _).trans rfl) ?_ ?_
    · intro u hu
      have hk := hR.since hu.1
      have hks := hk.size
      obtain ⟨g', vs', e, hn', hB⟩ := (hR.get 7 rfl (hu.2 _ _ (Got.upd_self _ _ _) (by kernel_rfl)))
      obtain rfl : gb = g' := by injection e with e; injection e with e; injection e
      have hz := slConcat_any gb 7 vs' (headLs sm 2712847316 mo li) u hB (by rw [hn']; omega) HFL.out
      rw [hn'] at hz
      clear hB e
      unfold relAt
      go_simp
      refine hz.mono ?_
      rintro e w' ⟨v, rfl, hT, hb'⟩
      exact ⟨_, rfl, hR.intoB hb', hR.put 8 rfl rfl hT⟩
    intro v hv
    obtain ⟨u, _, hu⟩ := hv
    obtain hT := hR.get 8 rfl hu
    clear hu
    clear hT
    intro K hK
    go_big_quiet_op
    go_big_quiet_on
    repeat (first | (refine wpR_det hp2 rfl ((hR.rel _).trans rfl) rfl ?_; intro K hK; go_big_quiet_op; go_big_quiet_on) | (refine wpR_ptr hp2 rfl ((hR.rel _).trans rfl) rfl rfl ?_; intro K hK; go_big_quiet_op; go_big_quiet_on) | (refine wpR_skip pick rfl ?_; intro K hK; go_big_quiet_op; go_big_quiet_on))
    refine wpR_nil ?_
    intro w2 hk2 hF hM
    have HZ := Lib.hid ((hR.get 8 rfl (hF _ _ (Got.upd_self _ _ _))))
    have HWZ := Lib.hid (keptK HW.out hk2)
    clear hF hM hk2 hp1 hp2 hR p0 p1 p2 p3
    go_wp2_with fail
    go_ret
    exact ⟨_, rfl, HZ.out, HWZ.out⟩
set_option maxRecDepth 100000 in
set_option maxHeartbeats 4000000 in
theorem refHead_any (sm na : Bool) (mo li : Int) (w : World) (hmo : 0 ≤ mo ∧ mo ≤ 4294967295) (hli : 0 ≤ li ∧ li ≤ 4294967295) :
    Calls Try.prog 9 #[.agg #[.bool sm, .bool na, .int .u32 mo, .int .u32 li]] w fun e w' => ∃ v, e = .returned v ∧ Byt w' v (headL sm na mo li) ∧ Below w.heap.size w w' := by
  obtain ⟨mo0, mo1⟩ := hmo
  obtain ⟨li0, li1⟩ := hli
  cases na with
  | true =>
    have HLS := Lib.hid (headLs_ok sm 2712812621 mo li)
    have HFL := Lib.hid (show (headLs sm 2712812621 mo li).flatten.length ≤ 1000000 by rw [headLs_len]; omega)
    go_enter Try.func9, Try.ntmps9
    go_upto_region 4 with fail
    obtain ⟨w1, hw1⟩ : ∃ w1 : World, w1 = w.alloc (.cells #[.bool sm, .bool true, .int .u32 mo, .int .u32 li] 24) := ⟨_, rfl⟩
    have HF := Lib.hid (show Blk w1 w.heap.size 24 #[.bool sm, .bool true, .int .u32 mo, .int .u32 li] by rw [hw1]; exact Blk.new _ _ _)
    have HW := Lib.hid (show Below w.heap.size w w1 by rw [hw1]; exact (Below.refl _ _).alloc (Nat.le_refl _) _)
    rw [← hw1]
    clear hw1
    obtain ⟨fb, hfb⟩ : ∃ fb, w.heap.size = fb := ⟨_, rfl⟩
    rw [hfb] at HF ⊢
    clear hfb
    have f0 := HF.out.cell 0
    have f1 := HF.out.cell 1
    have f2 := HF.out.cell 2
    have f3 := HF.out.cell 3
    simp at f0 f1 f2 f3
    have fl := HF.out.lt
    refine wp_region_kept 21 [(2, fun v u => Byt u v (numL sm 4 2712812621)), (4, fun v u => Byt u v (numL sm 2 2)), (6, fun v u => Byt u v (numL sm 2 4)), (8, fun v u => Byt u v (numL sm 4 0)), (10, fun v u => Byt u v (numL sm 4 0)), (14, fun v u => Byt u v (numL sm 4 mo)), (18, fun v u => Byt u v (numL sm 4 li)), (19, fun v u => BysN 7 u v (headLs sm 2712812621 mo li)), (20, fun v u => Byt u v ((headLs sm 2712812621 mo li)).flatten)] ?st ?ne rfl (by kernel_rfl) (by kernel_rfl) ?_
    case st =>
      intro p hp
      simp only [List.mem_cons, List.not_mem_nil, or_false] at hp
      rcases hp with rfl | rfl | rfl | rfl | rfl | rfl | rfl | rfl | rfl
      · intro v u u' h hk; exact h.on0 hk
      · intro v u u' h hk; exact h.on0 hk
      · intro v u u' h hk; exact h.on0 hk
      · intro v u u' h hk; exact h.on0 hk
      · intro v u u' h hk; exact h.on0 hk
      · intro v u u' h hk; exact h.on0 hk
      · intro v u u' h hk; exact h.on0 hk
      · intro v u u' h hk; exact h.on0 hk
      · intro v u u' h hk; exact h.on0 hk
    case ne =>
      intro p hp
      simp only [List.mem_cons, List.not_mem_nil, or_false] at hp
      rcases hp with rfl | rfl | rfl | rfl | rfl | rfl | rfl | rfl | rfl
      · exact Byt.some _ _ (by rw [numL_len]; unfold maxLen; omega)
      · exact Byt.some _ _ (by rw [numL_len]; unfold maxLen; omega)
      · exact Byt.some _ _ (by rw [numL_len]; unfold maxLen; omega)
      · exact Byt.some _ _ (by rw [numL_len]; unfold maxLen; omega)
      · exact Byt.some _ _ (by rw [numL_len]; unfold maxLen; omega)
      · exact Byt.some _ _ (by rw [numL_len]; unfold maxLen; omega)
      · exact Byt.some _ _ (by rw [numL_len]; unfold maxLen; omega)
      · exact BysN.some _ _ _ rfl HLS.out
      · exact Byt.some _ _ (by have := HFL.out; unfold maxLen; omega)
    simp only [List.take_succ_cons, List.take_zero, List.drop_succ_cons, List.drop_zero]
    intro G pick hR hp1 hp2
    have p0 : ∀ u, (pick u).cell? ⟨fb, 0, none⟩ = some (.bool sm) := fun u => ((hp1 u).cell fl (fun h => h) _).trans f0
    have p1 : ∀ u, (pick u).cell? ⟨fb, 1, none⟩ = some (.bool true) := fun u => ((hp1 u).cell fl (fun h => h) _).trans f1
    have p2 : ∀ u, (pick u).cell? ⟨fb, 2, none⟩ = some (.int .u32 mo) := fun u => ((hp1 u).cell fl (fun h => h) _).trans f2
    have p3 : ∀ u, (pick u).cell? ⟨fb, 3, none⟩ = some (.int .u32 li) := fun u => ((hp1 u).cell fl (fun h => h) _).trans f3
    repeat (first | (refine wpR_det hp2 rfl ((hR.rel _).trans rfl) rfl ?_; intro K hK; go_big_quiet_op; go_big_quiet_on) | (refine wpR_ptr hp2 rfl ((hR.rel _).trans rfl) rfl rfl ?_; intro K hK; go_big_quiet_op; go_big_quiet_on) | (refine wpR_skip pick rfl ?_; intro K hK; go_big_quiet_op; go_big_quiet_on))
    refine wpR_rel pick rfl ((hR.rel _).trans rfl) ((hR.turns _).trans rfl) ?_ ?_
    · intro u hu
      have hk := hR.since hu.1
      have hks := hk.size
      have hz := refNum_any sm true mo li 4 2712812621 u (by omega) (by omega) (by omega) (by omega)
      unfold relAt
      go_simp
      refine hz.mono ?_
      rintro e w' ⟨v, rfl, hT, hb'⟩
      exact ⟨_, rfl, hR.intoB hb', hR.put 0 rfl rfl hT⟩
    intro v hv
    obtain ⟨u, _, hu⟩ := hv
    obtain ⟨A2, c2, rfl, -, -, -⟩ := hR.get 0 rfl hu
    clear hu
    rw [numL_len]
    intro K hK
    go_big_quiet_op
    go_big_quiet_on
    repeat (first | (refine wpR_det hp2 rfl ((hR.rel _).trans rfl) rfl ?_; intro K hK; go_big_quiet_op; go_big_quiet_on) | (refine wpR_ptr hp2 rfl ((hR.rel _).trans rfl) rfl rfl ?_; intro K hK; go_big_quiet_op; go_big_quiet_on) | (refine wpR_skip pick rfl ?_; intro K hK; go_big_quiet_op; go_big_quiet_on))
    refine wpR_rel pick rfl ((hR.rel _).trans rfl) ((hR.turns _).trans rfl) ?_ ?_
    · intro u hu
      have hk := hR.since hu.1
      have hks := hk.size
      have hz := refNum_any sm true mo li 2 2 u (by omega) (by omega) (by omega) (by omega)
      unfold relAt
      go_simp
      refine hz.mono ?_
      rintro e w' ⟨v, rfl, hT, hb'⟩
      exact ⟨_, rfl, hR.intoB hb', hR.put 1 rfl rfl hT⟩
    intro v hv
    obtain ⟨u, _, hu⟩ := hv
    obtain ⟨A4, c4, rfl, -, -, -⟩ := hR.get 1 rfl hu
    clear hu
    rw [numL_len]
    intro K hK
    go_big_quiet_op
    go_big_quiet_on
    repeat (first | (refine wpR_det hp2 rfl ((hR.rel _).trans rfl) rfl ?_; intro K hK; go_big_quiet_op; go_big_quiet_on) | (refine wpR_ptr hp2 rfl ((hR.rel _).trans rfl) rfl rfl ?_; intro K hK; go_big_quiet_op; go_big_quiet_on) | (refine wpR_skip pick rfl ?_; intro K hK; go_big_quiet_op; go_big_quiet_on))
    refine wpR_rel pick rfl ((hR.rel _).trans rfl) ((hR.turns _).trans rfl) ?_ ?_
    · intro u hu
      have hk := hR.since hu.1
      have hks := hk.size
      have hz := refNum_any sm true mo li 2 4 u (by omega) (by omega) (by omega) (by omega)
      unfold relAt
      go_simp
      refine hz.mono ?_
      rintro e w' ⟨v, rfl, hT, hb'⟩
      exact ⟨_, rfl, hR.intoB hb', hR.put 2 rfl rfl hT⟩
    intro v hv
    obtain ⟨u, _, hu⟩ := hv
    obtain ⟨A6, c6, rfl, -, -, -⟩ := hR.get 2 rfl hu
    clear hu
    rw [numL_len]
    intro K hK
    go_big_quiet_op
    go_big_quiet_on
    repeat (first | (refine wpR_det hp2 rfl ((hR.rel _).trans rfl) rfl ?_; intro K hK; go_big_quiet_op; go_big_quiet_on) | (refine wpR_ptr hp2 rfl ((hR.rel _).trans rfl) rfl rfl ?_; intro K hK; go_big_quiet_op; go_big_quiet_on) | (refine wpR_skip pick rfl ?_; intro K hK; go_big_quiet_op; go_big_quiet_on))
    refine wpR_rel pick rfl ((hR.rel _).trans rfl) ((hR.turns _).trans rfl) ?_ ?_
    · intro u hu
      have hk := hR.since hu.1
      have hks := hk.size
      have hz := refNum_any sm true mo li 4 0 u (by omega) (by omega) (by omega) (by omega)
      unfold relAt
      go_simp
      refine hz.mono ?_
      rintro e w' ⟨v, rfl, hT, hb'⟩
      exact ⟨_, rfl, hR.intoB hb', hR.put 3 rfl rfl hT⟩
    intro v hv
    obtain ⟨u, _, hu⟩ := hv
    obtain ⟨A8, c8, rfl, -, -, -⟩ := hR.get 3 rfl hu
    clear hu
    rw [numL_len]
    intro K hK
    go_big_quiet_op
    go_big_quiet_on
    repeat (first | (refine wpR_det hp2 rfl ((hR.rel _).trans rfl) rfl ?_; intro K hK; go_big_quiet_op; go_big_quiet_on) | (refine wpR_ptr hp2 rfl ((hR.rel _).trans rfl) rfl rfl ?_; intro K hK; go_big_quiet_op; go_big_quiet_on) | (refine wpR_skip pick rfl ?_; intro K hK; go_big_quiet_op; go_big_quiet_on))
    refine wpR_rel pick rfl ((hR.rel _).trans rfl) ((hR.turns _).trans rfl) ?_ ?_
    · intro u hu
      have hk := hR.since hu.1
      have hks := hk.size
      have hz := refNum_any sm true mo li 4 0 u (by omega) (by omega) (by omega) (by omega)
      unfold relAt
      go_simp
      refine hz.mono ?_
      rintro e w' ⟨v, rfl, hT, hb'⟩
      exact ⟨_, rfl, hR.intoB hb', hR.put 4 rfl rfl hT⟩
    intro v hv
    obtain ⟨u, _, hu⟩ := hv
    obtain ⟨A10, c10, rfl, -, -, -⟩ := hR.get 4 rfl hu
    clear hu
    rw [numL_len]
    intro K hK
    go_big_quiet_op
    go_big_quiet_on
    repeat (first | (refine wpR_det hp2 rfl ((hR.rel _).trans rfl) rfl ?_; intro K hK; go_big_quiet_op; go_big_quiet_on) | (refine wpR_ptr hp2 rfl ((hR.rel _).trans rfl) rfl rfl ?_; intro K hK; go_big_quiet_op; go_big_quiet_on) | (refine wpR_skip pick rfl ?_; intro K hK; go_big_quiet_op; go_big_quiet_on))
    refine wpR_rel pick rfl ((hR.rel _).trans rfl) ((hR.turns _).trans rfl) ?_ ?_
    · intro u hu
      have hk := hR.since hu.1
      have hks := hk.size
      have hz := refNum_any sm true mo li 4 mo u (by omega) (by omega) (by omega) (by omega)
      unfold relAt
      go_simp
      refine hz.mono ?_
      rintro e w' ⟨v, rfl, hT, hb'⟩
      exact ⟨_, rfl, hR.intoB hb', hR.put 5 rfl rfl hT⟩
    intro v hv
    obtain ⟨u, _, hu⟩ := hv
    obtain ⟨A14, c14, rfl, -, -, -⟩ := hR.get 5 rfl hu
    clear hu
    rw [numL_len]
    intro K hK
    go_big_quiet_op
    go_big_quiet_on
    repeat (first | (refine wpR_det hp2 rfl ((hR.rel _).trans rfl) rfl ?_; intro K hK; go_big_quiet_op; go_big_quiet_on) | (refine wpR_ptr hp2 rfl ((hR.rel _).trans rfl) rfl rfl ?_; intro K hK; go_big_quiet_op; go_big_quiet_on) | (refine wpR_skip pick rfl ?_; intro K hK; go_big_quiet_op; go_big_quiet_on))
    refine wpR_rel pick rfl ((hR.rel _).trans rfl) ((hR.turns _).trans rfl) ?_ ?_
    · intro u hu
      have hk := hR.since hu.1
      have hks := hk.size
      have hz := refNum_any sm true mo li 4 li u (by omega) (by omega) (by omega) (by omega)
      unfold relAt
      go_simp
      refine hz.mono ?_
      rintro e w' ⟨v, rfl, hT, hb'⟩
      exact ⟨_, rfl, hR.intoB hb', hR.put 6 rfl rfl hT⟩
    intro v hv
    obtain ⟨u, _, hu⟩ := hv
    obtain ⟨A18, c18, rfl, -, -, -⟩ := hR.get 6 rfl hu
    clear hu
    rw [numL_len]
    intro K hK
    go_big_quiet_op
    go_big_quiet_on
    repeat (first | (refine wpR_det hp2 rfl ((hR.rel _).trans rfl) rfl ?_; intro K hK; go_big_quiet_op; go_big_quiet_on) | (refine wpR_ptr hp2 rfl ((hR.rel _).trans rfl) rfl rfl ?_; intro K hK; go_big_quiet_op; go_big_quiet_on) | (refine wpR_skip pick rfl ?_; intro K hK; go_big_quiet_op; go_big_quiet_on))
    refine wpR_rel pick rfl ((hR.rel _).trans rfl) ((hR.turns _).trans rfl) ?_ ?_
    · intro u hu
      have hk := hR.since hu.1
      have hks := hk.size
      have b0 := (hR.get 0 rfl (hu.2 _ _ (Got.upd_old (Got.upd_old (Got.upd_old (Got.upd_old (Got.upd_old (Got.upd_old (Got.upd_self _ _ _) rfl) rfl) rfl) rfl) rfl) rfl) (by kernel_rfl)))
      have b1 := (hR.get 1 rfl (hu.2 _ _ (Got.upd_old (Got.upd_old (Got.upd_old (Got.upd_old (Got.upd_old (Got.upd_self _ _ _) rfl) rfl) rfl) rfl) rfl) (by kernel_rfl)))
      have b2 := (hR.get 2 rfl (hu.2 _ _ (Got.upd_old (Got.upd_old (Got.upd_old (Got.upd_old (Got.upd_self _ _ _) rfl) rfl) rfl) rfl) (by kernel_rfl)))
      have b3 := (hR.get 3 rfl (hu.2 _ _ (Got.upd_old (Got.upd_old (Got.upd_old (Got.upd_self _ _ _) rfl) rfl) rfl) (by kernel_rfl)))
      have b4 := (hR.get 4 rfl (hu.2 _ _ (Got.upd_old (Got.upd_old (Got.upd_self _ _ _) rfl) rfl) (by kernel_rfl)))
      have b5 := (hR.get 5 rfl (hu.2 _ _ (Got.upd_old (Got.upd_self _ _ _) rfl) (by kernel_rfl)))
      have b6 := (hR.get 6 rfl (hu.2 _ _ (Got.upd_self _ _ _) (by kernel_rfl)))
      have hal : Al u [.slice A2 4 c2, .slice A4 2 c4, .slice A6 2 c6, .slice A8 4 c8, .slice A10 4 c10, .slice A14 4 c14, .slice A18 4 c18] (headLs sm 2712812621 mo li) := ⟨b0, b1, b2, b3, b4, b5, b6, trivial⟩
      clear b0 b1 b2 b3 b4 b5 b6
      unfold relAt
      go_simp
      refine ⟨hR.into0 ((Kept.refl _ _).alloc _), hR.put 7 rfl rfl ⟨u.heap.size, [.slice A2 4 c2, .slice A4 2 c4, .slice A6 2 c6, .slice A8 4 c8, .slice A10 4 c10, .slice A14 4 c14, .slice A18 4 c18], rfl, rfl, (hal.on0 ((Kept.refl _ _).alloc _)).bys (Blk.new _ _ _)⟩⟩
    intro v hv
    obtain ⟨u, _, hu⟩ := hv
    obtain ⟨gb, vsb, rfl, -, -⟩ := hR.get 7 rfl hu
    clear hu
    intro K hK
    go_big_quiet_op
    go_big_quiet_on
    repeat (first | (refine wpR_det hp2 rfl ((hR.rel _).trans rfl) rfl ?_; intro K hK; go_big_quiet_op; go_big_quiet_on) | (refine wpR_ptr hp2 rfl ((hR.rel _).trans rfl) rfl rfl ?_; intro K hK; go_big_quiet_op; go_big_quiet_on) | (refine wpR_skip pick rfl ?_; intro K hK; go_big_quiet_op; go_big_quiet_on))
    refine wpR_rel pick rfl ((hR.rel _).trans rfl) ((hR.turns _).trans rfl) ?_ ?_
    · intro u hu
      have hk := hR.since hu.1
      have hks := hk.size
      obtain ⟨g', vs', e, hn', hB⟩ := (hR.get 7 rfl (hu.2 _ _ (Got.upd_self _ _ _) (by kernel_rfl)))
      obtain rfl : gb = g' := by injection e with e; injection e with e; injection e
      have hz := refJoin_any gb 7 vs' (headLs sm 2712812621 mo li) u hB (by rw [hn']; omega) HFL.out
      rw [hn'] at hz
      clear hB e
      unfold relAt
      go_simp
      refine hz.mono ?_
      rintro e w' ⟨v, rfl, hT, hb'⟩
      exact ⟨_, rfl, hR.intoB hb', hR.put 8 rfl rfl hT⟩
    intro v hv
    obtain ⟨u, _, hu⟩ := hv
    obtain hT := hR.get 8 rfl hu
    clear hu
    clear hT
    intro K hK
    go_big_quiet_op
    go_big_quiet_on
    repeat (first | (refine wpR_det hp2 rfl ((hR.rel _).trans rfl) rfl ?_; intro K hK; go_big_quiet_op; go_big_quiet_on) | (refine wpR_ptr hp2 rfl ((hR.rel _).trans rfl) rfl rfl ?_; intro K hK; go_big_quiet_op; go_big_quiet_on) | (refine wpR_skip pick rfl ?_; intro K hK; go_big_quiet_op; go_big_quiet_on))
    refine wpR_nil ?_
    intro w2 hk2 hF hM
    have HZ := Lib.hid ((hR.get 8 rfl (hF _ _ (Got.upd_self _ _ _))))
    have HWZ := Lib.hid (keptK HW.out hk2)
    clear hF hM hk2 hp1 hp2 hR p0 p1 p2 p3
    go_wp2_with fail
    go_ret
    exact ⟨_, rfl, HZ.out, HWZ.out⟩
  | false =>
    have HLS := Lib.hid (headLs_ok sm 2712847316 mo li)
    have HFL := Lib.hid (show (headLs sm 2712847316 mo li).flatten.length ≤ 1000000 by rw [headLs_len]; omega)
    go_enter Try.func9, Try.ntmps9
    go_upto_region 4 with fail
    obtain ⟨w1, hw1⟩ : ∃ w1 : World, w1 = w.alloc (.cells #[.bool sm, .bool false, .int .u32 mo, .int .u32 li] 24) := ⟨_, rfl⟩
    have HF := Lib.hid (show Blk w1 w.heap.size 24 #[.bool sm, .bool false, .int .u32 mo, .int .u32 li] by rw [hw1]; exact Blk.new _ _ _)
    have HW := Lib.hid (show Below w.heap.size w w1 by rw [hw1]; exact (Below.refl _ _).alloc (Nat.le_refl _) _)
    rw [← hw1]
    clear hw1
    obtain ⟨fb, hfb⟩ : ∃ fb, w.heap.size = fb := ⟨_, rfl⟩
    rw [hfb] at HF ⊢
    clear hfb
    have f0 := HF.out.cell 0
    have f1 := HF.out.cell 1
    have f2 := HF.out.cell 2
    have f3 := HF.out.cell 3
    simp at f0 f1 f2 f3
    have fl := HF.out.lt
    refine wp_region_kept 21 [(2, fun v u => Byt u v (numL sm 4 2712847316)), (4, fun v u => Byt u v (numL sm 2 2)), (6, fun v u => Byt u v (numL sm 2 4)), (8, fun v u => Byt u v (numL sm 4 0)), (10, fun v u => Byt u v (numL sm 4 0)), (14, fun v u => Byt u v (numL sm 4 mo)), (18, fun v u => Byt u v (numL sm 4 li)), (19, fun v u => BysN 7 u v (headLs sm 2712847316 mo li)), (20, fun v u => Byt u v ((headLs sm 2712847316 mo li)).flatten)] ?st ?ne rfl (by kernel_rfl) (by kernel_rfl) ?_
    case st =>
      intro p hp
      simp only [List.mem_cons, List.not_mem_nil, or_false] at hp
      rcases hp with rfl | rfl | rfl | rfl | rfl | rfl | rfl | rfl | rfl
      · intro v u u' h hk; exact h.on0 hk
      · intro v u u' h hk; exact h.on0 hk
      · intro v u u' h hk; exact h.on0 hk
      · intro v u u' h hk; exact h.on0 hk
      · intro v u u' h hk; exact h.on0 hk
      · intro v u u' h hk; exact h.on0 hk
      · intro v u u' h hk; exact h.on0 hk
      · intro v u u' h hk; exact h.on0 hk
      · intro v u u' h hk; exact h.on0 hk
    case ne =>
      intro p hp
      simp only [List.mem_cons, List.not_mem_nil, or_false] at hp
      rcases hp with rfl | rfl | rfl | rfl | rfl | rfl | rfl | rfl | rfl
      · exact Byt.some _ _ (by rw [numL_len]; unfold maxLen; omega)
      · exact Byt.some _ _ (by rw [numL_len]; unfold maxLen; omega)
      · exact Byt.some _ _ (by rw [numL_len]; unfold maxLen; omega)
      · exact Byt.some _ _ (by rw [numL_len]; unfold maxLen; omega)
      · exact Byt.some _ _ (by rw [numL_len]; unfold maxLen; omega)
      · exact Byt.some _ _ (by rw [numL_len]; unfold maxLen; omega)
      · exact Byt.some _ _ (by rw [numL_len]; unfold maxLen; omega)
      · exact BysN.some _ _ _ rfl HLS.out
      · exact Byt.some _ _ (by have := HFL.out; unfold maxLen; omega)
    simp only [List.take_succ_cons, List.take_zero, List.drop_succ_cons, List.drop_zero]
    intro G pick hR hp1 hp2
    have p0 : ∀ u, (pick u).cell? ⟨fb, 0, none⟩ = some (.bool sm) := fun u => ((hp1 u).cell fl (fun h => h) _).trans f0
    have p1 : ∀ u, (pick u).cell? ⟨fb, 1, none⟩ = some (.bool false) := fun u => ((hp1 u).cell fl (fun h => h) _).trans f1
    have p2 : ∀ u, (pick u).cell? ⟨fb, 2, none⟩ = some (.int .u32 mo) := fun u => ((hp1 u).cell fl (fun h => h) _).trans f2
    have p3 : ∀ u, (pick u).cell? ⟨fb, 3, none⟩ = some (.int .u32 li) := fun u => ((hp1 u).cell fl (fun h => h) _).trans f3
    repeat (first | (refine wpR_det hp2 rfl ((hR.rel _).trans rfl) rfl ?_; intro K hK; go_big_quiet_op; go_big_quiet_on) | (refine wpR_ptr hp2 rfl ((hR.rel _).trans rfl) rfl rfl ?_; intro K hK; go_big_quiet_op; go_big_quiet_on) | (refine wpR_skip pick rfl ?_; intro K hK; go_big_quiet_op; go_big_quiet_on))
    refine wpR_rel pick rfl ((hR.rel _).trans rfl) ((hR.turns _).trans rfl) ?_ ?_
    · intro u hu
      have hk := hR.since hu.1
      have hks := hk.size
      have hz := refNum_any sm false mo li 4 2712847316 u (by omega) (by omega) (by omega) (by omega)
      unfold relAt
      go_simp
      refine hz.mono ?_
      rintro e w' ⟨v, rfl, hT, hb'⟩
      exact ⟨_, rfl, hR.intoB hb', hR.put 0 rfl rfl hT⟩
    intro v hv
    obtain ⟨u, _, hu⟩ := hv
    obtain ⟨A2, c2, rfl, -, -, -⟩ := hR.get 0 rfl hu
    clear hu
    rw [numL_len]
    intro K hK
    go_big_quiet_op
    go_big_quiet_on
    repeat (first | (refine wpR_det hp2 rfl ((hR.rel _).trans rfl) rfl ?_; intro K hK; go_big_quiet_op; go_big_quiet_on) | (refine wpR_ptr hp2 rfl ((hR.rel _).trans rfl) rfl rfl ?_; intro K hK; go_big_quiet_op; go_big_quiet_on) | (refine wpR_skip pick rfl ?_; intro K hK; go_big_quiet_op; go_big_quiet_on))
    refine wpR_rel pick rfl ((hR.rel _).trans rfl) ((hR.turns _).trans rfl) ?_ ?_
    · intro u hu
      have hk := hR.since hu.1
      have hks := hk.size
      have hz := refNum_any sm false mo li 2 2 u (by omega) (by omega) (by omega) (by omega)
      unfold relAt
      go_simp
      refine hz.mono ?_
      rintro e w' ⟨v, rfl, hT, hb'⟩
      exact ⟨_, rfl, hR.intoB hb', hR.put 1 rfl rfl hT⟩
    intro v hv
    obtain ⟨u, _, hu⟩ := hv
    obtain ⟨A4, c4, rfl, -, -, -⟩ := hR.get 1 rfl hu
    clear hu
    rw [numL_len]
    intro K hK
    go_big_quiet_op
    go_big_quiet_on
    repeat (first | (refine wpR_det hp2 rfl ((hR.rel _).trans rfl) rfl ?_; intro K hK; go_big_quiet_op; go_big_quiet_on) | (refine wpR_ptr hp2 rfl ((hR.rel _).trans rfl) rfl rfl ?_; intro K hK; go_big_quiet_op; go_big_quiet_on) | (refine wpR_skip pick rfl ?_; intro K hK; go_big_quiet_op; go_big_quiet_on))
    refine wpR_rel pick rfl ((hR.rel _).trans rfl) ((hR.turns _).trans rfl) ?_ ?_
    · intro u hu
      have hk := hR.since hu.1
      have hks := hk.size
      have hz := refNum_any sm false mo li 2 4 u (by omega) (by omega) (by omega) (by omega)
      unfold relAt
      go_simp
      refine hz.mono ?_
      rintro e w' ⟨v, rfl, hT, hb'⟩
      exact ⟨_, rfl, hR.intoB hb', hR.put 2 rfl rfl hT⟩
    intro v hv
    obtain ⟨u, _, hu⟩ := hv
    obtain ⟨A6, c6, rfl, -, -, -⟩ := hR.get 2 rfl hu
    clear hu
    rw [numL_len]
    intro K hK
    go_big_quiet_op
    go_big_quiet_on
    repeat (first | (refine wpR_det hp2 rfl ((hR.rel _).trans rfl) rfl ?_; intro K hK; go_big_quiet_op; go_big_quiet_on) | (refine wpR_ptr hp2 rfl ((hR.rel _).trans rfl) rfl rfl ?_; intro K hK; go_big_quiet_op; go_big_quiet_on) | (refine wpR_skip pick rfl ?_; intro K hK; go_big_quiet_op; go_big_quiet_on))
    refine wpR_rel pick rfl ((hR.rel _).trans rfl) ((hR.turns _).trans rfl) ?_ ?_
    · intro u hu
      have hk := hR.since hu.1
      have hks := hk.size
      have hz := refNum_any sm false mo li 4 0 u (by omega) (by omega) (by omega) (by omega)
      unfold relAt
      go_simp
      refine hz.mono ?_
      rintro e w' ⟨v, rfl, hT, hb'⟩
      exact ⟨_, rfl, hR.intoB hb', hR.put 3 rfl rfl hT⟩
    intro v hv
    obtain ⟨u, _, hu⟩ := hv
    obtain ⟨A8, c8, rfl, -, -, -⟩ := hR.get 3 rfl hu
    clear hu
    rw [numL_len]
    intro K hK
    go_big_quiet_op
    go_big_quiet_on
    repeat (first | (refine wpR_det hp2 rfl ((hR.rel _).trans rfl) rfl ?_; intro K hK; go_big_quiet_op; go_big_quiet_on) | (refine wpR_ptr hp2 rfl ((hR.rel _).trans rfl) rfl rfl ?_; intro K hK; go_big_quiet_op; go_big_quiet_on) | (refine wpR_skip pick rfl ?_; intro K hK; go_big_quiet_op; go_big_quiet_on))
    refine wpR_rel pick rfl ((hR.rel _).trans rfl) ((hR.turns _).trans rfl) ?_ ?_
    · intro u hu
      have hk := hR.since hu.1
      have hks := hk.size
      have hz := refNum_any sm false mo li 4 0 u (by omega) (by omega) (by omega) (by omega)
      unfold relAt
      go_simp
      refine hz.mono ?_
      rintro e w' ⟨v, rfl, hT, hb'⟩
      exact ⟨_, rfl, hR.intoB hb', hR.put 4 rfl rfl hT⟩
    intro v hv
    obtain ⟨u, _, hu⟩ := hv
    obtain ⟨A10, c10, rfl, -, -, -⟩ := hR.get 4 rfl hu
    clear hu
    rw [numL_len]
    intro K hK
    go_big_quiet_op
    go_big_quiet_on
    repeat (first | (refine wpR_det hp2 rfl ((hR.rel _).trans rfl) rfl ?_; intro K hK; go_big_quiet_op; go_big_quiet_on) | (refine wpR_ptr hp2 rfl ((hR.rel _).trans rfl) rfl rfl ?_; intro K hK; go_big_quiet_op; go_big_quiet_on) | (refine wpR_skip pick rfl ?_; intro K hK; go_big_quiet_op; go_big_quiet_on))
    refine wpR_rel pick rfl ((hR.rel _).trans rfl) ((hR.turns _).trans rfl) ?_ ?_
    · intro u hu
      have hk := hR.since hu.1
      have hks := hk.size
      have hz := refNum_any sm false mo li 4 mo u (by omega) (by omega) (by omega) (by omega)
      unfold relAt
      go_simp
      refine hz.mono ?_
      rintro e w' ⟨v, rfl, hT, hb'⟩
      exact ⟨_, rfl, hR.intoB hb', hR.put 5 rfl rfl hT⟩
    intro v hv
    obtain ⟨u, _, hu⟩ := hv
    obtain ⟨A14, c14, rfl, -, -, -⟩ := hR.get 5 rfl hu
    clear hu
    rw [numL_len]
    intro K hK
    go_big_quiet_op
    go_big_quiet_on
    repeat (first | (refine wpR_det hp2 rfl ((hR.rel _).trans rfl) rfl ?_; intro K hK; go_big_quiet_op; go_big_quiet_on) | (refine wpR_ptr hp2 rfl ((hR.rel _).trans rfl) rfl rfl ?_; intro K hK; go_big_quiet_op; go_big_quiet_on) | (refine wpR_skip pick rfl ?_; intro K hK; go_big_quiet_op; go_big_quiet_on))
    refine wpR_rel pick rfl ((hR.rel _).trans rfl) ((hR.turns _).trans rfl) ?_ ?_
    · intro u hu
      have hk := hR.since hu.1
      have hks := hk.size
      have hz := refNum_any sm false mo li 4 li u (by omega) (by omega) (by omega) (by omega)
      unfold relAt
      go_simp
      refine hz.mono ?_
      rintro e w' ⟨v, rfl, hT, hb'⟩
      exact ⟨_, rfl, hR.intoB hb', hR.put 6 rfl rfl hT⟩
    intro v hv
    obtain ⟨u, _, hu⟩ := hv
    obtain ⟨A18, c18, rfl, -, -, -⟩ := hR.get 6 rfl hu
    clear hu
    rw [numL_len]
    intro K hK
    go_big_quiet_op
    go_big_quiet_on
    repeat (first | (refine wpR_det hp2 rfl ((hR.rel _).trans rfl) rfl ?_; intro K hK; go_big_quiet_op; go_big_quiet_on) | (refine wpR_ptr hp2 rfl ((hR.rel _).trans rfl) rfl rfl ?_; intro K hK; go_big_quiet_op; go_big_quiet_on) | (refine wpR_skip pick rfl ?_; intro K hK; go_big_quiet_op; go_big_quiet_on))
    refine wpR_rel pick rfl ((hR.rel _).trans rfl) ((hR.turns _).trans rfl) ?_ ?_
    · intro u hu
      have hk := hR.since hu.1
      have hks := hk.size
      have b0 := (hR.get 0 rfl (hu.2 _ _ (Got.upd_old (Got.upd_old (Got.upd_old (Got.upd_old (Got.upd_old (Got.upd_old (Got.upd_self _ _ _) rfl) rfl) rfl) rfl) rfl) rfl) (by kernel_rfl)))
      have b1 := (hR.get 1 rfl (hu.2 _ _ (Got.upd_old (Got.upd_old (Got.upd_old (Got.upd_old (Got.upd_old (Got.upd_self _ _ _) rfl) rfl) rfl) rfl) rfl) (by kernel_rfl)))
      have b2 := (hR.get 2 rfl (hu.2 _ _ (Got.upd_old (Got.upd_old (Got.upd_old (Got.upd_old (Got.upd_self _ _ _) rfl) rfl) rfl) rfl) (by kernel_rfl)))
      have b3 := (hR.get 3 rfl (hu.2 _ _ (Got.upd_old (Got.upd_old (Got.upd_old (Got.upd_self _ _ _) rfl) rfl) rfl) (by kernel_rfl)))
      have b4 := (hR.get 4 rfl (hu.2 _ _ (Got.upd_old (Got.upd_old (Got.upd_self _ _ _) rfl) rfl) (by kernel_rfl)))
      have b5 := (hR.get 5 rfl (hu.2 _ _ (Got.upd_old (Got.upd_self _ _ _) rfl) (by kernel_rfl)))
      have b6 := (hR.get 6 rfl (hu.2 _ _ (Got.upd_self _ _ _) (by kernel_rfl)))
      have hal : Al u [.slice A2 4 c2, .slice A4 2 c4, .slice A6 2 c6, .slice A8 4 c8, .slice A10 4 c10, .slice A14 4 c14, .slice A18 4 c18] (headLs sm 2712847316 mo li) := ⟨b0, b1, b2, b3, b4, b5, b6, trivial⟩
      clear b0 b1 b2 b3 b4 b5 b6
      unfold relAt
      go_simp
      refine ⟨hR.into0 ((Kept.refl _ _).alloc _), hR.put 7 rfl rfl ⟨u.heap.size, [.slice A2 4 c2, .slice A4 2 c4, .slice A6 2 c6, .slice A8 4 c8, .slice A10 4 c10, .slice A14 4 c14, .slice A18 4 c18], rfl, rfl, (hal.on0 ((Kept.refl _ _).alloc _)).bys (Blk.new _ _ _)⟩⟩
    intro v hv
    obtain ⟨u, _, hu⟩ := hv
    obtain ⟨gb, vsb, rfl, -, -⟩ := hR.get 7 rfl hu
    clear hu
    intro K hK
    go_big_quiet_op
    go_big_quiet_on
    repeat (first | (refine wpR_det hp2 rfl ((hR.rel _).trans rfl) rfl ?_; intro K hK; go_big_quiet_op; go_big_quiet_on) | (refine wpR_ptr hp2 rfl ((hR.rel _).trans rfl) rfl rfl ?_; intro K hK; go_big_quiet_op; go_big_quiet_on) | (refine wpR_skip pick rfl ?_; intro K hK; go_big_quiet_op; go_big_quiet_on))
    refine wpR_rel pick rfl ((hR.rel _).trans rfl) ((hR.turns _).trans rfl) ?_ ?_
    · intro u hu
      have hk := hR.since hu.1
      have hks := hk.size
      obtain ⟨g', vs', e, hn', hB⟩ := (hR.get 7 rfl (hu.2 _ _ (Got.upd_self _ _ _) (by kernel_rfl)))
      obtain rfl : gb = g' := by injection e with e; injection e with e; injection e
      have hz := refJoin_any gb 7 vs' (headLs sm 2712847316 mo li) u hB (by rw [hn']; omega) HFL.out
      rw [hn'] at hz
      clear hB e
      unfold relAt
      go_simp
      refine hz.mono ?_
      rintro e w' ⟨v, rfl, hT, hb'⟩
      exact ⟨_, rfl, hR.intoB hb', hR.put 8 rfl rfl hT⟩
    intro v hv
    obtain ⟨u, _, hu⟩ := hv
    obtain hT := hR.get 8 rfl hu
    clear hu
    clear hT
    intro K hK
    go_big_quiet_op
    go_big_quiet_on
    repeat (first | (refine wpR_det hp2 rfl ((hR.rel _).trans rfl) rfl ?_; intro K hK; go_big_quiet_op; go_big_quiet_on) | (refine wpR_ptr hp2 rfl ((hR.rel _).trans rfl) rfl rfl ?_; intro K hK; go_big_quiet_op; go_big_quiet_on) | (refine wpR_skip pick rfl ?_; intro K hK; go_big_quiet_op; go_big_quiet_on))
    refine wpR_nil ?_
    intro w2 hk2 hF hM
    have HZ := Lib.hid ((hR.get 8 rfl (hF _ _ (Got.upd_self _ _ _))))
    have HWZ := Lib.hid (keptK HW.out hk2)
    clear hF hM hk2 hp1 hp2 hR p0 p1 p2 p3
    go_wp2_with fail
    go_ret
    exact ⟨_, rfl, HZ.out, HWZ.out⟩
end Go.Proofs.Ytohimionlgaaoaa
