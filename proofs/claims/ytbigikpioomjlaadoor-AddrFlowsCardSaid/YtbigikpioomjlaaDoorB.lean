/- Compare of two addresses of one family; V4; Flow tests. -/
import Derived.Test.YtbigikpioomjlaaDoorA
import Derived.Deep.Cut
import Derived.Deep.Light
import Derived.Outline
namespace Go.Proofs.YtbigikpioomjlaaDoor
open Go.RowKit
set_option linter.unusedVariables false
set_option maxHeartbeats 1000000 in
theorem comp_same (s : Bool) (h l h' l' : Int) (w : World) : Calls Tryd.prog 10 #[.agg #[.bool s, .int .u64 h, .int .u64 l], .agg #[.bool s, .int .u64 h', .int .u64 l']] w fun e w' => e = .returned (.int .i64 (compI (s, h, l) (s, h', l'))) ∧ Below w.heap.size w w' := by
  have HE := Lib.hid (show compI (s, h, l) (s, h', l') = orI (cmpI h h') (cmpI l l') by simp [compI])
  obtain ⟨x, hx⟩ : ∃ x, cmpI h h' = x := ⟨_, rfl⟩
  obtain ⟨y, hy⟩ : ∃ y, cmpI l l' = y := ⟨_, rfl⟩
  have H1 := Lib.hid (fun u => cmp_any h h' u)
  have H2 := Lib.hid (fun u => cmp_any l l' u)
  rw [hx, hy] at HE
  rw [hx] at H1
  rw [hy] at H2
  clear hx hy
  cases s with
  | false =>
    go_enter Tryd.func10, Tryd.ntmps10
    go_upto_region 5 with fail
    generalize hw2 : (World.alloc _ _) = w2
    have HN := Lib.hid (show Blk w2 w.heap.size 24 #[.bool false, .int .u64 h, .int .u64 l] ∧ Blk w2 (w.heap.size + 1) 24 #[.bool false, .int .u64 h', .int .u64 l'] ∧ Below w.heap.size w w2 by
      rw [← hw2]
      exact ⟨(Blk.new _ _ _).alloc _, Blk.new_ (by simp) _ _, ((Below.refl _ _).alloc (Nat.le_refl _) _).alloc (by simp) _⟩)
    have hl1 := HN.out.1.lt
    have hl2 := HN.out.2.1.lt
    clear hw2
    refine wp_region_kept 10 [(4, fun v u => v = .int .i64 x), (9, fun v u => v = .int .i64 y)] ?st ?ne rfl (by kernel_rfl) (by kernel_rfl) ?_
    case st =>
      intro p hp
      simp only [List.mem_cons, List.not_mem_nil, or_false] at hp
      rcases hp with rfl | rfl
      · intro v u u' h hk; exact h
      · intro v u u' h hk; exact h
    case ne =>
      intro p hp
      simp only [List.mem_cons, List.not_mem_nil, or_false] at hp
      rcases hp with rfl | rfl
      · exact ⟨_, _, Kept.refl _ _, rfl⟩
      · exact ⟨_, _, Kept.refl _ _, rfl⟩
    simp only [List.take_succ_cons, List.take_zero, List.drop_succ_cons, List.drop_zero]
    intro G pick hR hp1 hp2
    have pa : ∀ u i, (pick u).cell? ⟨w.heap.size, i, none⟩ = _ := fun u i => ((hp1 u).cell hl1 (fun h => h) _).trans (HN.out.1.cell i)
    have pb : ∀ u i, (pick u).cell? ⟨w.heap.size + 1, i, none⟩ = _ := fun u i => ((hp1 u).cell hl2 (fun h => h) _).trans (HN.out.2.1.cell i)
    repeat (first | (refine wpR_det hp2 rfl ((hR.rel _).trans rfl) rfl ?_; intro K hK; go_big_quiet_op; go_big_quiet_on) | (refine wpR_ptr hp2 rfl ((hR.rel _).trans rfl) rfl rfl ?_; intro K hK; go_big_quiet_op; go_big_quiet_on) | (refine wpR_skip pick rfl ?_; intro K hK; go_big_quiet_op; go_big_quiet_on))
    refine wpR_rel pick rfl ((hR.rel _).trans rfl) ((hR.turns _).trans rfl) ?_ ?_
    · intro u hu
      have hk := hR.since hu.1
      have hks := hk.size
      unfold relAt
      go_simp
      refine (H1.out u).mono ?_
      rintro e w' ⟨rfl, rfl⟩
      exact ⟨_, rfl, hR.intoB (Below.refl _ _), hR.put 0 rfl rfl rfl⟩
    intro v hv
    obtain ⟨u, _, hu⟩ := hv
    obtain rfl := hR.get 0 rfl hu
    clear hu
    intro K hK
    go_big_quiet_op
    go_big_quiet_on
    repeat (first | (refine wpR_det hp2 rfl ((hR.rel _).trans rfl) rfl ?_; intro K hK; go_big_quiet_op; go_big_quiet_on) | (refine wpR_ptr hp2 rfl ((hR.rel _).trans rfl) rfl rfl ?_; intro K hK; go_big_quiet_op; go_big_quiet_on) | (refine wpR_skip pick rfl ?_; intro K hK; go_big_quiet_op; go_big_quiet_on))
    refine wpR_rel pick rfl ((hR.rel _).trans rfl) ((hR.turns _).trans rfl) ?_ ?_
    · intro u hu
      have hk := hR.since hu.1
      have hks := hk.size
      unfold relAt
      go_simp
      refine (H2.out u).mono ?_
      rintro e w' ⟨rfl, rfl⟩
      exact ⟨_, rfl, hR.intoB (Below.refl _ _), hR.put 1 rfl rfl rfl⟩
    intro v hv
    obtain ⟨u, _, hu⟩ := hv
    obtain rfl := hR.get 1 rfl hu
    clear hu
    intro K hK
    go_big_quiet_op
    go_big_quiet_on
    refine wpR_nil ?_
    intro w3 hk2 hF hM
    have HB := Lib.hid (HN.out.2.2.trans ((hk2.below (Nat.le_refl _) (fun i h => h.elim)).mono (show w.heap.size ≤ w2.heap.size by omega)))
    clear hF hM hk2 hp1 hp2 hR pa pb
    go_wp2_with fail
    refine (or_any _ x y _ (by simp) (by simp)).mono ?_
    rintro e w4 ⟨rfl, rfl⟩
    go_wp2_with fail
    go_ret
    exact ⟨by rw [HE.out]; rfl, HB.out.alloc (by have := HB.out.size; omega) _⟩
  | true =>
    go_enter Tryd.func10, Tryd.ntmps10
    go_upto_region 5 with fail
    generalize hw2 : (World.alloc _ _) = w2
    have HN := Lib.hid (show Blk w2 w.heap.size 24 #[.bool true, .int .u64 h, .int .u64 l] ∧ Blk w2 (w.heap.size + 1) 24 #[.bool true, .int .u64 h', .int .u64 l'] ∧ Below w.heap.size w w2 by
      rw [← hw2]
      exact ⟨(Blk.new _ _ _).alloc _, Blk.new_ (by simp) _ _, ((Below.refl _ _).alloc (Nat.le_refl _) _).alloc (by simp) _⟩)
    have hl1 := HN.out.1.lt
    have hl2 := HN.out.2.1.lt
    clear hw2
    refine wp_region_kept 10 [(4, fun v u => v = .int .i64 x), (9, fun v u => v = .int .i64 y)] ?st ?ne rfl (by kernel_rfl) (by kernel_rfl) ?_
    case st =>
      intro p hp
      simp only [List.mem_cons, List.not_mem_nil, or_false] at hp
      rcases hp with rfl | rfl
      · intro v u u' h hk; exact h
      · intro v u u' h hk; exact h
    case ne =>
      intro p hp
      simp only [List.mem_cons, List.not_mem_nil, or_false] at hp
      rcases hp with rfl | rfl
      · exact ⟨_, _, Kept.refl _ _, rfl⟩
      · exact ⟨_, _, Kept.refl _ _, rfl⟩
    simp only [List.take_succ_cons, List.take_zero, List.drop_succ_cons, List.drop_zero]
    intro G pick hR hp1 hp2
    have pa : ∀ u i, (pick u).cell? ⟨w.heap.size, i, none⟩ = _ := fun u i => ((hp1 u).cell hl1 (fun h => h) _).trans (HN.out.1.cell i)
    have pb : ∀ u i, (pick u).cell? ⟨w.heap.size + 1, i, none⟩ = _ := fun u i => ((hp1 u).cell hl2 (fun h => h) _).trans (HN.out.2.1.cell i)
    repeat (first | (refine wpR_det hp2 rfl ((hR.rel _).trans rfl) rfl ?_; intro K hK; go_big_quiet_op; go_big_quiet_on) | (refine wpR_ptr hp2 rfl ((hR.rel _).trans rfl) rfl rfl ?_; intro K hK; go_big_quiet_op; go_big_quiet_on) | (refine wpR_skip pick rfl ?_; intro K hK; go_big_quiet_op; go_big_quiet_on))
    refine wpR_rel pick rfl ((hR.rel _).trans rfl) ((hR.turns _).trans rfl) ?_ ?_
    · intro u hu
      have hk := hR.since hu.1
      have hks := hk.size
      unfold relAt
      go_simp
      refine (H1.out u).mono ?_
      rintro e w' ⟨rfl, rfl⟩
      exact ⟨_, rfl, hR.intoB (Below.refl _ _), hR.put 0 rfl rfl rfl⟩
    intro v hv
    obtain ⟨u, _, hu⟩ := hv
    obtain rfl := hR.get 0 rfl hu
    clear hu
    intro K hK
    go_big_quiet_op
    go_big_quiet_on
    repeat (first | (refine wpR_det hp2 rfl ((hR.rel _).trans rfl) rfl ?_; intro K hK; go_big_quiet_op; go_big_quiet_on) | (refine wpR_ptr hp2 rfl ((hR.rel _).trans rfl) rfl rfl ?_; intro K hK; go_big_quiet_op; go_big_quiet_on) | (refine wpR_skip pick rfl ?_; intro K hK; go_big_quiet_op; go_big_quiet_on))
    refine wpR_rel pick rfl ((hR.rel _).trans rfl) ((hR.turns _).trans rfl) ?_ ?_
    · intro u hu
      have hk := hR.since hu.1
      have hks := hk.size
      unfold relAt
      go_simp
      refine (H2.out u).mono ?_
      rintro e w' ⟨rfl, rfl⟩
      exact ⟨_, rfl, hR.intoB (Below.refl _ _), hR.put 1 rfl rfl rfl⟩
    intro v hv
    obtain ⟨u, _, hu⟩ := hv
    obtain rfl := hR.get 1 rfl hu
    clear hu
    intro K hK
    go_big_quiet_op
    go_big_quiet_on
    refine wpR_nil ?_
    intro w3 hk2 hF hM
    have HB := Lib.hid (HN.out.2.2.trans ((hk2.below (Nat.le_refl _) (fun i h => h.elim)).mono (show w.heap.size ≤ w2.heap.size by omega)))
    clear hF hM hk2 hp1 hp2 hR pa pb
    go_wp2_with fail
    refine (or_any _ x y _ (by simp) (by simp)).mono ?_
    rintro e w4 ⟨rfl, rfl⟩
    go_wp2_with fail
    go_ret
    exact ⟨by rw [HE.out]; rfl, HB.out.alloc (by have := HB.out.size; omega) _⟩
theorem comp_any (a b : Bool × Int × Int) (w : World) : Calls Tryd.prog 10 #[.agg #[.bool a.1, .int .u64 a.2.1, .int .u64 a.2.2], .agg #[.bool b.1, .int .u64 b.2.1, .int .u64 b.2.2]] w fun e w' => e = .returned (.int .i64 (compI a b)) ∧ Below w.heap.size w w' := by
  obtain ⟨s, h, l⟩ := a
  obtain ⟨s', h', l'⟩ := b
  by_cases e : s' = s
  · subst e; exact comp_same _ _ _ _ _ w
  · obtain rfl : s' = !s := by cases s <;> cases s' <;> simp_all
    exact comp_diff _ _ _ _ _ w
set_option maxHeartbeats 1000000 in
theorem v4_any (w : World) : Calls Tryd.prog 14 #[.int .u8 10, .int .u8 0, .int .u8 0, .int .u8 1] w fun e w' => e = .returned (.agg #[.bool false, .int .u64 0, .int .u64 167772161]) ∧ Below w.heap.size w w' := by
  go_enter Tryd.func14, Tryd.ntmps14
  go_wp2_with fail
  refine bodyPost_ret (results_blk1 (P := Tryd.prog) (show Tryd.f14.results = _ from rfl) _ _ w.heap.size 24 _ _ rfl (Blk.new _ _ _) Tryd.underlying24 rfl (by kernel_rfl)) rfl ⟨?_, (Below.refl _ _).alloc (Nat.le_refl _) _⟩
  exact congrArg (fun n => Ending.returned (.agg #[.bool false, .int .u64 0, .int .u64 n])) (by decide)
theorem digit10_any (c : Int) (h0 : 48 ≤ c) (h1 : c ≤ 57) (b : Int) (w : World) : Calls Tryd.prog 37 #[.int .u8 c, .int .i64 b] w fun e w' => e = .returned (.int .i64 (c - 48)) ∧ w' = w := by
  go_enter Tryd.func37, Tryd.ntmps37
  go_wp2_with fail
  go_ret
  refine ⟨?_, rfl⟩
  go_num
end Go.Proofs.YtbigikpioomjlaaDoor
