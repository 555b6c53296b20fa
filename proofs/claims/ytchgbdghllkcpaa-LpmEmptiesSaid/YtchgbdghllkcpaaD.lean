/- Which prefixes are right. -/
import Derived.Test.YtchgbdghllkcpaaC
namespace Go.Proofs.Ytchgbdghllkcpaa
open Go.RowKit
set_option linter.unusedVariables false
def rightP (a : Ad) (n : Int) : Prop := a.right ∧ 0 ≤ n ∧ n ≤ (a.bits : Int) ∧ a.cut n = a
instance (a : Ad) (n : Int) : Decidable (rightP a n) := inferInstanceAs (Decidable (_ ∧ _))
set_option maxHeartbeats 4000000 in
theorem prefRight_any (a : Ad) (n : Int) (w : World) (hw : a.wf) : Calls Try.prog 8 #[.agg #[.bool a.six, .int .u64 (a.hi : Int), .int .u64 (a.lo : Int), .int .i64 n]] w fun e w' => e = .returned (.bool (decide (rightP a n))) ∧ Below w.heap.size w w' := by
  have HW := Lib.hid hw
  clear hw
  by_cases hr : a.right
  · have HR := Lib.hid (show decide a.right = true from decide_eq_true hr)
    have HRR := Lib.hid hr
    by_cases h0 : 0 ≤ n
    · by_cases h1 : n ≤ (a.bits : Int)
      · skip
        obtain ⟨s, hi, lo⟩ := a
        obtain ⟨B, hB⟩ : ∃ B, Ad.bits ⟨s, hi, lo⟩ = B := ⟨_, rfl⟩
        rw [hB] at h1
        have HBI := Lib.hid hB
        have d0 : decide (0 ≤ n) = true := decide_eq_true h0
        have d1 : decide (n ≤ (B : Int)) = true := decide_eq_true h1
        obtain ⟨⟨s', ch, cl⟩, hc⟩ : ∃ c, Ad.cut ⟨s, hi, lo⟩ n = c := ⟨_, rfl⟩
        obtain rfl : s = s' := by symm; have := Ad.cutN_six ⟨s, hi, lo⟩ (Ad.cl ⟨s, hi, lo⟩ n); rw [show Ad.cutN ⟨s, hi, lo⟩ (Ad.cl ⟨s, hi, lo⟩ n) = Ad.cut ⟨s, hi, lo⟩ n from rfl, hc] at this; exact this
        have HCE := Lib.hid hc
        clear hr hB
        by_cases hh : ch = hi
        · subst hh
          by_cases hl : cl = lo
          · subst hl
            have HE := Lib.hid (show decide (rightP _ n) = true from decide_eq_true ⟨HRR.out, h0, by rw [HBI.out]; exact h1, hc⟩)
            clear hc
            go_enter Try.func8, Try.ntmps8
            go_upto_region 1 with fail
            obtain ⟨w1, hw1⟩ : ∃ w1 : World, w1 = w.alloc (.cells #[.bool s, .int .u64 (ch : Int), .int .u64 (cl : Int), .int .i64 n] 29) := ⟨_, rfl⟩
            have HX1 := Lib.hid (show Blk w1 w.heap.size 29 #[.bool s, .int .u64 (ch : Int), .int .u64 (cl : Int), .int .i64 n] by rw [hw1]; exact Blk.new _ _ _)
            have HB1 := Lib.hid (show Below w.heap.size w w1 by rw [hw1]; exact bel1)
            rw [← hw1]
            clear hw1
            obtain ⟨xb, hxb⟩ : ∃ xb, w.heap.size = xb := ⟨_, rfl⟩
            rw [hxb] at HX1 ⊢
            have HXB := Lib.hid hxb
            clear hxb
            have x0 := HX1.out.cell 0
            have x1 := HX1.out.cell 1
            have x2 := HX1.out.cell 2
            have x3 := HX1.out.cell 3
            simp at x0 x1 x2 x3
            have xlt := HX1.out.lt
            have hs1 := HB1.out.size
            refine wp_region_kept 27 [(2, fun v u => v = .bool true), (13, fun v u => v = .int .i64 (B : Int)), (21, fun v u => v = .agg #[.bool s, .int .u64 (ch : Int), .int .u64 (cl : Int)])] ?st ?ne rfl (by kernel_rfl) (by kernel_rfl) ?_
            case st =>
              intro p hp
              simp only [List.mem_cons, List.not_mem_nil, or_false] at hp
              rcases hp with rfl | rfl | rfl
              · intro v u u' h hk; exact h
              · intro v u u' h hk; exact h
              · intro v u u' h hk; exact h
            case ne =>
              intro p hp
              simp only [List.mem_cons, List.not_mem_nil, or_false] at hp
              rcases hp with rfl | rfl | rfl
              · exact ⟨_, _, Kept.refl _ _, rfl⟩
              · exact ⟨_, _, Kept.refl _ _, rfl⟩
              · exact ⟨_, _, Kept.refl _ _, rfl⟩
            simp only [List.take_succ_cons, List.take_zero, List.drop_succ_cons, List.drop_zero]
            intro G pick hR hp1 hp2
            have p0 : ∀ u, (pick u).cell? ⟨xb, 0, none⟩ = some (.bool s) := fun u => ((hp1 u).cell xlt (fun h => h) _).trans x0
            have p1 : ∀ u, (pick u).cell? ⟨xb, 1, none⟩ = some (.int .u64 (ch : Int)) := fun u => ((hp1 u).cell xlt (fun h => h) _).trans x1
            have p2 : ∀ u, (pick u).cell? ⟨xb, 2, none⟩ = some (.int .u64 (cl : Int)) := fun u => ((hp1 u).cell xlt (fun h => h) _).trans x2
            have p3 : ∀ u, (pick u).cell? ⟨xb, 3, none⟩ = some (.int .i64 n) := fun u => ((hp1 u).cell xlt (fun h => h) _).trans x3
            repeat (first | (refine wpR_det hp2 rfl ((hR.rel _).trans rfl) rfl ?_; intro K hK; go_big_quiet_op; go_big_quiet_on) | (refine wpR_ptr hp2 rfl ((hR.rel _).trans rfl) rfl rfl ?_; intro K hK; go_big_quiet_op; go_big_quiet_on) | (refine wpR_skip pick rfl ?_; intro K hK; go_big_quiet_op; go_big_quiet_on))
            refine wpR_rel pick rfl ((hR.rel _).trans rfl) ((hR.turns _).trans rfl) ?_ ?_
            · intro u hu
              have hk := hR.since hu.1
              have hks := hk.size
              unfold relAt
              go_simp
              refine (addrRight_any ⟨s, ch, cl⟩ u).mono ?_
              rintro e w' ⟨rfl, hb'⟩
              exact ⟨_, rfl, hR.intoB hb', hR.put 0 rfl rfl (by rw [HR.out])⟩
            intro v hv
            obtain ⟨u, _, hu⟩ := hv
            obtain rfl := hR.get 0 rfl hu
            clear hu
            intro K hK
            go_big_quiet_op
            go_big_quiet_on
            repeat (first | (refine wpR_det hp2 rfl ((hR.rel _).trans rfl) rfl ?_; intro K hK; go_big_quiet_op; go_big_quiet_on) | (refine wpR_ptr hp2 rfl ((hR.rel _).trans rfl) rfl rfl ?_; intro K hK; go_big_quiet_op; go_big_quiet_on) | (refine wpR_skip pick rfl ?_; intro K hK; go_big_quiet_op; go_big_quiet_on))
            refine wpR_rel pick rfl ((hR.rel _).trans rfl) ((hR.turns _).trans rfl) ?_ ?_
            · intro u hu
              have hk := hR.since hu.1
              have hks := hk.size
              unfold relAt
              go_simp
              refine (bits_any ⟨s, ch, cl⟩ u).mono ?_
              rintro e w' ⟨rfl, hb'⟩
              exact ⟨_, rfl, hR.intoB hb', hR.put 1 rfl rfl (by rw [HBI.out])⟩
            intro v hv
            obtain ⟨u, _, hu⟩ := hv
            obtain rfl := hR.get 1 rfl hu
            clear hu
            intro K hK
            go_big_quiet_op
            go_big_quiet_on
            repeat (first | (refine wpR_det hp2 rfl ((hR.rel _).trans rfl) rfl ?_; intro K hK; go_big_quiet_op; go_big_quiet_on) | (refine wpR_ptr hp2 rfl ((hR.rel _).trans rfl) rfl rfl ?_; intro K hK; go_big_quiet_op; go_big_quiet_on) | (refine wpR_skip pick rfl ?_; intro K hK; go_big_quiet_op; go_big_quiet_on))
            refine wpR_rel pick rfl ((hR.rel _).trans rfl) ((hR.turns _).trans rfl) ?_ ?_
            · intro u hu
              have hk := hR.since hu.1
              have hks := hk.size
              unfold relAt
              go_simp
              refine (cut_any ⟨s, ch, cl⟩ n u HW.out HRR.out).mono ?_
              rintro e w' ⟨rfl, hb'⟩
              exact ⟨_, rfl, hR.intoB hb', hR.put 2 rfl rfl (by rw [HCE.out])⟩
            intro v hv
            obtain ⟨u, _, hu⟩ := hv
            obtain rfl := hR.get 2 rfl hu
            clear hu
            intro K hK
            go_big_quiet_op
            go_big_quiet_on
            repeat (first | (refine wpR_det hp2 rfl ((hR.rel _).trans rfl) rfl ?_; intro K hK; go_big_quiet_op; go_big_quiet_on) | (refine wpR_ptr hp2 rfl ((hR.rel _).trans rfl) rfl rfl ?_; intro K hK; go_big_quiet_op; go_big_quiet_on) | (refine wpR_skip pick rfl ?_; intro K hK; go_big_quiet_op; go_big_quiet_on))
            refine wpR_nil ?_
            intro w2 hk2 hF hM
            have HB2 := Lib.hid (HB1.out.trans (hk2.below (by omega) (fun i h => h.elim)))
            clear hF hM hk2 hp1 hp2 hR p0 p1 p2 p3 x0 x1 x2 x3
            go_wp2_with fail
            go_ret
            exact ⟨by rw [HE.out]; rfl, HB2.out⟩
          · have HE := Lib.hid (show decide (rightP _ n) = false from decide_eq_false fun h => hl (by have := h.2.2.2; rw [hc] at this; injection this))
            have hlB : ((cl : Int) == (lo : Int)) = false := beq_eq_false_iff_ne.2 (by omega)
            clear hc hl
            go_enter Try.func8, Try.ntmps8
            go_upto_region 1 with fail
            obtain ⟨w1, hw1⟩ : ∃ w1 : World, w1 = w.alloc (.cells #[.bool s, .int .u64 (ch : Int), .int .u64 (lo : Int), .int .i64 n] 29) := ⟨_, rfl⟩
            have HX1 := Lib.hid (show Blk w1 w.heap.size 29 #[.bool s, .int .u64 (ch : Int), .int .u64 (lo : Int), .int .i64 n] by rw [hw1]; exact Blk.new _ _ _)
            have HB1 := Lib.hid (show Below w.heap.size w w1 by rw [hw1]; exact bel1)
            rw [← hw1]
            clear hw1
            obtain ⟨xb, hxb⟩ : ∃ xb, w.heap.size = xb := ⟨_, rfl⟩
            rw [hxb] at HX1 ⊢
            have HXB := Lib.hid hxb
            clear hxb
            have x0 := HX1.out.cell 0
            have x1 := HX1.out.cell 1
            have x2 := HX1.out.cell 2
            have x3 := HX1.out.cell 3
            simp at x0 x1 x2 x3
            have xlt := HX1.out.lt
            have hs1 := HB1.out.size
            refine wp_region_kept 27 [(2, fun v u => v = .bool true), (13, fun v u => v = .int .i64 (B : Int)), (21, fun v u => v = .agg #[.bool s, .int .u64 (ch : Int), .int .u64 (cl : Int)])] ?st ?ne rfl (by kernel_rfl) (by kernel_rfl) ?_
            case st =>
              intro p hp
              simp only [List.mem_cons, List.not_mem_nil, or_false] at hp
              rcases hp with rfl | rfl | rfl
              · intro v u u' h hk; exact h
              · intro v u u' h hk; exact h
              · intro v u u' h hk; exact h
            case ne =>
              intro p hp
              simp only [List.mem_cons, List.not_mem_nil, or_false] at hp
              rcases hp with rfl | rfl | rfl
              · exact ⟨_, _, Kept.refl _ _, rfl⟩
              · exact ⟨_, _, Kept.refl _ _, rfl⟩
              · exact ⟨_, _, Kept.refl _ _, rfl⟩
            simp only [List.take_succ_cons, List.take_zero, List.drop_succ_cons, List.drop_zero]
            intro G pick hR hp1 hp2
            have p0 : ∀ u, (pick u).cell? ⟨xb, 0, none⟩ = some (.bool s) := fun u => ((hp1 u).cell xlt (fun h => h) _).trans x0
            have p1 : ∀ u, (pick u).cell? ⟨xb, 1, none⟩ = some (.int .u64 (ch : Int)) := fun u => ((hp1 u).cell xlt (fun h => h) _).trans x1
            have p2 : ∀ u, (pick u).cell? ⟨xb, 2, none⟩ = some (.int .u64 (lo : Int)) := fun u => ((hp1 u).cell xlt (fun h => h) _).trans x2
            have p3 : ∀ u, (pick u).cell? ⟨xb, 3, none⟩ = some (.int .i64 n) := fun u => ((hp1 u).cell xlt (fun h => h) _).trans x3
            repeat (first | (refine wpR_det hp2 rfl ((hR.rel _).trans rfl) rfl ?_; intro K hK; go_big_quiet_op; go_big_quiet_on) | (refine wpR_ptr hp2 rfl ((hR.rel _).trans rfl) rfl rfl ?_; intro K hK; go_big_quiet_op; go_big_quiet_on) | (refine wpR_skip pick rfl ?_; intro K hK; go_big_quiet_op; go_big_quiet_on))
            refine wpR_rel pick rfl ((hR.rel _).trans rfl) ((hR.turns _).trans rfl) ?_ ?_
            · intro u hu
              have hk := hR.since hu.1
              have hks := hk.size
              unfold relAt
              go_simp
              refine (addrRight_any ⟨s, ch, lo⟩ u).mono ?_
              rintro e w' ⟨rfl, hb'⟩
              exact ⟨_, rfl, hR.intoB hb', hR.put 0 rfl rfl (by rw [HR.out])⟩
            intro v hv
            obtain ⟨u, _, hu⟩ := hv
            obtain rfl := hR.get 0 rfl hu
            clear hu
            intro K hK
            go_big_quiet_op
            go_big_quiet_on
            repeat (first | (refine wpR_det hp2 rfl ((hR.rel _).trans rfl) rfl ?_; intro K hK; go_big_quiet_op; go_big_quiet_on) | (refine wpR_ptr hp2 rfl ((hR.rel _).trans rfl) rfl rfl ?_; intro K hK; go_big_quiet_op; go_big_quiet_on) | (refine wpR_skip pick rfl ?_; intro K hK; go_big_quiet_op; go_big_quiet_on))
            refine wpR_rel pick rfl ((hR.rel _).trans rfl) ((hR.turns _).trans rfl) ?_ ?_
            · intro u hu
              have hk := hR.since hu.1
              have hks := hk.size
              unfold relAt
              go_simp
              refine (bits_any ⟨s, ch, lo⟩ u).mono ?_
              rintro e w' ⟨rfl, hb'⟩
              exact ⟨_, rfl, hR.intoB hb', hR.put 1 rfl rfl (by rw [HBI.out])⟩
            intro v hv
            obtain ⟨u, _, hu⟩ := hv
            obtain rfl := hR.get 1 rfl hu
            clear hu
            intro K hK
            go_big_quiet_op
            go_big_quiet_on
            repeat (first | (refine wpR_det hp2 rfl ((hR.rel _).trans rfl) rfl ?_; intro K hK; go_big_quiet_op; go_big_quiet_on) | (refine wpR_ptr hp2 rfl ((hR.rel _).trans rfl) rfl rfl ?_; intro K hK; go_big_quiet_op; go_big_quiet_on) | (refine wpR_skip pick rfl ?_; intro K hK; go_big_quiet_op; go_big_quiet_on))
            refine wpR_rel pick rfl ((hR.rel _).trans rfl) ((hR.turns _).trans rfl) ?_ ?_
            · intro u hu
              have hk := hR.since hu.1
              have hks := hk.size
              unfold relAt
              go_simp
              refine (cut_any ⟨s, ch, lo⟩ n u HW.out HRR.out).mono ?_
              rintro e w' ⟨rfl, hb'⟩
              exact ⟨_, rfl, hR.intoB hb', hR.put 2 rfl rfl (by rw [HCE.out])⟩
            intro v hv
            obtain ⟨u, _, hu⟩ := hv
            obtain rfl := hR.get 2 rfl hu
            clear hu
            intro K hK
            go_big_quiet_op
            go_big_quiet_on
            repeat (first | (refine wpR_det hp2 rfl ((hR.rel _).trans rfl) rfl ?_; intro K hK; go_big_quiet_op; go_big_quiet_on) | (refine wpR_ptr hp2 rfl ((hR.rel _).trans rfl) rfl rfl ?_; intro K hK; go_big_quiet_op; go_big_quiet_on) | (refine wpR_skip pick rfl ?_; intro K hK; go_big_quiet_op; go_big_quiet_on))
            refine wpR_nil ?_
            intro w2 hk2 hF hM
            have HB2 := Lib.hid (HB1.out.trans (hk2.below (by omega) (fun i h => h.elim)))
            clear hF hM hk2 hp1 hp2 hR p0 p1 p2 p3 x0 x1 x2 x3
            go_wp2_with fail
            go_ret
            exact ⟨by rw [HE.out]; rfl, HB2.out⟩
        · have HE := Lib.hid (show decide (rightP _ n) = false from decide_eq_false fun h => hh (by have := h.2.2.2; rw [hc] at this; injection this))
          have hhB : ((ch : Int) == (hi : Int)) = false := beq_eq_false_iff_ne.2 (by omega)
          clear hc hh
          go_enter Try.func8, Try.ntmps8
          go_upto_region 1 with fail
          obtain ⟨w1, hw1⟩ : ∃ w1 : World, w1 = w.alloc (.cells #[.bool s, .int .u64 (hi : Int), .int .u64 (lo : Int), .int .i64 n] 29) := ⟨_, rfl⟩
          have HX1 := Lib.hid (show Blk w1 w.heap.size 29 #[.bool s, .int .u64 (hi : Int), .int .u64 (lo : Int), .int .i64 n] by rw [hw1]; exact Blk.new _ _ _)
          have HB1 := Lib.hid (show Below w.heap.size w w1 by rw [hw1]; exact bel1)
          rw [← hw1]
          clear hw1
          obtain ⟨xb, hxb⟩ : ∃ xb, w.heap.size = xb := ⟨_, rfl⟩
          rw [hxb] at HX1 ⊢
          have HXB := Lib.hid hxb
          clear hxb
          have x0 := HX1.out.cell 0
          have x1 := HX1.out.cell 1
          have x2 := HX1.out.cell 2
          have x3 := HX1.out.cell 3
          simp at x0 x1 x2 x3
          have xlt := HX1.out.lt
          have hs1 := HB1.out.size
          refine wp_region_kept 27 [(2, fun v u => v = .bool true), (13, fun v u => v = .int .i64 (B : Int)), (21, fun v u => v = .agg #[.bool s, .int .u64 (ch : Int), .int .u64 (cl : Int)])] ?st ?ne rfl (by kernel_rfl) (by kernel_rfl) ?_
          case st =>
            intro p hp
            simp only [List.mem_cons, List.not_mem_nil, or_false] at hp
            rcases hp with rfl | rfl | rfl
            · intro v u u' h hk; exact h
            · intro v u u' h hk; exact h
            · intro v u u' h hk; exact h
          case ne =>
            intro p hp
            simp only [List.mem_cons, List.not_mem_nil, or_false] at hp
            rcases hp with rfl | rfl | rfl
            · exact ⟨_, _, Kept.refl _ _, rfl⟩
            · exact ⟨_, _, Kept.refl _ _, rfl⟩
            · exact ⟨_, _, Kept.refl _ _, rfl⟩
          simp only [List.take_succ_cons, List.take_zero, List.drop_succ_cons, List.drop_zero]
          intro G pick hR hp1 hp2
          have p0 : ∀ u, (pick u).cell? ⟨xb, 0, none⟩ = some (.bool s) := fun u => ((hp1 u).cell xlt (fun h => h) _).trans x0
          have p1 : ∀ u, (pick u).cell? ⟨xb, 1, none⟩ = some (.int .u64 (hi : Int)) := fun u => ((hp1 u).cell xlt (fun h => h) _).trans x1
          have p2 : ∀ u, (pick u).cell? ⟨xb, 2, none⟩ = some (.int .u64 (lo : Int)) := fun u => ((hp1 u).cell xlt (fun h => h) _).trans x2
          have p3 : ∀ u, (pick u).cell? ⟨xb, 3, none⟩ = some (.int .i64 n) := fun u => ((hp1 u).cell xlt (fun h => h) _).trans x3
          repeat (first | (refine wpR_det hp2 rfl ((hR.rel _).trans rfl) rfl ?_; intro K hK; go_big_quiet_op; go_big_quiet_on) | (refine wpR_ptr hp2 rfl ((hR.rel _).trans rfl) rfl rfl ?_; intro K hK; go_big_quiet_op; go_big_quiet_on) | (refine wpR_skip pick rfl ?_; intro K hK; go_big_quiet_op; go_big_quiet_on))
          refine wpR_rel pick rfl ((hR.rel _).trans rfl) ((hR.turns _).trans rfl) ?_ ?_
          · intro u hu
            have hk := hR.since hu.1
            have hks := hk.size
            unfold relAt
            go_simp
            refine (addrRight_any ⟨s, hi, lo⟩ u).mono ?_
            rintro e w' ⟨rfl, hb'⟩
            exact ⟨_, rfl, hR.intoB hb', hR.put 0 rfl rfl (by rw [HR.out])⟩
          intro v hv
          obtain ⟨u, _, hu⟩ := hv
          obtain rfl := hR.get 0 rfl hu
          clear hu
          intro K hK
          go_big_quiet_op
          go_big_quiet_on
          repeat (first | (refine wpR_det hp2 rfl ((hR.rel _).trans rfl) rfl ?_; intro K hK; go_big_quiet_op; go_big_quiet_on) | (refine wpR_ptr hp2 rfl ((hR.rel _).trans rfl) rfl rfl ?_; intro K hK; go_big_quiet_op; go_big_quiet_on) | (refine wpR_skip pick rfl ?_; intro K hK; go_big_quiet_op; go_big_quiet_on))
          refine wpR_rel pick rfl ((hR.rel _).trans rfl) ((hR.turns _).trans rfl) ?_ ?_
          · intro u hu
            have hk := hR.since hu.1
            have hks := hk.size
            unfold relAt
            go_simp
            refine (bits_any ⟨s, hi, lo⟩ u).mono ?_
            rintro e w' ⟨rfl, hb'⟩
            exact ⟨_, rfl, hR.intoB hb', hR.put 1 rfl rfl (by rw [HBI.out])⟩
          intro v hv
          obtain ⟨u, _, hu⟩ := hv
          obtain rfl := hR.get 1 rfl hu
          clear hu
          intro K hK
          go_big_quiet_op
          go_big_quiet_on
          repeat (first | (refine wpR_det hp2 rfl ((hR.rel _).trans rfl) rfl ?_; intro K hK; go_big_quiet_op; go_big_quiet_on) | (refine wpR_ptr hp2 rfl ((hR.rel _).trans rfl) rfl rfl ?_; intro K hK; go_big_quiet_op; go_big_quiet_on) | (refine wpR_skip pick rfl ?_; intro K hK; go_big_quiet_op; go_big_quiet_on))
          refine wpR_rel pick rfl ((hR.rel _).trans rfl) ((hR.turns _).trans rfl) ?_ ?_
          · intro u hu
            have hk := hR.since hu.1
            have hks := hk.size
            unfold relAt
            go_simp
            refine (cut_any ⟨s, hi, lo⟩ n u HW.out HRR.out).mono ?_
            rintro e w' ⟨rfl, hb'⟩
            exact ⟨_, rfl, hR.intoB hb', hR.put 2 rfl rfl (by rw [HCE.out])⟩
          intro v hv
          obtain ⟨u, _, hu⟩ := hv
          obtain rfl := hR.get 2 rfl hu
          clear hu
          intro K hK
          go_big_quiet_op
          go_big_quiet_on
          repeat (first | (refine wpR_det hp2 rfl ((hR.rel _).trans rfl) rfl ?_; intro K hK; go_big_quiet_op; go_big_quiet_on) | (refine wpR_ptr hp2 rfl ((hR.rel _).trans rfl) rfl rfl ?_; intro K hK; go_big_quiet_op; go_big_quiet_on) | (refine wpR_skip pick rfl ?_; intro K hK; go_big_quiet_op; go_big_quiet_on))
          refine wpR_nil ?_
          intro w2 hk2 hF hM
          have HB2 := Lib.hid (HB1.out.trans (hk2.below (by omega) (fun i h => h.elim)))
          clear hF hM hk2 hp1 hp2 hR p0 p1 p2 p3 x0 x1 x2 x3
          go_wp2_with fail
          go_ret
          exact ⟨by rw [HE.out]; rfl, HB2.out⟩
      · have HE := Lib.hid (show decide (rightP a n) = false from decide_eq_false fun h => h1 h.2.2.1)
        have d0 : decide (0 ≤ n) = true := decide_eq_true h0
        have d1 : decide (n ≤ (a.bits : Int)) = false := decide_eq_false h1
        clear hr
        go_enter Try.func8, Try.ntmps8
        go_upto_region 1 with fail
        obtain ⟨w1, hw1⟩ : ∃ w1 : World, w1 = w.alloc (.cells #[.bool a.six, .int .u64 (a.hi : Int), .int .u64 (a.lo : Int), .int .i64 n] 29) := ⟨_, rfl⟩
        have HX1 := Lib.hid (show Blk w1 w.heap.size 29 #[.bool a.six, .int .u64 (a.hi : Int), .int .u64 (a.lo : Int), .int .i64 n] by rw [hw1]; exact Blk.new _ _ _)
        have HB1 := Lib.hid (show Below w.heap.size w w1 by rw [hw1]; exact bel1)
        rw [← hw1]
        clear hw1
        obtain ⟨xb, hxb⟩ : ∃ xb, w.heap.size = xb := ⟨_, rfl⟩
        rw [hxb] at HX1 ⊢
        have HXB := Lib.hid hxb
        clear hxb
        have x0 := HX1.out.cell 0
        have x1 := HX1.out.cell 1
        have x2 := HX1.out.cell 2
        have x3 := HX1.out.cell 3
        simp at x0 x1 x2 x3
        have xlt := HX1.out.lt
        have hs1 := HB1.out.size
        refine wp_region_kept 27 [(2, fun v u => v = .bool true), (13, fun v u => v = .int .i64 (a.bits : Int))] ?st ?ne rfl (by kernel_rfl) (by kernel_rfl) ?_
        case st =>
          intro p hp
          simp only [List.mem_cons, List.not_mem_nil, or_false] at hp
          rcases hp with rfl | rfl
          · intro v u u' h hk; exact h
          · intro v u u' h hk; exact h
        case ne =>
          intro p hp
          simp only [List.mem_cons, List.not_mem_nil, or_false] at hp
          rcases hp with rfl | rfl
          · exact ⟨_, _, Kept.refl _ _, rfl⟩
          · exact ⟨_, _, Kept.refl _ _, rfl⟩
        simp only [List.take_succ_cons, List.take_zero, List.drop_succ_cons, List.drop_zero]
        intro G pick hR hp1 hp2
        have p0 : ∀ u, (pick u).cell? ⟨xb, 0, none⟩ = some (.bool a.six) := fun u => ((hp1 u).cell xlt (fun h => h) _).trans x0
        have p1 : ∀ u, (pick u).cell? ⟨xb, 1, none⟩ = some (.int .u64 (a.hi : Int)) := fun u => ((hp1 u).cell xlt (fun h => h) _).trans x1
        have p2 : ∀ u, (pick u).cell? ⟨xb, 2, none⟩ = some (.int .u64 (a.lo : Int)) := fun u => ((hp1 u).cell xlt (fun h => h) _).trans x2
        have p3 : ∀ u, (pick u).cell? ⟨xb, 3, none⟩ = some (.int .i64 n) := fun u => ((hp1 u).cell xlt (fun h => h) _).trans x3
        repeat (first | (refine wpR_det hp2 rfl ((hR.rel _).trans rfl) rfl ?_; intro K hK; go_big_quiet_op; go_big_quiet_on) | (refine wpR_ptr hp2 rfl ((hR.rel _).trans rfl) rfl rfl ?_; intro K hK; go_big_quiet_op; go_big_quiet_on) | (refine wpR_skip pick rfl ?_; intro K hK; go_big_quiet_op; go_big_quiet_on))
        refine wpR_rel pick rfl ((hR.rel _).trans rfl) ((hR.turns _).trans rfl) ?_ ?_
        · intro u hu
          have hk := hR.since hu.1
          have hks := hk.size
          unfold relAt
          go_simp
          refine (addrRight_any a u).mono ?_
          rintro e w' ⟨rfl, hb'⟩
          exact ⟨_, rfl, hR.intoB hb', hR.put 0 rfl rfl (by rw [HR.out])⟩
        intro v hv
        obtain ⟨u, _, hu⟩ := hv
        obtain rfl := hR.get 0 rfl hu
        clear hu
        intro K hK
        go_big_quiet_op
        go_big_quiet_on
        repeat (first | (refine wpR_det hp2 rfl ((hR.rel _).trans rfl) rfl ?_; intro K hK; go_big_quiet_op; go_big_quiet_on) | (refine wpR_ptr hp2 rfl ((hR.rel _).trans rfl) rfl rfl ?_; intro K hK; go_big_quiet_op; go_big_quiet_on) | (refine wpR_skip pick rfl ?_; intro K hK; go_big_quiet_op; go_big_quiet_on))
        refine wpR_rel pick rfl ((hR.rel _).trans rfl) ((hR.turns _).trans rfl) ?_ ?_
        · intro u hu
          have hk := hR.since hu.1
          have hks := hk.size
          unfold relAt
          go_simp
          refine (bits_any a u).mono ?_
          rintro e w' ⟨rfl, hb'⟩
          exact ⟨_, rfl, hR.intoB hb', hR.put 1 rfl rfl rfl⟩
        intro v hv
        obtain ⟨u, _, hu⟩ := hv
        obtain rfl := hR.get 1 rfl hu
        clear hu
        intro K hK
        go_big_quiet_op
        go_big_quiet_on
        repeat (first | (refine wpR_det hp2 rfl ((hR.rel _).trans rfl) rfl ?_; intro K hK; go_big_quiet_op; go_big_quiet_on) | (refine wpR_ptr hp2 rfl ((hR.rel _).trans rfl) rfl rfl ?_; intro K hK; go_big_quiet_op; go_big_quiet_on) | (refine wpR_skip pick rfl ?_; intro K hK; go_big_quiet_op; go_big_quiet_on))
        refine wpR_nil ?_
        intro w2 hk2 hF hM
        have HB2 := Lib.hid (HB1.out.trans (hk2.below (by omega) (fun i h => h.elim)))
        clear hF hM hk2 hp1 hp2 hR p0 p1 p2 p3 x0 x1 x2 x3
        go_wp2_with fail
        go_ret
        exact ⟨by rw [HE.out]; rfl, HB2.out⟩
    · have HE := Lib.hid (show decide (rightP a n) = false from decide_eq_false fun h => h0 h.2.1)
      have d0 : decide (0 ≤ n) = false := decide_eq_false h0
      clear hr
      go_enter Try.func8, Try.ntmps8
      go_upto_region 1 with fail
      obtain ⟨w1, hw1⟩ : ∃ w1 : World, w1 = w.alloc (.cells #[.bool a.six, .int .u64 (a.hi : Int), .int .u64 (a.lo : Int), .int .i64 n] 29) := ⟨_, rfl⟩
      have HX1 := Lib.hid (show Blk w1 w.heap.size 29 #[.bool a.six, .int .u64 (a.hi : Int), .int .u64 (a.lo : Int), .int .i64 n] by rw [hw1]; exact Blk.new _ _ _)
      have HB1 := Lib.hid (show Below w.heap.size w w1 by rw [hw1]; exact bel1)
      rw [← hw1]
      clear hw1
      obtain ⟨xb, hxb⟩ : ∃ xb, w.heap.size = xb := ⟨_, rfl⟩
      rw [hxb] at HX1 ⊢
      have HXB := Lib.hid hxb
      clear hxb
      have x0 := HX1.out.cell 0
      have x1 := HX1.out.cell 1
      have x2 := HX1.out.cell 2
      have x3 := HX1.out.cell 3
      simp at x0 x1 x2 x3
      have xlt := HX1.out.lt
      have hs1 := HB1.out.size
      refine wp_region_kept 27 [(2, fun v u => v = .bool true)] ?st ?ne rfl (by kernel_rfl) (by kernel_rfl) ?_
      case st =>
        intro p hp
        simp only [List.mem_cons, List.not_mem_nil, or_false] at hp
        subst hp
        · intro v u u' h hk; exact h
      case ne =>
        intro p hp
        simp only [List.mem_cons, List.not_mem_nil, or_false] at hp
        subst hp
        · exact ⟨_, _, Kept.refl _ _, rfl⟩
      simp only [List.take_succ_cons, List.take_zero, List.drop_succ_cons, List.drop_zero]
      intro G pick hR hp1 hp2
      have p0 : ∀ u, (pick u).cell? ⟨xb, 0, none⟩ = some (.bool a.six) := fun u => ((hp1 u).cell xlt (fun h => h) _).trans x0
      have p1 : ∀ u, (pick u).cell? ⟨xb, 1, none⟩ = some (.int .u64 (a.hi : Int)) := fun u => ((hp1 u).cell xlt (fun h => h) _).trans x1
      have p2 : ∀ u, (pick u).cell? ⟨xb, 2, none⟩ = some (.int .u64 (a.lo : Int)) := fun u => ((hp1 u).cell xlt (fun h => h) _).trans x2
      have p3 : ∀ u, (pick u).cell? ⟨xb, 3, none⟩ = some (.int .i64 n) := fun u => ((hp1 u).cell xlt (fun h => h) _).trans x3
      repeat (first | (refine wpR_det hp2 rfl ((hR.rel _).trans rfl) rfl ?_; intro K hK; go_big_quiet_op; go_big_quiet_on) | (refine wpR_ptr hp2 rfl ((hR.rel _).trans rfl) rfl rfl ?_; intro K hK; go_big_quiet_op; go_big_quiet_on) | (refine wpR_skip pick rfl ?_; intro K hK; go_big_quiet_op; go_big_quiet_on))
      refine wpR_rel pick rfl ((hR.rel _).trans rfl) ((hR.turns _).trans rfl) ?_ ?_
      · intro u hu
        have hk := hR.since hu.1
        have hks := hk.size
        unfold relAt
        go_simp
        refine (addrRight_any a u).mono ?_
        rintro e w' ⟨rfl, hb'⟩
        exact ⟨_, rfl, hR.intoB hb', hR.put 0 rfl rfl (by rw [HR.out])⟩
      intro v hv
      obtain ⟨u, _, hu⟩ := hv
      obtain rfl := hR.get 0 rfl hu
      clear hu
      intro K hK
      go_big_quiet_op
      go_big_quiet_on
      repeat (first | (refine wpR_det hp2 rfl ((hR.rel _).trans rfl) rfl ?_; intro K hK; go_big_quiet_op; go_big_quiet_on) | (refine wpR_ptr hp2 rfl ((hR.rel _).trans rfl) rfl rfl ?_; intro K hK; go_big_quiet_op; go_big_quiet_on) | (refine wpR_skip pick rfl ?_; intro K hK; go_big_quiet_op; go_big_quiet_on))
      refine wpR_nil ?_
      intro w2 hk2 hF hM
      have HB2 := Lib.hid (HB1.out.trans (hk2.below (by omega) (fun i h => h.elim)))
      clear hF hM hk2 hp1 hp2 hR p0 p1 p2 p3 x0 x1 x2 x3
      go_wp2_with fail
      go_ret
      exact ⟨by rw [HE.out]; rfl, HB2.out⟩
  · have HE := Lib.hid (show decide (rightP a n) = false from decide_eq_false fun h => hr h.1)
    have HR := Lib.hid (show decide a.right = false from decide_eq_false hr)
    clear hr
    go_enter Try.func8, Try.ntmps8
    go_upto_region 1 with fail
    obtain ⟨w1, hw1⟩ : ∃ w1 : World, w1 = w.alloc (.cells #[.bool a.six, .int .u64 (a.hi : Int), .int .u64 (a.lo : Int), .int .i64 n] 29) := ⟨_, rfl⟩
    have HX1 := Lib.hid (show Blk w1 w.heap.size 29 #[.bool a.six, .int .u64 (a.hi : Int), .int .u64 (a.lo : Int), .int .i64 n] by rw [hw1]; exact Blk.new _ _ _)
    have HB1 := Lib.hid (show Below w.heap.size w w1 by rw [hw1]; exact bel1)
    rw [← hw1]
    clear hw1
    obtain ⟨xb, hxb⟩ : ∃ xb, w.heap.size = xb := ⟨_, rfl⟩
    rw [hxb] at HX1 ⊢
    have HXB := Lib.hid hxb
    clear hxb
    have x0 := HX1.out.cell 0
    have x1 := HX1.out.cell 1
    have x2 := HX1.out.cell 2
    have x3 := HX1.out.cell 3
    simp at x0 x1 x2 x3
    have xlt := HX1.out.lt
    have hs1 := HB1.out.size
    refine wp_region_kept 27 [(2, fun v u => v = .bool false)] ?st ?ne rfl (by kernel_rfl) (by kernel_rfl) ?_
    case st =>
      intro p hp
      simp only [List.mem_cons, List.not_mem_nil, or_false] at hp
      subst hp
      · intro v u u' h hk; exact h
    case ne =>
      intro p hp
      simp only [List.mem_cons, List.not_mem_nil, or_false] at hp
      subst hp
      · exact ⟨_, _, Kept.refl _ _, rfl⟩
    simp only [List.take_succ_cons, List.take_zero, List.drop_succ_cons, List.drop_zero]
    intro G pick hR hp1 hp2
    have p0 : ∀ u, (pick u).cell? ⟨xb, 0, none⟩ = some (.bool a.six) := fun u => ((hp1 u).cell xlt (fun h => h) _).trans x0
    have p1 : ∀ u, (pick u).cell? ⟨xb, 1, none⟩ = some (.int .u64 (a.hi : Int)) := fun u => ((hp1 u).cell xlt (fun h => h) _).trans x1
    have p2 : ∀ u, (pick u).cell? ⟨xb, 2, none⟩ = some (.int .u64 (a.lo : Int)) := fun u => ((hp1 u).cell xlt (fun h => h) _).trans x2
    have p3 : ∀ u, (pick u).cell? ⟨xb, 3, none⟩ = some (.int .i64 n) := fun u => ((hp1 u).cell xlt (fun h => h) _).trans x3
    repeat (first | (refine wpR_det hp2 rfl ((hR.rel _).trans rfl) rfl ?_; intro K hK; go_big_quiet_op; go_big_quiet_on) | (refine wpR_ptr hp2 rfl ((hR.rel _).trans rfl) rfl rfl ?_; intro K hK; go_big_quiet_op; go_big_quiet_on) | (refine wpR_skip pick rfl ?_; intro K hK; go_big_quiet_op; go_big_quiet_on))
    refine wpR_rel pick rfl ((hR.rel _).trans rfl) ((hR.turns _).trans rfl) ?_ ?_
    · intro u hu
      have hk := hR.since hu.1
      have hks := hk.size
      unfold relAt
      go_simp
      refine (addrRight_any a u).mono ?_
      rintro e w' ⟨rfl, hb'⟩
      exact ⟨_, rfl, hR.intoB hb', hR.put 0 rfl rfl (by rw [HR.out])⟩
    intro v hv
    obtain ⟨u, _, hu⟩ := hv
    obtain rfl := hR.get 0 rfl hu
    clear hu
    intro K hK
    go_big_quiet_op
    go_big_quiet_on
    repeat (first | (refine wpR_det hp2 rfl ((hR.rel _).trans rfl) rfl ?_; intro K hK; go_big_quiet_op; go_big_quiet_on) | (refine wpR_ptr hp2 rfl ((hR.rel _).trans rfl) rfl rfl ?_; intro K hK; go_big_quiet_op; go_big_quiet_on) | (refine wpR_skip pick rfl ?_; intro K hK; go_big_quiet_op; go_big_quiet_on))
    refine wpR_nil ?_
    intro w2 hk2 hF hM
    have HB2 := Lib.hid (HB1.out.trans (hk2.below (by omega) (fun i h => h.elim)))
    clear hF hM hk2 hp1 hp2 hR p0 p1 p2 p3 x0 x1 x2 x3
    go_wp2_with fail
    go_ret
    exact ⟨by rw [HE.out]; rfl, HB2.out⟩

set_option maxHeartbeats 4000000 in
theorem refPRight_any (a : Ad) (n : Int) (w : World) (hw : a.wf) : Calls Try.prog 9 #[.agg #[.bool a.six, .int .u64 (a.hi : Int), .int .u64 (a.lo : Int)], .int .i64 n] w fun e w' => e = .returned (.bool (decide (rightP a n))) ∧ Below w.heap.size w w' := by
  have HW := Lib.hid hw
  clear hw
  by_cases hr : a.right
  · have HR := Lib.hid (show decide a.right = true from decide_eq_true hr)
    have HRR := Lib.hid hr
    by_cases h0 : 0 ≤ n
    · by_cases h1 : n ≤ (a.bits : Int)
      · skip
        obtain ⟨s, hi, lo⟩ := a
        obtain ⟨B, hB⟩ : ∃ B, Ad.bits ⟨s, hi, lo⟩ = B := ⟨_, rfl⟩
        rw [hB] at h1
        have HBI := Lib.hid hB
        have d0 : decide (0 ≤ n) = true := decide_eq_true h0
        have d1 : decide (n ≤ (B : Int)) = true := decide_eq_true h1
        obtain ⟨⟨s', ch, cl⟩, hc⟩ : ∃ c, Ad.cut ⟨s, hi, lo⟩ n = c := ⟨_, rfl⟩
        obtain rfl : s = s' := by symm; have := Ad.cutN_six ⟨s, hi, lo⟩ (Ad.cl ⟨s, hi, lo⟩ n); rw [show Ad.cutN ⟨s, hi, lo⟩ (Ad.cl ⟨s, hi, lo⟩ n) = Ad.cut ⟨s, hi, lo⟩ n from rfl, hc] at this; exact this
        have HCE := Lib.hid hc
        clear hr hB
        by_cases hh : ch = hi
        · subst hh
          by_cases hl : cl = lo
          · subst hl
            have HE := Lib.hid (show decide (rightP _ n) = true from decide_eq_true ⟨HRR.out, h0, by rw [HBI.out]; exact h1, hc⟩)
            clear hc
            go_enter Try.func9, Try.ntmps9
            go_upto_region 1 with fail
            obtain ⟨w1, hw1⟩ : ∃ w1 : World, w1 = w.alloc (.cells #[.bool s, .int .u64 (ch : Int), .int .u64 (cl : Int)] 24) := ⟨_, rfl⟩
            have HX1 := Lib.hid (show Blk w1 w.heap.size 24 #[.bool s, .int .u64 (ch : Int), .int .u64 (cl : Int)] by rw [hw1]; exact Blk.new _ _ _)
            have HB1 := Lib.hid (show Below w.heap.size w w1 by rw [hw1]; exact bel1)
            rw [← hw1]
            clear hw1
            obtain ⟨xb, hxb⟩ : ∃ xb, w.heap.size = xb := ⟨_, rfl⟩
            rw [hxb] at HX1 ⊢
            have HXB := Lib.hid hxb
            clear hxb
            have x0 := HX1.out.cell 0
            have x1 := HX1.out.cell 1
            have x2 := HX1.out.cell 2
            simp at x0 x1 x2
            have xlt := HX1.out.lt
            have hs1 := HB1.out.size
            refine wp_region_kept 20 [(1, fun v u => v = .bool true), (9, fun v u => v = .int .i64 (B : Int)), (15, fun v u => v = .agg #[.bool s, .int .u64 (ch : Int), .int .u64 (cl : Int)])] ?st ?ne rfl (by kernel_rfl) (by kernel_rfl) ?_
            case st =>
              intro p hp
              simp only [List.mem_cons, List.not_mem_nil, or_false] at hp
              rcases hp with rfl | rfl | rfl
              · intro v u u' h hk; exact h
              · intro v u u' h hk; exact h
              · intro v u u' h hk; exact h
            case ne =>
              intro p hp
              simp only [List.mem_cons, List.not_mem_nil, or_false] at hp
              rcases hp with rfl | rfl | rfl
              · exact ⟨_, _, Kept.refl _ _, rfl⟩
              · exact ⟨_, _, Kept.refl _ _, rfl⟩
              · exact ⟨_, _, Kept.refl _ _, rfl⟩
            simp only [List.take_succ_cons, List.take_zero, List.drop_succ_cons, List.drop_zero]
            intro G pick hR hp1 hp2
            have p0 : ∀ u, (pick u).cell? ⟨xb, 0, none⟩ = some (.bool s) := fun u => ((hp1 u).cell xlt (fun h => h) _).trans x0
            have p1 : ∀ u, (pick u).cell? ⟨xb, 1, none⟩ = some (.int .u64 (ch : Int)) := fun u => ((hp1 u).cell xlt (fun h => h) _).trans x1
            have p2 : ∀ u, (pick u).cell? ⟨xb, 2, none⟩ = some (.int .u64 (cl : Int)) := fun u => ((hp1 u).cell xlt (fun h => h) _).trans x2
            repeat (first | (refine wpR_det hp2 rfl ((hR.rel _).trans rfl) rfl ?_; intro K hK; go_big_quiet_op; go_big_quiet_on) | (refine wpR_ptr hp2 rfl ((hR.rel _).trans rfl) rfl rfl ?_; intro K hK; go_big_quiet_op; go_big_quiet_on) | (refine wpR_skip pick rfl ?_; intro K hK; go_big_quiet_op; go_big_quiet_on))
            refine wpR_rel pick rfl ((hR.rel _).trans rfl) ((hR.turns _).trans rfl) ?_ ?_
            · intro u hu
              have hk := hR.since hu.1
              have hks := hk.size
              unfold relAt
              go_simp
              refine (refRight_any ⟨s, ch, cl⟩ u).mono ?_
              rintro e w' ⟨rfl, hb'⟩
              exact ⟨_, rfl, hR.intoB hb', hR.put 0 rfl rfl (by rw [HR.out])⟩
            intro v hv
            obtain ⟨u, _, hu⟩ := hv
            obtain rfl := hR.get 0 rfl hu
            clear hu
            intro K hK
            go_big_quiet_op
            go_big_quiet_on
            repeat (first | (refine wpR_det hp2 rfl ((hR.rel _).trans rfl) rfl ?_; intro K hK; go_big_quiet_op; go_big_quiet_on) | (refine wpR_ptr hp2 rfl ((hR.rel _).trans rfl) rfl rfl ?_; intro K hK; go_big_quiet_op; go_big_quiet_on) | (refine wpR_skip pick rfl ?_; intro K hK; go_big_quiet_op; go_big_quiet_on))
            refine wpR_rel pick rfl ((hR.rel _).trans rfl) ((hR.turns _).trans rfl) ?_ ?_
            · intro u hu
              have hk := hR.since hu.1
              have hks := hk.size
              unfold relAt
              go_simp
              refine (refBits_any ⟨s, ch, cl⟩ u).mono ?_
              rintro e w' ⟨rfl, hb'⟩
              exact ⟨_, rfl, hR.intoB hb', hR.put 1 rfl rfl (by rw [HBI.out])⟩
            intro v hv
            obtain ⟨u, _, hu⟩ := hv
            obtain rfl := hR.get 1 rfl hu
            clear hu
            intro K hK
            go_big_quiet_op
            go_big_quiet_on
            repeat (first | (refine wpR_det hp2 rfl ((hR.rel _).trans rfl) rfl ?_; intro K hK; go_big_quiet_op; go_big_quiet_on) | (refine wpR_ptr hp2 rfl ((hR.rel _).trans rfl) rfl rfl ?_; intro K hK; go_big_quiet_op; go_big_quiet_on) | (refine wpR_skip pick rfl ?_; intro K hK; go_big_quiet_op; go_big_quiet_on))
            refine wpR_rel pick rfl ((hR.rel _).trans rfl) ((hR.turns _).trans rfl) ?_ ?_
            · intro u hu
              have hk := hR.since hu.1
              have hks := hk.size
              unfold relAt
              go_simp
              refine (refCut_any ⟨s, ch, cl⟩ n u HW.out HRR.out).mono ?_
              rintro e w' ⟨rfl, hb'⟩
              exact ⟨_, rfl, hR.intoB hb', hR.put 2 rfl rfl (by rw [HCE.out])⟩
            intro v hv
            obtain ⟨u, _, hu⟩ := hv
            obtain rfl := hR.get 2 rfl hu
            clear hu
            intro K hK
            go_big_quiet_op
            go_big_quiet_on
            repeat (first | (refine wpR_det hp2 rfl ((hR.rel _).trans rfl) rfl ?_; intro K hK; go_big_quiet_op; go_big_quiet_on) | (refine wpR_ptr hp2 rfl ((hR.rel _).trans rfl) rfl rfl ?_; intro K hK; go_big_quiet_op; go_big_quiet_on) | (refine wpR_skip pick rfl ?_; intro K hK; go_big_quiet_op; go_big_quiet_on))
            refine wpR_nil ?_
            intro w2 hk2 hF hM
            have HB2 := Lib.hid (HB1.out.trans (hk2.below (by omega) (fun i h => h.elim)))
            clear hF hM hk2 hp1 hp2 hR p0 p1 p2 x0 x1 x2
            go_wp2_with fail
            go_ret
            exact ⟨by rw [HE.out]; rfl, HB2.out⟩
          · have HE := Lib.hid (show decide (rightP _ n) = false from decide_eq_false fun h => hl (by have := h.2.2.2; rw [hc] at this; injection this))
            have hlB : ((cl : Int) == (lo : Int)) = false := beq_eq_false_iff_ne.2 (by omega)
            clear hc hl
            go_enter Try.func9, Try.ntmps9
            go_upto_region 1 with fail
            obtain ⟨w1, hw1⟩ : ∃ w1 : World, w1 = w.alloc (.cells #[.bool s, .int .u64 (ch : Int), .int .u64 (lo : Int)] 24) := ⟨_, rfl⟩
            have HX1 := Lib.hid (show Blk w1 w.heap.size 24 #[.bool s, .int .u64 (ch : Int), .int .u64 (lo : Int)] by rw [hw1]; exact Blk.new _ _ _)
            have HB1 := Lib.hid (show Below w.heap.size w w1 by rw [hw1]; exact bel1)
            rw [← hw1]
            clear hw1
            obtain ⟨xb, hxb⟩ : ∃ xb, w.heap.size = xb := ⟨_, rfl⟩
            rw [hxb] at HX1 ⊢
            have HXB := Lib.hid hxb
            clear hxb
            have x0 := HX1.out.cell 0
            have x1 := HX1.out.cell 1
            have x2 := HX1.out.cell 2
            simp at x0 x1 x2
            have xlt := HX1.out.lt
            have hs1 := HB1.out.size
            refine wp_region_kept 20 [(1, fun v u => v = .bool true), (9, fun v u => v = .int .i64 (B : Int)), (15, fun v u => v = .agg #[.bool s, .int .u64 (ch : Int), .int .u64 (cl : Int)])] ?st ?ne rfl (by kernel_rfl) (by kernel_rfl) ?_
            case st =>
              intro p hp
              simp only [List.mem_cons, List.not_mem_nil, or_false] at hp
              rcases hp with rfl | rfl | rfl
              · intro v u u' h hk; exact h
              · intro v u u' h hk; exact h
              · intro v u u' h hk; exact h
            case ne =>
              intro p hp
              simp only [List.mem_cons, List.not_mem_nil, or_false] at hp
              rcases hp with rfl | rfl | rfl
              · exact ⟨_, _, Kept.refl _ _, rfl⟩
              · exact ⟨_, _, Kept.refl _ _, rfl⟩
              · exact ⟨_, _, Kept.refl _ _, rfl⟩
            simp only [List.take_succ_cons, List.take_zero, List.drop_succ_cons, List.drop_zero]
            intro G pick hR hp1 hp2
            have p0 : ∀ u, (pick u).cell? ⟨xb, 0, none⟩ = some (.bool s) := fun u => ((hp1 u).cell xlt (fun h => h) _).trans x0
            have p1 : ∀ u, (pick u).cell? ⟨xb, 1, none⟩ = some (.int .u64 (ch : Int)) := fun u => ((hp1 u).cell xlt (fun h => h) _).trans x1
            have p2 : ∀ u, (pick u).cell? ⟨xb, 2, none⟩ = some (.int .u64 (lo : Int)) := fun u => ((hp1 u).cell xlt (fun h => h) _).trans x2
            repeat (first | (refine wpR_det hp2 rfl ((hR.rel _).trans rfl) rfl ?_; intro K hK; go_big_quiet_op; go_big_quiet_on) | (refine wpR_ptr hp2 rfl ((hR.rel _).trans rfl) rfl rfl ?_; intro K hK; go_big_quiet_op; go_big_quiet_on) | (refine wpR_skip pick rfl ?_; intro K hK; go_big_quiet_op; go_big_quiet_on))
            refine wpR_rel pick rfl ((hR.rel _).trans rfl) ((hR.turns _).trans rfl) ?_ ?_
            · intro u hu
              have hk := hR.since hu.1
              have hks := hk.size
              unfold relAt
              go_simp
              refine (refRight_any ⟨s, ch, lo⟩ u).mono ?_
              rintro e w' ⟨rfl, hb'⟩
              exact ⟨_, rfl, hR.intoB hb', hR.put 0 rfl rfl (by rw [HR.out])⟩
            intro v hv
            obtain ⟨u, _, hu⟩ := hv
            obtain rfl := hR.get 0 rfl hu
            clear hu
            intro K hK
            go_big_quiet_op
            go_big_quiet_on
            repeat (first | (refine wpR_det hp2 rfl ((hR.rel _).trans rfl) rfl ?_; intro K hK; go_big_quiet_op; go_big_quiet_on) | (refine wpR_ptr hp2 rfl ((hR.rel _).trans rfl) rfl rfl ?_; intro K hK; go_big_quiet_op; go_big_quiet_on) | (refine wpR_skip pick rfl ?_; intro K hK; go_big_quiet_op; go_big_quiet_on))
            refine wpR_rel pick rfl ((hR.rel _).trans rfl) ((hR.turns _).trans rfl) ?_ ?_
            · intro u hu
              have hk := hR.since hu.1
              have hks := hk.size
              unfold relAt
              go_simp
              refine (refBits_any ⟨s, ch, lo⟩ u).mono ?_
              rintro e w' ⟨rfl, hb'⟩
              exact ⟨_, rfl, hR.intoB hb', hR.put 1 rfl rfl (by rw [HBI.out])⟩
            intro v hv
            obtain ⟨u, _, hu⟩ := hv
            obtain rfl := hR.get 1 rfl hu
            clear hu
            intro K hK
            go_big_quiet_op
            go_big_quiet_on
            repeat (first | (refine wpR_det hp2 rfl ((hR.rel _).trans rfl) rfl ?_; intro K hK; go_big_quiet_op; go_big_quiet_on) | (refine wpR_ptr hp2 rfl ((hR.rel _).trans rfl) rfl rfl ?_; intro K hK; go_big_quiet_op; go_big_quiet_on) | (refine wpR_skip pick rfl ?_; intro K hK; go_big_quiet_op; go_big_quiet_on))
            refine wpR_rel pick rfl ((hR.rel _).trans rfl) ((hR.turns _).trans rfl) ?_ ?_
            · intro u hu
              have hk := hR.since hu.1
              have hks := hk.size
              unfold relAt
              go_simp
              refine (refCut_any ⟨s, ch, lo⟩ n u HW.out HRR.out).mono ?_
              rintro e w' ⟨rfl, hb'⟩
              exact ⟨_, rfl, hR.intoB hb', hR.put 2 rfl rfl (by rw [HCE.out])⟩
            intro v hv
            obtain ⟨u, _, hu⟩ := hv
            obtain rfl := hR.get 2 rfl hu
            clear hu
            intro K hK
            go_big_quiet_op
            go_big_quiet_on
            repeat (first | (refine wpR_det hp2 rfl ((hR.rel _).trans rfl) rfl ?_; intro K hK; go_big_quiet_op; go_big_quiet_on) | (refine wpR_ptr hp2 rfl ((hR.rel _).trans rfl) rfl rfl ?_; intro K hK; go_big_quiet_op; go_big_quiet_on) | (refine wpR_skip pick rfl ?_; intro K hK; go_big_quiet_op; go_big_quiet_on))
            refine wpR_nil ?_
            intro w2 hk2 hF hM
            have HB2 := Lib.hid (HB1.out.trans (hk2.below (by omega) (fun i h => h.elim)))
            clear hF hM hk2 hp1 hp2 hR p0 p1 p2 x0 x1 x2
            go_wp2_with fail
            go_ret
            exact ⟨by rw [HE.out]; rfl, HB2.out⟩
        · have HE := Lib.hid (show decide (rightP _ n) = false from decide_eq_false fun h => hh (by have := h.2.2.2; rw [hc] at this; injection this))
          have hhB : ((ch : Int) == (hi : Int)) = false := beq_eq_false_iff_ne.2 (by omega)
          clear hc hh
          go_enter Try.func9, Try.ntmps9
          go_upto_region 1 with fail
          obtain ⟨w1, hw1⟩ : ∃ w1 : World, w1 = w.alloc (.cells #[.bool s, .int .u64 (hi : Int), .int .u64 (lo : Int)] 24) := ⟨_, rfl⟩
          have HX1 := Lib.hid (show Blk w1 w.heap.size 24 #[.bool s, .int .u64 (hi : Int), .int .u64 (lo : Int)] by rw [hw1]; exact Blk.new _ _ _)
          have HB1 := Lib.hid (show Below w.heap.size w w1 by rw [hw1]; exact bel1)
          rw [← hw1]
          clear hw1
          obtain ⟨xb, hxb⟩ : ∃ xb, w.heap.size = xb := ⟨_, rfl⟩
          rw [hxb] at HX1 ⊢
          have HXB := Lib.hid hxb
          clear hxb
          have x0 := HX1.out.cell 0
          have x1 := HX1.out.cell 1
          have x2 := HX1.out.cell 2
          simp at x0 x1 x2
          have xlt := HX1.out.lt
          have hs1 := HB1.out.size
          refine wp_region_kept 20 [(1, fun v u => v = .bool true), (9, fun v u => v = .int .i64 (B : Int)), (15, fun v u => v = .agg #[.bool s, .int .u64 (ch : Int), .int .u64 (cl : Int)])] ?st ?ne rfl (by kernel_rfl) (by kernel_rfl) ?_
          case st =>
            intro p hp
            simp only [List.mem_cons, List.not_mem_nil, or_false] at hp
            rcases hp with rfl | rfl | rfl
            · intro v u u' h hk; exact h
            · intro v u u' h hk; exact h
            · intro v u u' h hk; exact h
          case ne =>
            intro p hp
            simp only [List.mem_cons, List.not_mem_nil, or_false] at hp
            rcases hp with rfl | rfl | rfl
            · exact ⟨_, _, Kept.refl _ _, rfl⟩
            · exact ⟨_, _, Kept.refl _ _, rfl⟩
            · exact ⟨_, _, Kept.refl _ _, rfl⟩
          simp only [List.take_succ_cons, List.take_zero, List.drop_succ_cons, List.drop_zero]
          intro G pick hR hp1 hp2
          have p0 : ∀ u, (pick u).cell? ⟨xb, 0, none⟩ = some (.bool s) := fun u => ((hp1 u).cell xlt (fun h => h) _).trans x0
          have p1 : ∀ u, (pick u).cell? ⟨xb, 1, none⟩ = some (.int .u64 (hi : Int)) := fun u => ((hp1 u).cell xlt (fun h => h) _).trans x1
          have p2 : ∀ u, (pick u).cell? ⟨xb, 2, none⟩ = some (.int .u64 (lo : Int)) := fun u => ((hp1 u).cell xlt (fun h => h) _).trans x2
          repeat (first | (refine wpR_det hp2 rfl ((hR.rel _).trans rfl) rfl ?_; intro K hK; go_big_quiet_op; go_big_quiet_on) | (refine wpR_ptr hp2 rfl ((hR.rel _).trans rfl) rfl rfl ?_; intro K hK; go_big_quiet_op; go_big_quiet_on) | (refine wpR_skip pick rfl ?_; intro K hK; go_big_quiet_op; go_big_quiet_on))
          refine wpR_rel pick rfl ((hR.rel _).trans rfl) ((hR.turns _).trans rfl) ?_ ?_
          · intro u hu
            have hk := hR.since hu.1
            have hks := hk.size
            unfold relAt
            go_simp
            refine (refRight_any ⟨s, hi, lo⟩ u).mono ?_
            rintro e w' ⟨rfl, hb'⟩
            exact ⟨_, rfl, hR.intoB hb', hR.put 0 rfl rfl (by rw [HR.out])⟩
          intro v hv
          obtain ⟨u, _, hu⟩ := hv
          obtain rfl := hR.get 0 rfl hu
          clear hu
          intro K hK
          go_big_quiet_op
          go_big_quiet_on
          repeat (first | (refine wpR_det hp2 rfl ((hR.rel _).trans rfl) rfl ?_; intro K hK; go_big_quiet_op; go_big_quiet_on) | (refine wpR_ptr hp2 rfl ((hR.rel _).trans rfl) rfl rfl ?_; intro K hK; go_big_quiet_op; go_big_quiet_on) | (refine wpR_skip pick rfl ?_; intro K hK; go_big_quiet_op; go_big_quiet_on))
          refine wpR_rel pick rfl ((hR.rel _).trans rfl) ((hR.turns _).trans rfl) ?_ ?_
          · intro u hu
            have hk := hR.since hu.1
            have hks := hk.size
            unfold relAt
            go_simp
            refine (refBits_any ⟨s, hi, lo⟩ u).mono ?_
            rintro e w' ⟨rfl, hb'⟩
            exact ⟨_, rfl, hR.intoB hb', hR.put 1 rfl rfl (by rw [HBI.out])⟩
          intro v hv
          obtain ⟨u, _, hu⟩ := hv
          obtain rfl := hR.get 1 rfl hu
          clear hu
          intro K hK
          go_big_quiet_op
          go_big_quiet_on
          repeat (first | (refine wpR_det hp2 rfl ((hR.rel _).trans rfl) rfl ?_; intro K hK; go_big_quiet_op; go_big_quiet_on) | (refine wpR_ptr hp2 rfl ((hR.rel _).trans rfl) rfl rfl ?_; intro K hK; go_big_quiet_op; go_big_quiet_on) | (refine wpR_skip pick rfl ?_; intro K hK; go_big_quiet_op; go_big_quiet_on))
          refine wpR_rel pick rfl ((hR.rel _).trans rfl) ((hR.turns _).trans rfl) ?_ ?_
          · intro u hu
            have hk := hR.since hu.1
            have hks := hk.size
            unfold relAt
            go_simp
            refine (refCut_any ⟨s, hi, lo⟩ n u HW.out HRR.out).mono ?_
            rintro e w' ⟨rfl, hb'⟩
            exact ⟨_, rfl, hR.intoB hb', hR.put 2 rfl rfl (by rw [HCE.out])⟩
          intro v hv
          obtain ⟨u, _, hu⟩ := hv
          obtain rfl := hR.get 2 rfl hu
          clear hu
          intro K hK
          go_big_quiet_op
          go_big_quiet_on
          repeat (first | (refine wpR_det hp2 rfl ((hR.rel _).trans rfl) rfl ?_; intro K hK; go_big_quiet_op; go_big_quiet_on) | (refine wpR_ptr hp2 rfl ((hR.rel _).trans rfl) rfl rfl ?_; intro K hK; go_big_quiet_op; go_big_quiet_on) | (refine wpR_skip pick rfl ?_; intro K hK; go_big_quiet_op; go_big_quiet_on))
          refine wpR_nil ?_
          intro w2 hk2 hF hM
          have HB2 := Lib.hid (HB1.out.trans (hk2.below (by omega) (fun i h => h.elim)))
          clear hF hM hk2 hp1 hp2 hR p0 p1 p2 x0 x1 x2
          go_wp2_with fail
          go_ret
          exact ⟨by rw [HE.out]; rfl, HB2.out⟩
      · have HE := Lib.hid (show decide (rightP a n) = false from decide_eq_false fun h => h1 h.2.2.1)
        have d0 : decide (0 ≤ n) = true := decide_eq_true h0
        have d1 : decide (n ≤ (a.bits : Int)) = false := decide_eq_false h1
        clear hr
        go_enter Try.func9, Try.ntmps9
        go_upto_region 1 with fail
        obtain ⟨w1, hw1⟩ : ∃ w1 : World, w1 = w.alloc (.cells #[.bool a.six, .int .u64 (a.hi : Int), .int .u64 (a.lo : Int)] 24) := ⟨_, rfl⟩
        have HX1 := Lib.hid (show Blk w1 w.heap.size 24 #[.bool a.six, .int .u64 (a.hi : Int), .int .u64 (a.lo : Int)] by rw [hw1]; exact Blk.new _ _ _)
        have HB1 := Lib.hid (show Below w.heap.size w w1 by rw [hw1]; exact bel1)
        rw [← hw1]
        clear hw1
        obtain ⟨xb, hxb⟩ : ∃ xb, w.heap.size = xb := ⟨_, rfl⟩
        rw [hxb] at HX1 ⊢
        have HXB := Lib.hid hxb
        clear hxb
        have x0 := HX1.out.cell 0
        have x1 := HX1.out.cell 1
        have x2 := HX1.out.cell 2
        simp at x0 x1 x2
        have xlt := HX1.out.lt
        have hs1 := HB1.out.size
        refine wp_region_kept 20 [(1, fun v u => v = .bool true), (9, fun v u => v = .int .i64 (a.bits : Int))] ?st ?ne rfl (by kernel_rfl) (by kernel_rfl) ?_
        case st =>
          intro p hp
          simp only [List.mem_cons, List.not_mem_nil, or_false] at hp
          rcases hp with rfl | rfl
          · intro v u u' h hk; exact h
          · intro v u u' h hk; exact h
        case ne =>
          intro p hp
          simp only [List.mem_cons, List.not_mem_nil, or_false] at hp
          rcases hp with rfl | rfl
          · exact ⟨_, _, Kept.refl _ _, rfl⟩
          · exact ⟨_, _, Kept.refl _ _, rfl⟩
        simp only [List.take_succ_cons, List.take_zero, List.drop_succ_cons, List.drop_zero]
        intro G pick hR hp1 hp2
        have p0 : ∀ u, (pick u).cell? ⟨xb, 0, none⟩ = some (.bool a.six) := fun u => ((hp1 u).cell xlt (fun h => h) _).trans x0
        have p1 : ∀ u, (pick u).cell? ⟨xb, 1, none⟩ = some (.int .u64 (a.hi : Int)) := fun u => ((hp1 u).cell xlt (fun h => h) _).trans x1
        have p2 : ∀ u, (pick u).cell? ⟨xb, 2, none⟩ = some (.int .u64 (a.lo : Int)) := fun u => ((hp1 u).cell xlt (fun h => h) _).trans x2
        repeat (first | (refine wpR_det hp2 rfl ((hR.rel _).trans rfl) rfl ?_; intro K hK; go_big_quiet_op; go_big_quiet_on) | (refine wpR_ptr hp2 rfl ((hR.rel _).trans rfl) rfl rfl ?_; intro K hK; go_big_quiet_op; go_big_quiet_on) | (refine wpR_skip pick rfl ?_; intro K hK; go_big_quiet_op; go_big_quiet_on))
        refine wpR_rel pick rfl ((hR.rel _).trans rfl) ((hR.turns _).trans rfl) ?_ ?_
        · intro u hu
          have hk := hR.since hu.1
          have hks := hk.size
          unfold relAt
          go_simp
          refine (refRight_any a u).mono ?_
          rintro e w' ⟨rfl, hb'⟩
          exact ⟨_, rfl, hR.intoB hb', hR.put 0 rfl rfl (by rw [HR.out])⟩
        intro v hv
        obtain ⟨u, _, hu⟩ := hv
        obtain rfl := hR.get 0 rfl hu
        clear hu
        intro K hK
        go_big_quiet_op
        go_big_quiet_on
        repeat (first | (refine wpR_det hp2 rfl ((hR.rel _).trans rfl) rfl ?_; intro K hK; go_big_quiet_op; go_big_quiet_on) | (refine wpR_ptr hp2 rfl ((hR.rel _).trans rfl) rfl rfl ?_; intro K hK; go_big_quiet_op; go_big_quiet_on) | (refine wpR_skip pick rfl ?_; intro K hK; go_big_quiet_op; go_big_quiet_on))
        refine wpR_rel pick rfl ((hR.rel _).trans rfl) ((hR.turns _).trans rfl) ?_ ?_
        · intro u hu
          have hk := hR.since hu.1
          have hks := hk.size
          unfold relAt
          go_simp
          refine (refBits_any a u).mono ?_
          rintro e w' ⟨rfl, hb'⟩
          exact ⟨_, rfl, hR.intoB hb', hR.put 1 rfl rfl rfl⟩
        intro v hv
        obtain ⟨u, _, hu⟩ := hv
        obtain rfl := hR.get 1 rfl hu
        clear hu
        intro K hK
        go_big_quiet_op
        go_big_quiet_on
        repeat (first | (refine wpR_det hp2 rfl ((hR.rel _).trans rfl) rfl ?_; intro K hK; go_big_quiet_op; go_big_quiet_on) | (refine wpR_ptr hp2 rfl ((hR.rel _).trans rfl) rfl rfl ?_; intro K hK; go_big_quiet_op; go_big_quiet_on) | (refine wpR_skip pick rfl ?_; intro K hK; go_big_quiet_op; go_big_quiet_on))
        refine wpR_nil ?_
        intro w2 hk2 hF hM
        have HB2 := Lib.hid (HB1.out.trans (hk2.below (by omega) (fun i h => h.elim)))
        clear hF hM hk2 hp1 hp2 hR p0 p1 p2 x0 x1 x2
        go_wp2_with fail
        go_ret
        exact ⟨by rw [HE.out]; rfl, HB2.out⟩
    · have HE := Lib.hid (show decide (rightP a n) = false from decide_eq_false fun h => h0 h.2.1)
      have d0 : decide (0 ≤ n) = false := decide_eq_false h0
      clear hr
      go_enter Try.func9, Try.ntmps9
      go_upto_region 1 with fail
      obtain ⟨w1, hw1⟩ : ∃ w1 : World, w1 = w.alloc (.cells #[.bool a.six, .int .u64 (a.hi : Int), .int .u64 (a.lo : Int)] 24) := ⟨_, rfl⟩
      have HX1 := Lib.hid (show Blk w1 w.heap.size 24 #[.bool a.six, .int .u64 (a.hi : Int), .int .u64 (a.lo : Int)] by rw [hw1]; exact Blk.new _ _ _)
      have HB1 := Lib.hid (show Below w.heap.size w w1 by rw [hw1]; exact bel1)
      rw [← hw1]
      clear hw1
      obtain ⟨xb, hxb⟩ : ∃ xb, w.heap.size = xb := ⟨_, rfl⟩
      rw [hxb] at HX1 ⊢
      have HXB := Lib.hid hxb
      clear hxb
      have x0 := HX1.out.cell 0
      have x1 := HX1.out.cell 1
      have x2 := HX1.out.cell 2
      simp at x0 x1 x2
      have xlt := HX1.out.lt
      have hs1 := HB1.out.size
      refine wp_region_kept 20 [(1, fun v u => v = .bool true)] ?st ?ne rfl (by kernel_rfl) (by kernel_rfl) ?_
      case st =>
        intro p hp
        simp only [List.mem_cons, List.not_mem_nil, or_false] at hp
        subst hp
        · intro v u u' h hk; exact h
      case ne =>
        intro p hp
        simp only [List.mem_cons, List.not_mem_nil, or_false] at hp
        subst hp
        · exact ⟨_, _, Kept.refl _ _, rfl⟩
      simp only [List.take_succ_cons, List.take_zero, List.drop_succ_cons, List.drop_zero]
      intro G pick hR hp1 hp2
      have p0 : ∀ u, (pick u).cell? ⟨xb, 0, none⟩ = some (.bool a.six) := fun u => ((hp1 u).cell xlt (fun h => h) _).trans x0
      have p1 : ∀ u, (pick u).cell? ⟨xb, 1, none⟩ = some (.int .u64 (a.hi : Int)) := fun u => ((hp1 u).cell xlt (fun h => h) _).trans x1
      have p2 : ∀ u, (pick u).cell? ⟨xb, 2, none⟩ = some (.int .u64 (a.lo : Int)) := fun u => ((hp1 u).cell xlt (fun h => h) _).trans x2
      repeat (first | (refine wpR_det hp2 rfl ((hR.rel _).trans rfl) rfl ?_; intro K hK; go_big_quiet_op; go_big_quiet_on) | (refine wpR_ptr hp2 rfl ((hR.rel _).trans rfl) rfl rfl ?_; intro K hK; go_big_quiet_op; go_big_quiet_on) | (refine wpR_skip pick rfl ?_; intro K hK; go_big_quiet_op; go_big_quiet_on))
      refine wpR_rel pick rfl ((hR.rel _).trans rfl) ((hR.turns _).trans rfl) ?_ ?_
      · intro u hu
        have hk := hR.since hu.1
        have hks := hk.size
        unfold relAt
        go_simp
        refine (refRight_any a u).mono ?_
        rintro e w' ⟨rfl, hb'⟩
        exact ⟨_, rfl, hR.intoB hb', hR.put 0 rfl rfl (by rw [HR.out])⟩
      intro v hv
      obtain ⟨u, _, hu⟩ := hv
      obtain rfl := hR.get 0 rfl hu
      clear hu
      intro K hK
      go_big_quiet_op
      go_big_quiet_on
      repeat (first | (refine wpR_det hp2 rfl ((hR.rel _).trans rfl) rfl ?_; intro K hK; go_big_quiet_op; go_big_quiet_on) | (refine wpR_ptr hp2 rfl ((hR.rel _).trans rfl) rfl rfl ?_; intro K hK; go_big_quiet_op; go_big_quiet_on) | (refine wpR_skip pick rfl ?_; intro K hK; go_big_quiet_op; go_big_quiet_on))
      refine wpR_nil ?_
      intro w2 hk2 hF hM
      have HB2 := Lib.hid (HB1.out.trans (hk2.below (by omega) (fun i h => h.elim)))
      clear hF hM hk2 hp1 hp2 hR p0 p1 p2 x0 x1 x2
      go_wp2_with fail
      go_ret
      exact ⟨by rw [HE.out]; rfl, HB2.out⟩
  · have HE := Lib.hid (show decide (rightP a n) = false from decide_eq_false fun h => hr h.1)
    have HR := Lib.hid (show decide a.right = false from decide_eq_false hr)
    clear hr
    go_enter Try.func9, Try.ntmps9
    go_upto_region 1 with fail
    obtain ⟨w1, hw1⟩ : ∃ w1 : World, w1 = w.alloc (.cells #[.bool a.six, .int .u64 (a.hi : Int), .int .u64 (a.lo : Int)] 24) := ⟨_, rfl⟩
    have HX1 := Lib.hid (show Blk w1 w.heap.size 24 #[.bool a.six, .int .u64 (a.hi : Int), .int .u64 (a.lo : Int)] by rw [hw1]; exact Blk.new _ _ _)
    have HB1 := Lib.hid (show Below w.heap.size w w1 by rw [hw1]; exact bel1)
    rw [← hw1]
    clear hw1
    obtain ⟨xb, hxb⟩ : ∃ xb, w.heap.size = xb := ⟨_, rfl⟩
    rw [hxb] at HX1 ⊢
    have HXB := Lib.hid hxb
    clear hxb
    have x0 := HX1.out.cell 0
    have x1 := HX1.out.cell 1
    have x2 := HX1.out.cell 2
    simp at x0 x1 x2
    have xlt := HX1.out.lt
    have hs1 := HB1.out.size
    refine wp_region_kept 20 [(1, fun v u => v = .bool false)] ?st ?ne rfl (by kernel_rfl) (by kernel_rfl) ?_
    case st =>
      intro p hp
      simp only [List.mem_cons, List.not_mem_nil, or_false] at hp
      subst hp
      · intro v u u' h hk; exact h
    case ne =>
      intro p hp
      simp only [List.mem_cons, List.not_mem_nil, or_false] at hp
      subst hp
      · exact ⟨_, _, Kept.refl _ _, rfl⟩
    simp only [List.take_succ_cons, List.take_zero, List.drop_succ_cons, List.drop_zero]
    intro G pick hR hp1 hp2
    have p0 : ∀ u, (pick u).cell? ⟨xb, 0, none⟩ = some (.bool a.six) := fun u => ((hp1 u).cell xlt (fun h => h) _).trans x0
    have p1 : ∀ u, (pick u).cell? ⟨xb, 1, none⟩ = some (.int .u64 (a.hi : Int)) := fun u => ((hp1 u).cell xlt (fun h => h) _).trans x1
    have p2 : ∀ u, (pick u).cell? ⟨xb, 2, none⟩ = some (.int .u64 (a.lo : Int)) := fun u => ((hp1 u).cell xlt (fun h => h) _).trans x2
    repeat (first | (refine wpR_det hp2 rfl ((hR.rel _).trans rfl) rfl ?_; intro K hK; go_big_quiet_op; go_big_quiet_on) | (refine wpR_ptr hp2 rfl ((hR.rel _).trans rfl) rfl rfl ?_; intro K hK; go_big_quiet_op; go_big_quiet_on) | (refine wpR_skip pick rfl ?_; intro K hK; go_big_quiet_op; go_big_quiet_on))
    refine wpR_rel pick rfl ((hR.rel _).trans rfl) ((hR.turns _).trans rfl) ?_ ?_
    · intro u hu
      have hk := hR.since hu.1
      have hks := hk.size
      unfold relAt
      go_simp
      refine (refRight_any a u).mono ?_
      rintro e w' ⟨rfl, hb'⟩
      exact ⟨_, rfl, hR.intoB hb', hR.put 0 rfl rfl (by rw [HR.out])⟩
    intro v hv
    obtain ⟨u, _, hu⟩ := hv
    obtain rfl := hR.get 0 rfl hu
    clear hu
    intro K hK
    go_big_quiet_op
    go_big_quiet_on
    repeat (first | (refine wpR_det hp2 rfl ((hR.rel _).trans rfl) rfl ?_; intro K hK; go_big_quiet_op; go_big_quiet_on) | (refine wpR_ptr hp2 rfl ((hR.rel _).trans rfl) rfl rfl ?_; intro K hK; go_big_quiet_op; go_big_quiet_on) | (refine wpR_skip pick rfl ?_; intro K hK; go_big_quiet_op; go_big_quiet_on))
    refine wpR_nil ?_
    intro w2 hk2 hF hM
    have HB2 := Lib.hid (HB1.out.trans (hk2.below (by omega) (fun i h => h.elim)))
    clear hF hM hk2 hp1 hp2 hR p0 p1 p2 x0 x1 x2
    go_wp2_with fail
    go_ret
    exact ⟨by rw [HE.out]; rfl, HB2.out⟩

end Go.Proofs.Ytchgbdghllkcpaa
