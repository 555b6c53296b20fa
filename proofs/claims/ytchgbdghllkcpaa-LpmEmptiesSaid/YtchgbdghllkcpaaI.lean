/- The law LpmCuts, walked; addresses that came in. -/
import Derived.Test.YtchgbdghllkcpaaH
namespace Go.Proofs.Ytchgbdghllkcpaa
open Go.RowKit
set_option linter.unusedVariables false
set_option maxHeartbeats 4000000 in
theorem cuts_any (a : Ad) (n : Int) (w : World) (hw : a.wf) : Calls Try.prog 3 #[.agg #[.bool a.six, .int .u64 (a.hi : Int), .int .u64 (a.lo : Int)], .int .i64 n] w fun e w' => e = .returned (.bool true) ∧ Below w.heap.size w w' := by
  obtain ⟨B, hB⟩ : ∃ B, a.bits = B := ⟨_, rfl⟩
  obtain ⟨rb, hrb⟩ : ∃ b, decide (rightP a n) = b := ⟨_, rfl⟩
  have HBB := Lib.hid hB
  have HRB := Lib.hid hrb
  have HW := Lib.hid hw
  clear hB hrb hw
  go_enter Try.func3, Try.ntmps3
  go_upto_region 1 with fail
  obtain ⟨w1, hw1⟩ : ∃ w1 : World, w1 = w.alloc (.cells #[.bool a.six, .int .u64 (a.hi : Int), .int .u64 (a.lo : Int)] 24) := ⟨_, rfl⟩
  have HX1 := Lib.hid (show Blk w1 w.heap.size 24 #[.bool a.six, .int .u64 (a.hi : Int), .int .u64 (a.lo : Int)] by rw [hw1]; exact Blk.new _ _ _)
  have HB1 := Lib.hid (show Below w.heap.size w w1 by rw [hw1]; exact bel1)
  rw [← hw1]
  clear hw1
  obtain ⟨xb, hxb⟩ : ∃ xb, w.heap.size = xb := ⟨_, rfl⟩
  rw [hxb] at HX1 ⊢
  have HXB := Lib.hid hxb
  clear hxb
  have x0 := HX1.out.cell 0
  have x1 := HX1.out.cell 1
  have x2 := HX1.out.cell 2
  simp at x0 x1 x2
  have xlt := HX1.out.lt
  have hs1 := HB1.out.size
  refine wp_region_kept 15 [(1, fun v u => v = .int .i64 (B : Int)), (3, fun v u => v = .int .i64 (B : Int)), (9, fun v u => v = .bool rb), (12, fun v u => v = .bool rb)] ?st ?ne rfl (by kernel_rfl) (by kernel_rfl) ?_
  case st =>
    intro p hp
    simp only [List.mem_cons, List.not_mem_nil, or_false] at hp
    rcases hp with rfl | rfl | rfl | rfl
    · intro v u u' h hk; exact h
    · intro v u u' h hk; exact h
    · intro v u u' h hk; exact h
    · intro v u u' h hk; exact h
  case ne =>
    intro p hp
    simp only [List.mem_cons, List.not_mem_nil, or_false] at hp
    rcases hp with rfl | rfl | rfl | rfl
    · exact ⟨_, _, Kept.refl _ _, rfl⟩
    · exact ⟨_, _, Kept.refl _ _, rfl⟩
    · exact ⟨_, _, Kept.refl _ _, rfl⟩
    · exact ⟨_, _, Kept.refl _ _, rfl⟩
  simp only [List.take_succ_cons, List.take_zero, List.drop_succ_cons, List.drop_zero]
  intro G pick hR hp1 hp2
  have p0 : ∀ u, (pick u).cell? ⟨xb, 0, none⟩ = some (.bool a.six) := fun u => ((hp1 u).cell xlt (fun h => h) _).trans x0
  have p1 : ∀ u, (pick u).cell? ⟨xb, 1, none⟩ = some (.int .u64 (a.hi : Int)) := fun u => ((hp1 u).cell xlt (fun h => h) _).trans x1
  have p2 : ∀ u, (pick u).cell? ⟨xb, 2, none⟩ = some (.int .u64 (a.lo : Int)) := fun u => ((hp1 u).cell xlt (fun h => h) _).trans x2
  repeat (first | (refine wpR_det hp2 rfl ((hR.rel _).trans rfl) rfl ?_; intro K hK; go_big_quiet_op; go_big_quiet_on) | (refine wpR_ptr hp2 rfl ((hR.rel _).trans rfl) rfl rfl ?_; intro K hK; go_big_quiet_op; go_big_quiet_on) | (refine wpR_skip pick rfl ?_; intro K hK; go_big_quiet_op; go_big_quiet_on))
  refine wpR_rel pick rfl ((hR.rel _).trans rfl) ((hR.turns _).trans rfl) ?_ ?_
  · intro u hu
    have hk := hR.since hu.1
    have hks := hk.size
    unfold relAt
    go_simp
    refine (bits_any a u).mono ?_
    rintro e w' ⟨rfl, hb'⟩
    exact ⟨_, rfl, hR.intoB hb', hR.put 0 rfl rfl (by rw [HBB.out])⟩
  intro v hv
  obtain ⟨u, _, hu⟩ := hv
  obtain rfl := hR.get 0 rfl hu
  clear hu
  intro K hK
  go_big_quiet_op
  go_big_quiet_on
  repeat (first | (refine wpR_det hp2 rfl ((hR.rel _).trans rfl) rfl ?_; intro K hK; go_big_quiet_op; go_big_quiet_on) | (refine wpR_ptr hp2 rfl ((hR.rel _).trans rfl) rfl rfl ?_; intro K hK; go_big_quiet_op; go_big_quiet_on) | (refine wpR_skip pick rfl ?_; intro K hK; go_big_quiet_op; go_big_quiet_on))
  refine wpR_rel pick rfl ((hR.rel _).trans rfl) ((hR.turns _).trans rfl) ?_ ?_
  · intro u hu
    have hk := hR.since hu.1
    have hks := hk.size
    unfold relAt
    go_simp
    refine (refBits_any a u).mono ?_
    rintro e w' ⟨rfl, hb'⟩
    exact ⟨_, rfl, hR.intoB hb', hR.put 1 rfl rfl (by rw [HBB.out])⟩
  intro v hv
  obtain ⟨u, _, hu⟩ := hv
  obtain rfl := hR.get 1 rfl hu
  clear hu
  intro K hK
  go_big_quiet_op
  go_big_quiet_on
  repeat (first | (refine wpR_det hp2 rfl ((hR.rel _).trans rfl) rfl ?_; intro K hK; go_big_quiet_op; go_big_quiet_on) | (refine wpR_ptr hp2 rfl ((hR.rel _).trans rfl) rfl rfl ?_; intro K hK; go_big_quiet_op; go_big_quiet_on) | (refine wpR_skip pick rfl ?_; intro K hK; go_big_quiet_op; go_big_quiet_on))
  refine wpR_rel pick rfl ((hR.rel _).trans rfl) ((hR.turns _).trans rfl) ?_ ?_
  · intro u hu
    have hk := hR.since hu.1
    have hks := hk.size
    unfold relAt
    go_simp
    refine (prefRight_any a n u HW.out).mono ?_
    rintro e w' ⟨rfl, hb'⟩
    exact ⟨_, rfl, hR.intoB hb', hR.put 2 rfl rfl (by rw [HRB.out])⟩
  intro v hv
  obtain ⟨u, _, hu⟩ := hv
  obtain rfl := hR.get 2 rfl hu
  clear hu
  intro K hK
  go_big_quiet_op
  go_big_quiet_on
  repeat (first | (refine wpR_det hp2 rfl ((hR.rel _).trans rfl) rfl ?_; intro K hK; go_big_quiet_op; go_big_quiet_on) | (refine wpR_ptr hp2 rfl ((hR.rel _).trans rfl) rfl rfl ?_; intro K hK; go_big_quiet_op; go_big_quiet_on) | (refine wpR_skip pick rfl ?_; intro K hK; go_big_quiet_op; go_big_quiet_on))
  refine wpR_rel pick rfl ((hR.rel _).trans rfl) ((hR.turns _).trans rfl) ?_ ?_
  · intro u hu
    have hk := hR.since hu.1
    have hks := hk.size
    unfold relAt
    go_simp
    refine (refPRight_any a n u HW.out).mono ?_
    rintro e w' ⟨rfl, hb'⟩
    exact ⟨_, rfl, hR.intoB hb', hR.put 3 rfl rfl (by rw [HRB.out])⟩
  intro v hv
  obtain ⟨u, _, hu⟩ := hv
  obtain rfl := hR.get 3 rfl hu
  clear hu
  intro K hK
  go_big_quiet_op
  go_big_quiet_on
  repeat (first | (refine wpR_det hp2 rfl ((hR.rel _).trans rfl) rfl ?_; intro K hK; go_big_quiet_op; go_big_quiet_on) | (refine wpR_ptr hp2 rfl ((hR.rel _).trans rfl) rfl rfl ?_; intro K hK; go_big_quiet_op; go_big_quiet_on) | (refine wpR_skip pick rfl ?_; intro K hK; go_big_quiet_op; go_big_quiet_on))
  refine wpR_nil ?_
  intro w2 hk2 hF hM
  have HX2 := Lib.hid (HX1.out.kept hk2 (fun h => h))
  have HB2 := Lib.hid (HB1.out.trans (hk2.below (by omega) (fun i h => h.elim)))
  clear hF hM hk2 hp1 hp2 hR p0 p1 p2 x0 x1 x2 xlt HX1
  have x0 := HX2.out.cell 0
  have x1 := HX2.out.cell 1
  have x2 := HX2.out.cell 2
  simp at x0 x1 x2
  have xlt := HX2.out.lt
  have hs2 := HB2.out.size
  go_upto_region 3 with fail
  by_cases hr : a.right
  · have HRR := Lib.hid (show decide a.right = true from decide_eq_true hr)
    have HRA := Lib.hid hr
    obtain ⟨c, hc⟩ : ∃ c, a.cut n = c := ⟨_, rfl⟩
    have HCC := Lib.hid hc
    clear hr hc
    refine wp_region_kept 16 [(1, fun v u => v = .bool true), (6, fun v u => v = .agg #[.bool c.six, .int .u64 (c.hi : Int), .int .u64 (c.lo : Int)]), (9, fun v u => v = .agg #[.bool c.six, .int .u64 (c.hi : Int), .int .u64 (c.lo : Int)]), (13, fun v u => v = .bool true)] ?st ?ne rfl (by kernel_rfl) (by kernel_rfl) ?_
    case st =>
      intro p hp
      simp only [List.mem_cons, List.not_mem_nil, or_false] at hp
      rcases hp with rfl | rfl | rfl | rfl
      · intro v u u' h hk; exact h
      · intro v u u' h hk; exact h
      · intro v u u' h hk; exact h
      · intro v u u' h hk; exact h
    case ne =>
      intro p hp
      simp only [List.mem_cons, List.not_mem_nil, or_false] at hp
      rcases hp with rfl | rfl | rfl | rfl
      · exact ⟨_, _, Kept.refl _ _, rfl⟩
      · exact ⟨_, _, Kept.refl _ _, rfl⟩
      · exact ⟨_, _, Kept.refl _ _, rfl⟩
      · exact ⟨_, _, Kept.refl _ _, rfl⟩
    simp only [List.take_succ_cons, List.take_zero, List.drop_succ_cons, List.drop_zero]
    intro G pick hR hp1 hp2
    have p0 : ∀ u, (pick u).cell? ⟨xb, 0, none⟩ = some (.bool a.six) := fun u => ((hp1 u).cell xlt (fun h => h) _).trans x0
    have p1 : ∀ u, (pick u).cell? ⟨xb, 1, none⟩ = some (.int .u64 (a.hi : Int)) := fun u => ((hp1 u).cell xlt (fun h => h) _).trans x1
    have p2 : ∀ u, (pick u).cell? ⟨xb, 2, none⟩ = some (.int .u64 (a.lo : Int)) := fun u => ((hp1 u).cell xlt (fun h => h) _).trans x2
    repeat (first | (refine wpR_det hp2 rfl ((hR.rel _).trans rfl) rfl ?_; intro K hK; go_big_quiet_op; go_big_quiet_on) | (refine wpR_ptr hp2 rfl ((hR.rel _).trans rfl) rfl rfl ?_; intro K hK; go_big_quiet_op; go_big_quiet_on) | (refine wpR_skip pick rfl ?_; intro K hK; go_big_quiet_op; go_big_quiet_on))
    refine wpR_rel pick rfl ((hR.rel _).trans rfl) ((hR.turns _).trans rfl) ?_ ?_
    · intro u hu
      have hk := hR.since hu.1
      have hks := hk.size
      unfold relAt
      go_simp
      refine (refRight_any a u).mono ?_
      rintro e w' ⟨rfl, hb'⟩
      exact ⟨_, rfl, hR.intoB hb', hR.put 0 rfl rfl (by rw [HRR.out])⟩
    intro v hv
    obtain ⟨u, _, hu⟩ := hv
    obtain rfl := hR.get 0 rfl hu
    clear hu
    intro K hK
    go_big_quiet_op
    go_big_quiet_on
    repeat (first | (refine wpR_det hp2 rfl ((hR.rel _).trans rfl) rfl ?_; intro K hK; go_big_quiet_op; go_big_quiet_on) | (refine wpR_ptr hp2 rfl ((hR.rel _).trans rfl) rfl rfl ?_; intro K hK; go_big_quiet_op; go_big_quiet_on) | (refine wpR_skip pick rfl ?_; intro K hK; go_big_quiet_op; go_big_quiet_on))
    refine wpR_rel pick rfl ((hR.rel _).trans rfl) ((hR.turns _).trans rfl) ?_ ?_
    · intro u hu
      have hk := hR.since hu.1
      have hks := hk.size
      unfold relAt
      go_simp
      refine (cut_any a n u HW.out HRA.out).mono ?_
      rintro e w' ⟨rfl, hb'⟩
      exact ⟨_, rfl, hR.intoB hb', hR.put 1 rfl rfl (by rw [HCC.out])⟩
    intro v hv
    obtain ⟨u, _, hu⟩ := hv
    obtain rfl := hR.get 1 rfl hu
    clear hu
    intro K hK
    go_big_quiet_op
    go_big_quiet_on
    repeat (first | (refine wpR_det hp2 rfl ((hR.rel _).trans rfl) rfl ?_; intro K hK; go_big_quiet_op; go_big_quiet_on) | (refine wpR_ptr hp2 rfl ((hR.rel _).trans rfl) rfl rfl ?_; intro K hK; go_big_quiet_op; go_big_quiet_on) | (refine wpR_skip pick rfl ?_; intro K hK; go_big_quiet_op; go_big_quiet_on))
    refine wpR_rel pick rfl ((hR.rel _).trans rfl) ((hR.turns _).trans rfl) ?_ ?_
    · intro u hu
      have hk := hR.since hu.1
      have hks := hk.size
      unfold relAt
      go_simp
      refine (refCut_any a n u HW.out HRA.out).mono ?_
      rintro e w' ⟨rfl, hb'⟩
      exact ⟨_, rfl, hR.intoB hb', hR.put 2 rfl rfl (by rw [HCC.out])⟩
    intro v hv
    obtain ⟨u, _, hu⟩ := hv
    obtain rfl := hR.get 2 rfl hu
    clear hu
    intro K hK
    go_big_quiet_op
    go_big_quiet_on
    repeat (first | (refine wpR_det hp2 rfl ((hR.rel _).trans rfl) rfl ?_; intro K hK; go_big_quiet_op; go_big_quiet_on) | (refine wpR_ptr hp2 rfl ((hR.rel _).trans rfl) rfl rfl ?_; intro K hK; go_big_quiet_op; go_big_quiet_on) | (refine wpR_skip pick rfl ?_; intro K hK; go_big_quiet_op; go_big_quiet_on))
    refine wpR_rel pick rfl ((hR.rel _).trans rfl) ((hR.turns _).trans rfl) ?_ ?_
    · intro u hu
      have hk := hR.since hu.1
      have hks := hk.size
      unfold relAt
      go_simp
      refine (awake_any u).mono ?_
      rintro e w' ⟨rfl, hb'⟩
      exact ⟨_, rfl, hR.intoB hb', hR.put 3 rfl rfl rfl⟩
    intro v hv
    obtain ⟨u, _, hu⟩ := hv
    obtain rfl := hR.get 3 rfl hu
    clear hu
    intro K hK
    go_big_quiet_op
    go_big_quiet_on
    repeat (first | (refine wpR_det hp2 rfl ((hR.rel _).trans rfl) rfl ?_; intro K hK; go_big_quiet_op; go_big_quiet_on) | (refine wpR_ptr hp2 rfl ((hR.rel _).trans rfl) rfl rfl ?_; intro K hK; go_big_quiet_op; go_big_quiet_on) | (refine wpR_skip pick rfl ?_; intro K hK; go_big_quiet_op; go_big_quiet_on))
    refine wpR_nil ?_
    intro w3 hk2 hF hM
    have HB3 := Lib.hid (HB2.out.trans (hk2.below (by omega) (fun i h => h.elim)))
    clear hF hM hk2 hp1 hp2 hR p0 p1 p2 x0 x1 x2
    go_wp2_with fail
    go_ret
    exact ⟨rfl, HB3.out⟩
  · have HRR := Lib.hid (show decide a.right = false from decide_eq_false hr)
    clear hr
    refine wp_region_kept 16 [(1, fun v u => v = .bool false), (13, fun v u => v = .bool true)] ?st ?ne rfl (by kernel_rfl) (by kernel_rfl) ?_
    case st =>
      intro p hp
      simp only [List.mem_cons, List.not_mem_nil, or_false] at hp
      rcases hp with rfl | rfl
      · intro v u u' h hk; exact h
      · intro v u u' h hk; exact h
    case ne =>
      intro p hp
      simp only [List.mem_cons, List.not_mem_nil, or_false] at hp
      rcases hp with rfl | rfl
      · exact ⟨_, _, Kept.refl _ _, rfl⟩
      · exact ⟨_, _, Kept.refl _ _, rfl⟩
    simp only [List.take_succ_cons, List.take_zero, List.drop_succ_cons, List.drop_zero]
    intro G pick hR hp1 hp2
    have p0 : ∀ u, (pick u).cell? ⟨xb, 0, none⟩ = some (.bool a.six) := fun u => ((hp1 u).cell xlt (fun h => h) _).trans x0
    have p1 : ∀ u, (pick u).cell? ⟨xb, 1, none⟩ = some (.int .u64 (a.hi : Int)) := fun u => ((hp1 u).cell xlt (fun h => h) _).trans x1
    have p2 : ∀ u, (pick u).cell? ⟨xb, 2, none⟩ = some (.int .u64 (a.lo : Int)) := fun u => ((hp1 u).cell xlt (fun h => h) _).trans x2
    repeat (first | (refine wpR_det hp2 rfl ((hR.rel _).trans rfl) rfl ?_; intro K hK; go_big_quiet_op; go_big_quiet_on) | (refine wpR_ptr hp2 rfl ((hR.rel _).trans rfl) rfl rfl ?_; intro K hK; go_big_quiet_op; go_big_quiet_on) | (refine wpR_skip pick rfl ?_; intro K hK; go_big_quiet_op; go_big_quiet_on))
    refine wpR_rel pick rfl ((hR.rel _).trans rfl) ((hR.turns _).trans rfl) ?_ ?_
    · intro u hu
      have hk := hR.since hu.1
      have hks := hk.size
      unfold relAt
      go_simp
      refine (refRight_any a u).mono ?_
      rintro e w' ⟨rfl, hb'⟩
      exact ⟨_, rfl, hR.intoB hb', hR.put 0 rfl rfl (by rw [HRR.out])⟩
    intro v hv
    obtain ⟨u, _, hu⟩ := hv
    obtain rfl := hR.get 0 rfl hu
    clear hu
    intro K hK
    go_big_quiet_op
    go_big_quiet_on
    repeat (first | (refine wpR_det hp2 rfl ((hR.rel _).trans rfl) rfl ?_; intro K hK; go_big_quiet_op; go_big_quiet_on) | (refine wpR_ptr hp2 rfl ((hR.rel _).trans rfl) rfl rfl ?_; intro K hK; go_big_quiet_op; go_big_quiet_on) | (refine wpR_skip pick rfl ?_; intro K hK; go_big_quiet_op; go_big_quiet_on))
    refine wpR_rel pick rfl ((hR.rel _).trans rfl) ((hR.turns _).trans rfl) ?_ ?_
    · intro u hu
      have hk := hR.since hu.1
      have hks := hk.size
      unfold relAt
      go_simp
      refine (awake_any u).mono ?_
      rintro e w' ⟨rfl, hb'⟩
      exact ⟨_, rfl, hR.intoB hb', hR.put 1 rfl rfl rfl⟩
    intro v hv
    obtain ⟨u, _, hu⟩ := hv
    obtain rfl := hR.get 1 rfl hu
    clear hu
    intro K hK
    go_big_quiet_op
    go_big_quiet_on
    repeat (first | (refine wpR_det hp2 rfl ((hR.rel _).trans rfl) rfl ?_; intro K hK; go_big_quiet_op; go_big_quiet_on) | (refine wpR_ptr hp2 rfl ((hR.rel _).trans rfl) rfl rfl ?_; intro K hK; go_big_quiet_op; go_big_quiet_on) | (refine wpR_skip pick rfl ?_; intro K hK; go_big_quiet_op; go_big_quiet_on))
    refine wpR_nil ?_
    intro w3 hk2 hF hM
    have HB3 := Lib.hid (HB2.out.trans (hk2.below (by omega) (fun i h => h.elim)))
    clear hF hM hk2 hp1 hp2 hR p0 p1 p2 x0 x1 x2
    go_wp2_with fail
    go_ret
    exact ⟨rfl, HB3.out⟩
section
open Go.ChangeShapes Go.WideShapes Go.ChangeAt Go.Deep
structure AdO where
  six : Bool
  high : Int
  low : Int
def AdO.cs (a : AdO) : List Value := [.bool a.six, .int .u64 a.high, .int .u64 a.low]
theorem AdO.cs_len (a : AdO) : a.cs.length = 3 := rfl
def AdO.wf (a : AdO) (w : World) : Prop := (0 ≤ a.high ∧ a.high ≤ 18446744073709551615) ∧ (0 ≤ a.low ∧ a.low ≤ 18446744073709551615)
theorem trod_AdO {H : Type} {enc : TypeId × Value → H} {w : World} {base : Nat} {spare : Nat → Bool} {held : Bool} {fuel : Nat} {l : List Value} {x : DataW H × List MemPlace} (h : DataW.trod enc Try.prog w base spare held fuel 24 l = some x) (hl : l.length = 3) : ∃ a : AdO, l = a.cs ∧ a.wf w := by
  match l, hl with
  | [c0, c1, c2], _ =>
    obtain ⟨xs, n, -, -, -, hlen, hg⟩ := DataW.trod_struct Try.underlying24 h
    have hlk : xs.length = 3 := hlen
    have g0 : DataW.trod enc Try.prog w base spare held n 4 (([c0, c1, c2].drop 0).take (Try.prog.cellsOf 4)) = xs[0]? := hg 0 _ rfl
    rw [show Try.prog.cellsOf 4 = 1 by kernel_rfl, List.getElem?_eq_getElem (by omega)] at g0
    have g1 : DataW.trod enc Try.prog w base spare held n 22 (([c0, c1, c2].drop 1).take (Try.prog.cellsOf 22)) = xs[1]? := hg 1 _ rfl
    rw [show Try.prog.cellsOf 22 = 1 by kernel_rfl, List.getElem?_eq_getElem (by omega)] at g1
    have g2 : DataW.trod enc Try.prog w base spare held n 22 (([c0, c1, c2].drop 2).take (Try.prog.cellsOf 22)) = xs[2]? := hg 2 _ rfl
    rw [show Try.prog.cellsOf 22 = 1 by kernel_rfl, List.getElem?_eq_getElem (by omega)] at g2
    obtain ⟨a0, e0, -⟩ := DataW.trod_bool Try.underlying4 g0
    simp at e0
    subst e0
    obtain ⟨a1, e1, -, z1⟩ := DataW.trod_int Try.underlying22 g1
    simp [Lit.wf, IntKind.min, IntKind.max, IntKind.signed, IntKind.bits] at e1 z1
    subst e1
    obtain ⟨a2, e2, -, z2⟩ := DataW.trod_int Try.underlying22 g2
    simp [Lit.wf, IntKind.min, IntKind.max, IntKind.signed, IntKind.bits] at e2 z2
    subst e2
    exact ⟨⟨a0, a1, a2⟩, rfl, ⟨⟨by simpa using z1.1, by simpa using z1.2⟩, ⟨by simpa using z2.1, by simpa using z2.2⟩⟩⟩
theorem open_ad {H : Type} {enc : TypeId × Value → H} {w : World} {base : Nat} {spare : Nat → Bool} {held : Bool} {r : Reach} {b0 : Nat} {v : Value} {d : DataW H} {p : List MemPlace} (hv : Value.okWide Try.prog w r b0 24 v) (h : DataW.Trod enc Try.prog w base spare held 24 v d p) : ∃ a : Ad, v = .agg #[.bool a.six, .int .u64 (a.hi : Int), .int .u64 (a.lo : Int)] ∧ a.wf := by
  obtain ⟨cs, rfl, hsz⟩ := okWide_struct Try.underlying24 hv
  obtain ⟨l⟩ := cs
  obtain ⟨fuel, hf⟩ := h
  obtain ⟨a, rfl, ha⟩ := trod_AdO (l := l) hf (hsz.trans (by kernel_rfl))
  obtain ⟨⟨h1, h2⟩, h3, h4⟩ := ha
  refine ⟨⟨a.six, a.high.toNat, a.low.toNat⟩, ?_, by unfold Ad.wf; simp only; omega⟩
  simp [AdO.cs, Int.toNat_of_nonneg h1, Int.toNat_of_nonneg h3]
end
end Go.Proofs.Ytchgbdghllkcpaa
