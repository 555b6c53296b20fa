/- The integers of a file, read: long and the reference's of. -/
import Derived.Test.YtohimionlgaaoaaD
import Derived.Test.YtohimionlgaaoaaOctRead
import Derived.Test.YtohimionlgaaoaaRefNum
namespace Go.Proofs.Ytohimionlgaaoaa
open Go.RowKit
set_option linter.unusedVariables false
/-- The number of four bytes, as a file has them. -/
def ofL (sm : Bool) (x : List UInt8) : Int := num (if sm then x.reverse else x)
theorem ofL_range (sm : Bool) (x : List UInt8) (h : x.length = 4) : 0 ≤ ofL sm x ∧ ofL sm x ≤ 4294967295 := by
  unfold ofL
  have := num_range (if sm then x.reverse else x) 4 (by split <;> simp [h])
  rw [List.take_of_length_le (by split <;> simp [h])] at this
  exact ⟨this.1, by have := this.2; omega⟩
theorem rlong_any (rb : Nat) (l : List UInt8) (w : World) (hl : l.length = 4) (hR : Rd w rb l) :
    Calls Try.prog 35 #[.pointer (some ⟨rb, 0, none⟩)] w fun e w' => e = .returned (.int .u32 (num l)) ∧ Rd w' rb (l.drop 4) ∧ Kept (· = rb) w w' := by
  have H := Lib.hid (rdnum_any rb 4 l w (by omega) (by omega) (by omega) hR)
  rw [List.take_of_length_le (by omega)] at H
  have hr := num_range l 4 (by omega)
  rw [List.take_of_length_le (by omega)] at hr
  obtain ⟨n, hn⟩ : ∃ n, num l = n := ⟨_, rfl⟩
  rw [hn] at H hr ⊢
  clear hR hn
  go_enter Try.func35, Try.ntmps35
  go_wp2_with fail
  refine H.out.mono ?_
  rintro e w1 ⟨rfl, h1, h2⟩
  have H1 := Lib.hid h1
  have H2 := Lib.hid h2
  clear h1 h2
  have n0 := hr.1
  have n1 : n ≤ 4294967295 := by have := hr.2; omega
  go_wp2_with fail
  go_ret
  exact ⟨rfl, H1.out, H2.out⟩
set_option maxHeartbeats 4000000 in
theorem long_any (sm na : Bool) (mo li : Int) (A : Option Addr) (c at_ : Nat) (b : List UInt8) (w : World) (hl : b.length ≤ 1000000) (hc : b.length ≤ c) (hcm : c ≤ maxLen) (ha : at_ + 4 ≤ b.length) (hB : BS w w.heap.size A b) :
    Calls Try.prog 25 #[.agg #[.bool sm, .bool na, .int .u32 mo, .int .u32 li], .slice A b.length c, .int .i64 (at_ : Int)] w fun e w' => e = .returned (.int .u32 (ofL sm ((b.drop at_).take 4))) ∧ Below w.heap.size w w' := by
  obtain ⟨bb, o, hbb, rfl, hby⟩ := hB.at (k := 0) (by omega)
  have HB := Lib.hid hB
  have a0 : (0 : Int) ≤ (at_ : Int) := Int.natCast_nonneg _
  have a1 : (at_ : Int) ≤ 1000000 := by omega
  have a2 : at_ + 4 ≤ c := by omega
  have a3 : at_ < c := by omega
  have a4 : (at_ : Int) + 4 ≤ (c : Int) := by omega
  unfold maxLen at hcm
  obtain ⟨Y, hY⟩ : ∃ Y, (b.drop at_).take 4 = Y := ⟨_, rfl⟩
  have hYl : Y.length = 4 := by rw [← hY, List.length_take, List.length_drop]; omega
  rw [hY]
  obtain ⟨X, hX⟩ : ∃ X, (if sm then Y.reverse else Y) = X := ⟨_, rfl⟩
  have hXl : X.length = 4 := by rw [← hX]; split <;> simp [hYl]
  have HXL := Lib.hid hXl
  have HYL := Lib.hid hYl
  have HYX := Lib.hid hX
  have HY := Lib.hid hY
  have HY0 := Lib.hid (show 0 < Y.length by omega)
  have HYM := Lib.hid (show Y.length ≤ 1000000 by omega)
  rw [show ofL sm Y = num X by unfold ofL; rw [hX]]
  clear hby hB hX hY hXl hYl
  go_enter Try.func25, Try.ntmps25
  go_upto_region 1 with fail
  obtain ⟨w1, hw1⟩ : ∃ w1 : World, w1 = w.alloc (.cells #[.bool sm, .bool na, .int .u32 mo, .int .u32 li] 29) := ⟨_, rfl⟩
  have HF := Lib.hid (show Blk w1 w.heap.size 29 #[.bool sm, .bool na, .int .u32 mo, .int .u32 li] by rw [hw1]; exact Blk.new _ _ _)
  have HK1 := Lib.hid (show Kept (fun _ => False) w w1 by rw [hw1]; exact (Kept.refl _ _).alloc _)
  rw [← hw1]
  clear hw1
  obtain ⟨fb, hfb⟩ : ∃ fb, w.heap.size = fb := ⟨_, rfl⟩
  have HFB := Lib.hid hfb
  rw [hfb] at HF ⊢
  clear hfb
  have HNS := Lib.hid (show ¬ w1.heap.size ≤ fb by have := HF.out.lt; omega)
  obtain ⟨XA, hXA⟩ : ∃ XA : Option Addr, some ⟨bb, o + at_, none⟩ = XA := ⟨_, rfl⟩
  obtain ⟨xc, hxc⟩ : ∃ xc, c - at_ = xc := ⟨_, rfl⟩
  have HBY := Lib.hid (show BS w1 w1.heap.size XA Y by
    rw [← hXA, ← HY.out]
    exact ((HB.out.drop_ at_).take_ 4).on HK1.out (fun _ _ h => h))
  have HEX := Lib.hid (show ∃ v u, Kept (fun i => w1.heap.size ≤ i) w1 u ∧ ∃ rb, v = Value.pointer (some ⟨rb, 0, none⟩) ∧ w1.heap.size ≤ rb ∧ Rd u rb X from
    ⟨_, _, ((Kept.refl _ w1).alloc (.cells (bcs X).toArray 5)).alloc (.cells #[.slice (some ⟨w1.heap.size, 0, none⟩) X.length X.length, .bool false] 79), w1.heap.size + 1, rfl, by omega, some ⟨w1.heap.size, 0, none⟩, X.length, Blk.new_ (by simp) _ _, Nat.le_refl _, by rw [HXL.out]; decide, ((Own.of_blk (Blk.new w1 5 _) (by rw [HXL.out]; decide)).alloc _).bs, .inr (by intro a e; injection e with e; subst e; simp)⟩)
  refine wp_region_add 9 (fun i => w1.heap.size ≤ i) [6, 7, 8] [6, 7] [(6, fun v u => Byt u v X), (7, fun v u => ∃ rb, v = .pointer (some ⟨rb, 0, none⟩) ∧ w1.heap.size ≤ rb ∧ Rd u rb X), (8, fun v u => v = .int .u32 (num X))] ?st ?ne rfl (by kernel_rfl) (by kernel_rfl) (by kernel_rfl) ?_
  case st =>
    intro p hp
    simp only [List.mem_cons, List.not_mem_nil, or_false] at hp
    rcases hp with rfl | rfl | rfl
    · intro v u u' h hk; exact h.on0 hk
    · rintro v u u' ⟨rb, rfl, h1, h⟩ hk; exact ⟨rb, rfl, h1, h.on0 hk⟩
    · intro v u u' h hk; exact h
  case ne =>
    intro p hp
    simp only [List.mem_cons, List.not_mem_nil, or_false] at hp
    rcases hp with rfl | rfl | rfl
    · exact Byt.some _ _ (by rw [HXL.out]; decide)
    · exact HEX.out
    · exact ⟨_, _, Kept.refl _ _, rfl⟩
  simp only [List.take_succ_cons, List.take_zero, List.drop_succ_cons, List.drop_zero]
  intro G pick hR hp1 hp2
  have p0 : ∀ u, (pick u).cell? ⟨fb, 0, none⟩ = some (.bool sm) := fun u => ((hp1 u).cell HF.out.lt HNS.out _).trans (HF.out.cell 0)
  have p1 : ∀ u, (pick u).cell? ⟨fb, 1, none⟩ = some (.bool na) := fun u => ((hp1 u).cell HF.out.lt HNS.out _).trans (HF.out.cell 1)
  have p2 : ∀ u, (pick u).cell? ⟨fb, 2, none⟩ = some (.int .u32 mo) := fun u => ((hp1 u).cell HF.out.lt HNS.out _).trans (HF.out.cell 2)
  have p3 : ∀ u, (pick u).cell? ⟨fb, 3, none⟩ = some (.int .u32 li) := fun u => ((hp1 u).cell HF.out.lt HNS.out _).trans (HF.out.cell 3)
  repeat (first | (refine wpR_det hp2 rfl ((hR.rel _).trans rfl) rfl ?_; intro K hK; go_big_quiet_op; go_big_quiet_on) | (refine wpR_ptr hp2 rfl ((hR.rel _).trans rfl) rfl rfl ?_; intro K hK; go_big_quiet_op; go_big_quiet_on) | (refine wpR_skip pick rfl ?_; intro K hK; go_big_quiet_op; go_big_quiet_on))
  refine wpR_add pick rfl ((hR.rel _).trans rfl) ((hR.turns _).trans rfl) ((hR.adds _).trans rfl) ?_ ?_
  · intro u hu hM
    have hk := hR.since hu.1
    have hks := hk.size
    have hz := turned_any sm na mo li XA xc Y u HY0.out HYM.out (HBY.out.on (hR.first hM) (fun _ _ h => h))
    rw [HYX.out, HYL.out] at hz
    unfold relAt
    go_simp
    refine hz.mono ?_
    rintro e w' ⟨v, rfl, hT, hb'⟩
    exact ⟨_, rfl, hR.intoB hb', hR.put 0 rfl rfl hT⟩
  intro v hv
  obtain ⟨u, _, hu⟩ := hv
  obtain hT1 := hR.get 0 rfl hu
  clear hu
  obtain ⟨TA, tc, hte, -, -, -⟩ := hT1
  rw [HXL.out] at hte
  subst hte
  intro K hK
  go_big_quiet_op
  go_big_quiet_on
  repeat (first | (refine wpR_det hp2 rfl ((hR.rel _).trans rfl) rfl ?_; intro K hK; go_big_quiet_op; go_big_quiet_on) | (refine wpR_ptr hp2 rfl ((hR.rel _).trans rfl) rfl rfl ?_; intro K hK; go_big_quiet_op; go_big_quiet_on) | (refine wpR_skip pick rfl ?_; intro K hK; go_big_quiet_op; go_big_quiet_on))
  refine wpR_add pick rfl ((hR.rel _).trans rfl) ((hR.turns _).trans rfl) ((hR.adds _).trans rfl) ?_ ?_
  · intro u hu hM
    have hk := hR.since hu.1
    have hks := hk.size
    obtain ⟨A', c', e, h1, h2, hB⟩ := hR.get 0 rfl hM.2
    injection e with e1 e2 e3
    subst e1 e3
    clear e2
    have hz := read_any TA tc X u (by rw [HXL.out]; decide) hB
    rw [HXL.out] at hz
    unfold relAt
    go_simp
    refine hz.mono ?_
    rintro e w' ⟨rb, rfl, hrb, hT, hb'⟩
    exact ⟨_, rfl, hR.intoB hb', hR.put 1 rfl rfl ⟨rb, rfl, Nat.le_trans hks hrb, hT⟩⟩
  intro v hv
  obtain ⟨u, _, hu⟩ := hv
  obtain ⟨rb, rfl, hrb, -⟩ := hR.get 1 rfl hu
  clear hu
  intro K hK
  go_big_quiet_op
  go_big_quiet_on
  repeat (first | (refine wpR_det hp2 rfl ((hR.rel _).trans rfl) rfl ?_; intro K hK; go_big_quiet_op; go_big_quiet_on) | (refine wpR_ptr hp2 rfl ((hR.rel _).trans rfl) rfl rfl ?_; intro K hK; go_big_quiet_op; go_big_quiet_on) | (refine wpR_skip pick rfl ?_; intro K hK; go_big_quiet_op; go_big_quiet_on))
  refine wpR_turn pick rfl ((hR.rel _).trans rfl) ((hR.turns _).trans rfl) ((hR.adds _).trans rfl) ?_ ?_
  · intro u hu hM
    have hk := hR.since hu.1
    have hks := hk.size
    obtain ⟨rb', e, hge, hRd⟩ := hR.get 1 rfl hM.2
    obtain rfl : rb = rb' := by injection e with e; injection e with e; injection e
    have hz := rlong_any rb X u HXL.out hRd
    unfold relAt
    go_simp
    refine hz.mono ?_
    rintro e w' ⟨rfl, hT, hk'⟩
    exact ⟨_, rfl, hR.into (hk'.mono (fun i _ e => by subst e; exact hge)), hR.put 2 rfl rfl rfl⟩
  intro v hv
  obtain ⟨u, _, hu⟩ := hv
  obtain rfl := hR.get 2 rfl hu
  clear hu
  intro K hK
  go_big_quiet_op
  go_big_quiet_on
  repeat (first | (refine wpR_det hp2 rfl ((hR.rel _).trans rfl) rfl ?_; intro K hK; go_big_quiet_op; go_big_quiet_on) | (refine wpR_ptr hp2 rfl ((hR.rel _).trans rfl) rfl rfl ?_; intro K hK; go_big_quiet_op; go_big_quiet_on) | (refine wpR_skip pick rfl ?_; intro K hK; go_big_quiet_op; go_big_quiet_on))
  refine wpR_nil ?_
  intro w2 hk2 hF hM
  have HW2 := Lib.hid (show Below w.heap.size w w2 from (HK1.out.below (Nat.le_refl _) (fun i h => h.elim)).trans (hk2.below HK1.out.size (fun i h => Nat.le_trans HK1.out.size h)))
  clear hF hM hk2 hp1 hp2 hR
  go_wp2_with fail
  go_ret
  exact ⟨rfl, HW2.out⟩
theorem four_of {x : List UInt8} (h : x.length = 4) : ∃ a b c d, x = [a, b, c, d] := by
  match x, h with
  | [a, b, c, d], _ => exact ⟨a, b, c, d, rfl⟩
set_option maxHeartbeats 4000000 in
theorem of_any (sm na : Bool) (mo li : Int) (A : Option Addr) (c at_ : Nat) (b : List UInt8) (w : World) (hl : b.length ≤ 1000000) (hc : b.length ≤ c) (hcm : c ≤ maxLen) (ha : at_ + 4 ≤ b.length) (hB : BS w w.heap.size A b) :
    Calls Try.prog 28 #[.agg #[.bool sm, .bool na, .int .u32 mo, .int .u32 li], .slice A b.length c, .int .i64 (at_ : Int)] w fun e w' => e = .returned (.int .u32 (ofL sm ((b.drop at_).take 4))) ∧ Below w.heap.size w w' := by
  obtain ⟨bb, o, hbb, rfl, hby⟩ := hB.at (k := 0) (by omega)
  have HB := Lib.hid hB
  have a0 : (0 : Int) ≤ (at_ : Int) := Int.natCast_nonneg _
  have a1 : (at_ : Int) ≤ 1000000 := by omega
  have a2 : at_ + 4 ≤ c := by omega
  have a3 : at_ < c := by omega
  have a4 : (at_ : Int) + 4 ≤ (c : Int) := by omega
  unfold maxLen at hcm
  obtain ⟨Y, hY⟩ : ∃ Y, (b.drop at_).take 4 = Y := ⟨_, rfl⟩
  have hYl : Y.length = 4 := by rw [← hY, List.length_take, List.length_drop]; omega
  have hYb := (hby.drop at_).take 4
  rw [hY] at hYb ⊢
  obtain ⟨x0, x1, x2, x3, rfl⟩ := four_of hYl
  have HYB := Lib.hid hYb
  have HRG := Lib.hid (ofL_range sm [x0, x1, x2, x3] rfl)
  clear hby hB hY hYl hYb
  go_enter Try.func28, Try.ntmps28
  go_upto_region 1 with fail
  obtain ⟨w1, hw1⟩ : ∃ w1 : World, w1 = w.alloc (.cells #[.bool sm, .bool na, .int .u32 mo, .int .u32 li] 24) := ⟨_, rfl⟩
  have HF := Lib.hid (show Blk w1 w.heap.size 24 #[.bool sm, .bool na, .int .u32 mo, .int .u32 li] by rw [hw1]; exact Blk.new _ _ _)
  have HK1 := Lib.hid (show Kept (fun _ => False) w w1 by rw [hw1]; exact (Kept.refl _ _).alloc _)
  rw [← hw1]
  clear hw1
  obtain ⟨fb, hfb⟩ : ∃ fb, w.heap.size = fb := ⟨_, rfl⟩
  have HFB := Lib.hid hfb
  rw [hfb] at HF ⊢
  clear hfb
  have lb : bb < w1.heap.size := Nat.lt_of_lt_of_le hbb HK1.out.size
  have HY1 := Lib.hid (HYB.out.kept HK1.out hbb (fun h => h))
  have cf := HF.out.cell
  have lf := HF.out.lt
  cases sm with
  | true =>
    have c0 : w1.cell? ⟨bb, o + at_, none⟩ = some (.int .u8 (x0.toNat : Int)) := HY1.out 0 (by simp)
    have c1 : w1.cell? ⟨bb, o + at_ + 1, none⟩ = some (.int .u8 (x1.toNat : Int)) := HY1.out 1 (by simp)
    have c2 : w1.cell? ⟨bb, o + at_ + 2, none⟩ = some (.int .u8 (x2.toNat : Int)) := HY1.out 2 (by simp)
    have c3 : w1.cell? ⟨bb, o + at_ + 3, none⟩ = some (.int .u8 (x3.toNat : Int)) := HY1.out 3 (by simp)
    go_upto_region 3 with fail
    refine wp_region_kept 13 [(12, fun v u => Byt u v [x3, x2, x1, x0])] ?st ?ne rfl (by kernel_rfl) (by kernel_rfl) ?_
    case st =>
      intro p hp
      simp only [List.mem_cons, List.not_mem_nil, or_false] at hp
      subst hp
      · intro v u u' h hk; exact h.on0 hk
    case ne =>
      intro p hp
      simp only [List.mem_cons, List.not_mem_nil, or_false] at hp
      subst hp
      · exact Byt.some _ _ (by simp; unfold maxLen; omega)
    simp only [List.take_succ_cons, List.take_zero, List.drop_succ_cons, List.drop_zero]
    intro G pick hR hp1 hp2
    have r0 : ∀ u, (pick u).cell? ⟨bb, o + at_, none⟩ = some (.int .u8 (x0.toNat : Int)) := fun u => ((hp1 u).cell lb (fun h => h) _).trans c0
    have r1 : ∀ u, (pick u).cell? ⟨bb, o + at_ + 1, none⟩ = some (.int .u8 (x1.toNat : Int)) := fun u => ((hp1 u).cell lb (fun h => h) _).trans c1
    have r2 : ∀ u, (pick u).cell? ⟨bb, o + at_ + 2, none⟩ = some (.int .u8 (x2.toNat : Int)) := fun u => ((hp1 u).cell lb (fun h => h) _).trans c2
    have r3 : ∀ u, (pick u).cell? ⟨bb, o + at_ + 3, none⟩ = some (.int .u8 (x3.toNat : Int)) := fun u => ((hp1 u).cell lb (fun h => h) _).trans c3
    repeat (first | (refine wpR_det hp2 rfl ((hR.rel _).trans rfl) rfl ?_; intro K hK; go_big_quiet_op; go_big_quiet_on) | (refine wpR_ptr hp2 rfl ((hR.rel _).trans rfl) rfl rfl ?_; intro K hK; go_big_quiet_op; go_big_quiet_on) | (refine wpR_skip pick rfl ?_; intro K hK; go_big_quiet_op; go_big_quiet_on))
    refine wpR_rel pick rfl ((hR.rel _).trans rfl) ((hR.turns _).trans rfl) ?_ ?_
    · intro u hu
      have hk := hR.since hu.1
      have hks := hk.size
      unfold relAt
      go_simp
      exact ⟨hR.into0 ((Kept.refl _ _).alloc _), hR.put 0 rfl rfl (Own.of_blk (l := [x3, x2, x1, x0]) (Blk.new _ 5 _) (by simp; unfold maxLen; omega)).byt⟩
    intro v hv
    obtain ⟨u, _, hu⟩ := hv
    obtain ⟨TA, tc, rfl, -, -, -⟩ := hR.get 0 rfl hu
    clear hu
    intro K hK
    go_big_quiet_op
    go_big_quiet_on
    repeat (first | (refine wpR_det hp2 rfl ((hR.rel _).trans rfl) rfl ?_; intro K hK; go_big_quiet_op; go_big_quiet_on) | (refine wpR_ptr hp2 rfl ((hR.rel _).trans rfl) rfl rfl ?_; intro K hK; go_big_quiet_op; go_big_quiet_on) | (refine wpR_skip pick rfl ?_; intro K hK; go_big_quiet_op; go_big_quiet_on))
    refine wpR_nil ?_
    intro w2 hk2 hF hM
    have hT := (hR.get 0 rfl (hF _ _ (Got.upd_self _ _ _)))
    obtain ⟨A', c', e, -, -, hbs⟩ := hT
    injection e with e1 e2 e3
    subst e1 e3
    have HBS := Lib.hid hbs
    have HK2 := Lib.hid (HK1.out.trans hk2)
    have HV := Lib.hid (show num [x3, x2, x1, x0] = ofL true [x0, x1, x2, x3] from rfl)
    clear hF hM hk2 hp1 hp2 hR e2 hbs
    go_wp2_with fail
    refine (r01num_any TA tc [x3, x2, x1, x0] w2 (by simp) HBS.out).mono ?_
    rintro e w3 ⟨rfl, rfl⟩
    rw [HV.out]
    obtain ⟨z, hz⟩ : ∃ z, ofL true [x0, x1, x2, x3] = z := ⟨_, rfl⟩
    rw [hz] at HRG ⊢
    have z0 := HRG.out.1
    have z1 := HRG.out.2
    have HZ9 := Lib.hid hz
    clear hz
    go_wp2_with fail
    go_ret
    exact ⟨congrArg (fun z => Ending.returned (.int .u32 z)) HZ9.out.symm, HK2.out.below (Nat.le_refl _) (fun i h => h.elim)⟩
  | false =>
    have hz := r01num_any (some ⟨bb, o + at_, none⟩) (c - at_) [x0, x1, x2, x3] w1 (by simp) (BS.of_at HY1.out lb)
    have HZ := Lib.hid hz
    have HV := Lib.hid (show num [x0, x1, x2, x3] = ofL false [x0, x1, x2, x3] from rfl)
    clear hz
    go_wp2_with fail
    refine HZ.out.mono ?_
    rintro e w3 ⟨rfl, rfl⟩
    rw [HV.out]
    obtain ⟨z, hz⟩ : ∃ z, ofL false [x0, x1, x2, x3] = z := ⟨_, rfl⟩
    rw [hz] at HRG ⊢
    have z0 := HRG.out.1
    have z1 := HRG.out.2
    have HZ9 := Lib.hid hz
    clear hz
    go_wp2_with fail
    go_ret
    exact ⟨congrArg (fun z => Ending.returned (.int .u32 z)) HZ9.out.symm, HK1.out.below (Nat.le_refl _) (fun i h => h.elim)⟩
end Go.Proofs.Ytohimionlgaaoaa
