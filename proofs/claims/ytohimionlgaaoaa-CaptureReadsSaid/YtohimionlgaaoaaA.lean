/- Files and packets, in plain words; turned, num and the reference's num. -/
import Derived.Test.YtohimionlgaaoaaSlClone
import Derived.Test.YtohimionlgaaoaaSlRev
import Derived.Test.YtohimionlgaaoaaSlCat
import Derived.Test.YtohimionlgaaoaaOctPut
import Derived.Test.YtohimionlgaaoaaRefBytes
import Derived.Test.YtohimionlgaaoaaRefJoin
import Derived.Test.YtohimionlgaaoaaOpenN
import Derived.Test.YtohimionlgaaoaaRgRow
namespace Go.Proofs.Ytohimionlgaaoaa
open Go.RowKit
set_option linter.unusedVariables false
/-- A number's bytes, as a file has them. -/
def numL (sm : Bool) (k : Nat) (n : Int) : List UInt8 := if sm then (digs k n).reverse else digs k n
theorem numL_len (sm : Bool) (k : Nat) (n : Int) : (numL sm k n).length = k := by unfold numL; split <;> simp [digs_length]
theorem Row.ownOf {w : World} {base : Nat} {v : Value} {l : List UInt8} (h : Row w base 5 v (bcs l)) (h0 : 0 < l.length) : ∃ g c, v = .slice (some ⟨g, 0, none⟩) l.length c ∧ Own w 5 g c l ∧ base ≤ g := by
  obtain ⟨g, c, hv, hb, hlt, -⟩ := h.at (i := 0) (by rw [bcs_length]; exact h0)
  rw [bcs_length] at hv
  subst hv
  obtain ⟨h1, -, h3⟩ := Row.own h
  exact ⟨g, c, rfl, h1, h3⟩
set_option maxHeartbeats 1000000 in
theorem turned_any (sm na : Bool) (mo li : Int) (A : Option Addr) (c : Nat) (l : List UInt8) (w : World) (h0 : 0 < l.length) (hl : l.length ≤ 1000000) (hB : BS w w.heap.size A l) :
    Calls Try.prog 31 #[.agg #[.bool sm, .bool na, .int .u32 mo, .int .u32 li], .slice A l.length c] w fun e w' => ∃ v, e = .returned v ∧ Byt w' v (if sm then l.reverse else l) ∧ Below w.heap.size w w' := by
  have HB := Lib.hid hB
  clear hB
  go_enter Try.func31, Try.ntmps31
  go_wp2_with fail
  obtain ⟨w1, hw1⟩ : ∃ w1 : World, w1 = w.alloc (.cells #[.bool sm, .bool na, .int .u32 mo, .int .u32 li] 29) := ⟨_, rfl⟩
  have HF := Lib.hid (show Blk w1 w.heap.size 29 #[.bool sm, .bool na, .int .u32 mo, .int .u32 li] by rw [hw1]; exact Blk.new _ _ _)
  have HW := Lib.hid (show Below w.heap.size w w1 by rw [hw1]; exact (Below.refl _ _).alloc (Nat.le_refl _) _)
  have hs1 : w.heap.size + 1 ≤ w1.heap.size := by rw [hw1]; simp
  rw [← hw1]
  clear hw1
  refine (slClone_any A c l w1 hl (HB.out.onB HW.out (Nat.le_refl _))).mono ?_
  rintro e w2 ⟨v, rfl, hrow, hb2⟩
  have hs2 := hb2.size
  obtain ⟨g, cp, rfl, hO, hg⟩ := hrow.ownOf h0
  have HO := Lib.hid hO
  have HW2 := Lib.hid (HW.out.trans (Kept.below (S := fun _ => False) (Kept.ofB hb2) (by omega) (fun i h => h.elim)))
  have HF2 := Lib.hid (HF.out.below hb2 HF.out.lt)
  have cF := HF2.out.cell
  have lF := HF2.out.lt
  clear hrow hb2 hO HF
  cases sm with
  | false =>
    go_wp2_with fail
    go_ret
    exact ⟨_, rfl, HO.out.byt, HW2.out⟩
  | true =>
    go_wp2_with fail
    refine (slRev_any g cp l w2 h0 hl HO.out).mono ?_
    rintro e w3 ⟨⟨x, rfl⟩, hO3, hk3⟩
    have HO3 := Lib.hid hO3
    have HW3 := Lib.hid (HW2.out.trans (hk3.below (by omega) (fun i h => by omega)))
    clear hO3 hk3
    go_wp2_with fail
    go_ret
    refine ⟨_, rfl, ?_, HW3.out⟩
    have := HO3.out.byt
    rw [List.length_reverse] at this
    exact this
theorem kept_of {w w1 w2 : World} (h1 : Below w.heap.size w w1) (h2 : Below w1.heap.size w1 w2) : Below w.heap.size w w2 := h1.trans (Kept.below (S := fun _ => False) (Kept.ofB h2) h1.size (fun i h => h.elim))
theorem keptK {w w1 w2 : World} (h1 : Below w.heap.size w w1) (h2 : Kept (fun _ => False) w1 w2) : Below w.heap.size w w2 := h1.trans (h2.below h1.size (fun i h => h.elim))
set_option maxHeartbeats 1000000 in
theorem num_any (sm na : Bool) (mo li : Int) (k : Nat) (n : Int) (w : World) (k0 : 0 < k) (k8 : k ≤ 8) (n0 : 0 ≤ n) (n1 : n < 18446744073709551616) :
    Calls Try.prog 22 #[.agg #[.bool sm, .bool na, .int .u32 mo, .int .u32 li], .int .u64 n, .int .i64 (k : Int)] w fun e w' => ∃ v, e = .returned v ∧ Byt w' v (numL sm k n) ∧ Below w.heap.size w w' := by
  go_enter Try.func22, Try.ntmps22
  go_upto_region 1 with fail
  obtain ⟨w1, hw1⟩ : ∃ w1 : World, w1 = w.alloc (.cells #[.bool sm, .bool na, .int .u32 mo, .int .u32 li] 29) := ⟨_, rfl⟩
  have HF := Lib.hid (show Blk w1 w.heap.size 29 #[.bool sm, .bool na, .int .u32 mo, .int .u32 li] by rw [hw1]; exact Blk.new _ _ _)
  have HW := Lib.hid (show Below w.heap.size w w1 by rw [hw1]; exact (Below.refl _ _).alloc (Nat.le_refl _) _)
  rw [← hw1]
  clear hw1
  obtain ⟨fb, hfb⟩ : ∃ fb, w.heap.size = fb := ⟨_, rfl⟩
  rw [hfb] at HF ⊢
  clear hfb
  have f0 := HF.out.cell 0
  have f1 := HF.out.cell 1
  have f2 := HF.out.cell 2
  have f3 := HF.out.cell 3
  simp at f0 f1 f2 f3
  have fl := HF.out.lt
  refine wp_region_kept 5 [(3, fun v u => Byt u v (digs k n)), (4, fun v u => Byt u v (numL sm k n))] ?st ?ne rfl (by kernel_rfl) (by kernel_rfl) ?_
  case st =>
    intro p hp
    simp only [List.mem_cons, List.not_mem_nil, or_false] at hp
    rcases hp with rfl | rfl
    · intro v u u' h hk; exact h.on0 hk
    · intro v u u' h hk; exact h.on0 hk
  case ne =>
    intro p hp
    simp only [List.mem_cons, List.not_mem_nil, or_false] at hp
    rcases hp with rfl | rfl
    · exact Byt.some _ _ (by rw [digs_length]; unfold maxLen; omega)
    · exact Byt.some _ _ (by rw [numL_len]; unfold maxLen; omega)
  simp only [List.take_succ_cons, List.take_zero, List.drop_succ_cons, List.drop_zero]
  intro G pick hR hp1 hp2
  have p0 : ∀ u, (pick u).cell? ⟨fb, 0, none⟩ = some (.bool sm) := fun u => ((hp1 u).cell fl (fun h => h) _).trans f0
  have p1 : ∀ u, (pick u).cell? ⟨fb, 1, none⟩ = some (.bool na) := fun u => ((hp1 u).cell fl (fun h => h) _).trans f1
  have p2 : ∀ u, (pick u).cell? ⟨fb, 2, none⟩ = some (.int .u32 mo) := fun u => ((hp1 u).cell fl (fun h => h) _).trans f2
  have p3 : ∀ u, (pick u).cell? ⟨fb, 3, none⟩ = some (.int .u32 li) := fun u => ((hp1 u).cell fl (fun h => h) _).trans f3
  repeat (first | (refine wpR_det hp2 rfl ((hR.rel _).trans rfl) rfl ?_; intro K hK; go_big_quiet_op; go_big_quiet_on) | (refine wpR_ptr hp2 rfl ((hR.rel _).trans rfl) rfl rfl ?_; intro K hK; go_big_quiet_op; go_big_quiet_on) | (refine wpR_skip pick rfl ?_; intro K hK; go_big_quiet_op; go_big_quiet_on))
  refine wpR_rel pick rfl ((hR.rel _).trans rfl) ((hR.turns _).trans rfl) ?_ ?_
  · intro u hu
    have hk := hR.since hu.1
    have hks := hk.size
    have hz := put_nil k n u n0 n1 k8
    unfold relAt
    go_simp
    refine hz.mono ?_
    rintro e w' ⟨rfl, hO, hb'⟩
    exact ⟨_, rfl, hR.intoB hb', hR.put 0 rfl rfl (by have := hO.byt; rw [digs_length] at this; exact this)⟩
  intro v hv
  obtain ⟨u, _, hu⟩ := hv
  obtain ⟨PA, pc, rfl, -, -, -⟩ := hR.get 0 rfl hu
  clear hu
  rw [digs_length]
  intro K hK
  go_big_quiet_op
  go_big_quiet_on
  repeat (first | (refine wpR_det hp2 rfl ((hR.rel _).trans rfl) rfl ?_; intro K hK; go_big_quiet_op; go_big_quiet_on) | (refine wpR_ptr hp2 rfl ((hR.rel _).trans rfl) rfl rfl ?_; intro K hK; go_big_quiet_op; go_big_quiet_on) | (refine wpR_skip pick rfl ?_; intro K hK; go_big_quiet_op; go_big_quiet_on))
  refine wpR_rel pick rfl ((hR.rel _).trans rfl) ((hR.turns _).trans rfl) ?_ ?_
  · intro u hu
    have hk := hR.since hu.1
    have hks := hk.size
    obtain ⟨A', c', e, -, -, hB⟩ := (hR.get 0 rfl (hu.2 _ _ (Got.upd_self _ _ _) (by kernel_rfl)))
    rw [digs_length] at e
    injection e with e1 e2 e3
    subst e1 e3
    have hz := turned_any sm na mo li PA pc (digs k n) u (by rw [digs_length]; exact k0) (by rw [digs_length]; omega) hB
    rw [digs_length] at hz
    clear hB
    unfold relAt
    go_simp
    refine hz.mono ?_
    rintro e w' ⟨v, rfl, hT, hb'⟩
    exact ⟨_, rfl, hR.intoB hb', hR.put 1 rfl rfl hT⟩
  intro v hv
  obtain ⟨u, _, hu⟩ := hv
  obtain hT := hR.get 1 rfl hu
  clear hu
  clear hT
  intro K hK
  go_big_quiet_op
  go_big_quiet_on
  repeat (first | (refine wpR_det hp2 rfl ((hR.rel _).trans rfl) rfl ?_; intro K hK; go_big_quiet_op; go_big_quiet_on) | (refine wpR_ptr hp2 rfl ((hR.rel _).trans rfl) rfl rfl ?_; intro K hK; go_big_quiet_op; go_big_quiet_on) | (refine wpR_skip pick rfl ?_; intro K hK; go_big_quiet_op; go_big_quiet_on))
  refine wpR_nil ?_
  intro w2 hk2 hF hM
  have HZ := Lib.hid ((hR.get 1 rfl (hF _ _ (Got.upd_self _ _ _))))
  have HWZ := Lib.hid (keptK HW.out hk2)
  clear hF hM hk2 hp1 hp2 hR p0 p1 p2 p3
  go_wp2_with fail
  go_ret
  exact ⟨_, rfl, HZ.out, HWZ.out⟩
theorem rev_snoc (l : List UInt8) (k : Nat) (h : k < l.length) : (l.drop k).reverse = (l.drop (k + 1)).reverse ++ [l[k]] := by
  rw [List.drop_eq_getElem_cons h, List.reverse_cons]
set_option maxHeartbeats 1000000 in
theorem refNum_any (sm na : Bool) (mo li : Int) (k : Nat) (n : Int) (w : World) (k0 : 0 < k) (k8 : k ≤ 8) (n0 : 0 ≤ n) (n1 : n < 4294967296) :
    Calls Try.prog 24 #[.agg #[.bool sm, .bool na, .int .u32 mo, .int .u32 li], .int .u32 n, .int .i64 (k : Int)] w fun e w' => ∃ v, e = .returned v ∧ Byt w' v (numL sm k n) ∧ Below w.heap.size w w' := by
  have h5 := Try.info5j
  go_enter Try.func24, Try.ntmps24
  go_wp2_with fail
  obtain ⟨w1, hw1⟩ : ∃ w1 : World, w1 = w.alloc (.cells #[.bool sm, .bool na, .int .u32 mo, .int .u32 li] 24) := ⟨_, rfl⟩
  have HF := Lib.hid (show Blk w1 w.heap.size 24 #[.bool sm, .bool na, .int .u32 mo, .int .u32 li] by rw [hw1]; exact Blk.new _ _ _)
  have HW := Lib.hid (show Below w.heap.size w w1 by rw [hw1]; exact (Below.refl _ _).alloc (Nat.le_refl _) _)
  have hs1 : w.heap.size + 1 ≤ w1.heap.size := by rw [hw1]; simp
  rw [← hw1]
  clear hw1
  refine (refBytes_any k n (k : Int) w1 n0 (by omega) (by omega)).mono ?_
  rintro e w2 ⟨rfl, hO, hb2⟩
  have hs2 := hb2.size
  have HO := Lib.hid hO
  have HW2 := Lib.hid (kept_of HW.out hb2)
  have HF2 := Lib.hid (HF.out.below hb2 HF.out.lt)
  have cF := HF2.out.cell
  have lF := HF2.out.lt
  obtain ⟨g, hg⟩ : ∃ g, w1.heap.size = g := ⟨_, rfl⟩
  rw [hg] at HO ⊢
  have hgl := HO.out.lt
  clear hb2 hO HF hg
  cases sm with
  | false =>
    go_wp2_with fail
    go_ret
    have := HO.out.byt
    rw [digs_length] at this
    exact ⟨_, rfl, this, HW2.out⟩
  | true =>
    go_wp2_with fail
    go_loopw [8, 9] (fun v i wr => ∃ j : Nat, j ≤ k ∧ i = .int .i64 ((j : Int) - 1) ∧ Hid (Row wr w2.heap.size 5 v (bcs ((digs k n).drop j).reverse)) ∧ Hid (Below w2.heap.size w2 wr)) (fun _ i _ => (intOf i + 1).toNat)
    case atStart => exact ⟨k, Nat.le_refl _, rfl, Lib.hid (by rw [List.drop_eq_nil_of_le (by rw [digs_length]; exact Nat.le_refl _)]; exact Row.nil _ _ _), Lib.hid (Below.refl _ _)⟩
    case round =>
      obtain ⟨j, hj, rfl, HR, HBW⟩ := hrel
      have hsw := HBW.out.size
      by_cases hj0 : 0 < j
      · obtain ⟨m, rfl⟩ : ∃ m, j = m + 1 := ⟨j - 1, by omega⟩
        have hml : m < (digs k n).length := by rw [digs_length]; omega
        have c1 := (HBW.out.cell (p := ⟨g, m, none⟩) hgl).trans (HO.out.cell hml)
        obtain ⟨x, hx⟩ : ∃ x, (digs k n)[m] = x := ⟨_, rfl⟩
        have HRS := Lib.hid (show ((digs k n).drop m).reverse = ((digs k n).drop (m + 1)).reverse ++ [x] by rw [rev_snoc _ m hml, hx])
        rw [hx] at c1
        have hx1 := byte_le x
        have hmI : ((m + 1 : Nat) : Int) - 1 = (m : Int) := by omega
        rw [hmI]
        have m0 : (0 : Int) ≤ (m : Int) := by omega
        have mk : (m : Int) < (k : Int) := by omega
        have glt : g < wr.heap.size := by omega
        have hll : (((digs k n).drop (m + 1)).reverse).length ≤ 8 := by simp [digs_length]; omega
        clear hx hmI
        obtain ⟨vA, vc, hve, _⟩ := HR.out.shape
        rw [bcs_length] at hve
        subst hve
        go_wp2_with (at_builtin; refine wpList_append_row rfl (.tmp 25) (.tmp 30) 25 rfl w2.heap.size 5 (.int .u8 0) 1 Try.underlying25 h5 rfl _ (bcs ((digs k n).drop (m + 1)).reverse) rfl (some ⟨wr.heap.size, 0, none⟩) 1 1 (bcs [x]) rfl rfl (HR.out.alloc _) ?a2 (bcs_one _) ?a3 ?a4 ?a5 ?_)
        case a2 => exact Src.new _ _ _ rfl
        case a3 => rw [bcs_length, bcs_length, List.length_reverse, List.length_drop, digs_length]; unfold maxLen; simp; omega
        case a4 => rw [bcs_length, bcs_length, List.length_reverse, List.length_drop, digs_length]; simp; omega
        case a5 => simp; omega
        intro v1 w4 hrow hgr _
        have HR1 := Lib.hid (show Row w4 w2.heap.size 5 v1 (bcs ((digs k n).drop m).reverse) by rw [HRS.out, bcs_append]; exact hrow)
        have HB1 := Lib.hid ((HBW.out.alloc hsw _).trans (below_grown hgr (fun i e => (HR.out.lt i (ownBlock_len e)).1) (by simp; omega)))
        clear hrow hgr
        go_wp2_with fail
        go_roundw
        case rel => exact ⟨m, by omega, rfl, HR1, HB1⟩
        case measure => simp [intOf]
      · obtain rfl : j = 0 := by omega
        have hneg : ¬ (0 : Int) ≤ ((0 : Nat) : Int) - 1 := by omega
        go_wp2_with fail
        go_ret
        have := HR.out.byt
        rw [List.drop_zero] at this
        exact ⟨_, rfl, this, kept_of HW2.out HBW.out⟩
end Go.Proofs.Ytohimionlgaaoaa
