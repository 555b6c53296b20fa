/- The law LeastPicks, walked. -/
import Derived.Test.YtikakdcjbnbacaaI
import Derived.Test.YtikakdcjbnbacaaLeastC
import Derived.Test.YtikakdcjbnbacaaCdOpenE
namespace Go.Proofs.Ytikakdcjbnbacaa
open Go.RowKit
set_option linter.unusedVariables false
theorem belK {w w1 w2 : World} (h : Below w.heap.size w w1) (hb : Below w1.heap.size w1 w2) : Below w.heap.size w w2 := h.trans (hb.mono h.size)
theorem keptK {w w1 w2 : World} (h1 : Below w.heap.size w w1) (h2 : Kept (fun _ => False) w1 w2) : Below w.heap.size w w2 := h1.trans (h2.below h1.size (fun i h => h.elim))
theorem rf_pw : ∀ (l : List Cd) (last : Int), rightFrom last l = true → l.Pairwise (fun a b => a.slot < b.slot)
  | [], _, _ => List.Pairwise.nil
  | c :: r, last, h => by
    rw [rightFrom, Bool.and_eq_true] at h
    exact List.pairwise_cons.2 ⟨fun d hd => (rf_mem h.2 d hd).1, rf_pw r c.slot h.2⟩
theorem rf_rise (l : List Cd) (h : rightFrom (-1) l = true) : Rising l := fun i j hj hij => List.pairwise_iff_getElem.1 (rf_pw l _ h) i j (by omega) hj hij
set_option maxRecDepth 100000 in
set_option maxHeartbeats 4000000 in
theorem picks_any (A : Option Addr) (c : Nat) (l : List Cd) (w : World) (hl : l.length ≤ maxLen) (hE : ES w w.heap.size A 4 (l.map Cd.cs)) :
    Calls Try.prog 3 #[.slice A l.length c] w fun e w' => e = .returned (.bool true) ∧ Below w.heap.size w w' := by
  have HE := Lib.hid hE
  have hinf := Try.infoCd
  unfold maxLen at hl
  clear hE
  go_enter Try.func3, Try.ntmps3
  go_wp2_with fail
  refine (awake_any w).mono ?_
  rintro e w1 ⟨rfl, hb1⟩
  have hs1 := hb1.size
  have HB1 := Lib.hid hb1
  clear hb1
  by_cases h70 : 70 < l.length
  · have h7I : (70 : Int) < (l.length : Int) := by omega
    go_wp2_with fail
    refine (awake_any _).mono ?_
    rintro e wz ⟨rfl, hbz⟩
    have HBZ := Lib.hid hbz
    clear hbz
    go_wp2_with fail
    go_ret
    exact ⟨rfl, belK HB1.out HBZ.out⟩
  have h7I : ¬ (70 : Int) < (l.length : Int) := by omega
  have hRT := refRight_c w1.heap.size A c l w1 (by omega) (es_cands (HE.out.onB HB1.out (Nat.le_refl _)))
  obtain ⟨b, hb⟩ : ∃ b, rightFrom (-1) l = b := ⟨_, rfl⟩
  rw [hb] at hRT
  have HRT := Lib.hid hRT
  have HBB := Lib.hid hb
  clear hRT hb
  go_wp2_with fail
  refine HRT.out.mono ?_
  rintro e wr ⟨rfl, rfl⟩
  clear HRT
  cases b with
  | false =>
    go_wp2_with fail
    refine (awake_any _).mono ?_
    rintro e wz ⟨rfl, hbz⟩
    have HBZ := Lib.hid hbz
    clear hbz
    go_wp2_with fail
    go_ret
    exact ⟨rfl, belK HB1.out HBZ.out⟩
  | true =>
    have HRI := Lib.hid (rf_rise l HBB.out)
    clear HBB
    go_wp2_with fail
    go_loopw [3, 4] (fun xv i wr => ∃ k : Nat, k ≤ l.length ∧ i = .int .i64 (k : Int) ∧ Hid (RowN wr w.heap.size 29 4 xv ((l.take k).map Cd.cs)) ∧ Hid (Below w.heap.size w wr)) (fun _ i _ => l.length - (intOf i).toNat)
    case atStart => exact ⟨0, by omega, rfl, Lib.hid (RowN.nil _ _ _ _), HB1⟩
    case round =>
      obtain ⟨k, hk, rfl, HR, HB⟩ := hrel
      have hsr := HB.out.size
      obtain ⟨XA, xc, hve, hxc, hxm⟩ := HR.out.shape
      rw [List.length_map, List.length_take, Nat.min_eq_left hk] at hve hxc
      subst hve
      by_cases hkl : k < l.length
      · have kI : (k : Int) < (l.length : Int) := by omega
        obtain ⟨b, o, hb, rfl, hel⟩ := HE.out.at (k := k) (by simpa using hkl)
        obtain ⟨c0, c1, c2, c3⟩ := cd_cells (hel.keep (w' := wr) (fun o => HB.out.cell (p := ⟨b, o, none⟩) hb)) hkl
        have HTK := Lib.hid (List.take_succ_eq_append_getElem hkl)
        obtain ⟨x, hx⟩ : ∃ x, l[k] = x := ⟨_, rfl⟩
        rw [hx] at c0 c1 c2 c3 HTK
        have blt : b < wr.heap.size := by omega
        have HSB := Lib.hid (show ¬ (Value.slice XA k xc).ownBlock = some b from fun e => by have := (HR.out.lt b e).1; omega)
        have HSL := Lib.hid (fun i (h : (Value.slice XA k xc).ownBlock = some i) => (show i < wr.heap.size from (HR.out.lt i h).2))
        have HEX := Lib.hid (show ∃ v u, Kept (fun i => (Value.slice XA k xc).ownBlock = some i) wr u ∧ RowN u w.heap.size 29 4 v ((l.take (k + 1)).map Cd.cs) from
          ⟨_, _, (Kept.refl _ _).alloc (.cells ((l.take (k + 1)).map Cd.cs).flatten.toArray 29), RowN.of_blk (n := k + 1) (Blk.new _ _ _) hsr (by unfold maxLen; omega) (sz_map Cd.cs_len _) (by simp) (by simp; omega)⟩)
        clear hel hx
        go_upto_region 9 with fail
        refine wp_region_add 24 (fun i => (Value.slice XA k xc).ownBlock = some i) [23] [] [(22, fun v u => ∃ g, v = .slice (some ⟨g, 0, none⟩) 1 1 ∧ wr.heap.size ≤ g ∧ Blk u g 29 #[.int .i64 x.slot, .int .i64 x.backend, .int .i64 x.weight, .int .u32 x.load]), (23, fun v u => RowN u w.heap.size 29 4 v ((l.take (k + 1)).map Cd.cs))] ?st ?ne rfl (by kernel_rfl) (by kernel_rfl) (by kernel_rfl) ?_
        case st =>
          intro p hp
          simp only [List.mem_cons, List.not_mem_nil, or_false] at hp
          rcases hp with rfl | rfl
          · rintro v u u' ⟨g, rfl, h1, h⟩ hk; exact ⟨g, rfl, h1, h.kept hk (fun e => by have := HSL.out _ e; omega)⟩
          · intro v u u' h hk; exact h.kept hk (fun _ _ h => h)
        case ne =>
          intro p hp
          simp only [List.mem_cons, List.not_mem_nil, or_false] at hp
          rcases hp with rfl | rfl
          · exact ⟨_, _, (Kept.refl _ _).alloc _, _, rfl, Nat.le_refl _, Blk.new _ _ _⟩
          · exact HEX.out
        simp only [List.take_succ_cons, List.take_zero, List.drop_succ_cons, List.drop_zero]
        intro G pick hR hp1 hp2
        have p0 : ∀ u, (pick u).cell? ⟨b, o + k * 4, none⟩ = some (.int .i64 x.slot) := fun u => ((hp1 u).cell blt HSB.out _).trans c0
        have p1 : ∀ u, (pick u).cell? ⟨b, o + k * 4 + 1, none⟩ = some (.int .i64 x.backend) := fun u => ((hp1 u).cell blt HSB.out _).trans c1
        have p2 : ∀ u, (pick u).cell? ⟨b, o + k * 4 + 2, none⟩ = some (.int .i64 x.weight) := fun u => ((hp1 u).cell blt HSB.out _).trans c2
        have p3 : ∀ u, (pick u).cell? ⟨b, o + k * 4 + 3, none⟩ = some (.int .u32 x.load) := fun u => ((hp1 u).cell blt HSB.out _).trans c3
        repeat (first | (refine wpR_det hp2 rfl ((hR.rel _).trans rfl) rfl ?_; intro K hK; go_big_quiet_op; go_big_quiet_on) | (refine wpR_ptr hp2 rfl ((hR.rel _).trans rfl) rfl rfl ?_; intro K hK; go_big_quiet_op; go_big_quiet_on) | (refine wpR_skip pick rfl ?_; intro K hK; go_big_quiet_op; go_big_quiet_on))
        refine wpR_rel pick rfl ((hR.rel _).trans rfl) ((hR.turns _).trans rfl) ?_ ?_
        · intro u hu
          have hk := hR.since hu.1
          have hks := hk.size
          unfold relAt
          go_simp
          exact ⟨hR.into0 ((Kept.refl _ _).alloc _), hR.put 0 rfl rfl ⟨_, rfl, hks, Blk.new _ _ _⟩⟩
        intro v hv
        obtain ⟨u, _, hu⟩ := hv
        obtain ⟨g5, rfl, hg5, -⟩ := hR.get 0 rfl hu
        clear hu
        intro K hK
        go_big_quiet_op
        go_big_quiet_on
        repeat (first | (refine wpR_det hp2 rfl ((hR.rel _).trans rfl) rfl ?_; intro K hK; go_big_quiet_op; go_big_quiet_on) | (refine wpR_ptr hp2 rfl ((hR.rel _).trans rfl) rfl rfl ?_; intro K hK; go_big_quiet_op; go_big_quiet_on) | (refine wpR_skip pick rfl ?_; intro K hK; go_big_quiet_op; go_big_quiet_on))
        refine wpR_turn pick rfl ((hR.rel _).trans rfl) ((hR.turns _).trans rfl) ((hR.adds _).trans rfl) ?_ ?_
        · intro u hu hM
          have hk := hR.since hu.1
          have hks := hk.size
          obtain ⟨g', e, -, hB6⟩ := (hR.get 0 rfl (hu.2 _ _ (Got.upd_self _ _ _) (by kernel_rfl)))
          obtain rfl : g5 = g' := by injection e with e; injection e with e; injection e
          have hK0 := hR.first hM
          have hR0 := HR.out.kept hK0 (fun _ _ h => h)
          refine relAt_append_rowN (.tmp 25) (.tmp 47) 25 rfl w.heap.size 29 (.agg #[.int .i64 0, .int .i64 0, .int .i64 0, .int .u32 0]) 4 32 Try.underlying25 hinf rfl (by omega) _ ((l.take k).map Cd.cs) rfl (some ⟨g5, 0, none⟩) 1 1 [Cd.cs x] rfl rfl hR0 (fun y hy => by simp at hy; subst hy; rfl) (Src.blk hB6 rfl) (cd_one x) ?_ ?_ ?_ ?_
          · simp; unfold maxLen; omega
          · simp; omega
          · omega
          · intro v' w' h1 h2 h3
            exact ⟨hR.into (kept_grown h2 (fun i e _ => e)), hR.put 1 rfl rfl (by rw [HTK.out, List.map_append]; exact h1)⟩
        intro v hv
        obtain ⟨u, _, hu⟩ := hv
        obtain hT6 := hR.get 1 rfl hu
        clear hu
        obtain ⟨VA, vc, hve, -, -⟩ := hT6.shape
        rw [List.length_map, List.length_take, Nat.min_eq_left (by omega)] at hve
        subst hve
        clear hT6
        intro K hK
        go_big_quiet_op
        go_big_quiet_on
        repeat (first | (refine wpR_det hp2 rfl ((hR.rel _).trans rfl) rfl ?_; intro K hK; go_big_quiet_op; go_big_quiet_on) | (refine wpR_ptr hp2 rfl ((hR.rel _).trans rfl) rfl rfl ?_; intro K hK; go_big_quiet_op; go_big_quiet_on) | (refine wpR_skip pick rfl ?_; intro K hK; go_big_quiet_op; go_big_quiet_on))
        refine wpR_nil ?_
        intro w2 hk2 hF hM
        have HR2 := Lib.hid (hR.get 1 rfl hM)
        have HB2 := Lib.hid (HB.out.trans (hk2.below hsr (fun i h => (HR.out.lt i h).1)))
        clear hF hM hk2 hp1 hp2 hR p0 p1 p2 p3 c0 c1 c2 c3 HEX
        go_wp2_with fail
        go_roundw
        case rel => exact ⟨k + 1, by omega, by go_num, HR2, HB2⟩
        case measure => simp [intOf]; omega
      · obtain rfl : k = l.length := by omega
        have hkI : ¬ (l.length : Int) < (l.length : Int) := by omega
        rw [List.take_length] at HR
        by_cases h0 : l.length = 0
        · obtain rfl : l = [] := List.eq_nil_of_length_eq_zero h0
          clear h0
          go_wp2_with fail
          refine (lpick_nil _ _ _).mono ?_
          rintro e w5 ⟨rfl, hb5⟩
          have HB5 := Lib.hid (belK HB.out hb5)
          have hs5 := HB5.out.size
          clear hb5
          go_wp2_with fail
          refine (refLp_nil _ _ _).mono ?_
          rintro e w6 ⟨rfl, rfl⟩
          go_upto_region 12 with fail
          obtain ⟨w7, hw7⟩ : ∃ w7 : World, w7 = w5.alloc (.cells #[.int .i64 0, .int .i64 0, .int .i64 0, .int .u32 0] 29) := ⟨_, rfl⟩
          have HX7 := Lib.hid (show Blk w7 w5.heap.size 29 #[.int .i64 0, .int .i64 0, .int .i64 0, .int .u32 0] by rw [hw7]; exact Blk.new _ _ _)
          have HB7 := Lib.hid (show Below w.heap.size w w7 by rw [hw7]; exact HB5.out.alloc hs5 _)
          rw [← hw7]
          clear hw7
          have x0 := HX7.out.cell 0
          have x1 := HX7.out.cell 1
          have x2 := HX7.out.cell 2
          have x3 := HX7.out.cell 3
          simp at x0 x1 x2 x3
          have xlt := HX7.out.lt
          refine wp_region_kept 27 [(25, fun v u => v = .bool true)] ?st ?ne rfl (by kernel_rfl) (by kernel_rfl) ?_
          case st =>
            intro p hp
            simp only [List.mem_cons, List.not_mem_nil, or_false] at hp
            subst hp
            · intro v u u' h hk; exact h
          case ne =>
            intro p hp
            simp only [List.mem_cons, List.not_mem_nil, or_false] at hp
            subst hp
            · exact ⟨_, _, Kept.refl _ _, rfl⟩
          simp only [List.take_succ_cons, List.take_zero, List.drop_succ_cons, List.drop_zero]
          intro G pick hR hp1 hp2
          have q0 : ∀ u, (pick u).cell? ⟨w5.heap.size, 0, none⟩ = some (.int .i64 0) := fun u => ((hp1 u).cell xlt (fun h => h) _).trans x0
          have q1 : ∀ u, (pick u).cell? ⟨w5.heap.size, 1, none⟩ = some (.int .i64 0) := fun u => ((hp1 u).cell xlt (fun h => h) _).trans x1
          have q2 : ∀ u, (pick u).cell? ⟨w5.heap.size, 2, none⟩ = some (.int .i64 0) := fun u => ((hp1 u).cell xlt (fun h => h) _).trans x2
          have q3 : ∀ u, (pick u).cell? ⟨w5.heap.size, 3, none⟩ = some (.int .u32 0) := fun u => ((hp1 u).cell xlt (fun h => h) _).trans x3
          repeat (first | (refine wpR_det hp2 rfl ((hR.rel _).trans rfl) rfl ?_; intro K hK; go_big_quiet_op; go_big_quiet_on) | (refine wpR_ptr hp2 rfl ((hR.rel _).trans rfl) rfl rfl ?_; intro K hK; go_big_quiet_op; go_big_quiet_on) | (refine wpR_skip pick rfl ?_; intro K hK; go_big_quiet_op; go_big_quiet_on))
          refine wpR_rel pick rfl ((hR.rel _).trans rfl) ((hR.turns _).trans rfl) ?_ ?_
          · intro u hu
            have hk := hR.since hu.1
            have hks := hk.size
            unfold relAt
            go_simp
            refine (awake_any u).mono ?_
            rintro e w' ⟨rfl, hb'⟩
            exact ⟨_, rfl, hR.intoB hb', hR.put 0 rfl rfl rfl⟩
          intro v hv
          obtain ⟨u, _, hu⟩ := hv
          obtain rfl := hR.get 0 rfl hu
          clear hu
          intro K hK
          go_big_quiet_op
          go_big_quiet_on
          repeat (first | (refine wpR_det hp2 rfl ((hR.rel _).trans rfl) rfl ?_; intro K hK; go_big_quiet_op; go_big_quiet_on) | (refine wpR_ptr hp2 rfl ((hR.rel _).trans rfl) rfl rfl ?_; intro K hK; go_big_quiet_op; go_big_quiet_on) | (refine wpR_skip pick rfl ?_; intro K hK; go_big_quiet_op; go_big_quiet_on))
          refine wpR_nil ?_
          intro w8 hk2 hF hM
          have HB8 := Lib.hid (keptK HB7.out hk2)
          clear hF hM hk2 hp1 hp2 hR q0 q1 q2 q3 x0 x1 x2 x3
          go_wp2_with fail
          go_ret
          exact ⟨rfl, HB8.out⟩
        · have HPK := Lib.hid (lpick_any XA xc l wr (by omega) (by omega) hxc hxm HRI.out (by
            obtain ⟨A', c', hv, -, -, he⟩ := HR.out.es; injection hv with e1 e2 e3; rw [e1]; exact he))
          go_wp2_with fail
          refine HPK.out.mono ?_
          rintro e w5 ⟨x, hx, rfl, hb5⟩
          obtain ⟨j, hj⟩ : ∃ j, lbTo l l.length = j := ⟨_, rfl⟩
          rw [hj] at hx
          have HJ := Lib.hid hj
          have HX := Lib.hid hx
          obtain ⟨hjl, hxe⟩ := List.getElem?_eq_some_iff.1 hx
          have HXE := Lib.hid hxe
          have HR5 := Lib.hid (HR.out.belowAll hb5)
          have HB5 := Lib.hid (belK HB.out hb5)
          have hs5 := HB5.out.size
          clear hb5 hj hx hxe HPK
          have hRL := fun u (hu : Below w.heap.size w u) => refLp_any A c l u (by omega) (by omega) (HE.out.onB hu (Nat.le_refl _))
          rw [HJ.out] at hRL
          have HRL := Lib.hid hRL
          clear hRL
          go_wp2_with fail
          refine (HRL.out _ (HB5.out.alloc hs5 _)).mono ?_
          rintro e w6 ⟨rfl, hb6⟩
          have HX6 := Lib.hid (show Blk w6 w5.heap.size 29 #[.int .i64 x.slot, .int .i64 x.backend, .int .i64 x.weight, .int .u32 x.load] from (Blk.new _ _ _).below hb6 (by simp))
          have HR6 := Lib.hid ((HR5.out.alloc _).belowAll hb6)
          have HB6 := Lib.hid (belK (HB5.out.alloc hs5 _) hb6)
          obtain ⟨xb, hxb⟩ : ∃ xb, w5.heap.size = xb := ⟨_, rfl⟩
          rw [hxb] at HX6 ⊢
          clear hb6 HRL hxb
          obtain ⟨g, c', hv, -, glt, hel⟩ := HR6.out.at (i := j) (by simpa using hjl)
          injection hv with e1 e2 e3
          subst e1
          obtain ⟨c0, c1, c2, c3⟩ := cd_cells hel hjl
          rw [HXE.out] at c0 c1 c2 c3
          simp only [Nat.zero_add] at c0 c1 c2 c3
          have x0 := HX6.out.cell 0
          have x1 := HX6.out.cell 1
          have x2 := HX6.out.cell 2
          have x3 := HX6.out.cell 3
          simp at x0 x1 x2 x3
          have xlt := HX6.out.lt
          have jI : (j : Int) < (l.length : Int) := by omega
          have j0 : (0 : Int) ≤ (j : Int) := by omega
          clear hel e2 e3
          go_upto_region 12 with fail
          refine wp_region_kept 27 [(25, fun v u => v = .bool true)] ?st ?ne rfl (by kernel_rfl) (by kernel_rfl) ?_
          case st =>
            intro p hp
            simp only [List.mem_cons, List.not_mem_nil, or_false] at hp
            subst hp
            · intro v u u' h hk; exact h
          case ne =>
            intro p hp
            simp only [List.mem_cons, List.not_mem_nil, or_false] at hp
            subst hp
            · exact ⟨_, _, Kept.refl _ _, rfl⟩
          simp only [List.take_succ_cons, List.take_zero, List.drop_succ_cons, List.drop_zero]
          intro G pick hR hp1 hp2
          have q0 : ∀ u, (pick u).cell? ⟨xb, 0, none⟩ = some (.int .i64 x.slot) := fun u => ((hp1 u).cell xlt (fun h => h) _).trans x0
          have q1 : ∀ u, (pick u).cell? ⟨xb, 1, none⟩ = some (.int .i64 x.backend) := fun u => ((hp1 u).cell xlt (fun h => h) _).trans x1
          have q2 : ∀ u, (pick u).cell? ⟨xb, 2, none⟩ = some (.int .i64 x.weight) := fun u => ((hp1 u).cell xlt (fun h => h) _).trans x2
          have q3 : ∀ u, (pick u).cell? ⟨xb, 3, none⟩ = some (.int .u32 x.load) := fun u => ((hp1 u).cell xlt (fun h => h) _).trans x3
          have p0 : ∀ u, (pick u).cell? ⟨g, j * 4, none⟩ = some (.int .i64 x.slot) := fun u => ((hp1 u).cell glt (fun h => h) _).trans c0
          have p1 : ∀ u, (pick u).cell? ⟨g, j * 4 + 1, none⟩ = some (.int .i64 x.backend) := fun u => ((hp1 u).cell glt (fun h => h) _).trans c1
          have p2 : ∀ u, (pick u).cell? ⟨g, j * 4 + 2, none⟩ = some (.int .i64 x.weight) := fun u => ((hp1 u).cell glt (fun h => h) _).trans c2
          have p3 : ∀ u, (pick u).cell? ⟨g, j * 4 + 3, none⟩ = some (.int .u32 x.load) := fun u => ((hp1 u).cell glt (fun h => h) _).trans c3
          repeat (first | (refine wpR_det hp2 rfl ((hR.rel _).trans rfl) rfl ?_; intro K hK; go_big_quiet_op; go_big_quiet_on) | (refine wpR_ptr hp2 rfl ((hR.rel _).trans rfl) rfl rfl ?_; intro K hK; go_big_quiet_op; go_big_quiet_on) | (refine wpR_skip pick rfl ?_; intro K hK; go_big_quiet_op; go_big_quiet_on))
          refine wpR_rel pick rfl ((hR.rel _).trans rfl) ((hR.turns _).trans rfl) ?_ ?_
          · intro u hu
            have hk := hR.since hu.1
            have hks := hk.size
            unfold relAt
            go_simp
            refine (awake_any u).mono ?_
            rintro e w' ⟨rfl, hb'⟩
            exact ⟨_, rfl, hR.intoB hb', hR.put 0 rfl rfl rfl⟩
          intro v hv
          obtain ⟨u, _, hu⟩ := hv
          obtain rfl := hR.get 0 rfl hu
          clear hu
          intro K hK
          go_big_quiet_op
          go_big_quiet_on
          repeat (first | (refine wpR_det hp2 rfl ((hR.rel _).trans rfl) rfl ?_; intro K hK; go_big_quiet_op; go_big_quiet_on) | (refine wpR_ptr hp2 rfl ((hR.rel _).trans rfl) rfl rfl ?_; intro K hK; go_big_quiet_op; go_big_quiet_on) | (refine wpR_skip pick rfl ?_; intro K hK; go_big_quiet_op; go_big_quiet_on))
          refine wpR_nil ?_
          intro w8 hk2 hF hM
          have HB8 := Lib.hid (keptK HB6.out hk2)
          clear hF hM hk2 hp1 hp2 hR q0 q1 q2 q3 p0 p1 p2 p3 x0 x1 x2 x3 c0 c1 c2 c3
          go_wp2_with fail
          go_ret
          exact ⟨rfl, HB8.out⟩
end Go.Proofs.Ytikakdcjbnbacaa
