/- Head, with the row of its bytes. -/
import Derived.Test.YtohimionlgaaoaaN
namespace Go.Proofs.Ytohimionlgaaoaa
open Go.RowKit
set_option linter.unusedVariables false
set_option maxRecDepth 100000 in
set_option maxHeartbeats 4000000 in
theorem slConcatRow_any (g c : Nat) (vs : List Value) (ls : List (List UInt8)) (w : World) (hv : Bys w g vs ls) (hl : vs.length ≤ 100000) (hf : ls.flatten.length ≤ 1000000) :
    Calls Try.prog 21 #[.slice (some ⟨g, 0, none⟩) vs.length c] w fun e w' => ∃ v, e = .returned v ∧ Row w' w.heap.size 5 v (bcs ls.flatten) ∧ Below w.heap.size w w' := by
  have h5 := Try.info5j
  have hlen := Lib.hid hv.1
  have hgl := hv.2.1
  have HV := Lib.hid hv.2.2
  clear hv
  go_enter Try.func21, Try.ntmps21
  go_wp2_with fail
  go_loop [3, 5, 11] (fun n _ i => ∃ k : Nat, k ≤ vs.length ∧ i = .int .i64 (k : Int) ∧ n = .int .i64 (((ls.take k).flatten.length : Nat) : Int)) (fun _ _ i => vs.length - (intOf i).toNat)
  case atStart => exact ⟨0, by omega, rfl, rfl⟩
  case round =>
    obtain ⟨k, hk, rfl, rfl⟩ := hrel
    by_cases hlt : k < vs.length
    · have hlt' : k < ls.length := by rw [← hlen.out]; exact hlt
      obtain ⟨hc, hb⟩ := HV.out k hlt hlt'
      obtain ⟨A, c', hvk, h1, h2, hbs⟩ := hb
      rw [hvk] at hc
      have kI : (k : Int) < (vs.length : Int) := by omega
      have hfl := flat_le ls (k + 1)
      have hft := flat_take ls k hlt'
      rw [hft, List.length_append] at hfl
      have HFT := Lib.hid (show (ls.take (k + 1)).flatten.length = (ls.take k).flatten.length + ls[k].length by rw [hft, List.length_append])
      clear hvk hbs hft h2
      obtain ⟨m, hm⟩ : ∃ m, (ls.take k).flatten.length = m := ⟨_, rfl⟩
      obtain ⟨q, hq⟩ : ∃ q, ls[k].length = q := ⟨_, rfl⟩
      rw [hm] at hfl HFT ⊢
      rw [hq] at hfl HFT hc
      clear hm hq h1
      go_wp2_with fail
      go_round
      case rel => exact ⟨k + 1, by omega, by go_num, by rw [HFT.out]; go_num⟩
      case measure => simp [intOf]; omega
    · obtain rfl : k = vs.length := by omega
      have hfn : (ls.take vs.length).flatten = ls.flatten := by rw [hlen.out, List.take_of_length_le (Nat.le_refl _)]
      rw [hfn]
      clear hfn
      obtain ⟨m, hm⟩ : ∃ m, ls.flatten.length = m := ⟨_, rfl⟩
      have HM := Lib.hid hm
      rw [hm] at hf ⊢
      clear hm
      go_wp2_with fail
      refine (slGrow_any m w hf).mono ?_
      rintro e w0 ⟨v0, rfl, hrow0, hb0⟩
      have HR0 := Lib.hid hrow0
      have HB0 := Lib.hid hb0
      clear hrow0 hb0
      go_wp2_with fail
      go_loopw [6, 8, 27] (fun v _ i wr => ∃ k : Nat, k ≤ vs.length ∧ i = .int .i64 (k : Int) ∧ Hid (Row wr w.heap.size 5 v (bcs (ls.take k).flatten)) ∧ Hid (Below w.heap.size w wr)) (fun _ _ i _ => vs.length - (intOf i).toNat)
      case atStart => exact ⟨0, by omega, rfl, HR0, HB0⟩
      case round =>
        obtain ⟨k, hk, rfl, HW, HBW⟩ := hrel
        by_cases hlt : k < vs.length
        · have hlt' : k < ls.length := by rw [← hlen.out]; exact hlt
          obtain ⟨hc, hb⟩ := HV.out k hlt hlt'
          obtain ⟨A, c', hvk, h1, h2, hbs⟩ := hb
          rw [hvk] at hc
          have c1 := (HBW.out.cell (p := ⟨g, k, none⟩) hgl).trans hc
          have HBS := Lib.hid (hbs.onB HBW.out (Nat.le_refl _))
          have kI : (k : Int) < (vs.length : Int) := by omega
          have hsw := HBW.out.size
          have hfl := flat_le ls (k + 1)
          rw [flat_take ls k hlt', List.length_append, HM.out] at hfl
          clear hc hvk hbs
          obtain ⟨vA, vc, hve, _⟩ := HW.out.shape
          subst hve
          go_wp2_with (at_builtin; refine wpList_append_row rfl (.tmp 31) (.tmp 32) 25 rfl w.heap.size 5 (.int .u8 0) 1 Try.underlying25 h5 rfl _ (bcs (ls.take k).flatten) rfl A ls[k].length c' (bcs ls[k]) rfl (bcs_length _).symm HW.out HBS.out.src (bcs_one _) ?a3 ?a4 ?a5 ?_)
          case a3 => rw [bcs_length, bcs_length]; unfold maxLen; omega
          case a4 => rw [bcs_length, bcs_length]; omega
          case a5 => exact hsw
          intro v1 w1 hrow hgr _
          have HR1 := Lib.hid (show Row w1 w.heap.size 5 v1 (bcs (ls.take (k + 1)).flatten) by rw [flat_take ls k hlt', bcs_append]; exact hrow)
          have HB1 := Lib.hid (HBW.out.trans (below_grown hgr (fun i e => (HW.out.lt i e).1) hsw))
          clear hrow hgr
          go_wp2_with fail
          go_roundw
          case rel => exact ⟨k + 1, by omega, by go_num, HR1, HB1⟩
          case measure => simp [intOf]; omega
        · have hkI : ¬ (k : Int) < (vs.length : Int) := by omega
          go_wp2_with fail
          go_ret
          obtain rfl : k = vs.length := by omega
          have := HW.out
          rw [hlen.out, List.take_of_length_le (Nat.le_refl _)] at this
          exact ⟨_, rfl, this, HBW.out⟩
set_option maxRecDepth 100000 in
set_option maxHeartbeats 4000000 in
theorem head_row (sm na : Bool) (mo li : Int) (w : World) (hmo : 0 ≤ mo ∧ mo ≤ 4294967295) (hli : 0 ≤ li ∧ li ≤ 4294967295) :
    Calls Try.prog 8 #[.agg #[.bool sm, .bool na, .int .u32 mo, .int .u32 li]] w fun e w' => ∃ v, e = .returned v ∧ Row w' w.heap.size 5 v (bcs (headL sm na mo li)) ∧ Below w.heap.size w w' := by
  obtain ⟨mo0, mo1⟩ := hmo
  obtain ⟨li0, li1⟩ := hli
  cases na with
  | true =>
    have HLS := Lib.hid (headLs_ok sm 2712812621 mo li)
    have HFL := Lib.hid (show (headLs sm 2712812621 mo li).flatten.length ≤ 1000000 by rw [headLs_len]; omega)
    go_enter Try.func8, Try.ntmps8
    go_upto_region 4 with fail
    obtain ⟨w1, hw1⟩ : ∃ w1 : World, w1 = w.alloc (.cells #[.bool sm, .bool true, .int .u32 mo, .int .u32 li] 29) := ⟨_, rfl⟩
    have HF := Lib.hid (show Blk w1 w.heap.size 29 #[.bool sm, .bool true, .int .u32 mo, .int .u32 li] by rw [hw1]; exact Blk.new _ _ _)
    have HW := Lib.hid (show Below w.heap.size w w1 by rw [hw1]; exact (Below.refl _ _).alloc (Nat.le_refl _) _)
    rw [← hw1]
    clear hw1
    obtain ⟨fb, hfb⟩ : ∃ fb, w.heap.size = fb := ⟨_, rfl⟩
    rw [hfb] at HF ⊢
    clear hfb
    have f0 := HF.out.cell 0
    have f1 := HF.out.cell 1
    have f2 := HF.out.cell 2
    have f3 := HF.out.cell 3
    simp at f0 f1 f2 f3
    have fl := HF.out.lt
    have cv1 : IntKind.u64.wrap mo = mo := IntWalk.u64_in _ (by omega)
    have cv2 : IntKind.u64.wrap li = li := IntWalk.u64_in _ (by omega)
    refine wp_region_kept 23 [(2, fun v u => Byt u v (numL sm 4 2712812621)), (4, fun v u => Byt u v (numL sm 2 2)), (6, fun v u => Byt u v (numL sm 2 4)), (8, fun v u => Byt u v (numL sm 4 0)), (10, fun v u => Byt u v (numL sm 4 0)), (15, fun v u => Byt u v (numL sm 4 mo)), (20, fun v u => Byt u v (numL sm 4 li)), (21, fun v u => BysN 7 u v (headLs sm 2712812621 mo li)), (22, fun v u => Row u w.heap.size 5 v (bcs ((headLs sm 2712812621 mo li)).flatten))] ?st ?ne rfl (by kernel_rfl) (by kernel_rfl) ?_
    case st =>
      intro p hp
      simp only [List.mem_cons, List.not_mem_nil, or_false] at hp
      rcases hp with rfl | rfl | rfl | rfl | rfl | rfl | rfl | rfl | rfl
      · intro v u u' h hk; exact h.on0 hk
      · intro v u u' h hk; exact h.on0 hk
      · intro v u u' h hk; exact h.on0 hk
      · intro v u u' h hk; exact h.on0 hk
      · intro v u u' h hk; exact h.on0 hk
      · intro v u u' h hk; exact h.on0 hk
      · intro v u u' h hk; exact h.on0 hk
      · intro v u u' h hk; exact h.on0 hk
      · intro v u u' h hk; exact h.kept hk (fun g hg e => e)
    case ne =>
      intro p hp
      simp only [List.mem_cons, List.not_mem_nil, or_false] at hp
      rcases hp with rfl | rfl | rfl | rfl | rfl | rfl | rfl | rfl | rfl
      · exact Byt.some _ _ (by rw [numL_len]; unfold maxLen; omega)
      · exact Byt.some _ _ (by rw [numL_len]; unfold maxLen; omega)
      · exact Byt.some _ _ (by rw [numL_len]; unfold maxLen; omega)
      · exact Byt.some _ _ (by rw [numL_len]; unfold maxLen; omega)
      · exact Byt.some _ _ (by rw [numL_len]; unfold maxLen; omega)
      · exact Byt.some _ _ (by rw [numL_len]; unfold maxLen; omega)
      · exact Byt.some _ _ (by rw [numL_len]; unfold maxLen; omega)
      · exact BysN.some _ _ _ rfl HLS.out
      · exact ⟨_, _, (Kept.refl _ _).alloc (.cells (bcs (((headLs sm 2712812621 mo li)).flatten)).toArray 5), Row.of_blk (Blk.new _ _ _) HW.out.size (by have := HFL.out; simp only [List.size_toArray, bcs_length]; unfold maxLen; omega) (by simp)⟩
    simp only [List.take_succ_cons, List.take_zero, List.drop_succ_cons, List.drop_zero]
    intro G pick hR hp1 hp2
    have p0 : ∀ u, (pick u).cell? ⟨fb, 0, none⟩ = some (.bool sm) := fun u => ((hp1 u).cell fl (fun h => h) _).trans f0
    have p1 : ∀ u, (pick u).cell? ⟨fb, 1, none⟩ = some (.bool true) := fun u => ((hp1 u).cell fl (fun h => h) _).trans f1
    have p2 : ∀ u, (pick u).cell? ⟨fb, 2, none⟩ = some (.int .u32 mo) := fun u => ((hp1 u).cell fl (fun h => h) _).trans f2
    have p3 : ∀ u, (pick u).cell? ⟨fb, 3, none⟩ = some (.int .u32 li) := fun u => ((hp1 u).cell fl (fun h => h) _).trans f3
    repeat (first | (refine wpR_det hp2 rfl ((hR.rel _).trans rfl) rfl ?_; intro K hK; go_big_quiet_op; go_big_quiet_on) | (refine wpR_ptr hp2 rfl ((hR.rel _).trans rfl) rfl rfl ?_; intro K hK; go_big_quiet_op; go_big_quiet_on) | (refine wpR_skip pick rfl ?_; intro K hK; go_big_quiet_op; go_big_quiet_on))
    refine wpR_rel pick rfl ((hR.rel _).trans rfl) ((hR.turns _).trans rfl) ?_ ?_
    · intro u hu
      have hk := hR.since hu.1
      have hks := hk.size
      have hz := num_any sm true mo li 4 2712812621 u (by omega) (by omega) (by omega) (by omega)
      unfold relAt
      go_simp
      refine hz.mono ?_
      rintro e w' ⟨v, rfl, hT, hb'⟩
      exact ⟨_, rfl, hR.intoB hb', hR.put 0 rfl rfl hT⟩
    intro v hv
    obtain ⟨u, _, hu⟩ := hv
    obtain ⟨A2, c2, rfl, -, -, -⟩ := hR.get 0 rfl hu
    clear hu
    rw [numL_len]
    intro K hK
    go_big_quiet_op
    go_big_quiet_on
    repeat (first | (refine wpR_det hp2 rfl ((hR.rel _).trans rfl) rfl ?_; intro K hK; go_big_quiet_op; go_big_quiet_on) | (refine wpR_ptr hp2 rfl ((hR.rel _).trans rfl) rfl rfl ?_; intro K hK; go_big_quiet_op; go_big_quiet_on) | (refine wpR_skip pick rfl ?_; intro K hK; go_big_quiet_op; go_big_quiet_on))
    refine wpR_rel pick rfl ((hR.rel _).trans rfl) ((hR.turns _).trans rfl) ?_ ?_
    · intro u hu
      have hk := hR.since hu.1
      have hks := hk.size
      have hz := num_any sm true mo li 2 2 u (by omega) (by omega) (by omega) (by omega)
      unfold relAt
      go_simp
      refine hz.mono ?_
      rintro e w' ⟨v, rfl, hT, hb'⟩
      exact ⟨_, rfl, hR.intoB hb', hR.put 1 rfl rfl hT⟩
    intro v hv
    obtain ⟨u, _, hu⟩ := hv
    obtain ⟨A4, c4, rfl, -, -, -⟩ := hR.get 1 rfl hu
    clear hu
    rw [numL_len]
    intro K hK
    go_big_quiet_op
    go_big_quiet_on
    repeat (first | (refine wpR_det hp2 rfl ((hR.rel _).trans rfl) rfl ?_; intro K hK; go_big_quiet_op; go_big_quiet_on) | (refine wpR_ptr hp2 rfl ((hR.rel _).trans rfl) rfl rfl ?_; intro K hK; go_big_quiet_op; go_big_quiet_on) | (refine wpR_skip pick rfl ?_; intro K hK; go_big_quiet_op; go_big_quiet_on))
    refine wpR_rel pick rfl ((hR.rel _).trans rfl) ((hR.turns _).trans rfl) ?_ ?_
    · intro u hu
      have hk := hR.since hu.1
      have hks := hk.size
      have hz := num_any sm true mo li 2 4 u (by omega) (by omega) (by omega) (by omega)
      unfold relAt
      go_simp
      refine hz.mono ?_
      rintro e w' ⟨v, rfl, hT, hb'⟩
      exact ⟨_, rfl, hR.intoB hb', hR.put 2 rfl rfl hT⟩
    intro v hv
    obtain ⟨u, _, hu⟩ := hv
    obtain ⟨A6, c6, rfl, -, -, -⟩ := hR.get 2 rfl hu
    clear hu
    rw [numL_len]
    intro K hK
    go_big_quiet_op
    go_big_quiet_on
    repeat (first | (refine wpR_det hp2 rfl ((hR.rel _).trans rfl) rfl ?_; intro K hK; go_big_quiet_op; go_big_quiet_on) | (refine wpR_ptr hp2 rfl ((hR.rel _).trans rfl) rfl rfl ?_; intro K hK; go_big_quiet_op; go_big_quiet_on) | (refine wpR_skip pick rfl ?_; intro K hK; go_big_quiet_op; go_big_quiet_on))
    refine wpR_rel pick rfl ((hR.rel _).trans rfl) ((hR.turns _).trans rfl) ?_ ?_
    · intro u hu
      have hk := hR.since hu.1
      have hks := hk.size
      have hz := num_any sm true mo li 4 0 u (by omega) (by omega) (by omega) (by omega)
      unfold relAt
      go_simp
      refine hz.mono ?_
      rintro e w' ⟨v, rfl, hT, hb'⟩
      exact ⟨_, rfl, hR.intoB hb', hR.put 3 rfl rfl hT⟩
    intro v hv
    obtain ⟨u, _, hu⟩ := hv
    obtain ⟨A8, c8, rfl, -, -, -⟩ := hR.get 3 rfl hu
    clear hu
    rw [numL_len]
    intro K hK
    go_big_quiet_op
    go_big_quiet_on
    repeat (first | (refine wpR_det hp2 rfl ((hR.rel _).trans rfl) rfl ?_; intro K hK; go_big_quiet_op; go_big_quiet_on) | (refine wpR_ptr hp2 rfl ((hR.rel _).trans rfl) rfl rfl ?_; intro K hK; go_big_quiet_op; go_big_quiet_on) | (refine wpR_skip pick rfl ?_; intro K hK; go_big_quiet_op; go_big_quiet_on))
    refine wpR_rel pick rfl ((hR.rel _).trans rfl) ((hR.turns _).trans rfl) ?_ ?_
    · intro u hu
      have hk := hR.since hu.1
      have hks := hk.size
      have hz := num_any sm true mo li 4 0 u (by omega) (by omega) (by omega) (by omega)
      unfold relAt
      go_simp
      refine hz.mono ?_
      rintro e w' ⟨v, rfl, hT, hb'⟩
      exact ⟨_, rfl, hR.intoB hb', hR.put 4 rfl rfl hT⟩
    intro v hv
    obtain ⟨u, _, hu⟩ := hv
    obtain ⟨A10, c10, rfl, -, -, -⟩ := hR.get 4 rfl hu
    clear hu
    rw [numL_len]
    intro K hK
    go_big_quiet_op
    go_big_quiet_on
    repeat (first | (refine wpR_det hp2 rfl ((hR.rel _).trans rfl) rfl ?_; intro K hK; go_big_quiet_op; go_big_quiet_on) | (refine wpR_ptr hp2 rfl ((hR.rel _).trans rfl) rfl rfl ?_; intro K hK; go_big_quiet_op; go_big_quiet_on) | (refine wpR_skip pick rfl ?_; intro K hK; go_big_quiet_op; go_big_quiet_on))
    refine wpR_rel pick rfl ((hR.rel _).trans rfl) ((hR.turns _).trans rfl) ?_ ?_
    · intro u hu
      have hk := hR.since hu.1
      have hks := hk.size
      have hz := num_any sm true mo li 4 mo u (by omega) (by omega) (by omega) (by omega)
      unfold relAt
      go_simp
      refine hz.mono ?_
      rintro e w' ⟨v, rfl, hT, hb'⟩
      exact ⟨_, rfl, hR.intoB hb', hR.put 5 rfl rfl hT⟩
    intro v hv
    obtain ⟨u, _, hu⟩ := hv
    obtain ⟨A15, c15, rfl, -, -, -⟩ := hR.get 5 rfl hu
    clear hu
    rw [numL_len]
    intro K hK
    go_big_quiet_op
    go_big_quiet_on
    repeat (first | (refine wpR_det hp2 rfl ((hR.rel _).trans rfl) rfl ?_; intro K hK; go_big_quiet_op; go_big_quiet_on) | (refine wpR_ptr hp2 rfl ((hR.rel _).trans rfl) rfl rfl ?_; intro K hK; go_big_quiet_op; go_big_quiet_on) | (refine wpR_skip pick rfl ?_; intro K hK; go_big_quiet_op; go_big_quiet_on))
    refine wpR_rel pick rfl ((hR.rel _).trans rfl) ((hR.turns _).trans rfl) ?_ ?_
    · intro u hu
      have hk := hR.since hu.1
      have hks := hk.size
      have hz := num_any sm true mo li 4 li u (by omega) (by omega) (by omega) (by omega)
      unfold relAt
      go_simp
      refine hz.mono ?_
      rintro e w' ⟨v, rfl, hT, hb'⟩
      exact ⟨_, rfl, hR.intoB hb', hR.put 6 rfl rfl hT⟩
    intro v hv
    obtain ⟨u, _, hu⟩ := hv
    obtain ⟨A20, c20, rfl, -, -, -⟩ := hR.get 6 rfl hu
    clear hu
    rw [numL_len]
    intro K hK
    go_big_quiet_op
    go_big_quiet_on
    repeat (first | (refine wpR_det hp2 rfl ((hR.rel _).trans rfl) rfl ?_; intro K hK; go_big_quiet_op; go_big_quiet_on) | (refine wpR_ptr hp2 rfl ((hR.rel _).trans rfl) rfl rfl ?_; intro K hK; go_big_quiet_op; go_big_quiet_on) | (refine wpR_skip pick rfl ?_; intro K hK; go_big_quiet_op; go_big_quiet_on))
    refine wpR_rel pick rfl ((hR.rel _).trans rfl) ((hR.turns _).trans rfl) ?_ ?_
    · intro u hu
      have hk := hR.since hu.1
      have hks := hk.size
      have b0 := (hR.get 0 rfl (hu.2 _ _ (Got.upd_old (Got.upd_old (Got.upd_old (Got.upd_old (Got.upd_old (Got.upd_old (Got.upd_self _ _ _) rfl) rfl) rfl) rfl) rfl) rfl) (by kernel_rfl)))
      have b1 := (hR.get 1 rfl (hu.2 _ _ (Got.upd_old (Got.upd_old (Got.upd_old (Got.upd_old (Got.upd_old (Got.upd_self _ _ _) rfl) rfl) rfl) rfl) rfl) (by kernel_rfl)))
      have b2 := (hR.get 2 rfl (hu.2 _ _ (Got.upd_old (Got.upd_old (Got.upd_old (Got.upd_old (Got.upd_self _ _ _) rfl) rfl) rfl) rfl) (by kernel_rfl)))
      have b3 := (hR.get 3 rfl (hu.2 _ _ (Got.upd_old (Got.upd_old (Got.upd_old (Got.upd_self _ _ _) rfl) rfl) rfl) (by kernel_rfl)))
      have b4 := (hR.get 4 rfl (hu.2 _ _ (Got.upd_old (Got.upd_old (Got.upd_self _ _ _) rfl) rfl) (by kernel_rfl)))
      have b5 := (hR.get 5 rfl (hu.2 _ _ (Got.upd_old (Got.upd_self _ _ _) rfl) (by kernel_rfl)))
      have b6 := (hR.get 6 rfl (hu.2 _ _ (Got.upd_self _ _ _) (by kernel_rfl)))
      have hal : Al u [.slice A2 4 c2, .slice A4 2 c4, .slice A6 2 c6, .slice A8 4 c8, .slice A10 4 c10, .slice A15 4 c15, .slice A20 4 c20] (headLs sm 2712812621 mo li) := ⟨b0, b1, b2, b3, b4, b5, b6, trivial⟩
      clear b0 b1 b2 b3 b4 b5 b6
      unfold relAt
      go_simp
      refine ⟨hR.into0 ((Kept.refl _ _).alloc _), hR.put 7 rfl rfl ⟨u.heap.size, [.slice A2 4 c2, .slice A4 2 c4, .slice A6 2 c6, .slice A8 4 c8, .slice A10 4 c10, .slice A15 4 c15, .slice A20 4 c20], rfl, rfl, (hal.on0 ((Kept.refl _ _).alloc _)).bys (Blk.new _ _ _)⟩⟩
    intro v hv
    obtain ⟨u, _, hu⟩ := hv
    obtain ⟨gb, vsb, rfl, -, -⟩ := hR.get 7 rfl hu
    clear hu
    intro K hK
    go_big_quiet_op
    go_big_quiet_on
    repeat (first | (refine wpR_det hp2 rfl ((hR.rel _).trans rfl) rfl ?_; intro K hK; go_big_quiet_op; go_big_quiet_on) | (refine wpR_ptr hp2 rfl ((hR.rel _).trans rfl) rfl rfl ?_; intro K hK; go_big_quiet_op; go_big_quiet_on) | (refine wpR_skip pick rfl ?_; intro K hK; go_big_quiet_op; go_big_quiet_on))
    refine wpR_rel pick rfl ((hR.rel _).trans rfl) ((hR.turns _).trans rfl) ?_ ?_
    · intro u hu
      have hk := hR.since hu.1
      have hks := hk.size
      obtain ⟨g', vs', e, hn', hB⟩ := (hR.get 7 rfl (hu.2 _ _ (Got.upd_self _ _ _) (by kernel_rfl)))
      obtain rfl : gb = g' := by injection e with e; injection e with e; injection e
      have hz := slConcatRow_any gb 7 vs' (headLs sm 2712812621 mo li) u hB (by rw [hn']; omega) HFL.out
      rw [hn'] at hz
      clear hB e
      unfold relAt
      go_simp
      refine hz.mono ?_
      rintro e w' ⟨v, rfl, hT, hb'⟩
      exact ⟨_, rfl, hR.intoB hb', hR.put 8 rfl rfl (hT.more (Nat.le_trans HW.out.size hks))⟩
    intro v hv
    obtain ⟨u, _, hu⟩ := hv
    obtain hT1 := hR.get 8 rfl hu
    clear hu
    have hT := hT1.byt
    clear hT1
    obtain ⟨vA, vc, rfl, -, -, -⟩ := hT
    intro K hK
    go_big_quiet_op
    go_big_quiet_on
    repeat (first | (refine wpR_det hp2 rfl ((hR.rel _).trans rfl) rfl ?_; intro K hK; go_big_quiet_op; go_big_quiet_on) | (refine wpR_ptr hp2 rfl ((hR.rel _).trans rfl) rfl rfl ?_; intro K hK; go_big_quiet_op; go_big_quiet_on) | (refine wpR_skip pick rfl ?_; intro K hK; go_big_quiet_op; go_big_quiet_on))
    refine wpR_nil ?_
    intro w2 hk2 hF hM
    have HZ := Lib.hid ((hR.get 8 rfl (hF _ _ (Got.upd_self _ _ _))))
    have HWZ := Lib.hid (keptK HW.out hk2)
    clear hF hM hk2 hp1 hp2 hR p0 p1 p2 p3
    go_wp2_with fail
    go_ret
    exact ⟨_, rfl, HZ.out, HWZ.out⟩
  | false =>
    have HLS := Lib.hid (headLs_ok sm 2712847316 mo li)
    have HFL := Lib.hid (show (headLs sm 2712847316 mo li).flatten.length ≤ 1000000 by rw [headLs_len]; omega)
    go_enter Try.func8, Try.ntmps8
    go_upto_region 4 with fail
    obtain ⟨w1, hw1⟩ : ∃ w1 : World, w1 = w.alloc (.cells #[.bool sm, .bool false, .int .u32 mo, .int .u32 li] 29) := ⟨_, rfl⟩
    have HF := Lib.hid (show Blk w1 w.heap.size 29 #[.bool sm, .bool false, .int .u32 mo, .int .u32 li] by rw [hw1]; exact Blk.new _ _ _)
    have HW := Lib.hid (show Below w.heap.size w w1 by rw [hw1]; exact (Below.refl _ _).alloc (Nat.le_refl _) _)
    rw [← hw1]
    clear hw1
    obtain ⟨fb, hfb⟩ : ∃ fb, w.heap.size = fb := ⟨_, rfl⟩
    rw [hfb] at HF ⊢
    clear hfb
    have f0 := HF.out.cell 0
    have f1 := HF.out.cell 1
    have f2 := HF.out.cell 2
    have f3 := HF.out.cell 3
    simp at f0 f1 f2 f3
    have fl := HF.out.lt
    have cv1 : IntKind.u64.wrap mo = mo := IntWalk.u64_in _ (by omega)
    have cv2 : IntKind.u64.wrap li = li := IntWalk.u64_in _ (by omega)
    refine wp_region_kept 23 [(2, fun v u => Byt u v (numL sm 4 2712847316)), (4, fun v u => Byt u v (numL sm 2 2)), (6, fun v u => Byt u v (numL sm 2 4)), (8, fun v u => Byt u v (numL sm 4 0)), (10, fun v u => Byt u v (numL sm 4 0)), (15, fun v u => Byt u v (numL sm 4 mo)), (20, fun v u => Byt u v (numL sm 4 li)), (21, fun v u => BysN 7 u v (headLs sm 2712847316 mo li)), (22, fun v u => Row u w.heap.size 5 v (bcs ((headLs sm 2712847316 mo li)).flatten))] ?st ?ne rfl (by kernel_rfl) (by kernel_rfl) ?_
    case st =>
      intro p hp
      simp only [List.mem_cons, List.not_mem_nil, or_false] at hp
      rcases hp with rfl | rfl | rfl | rfl | rfl | rfl | rfl | rfl | rfl
      · intro v u u' h hk; exact h.on0 hk
      · intro v u u' h hk; exact h.on0 hk
      · intro v u u' h hk; exact h.on0 hk
      · intro v u u' h hk; exact h.on0 hk
      · intro v u u' h hk; exact h.on0 hk
      · intro v u u' h hk; exact h.on0 hk
      · intro v u u' h hk; exact h.on0 hk
      · intro v u u' h hk; exact h.on0 hk
      · intro v u u' h hk; exact h.kept hk (fun g hg e => e)
    case ne =>
      intro p hp
      simp only [List.mem_cons, List.not_mem_nil, or_false] at hp
      rcases hp with rfl | rfl | rfl | rfl | rfl | rfl | rfl | rfl | rfl
      · exact Byt.some _ _ (by rw [numL_len]; unfold maxLen; omega)
      · exact Byt.some _ _ (by rw [numL_len]; unfold maxLen; omega)
      · exact Byt.some _ _ (by rw [numL_len]; unfold maxLen; omega)
      · exact Byt.some _ _ (by rw [numL_len]; unfold maxLen; omega)
      · exact Byt.some _ _ (by rw [numL_len]; unfold maxLen; omega)
      · exact Byt.some _ _ (by rw [numL_len]; unfold maxLen; omega)
      · exact Byt.some _ _ (by rw [numL_len]; unfold maxLen; omega)
      · exact BysN.some _ _ _ rfl HLS.out
      · exact ⟨_, _, (Kept.refl _ _).alloc (.cells (bcs (((headLs sm 2712847316 mo li)).flatten)).toArray 5), Row.of_blk (Blk.new _ _ _) HW.out.size (by have := HFL.out; simp only [List.size_toArray, bcs_length]; unfold maxLen; omega) (by simp)⟩
    simp only [List.take_succ_cons, List.take_zero, List.drop_succ_cons, List.drop_zero]
    intro G pick hR hp1 hp2
    have p0 : ∀ u, (pick u).cell? ⟨fb, 0, none⟩ = some (.bool sm) := fun u => ((hp1 u).cell fl (fun h => h) _).trans f0
    have p1 : ∀ u, (pick u).cell? ⟨fb, 1, none⟩ = some (.bool false) := fun u => ((hp1 u).cell fl (fun h => h) _).trans f1
    have p2 : ∀ u, (pick u).cell? ⟨fb, 2, none⟩ = some (.int .u32 mo) := fun u => ((hp1 u).cell fl (fun h => h) _).trans f2
    have p3 : ∀ u, (pick u).cell? ⟨fb, 3, none⟩ = some (.int .u32 li) := fun u => ((hp1 u).cell fl (fun h => h) _).trans f3
    repeat (first | (refine wpR_det hp2 rfl ((hR.rel _).trans rfl) rfl ?_; intro K hK; go_big_quiet_op; go_big_quiet_on) | (refine wpR_ptr hp2 rfl ((hR.rel _).trans rfl) rfl rfl ?_; intro K hK; go_big_quiet_op; go_big_quiet_on) | (refine wpR_skip pick rfl ?_; intro K hK; go_big_quiet_op; go_big_quiet_on))
    refine wpR_rel pick rfl ((hR.rel _).trans rfl) ((hR.turns _).trans rfl) ?_ ?_
    · intro u hu
      have hk := hR.since hu.1
      have hks := hk.size
      have hz := num_any sm false mo li 4 2712847316 u (by omega) (by omega) (by omega) (by omega)
      unfold relAt
      go_simp
      refine hz.mono ?_
      rintro e w' ⟨v, rfl, hT, hb'⟩
      exact ⟨_, rfl, hR.intoB hb', hR.put 0 rfl rfl hT⟩
    intro v hv
    obtain ⟨u, _, hu⟩ := hv
    obtain ⟨A2, c2, rfl, -, -, -⟩ := hR.get 0 rfl hu
    clear hu
    rw [numL_len]
    intro K hK
    go_big_quiet_op
    go_big_quiet_on
    repeat (first | (refine wpR_det hp2 rfl ((hR.rel _).trans rfl) rfl ?_; intro K hK; go_big_quiet_op; go_big_quiet_on) | (refine wpR_ptr hp2 rfl ((hR.rel _).trans rfl) rfl rfl ?_; intro K hK; go_big_quiet_op; go_big_quiet_on) | (refine wpR_skip pick rfl ?_; intro K hK; go_big_quiet_op; go_big_quiet_on))
    refine wpR_rel pick rfl ((hR.rel _).trans rfl) ((hR.turns _).trans rfl) ?_ ?_
    · intro u hu
      have hk := hR.since hu.1
      have hks := hk.size
      have hz := num_any sm false mo li 2 2 u (by omega) (by omega) (by omega) (by omega)
      unfold relAt
      go_simp
      refine hz.mono ?_
      rintro e w' ⟨v, rfl, hT, hb'⟩
      exact ⟨_, rfl, hR.intoB hb', hR.put 1 rfl rfl hT⟩
    intro v hv
    obtain ⟨u, _, hu⟩ := hv
    obtain ⟨A4, c4, rfl, -, -, -⟩ := hR.get 1 rfl hu
    clear hu
    rw [numL_len]
    intro K hK
    go_big_quiet_op
    go_big_quiet_on
    repeat (first | (refine wpR_det hp2 rfl ((hR.rel _).trans rfl) rfl ?_; intro K hK; go_big_quiet_op; go_big_quiet_on) | (refine wpR_ptr hp2 rfl ((hR.rel _).trans rfl) rfl rfl ?_; intro K hK; go_big_quiet_op; go_big_quiet_on) | (refine wpR_skip pick rfl ?_; intro K hK; go_big_quiet_op; go_big_quiet_on))
    refine wpR_rel pick rfl ((hR.rel _).trans rfl) ((hR.turns _).trans rfl) ?_ ?_
    · intro u hu
      have hk := hR.since hu.1
      have hks := hk.size
      have hz := num_any sm false mo li 2 4 u (by omega) (by omega) (by omega) (by omega)
      unfold relAt
      go_simp
      refine hz.mono ?_
      rintro e w' ⟨v, rfl, hT, hb'⟩
      exact ⟨_, rfl, hR.intoB hb', hR.put 2 rfl rfl hT⟩
    intro v hv
    obtain ⟨u, _, hu⟩ := hv
    obtain ⟨A6, c6, rfl, -, -, -⟩ := hR.get 2 rfl hu
    clear hu
    rw [numL_len]
    intro K hK
    go_big_quiet_op
    go_big_quiet_on
    repeat (first | (refine wpR_det hp2 rfl ((hR.rel _).trans rfl) rfl ?_; intro K hK; go_big_quiet_op; go_big_quiet_on) | (refine wpR_ptr hp2 rfl ((hR.rel _).trans rfl) rfl rfl ?_; intro K hK; go_big_quiet_op; go_big_quiet_on) | (refine wpR_skip pick rfl ?_; intro K hK; go_big_quiet_op; go_big_quiet_on))
    refine wpR_rel pick rfl ((hR.rel _).trans rfl) ((hR.turns _).trans rfl) ?_ ?_
    · intro u hu
      have hk := hR.since hu.1
      have hks := hk.size
      have hz := num_any sm false mo li 4 0 u (by omega) (by omega) (by omega) (by omega)
      unfold relAt
      go_simp
      refine hz.mono ?_
      rintro e w' ⟨v, rfl, hT, hb'⟩
      exact ⟨_, rfl, hR.intoB hb', hR.put 3 rfl rfl hT⟩
    intro v hv
    obtain ⟨u, _, hu⟩ := hv
    obtain ⟨A8, c8, rfl, -, -, -⟩ := hR.get 3 rfl hu
    clear hu
    rw [numL_len]
    intro K hK
    go_big_quiet_op
    go_big_quiet_on
    repeat (first | (refine wpR_det hp2 rfl ((hR.rel _).trans rfl) rfl ?_; intro K hK; go_big_quiet_op; go_big_quiet_on) | (refine wpR_ptr hp2 rfl ((hR.rel _).trans rfl) rfl rfl ?_; intro K hK; go_big_quiet_op; go_big_quiet_on) | (refine wpR_skip pick rfl ?_; intro K hK; go_big_quiet_op; go_big_quiet_on))
    refine wpR_rel pick rfl ((hR.rel _).trans rfl) ((hR.turns _).trans rfl) ?_ ?_
    · intro u hu
      have hk := hR.since hu.1
      have hks := hk.size
      have hz := num_any sm false mo li 4 0 u (by omega) (by omega) (by omega) (by omega)
      unfold relAt
      go_simp
      refine hz.mono ?_
      rintro e w' ⟨v, rfl, hT, hb'⟩
      exact ⟨_, rfl, hR.intoB hb', hR.put 4 rfl rfl hT⟩
    intro v hv
    obtain ⟨u, _, hu⟩ := hv
    obtain ⟨A10, c10, rfl, -, -, -⟩ := hR.get 4 rfl hu
    clear hu
    rw [numL_len]
    intro K hK
    go_big_quiet_op
    go_big_quiet_on
    repeat (first | (refine wpR_det hp2 rfl ((hR.rel _).trans rfl) rfl ?_; intro K hK; go_big_quiet_op; go_big_quiet_on) | (refine wpR_ptr hp2 rfl ((hR.rel _).trans rfl) rfl rfl ?_; intro K hK; go_big_quiet_op; go_big_quiet_on) | (refine wpR_skip pick rfl ?_; intro K hK; go_big_quiet_op; go_big_quiet_on))
    refine wpR_rel pick rfl ((hR.rel _).trans rfl) ((hR.turns _).trans rfl) ?_ ?_
    · intro u hu
      have hk := hR.since hu.1
      have hks := hk.size
      have hz := num_any sm false mo li 4 mo u (by omega) (by omega) (by omega) (by omega)
      unfold relAt
      go_simp
      refine hz.mono ?_
      rintro e w' ⟨v, rfl, hT, hb'⟩
      exact ⟨_, rfl, hR.intoB hb', hR.put 5 rfl rfl hT⟩
    intro v hv
    obtain ⟨u, _, hu⟩ := hv
    obtain ⟨A15, c15, rfl, -, -, -⟩ := hR.get 5 rfl hu
    clear hu
    rw [numL_len]
    intro K hK
    go_big_quiet_op
    go_big_quiet_on
    repeat (first | (refine wpR_det hp2 rfl ((hR.rel _).trans rfl) rfl ?_; intro K hK; go_big_quiet_op; go_big_quiet_on) | (refine wpR_ptr hp2 rfl ((hR.rel _).trans rfl) rfl rfl ?_; intro K hK; go_big_quiet_op; go_big_quiet_on) | (refine wpR_skip pick rfl ?_; intro K hK; go_big_quiet_op; go_big_quiet_on))
    refine wpR_rel pick rfl ((hR.rel _).trans rfl) ((hR.turns _).trans rfl) ?_ ?_
    · intro u hu
      have hk := hR.since hu.1
      have hks := hk.size
      have hz := num_any sm false mo li 4 li u (by omega) (by omega) (by omega) (by omega)
      unfold relAt
      go_simp
      refine hz.mono ?_
      rintro e w' ⟨v, rfl, hT, hb'⟩
      exact ⟨_, rfl, hR.intoB hb', hR.put 6 rfl rfl hT⟩
    intro v hv
    obtain ⟨u, _, hu⟩ := hv
    obtain ⟨A20, c20, rfl, -, -, -⟩ := hR.get 6 rfl hu
    clear hu
    rw [numL_len]
    intro K hK
    go_big_quiet_op
    go_big_quiet_on
    repeat (first | (refine wpR_det hp2 rfl ((hR.rel _).trans rfl) rfl ?_; intro K hK; go_big_quiet_op; go_big_quiet_on) | (refine wpR_ptr hp2 rfl ((hR.rel _).trans rfl) rfl rfl ?_; intro K hK; go_big_quiet_op; go_big_quiet_on) | (refine wpR_skip pick rfl ?_; intro K hK; go_big_quiet_op; go_big_quiet_on))
    refine wpR_rel pick rfl ((hR.rel _).trans rfl) ((hR.turns _).trans rfl) ?_ ?_
    · intro u hu
      have hk := hR.since hu.1
      have hks := hk.size
      have b0 := (hR.get 0 rfl (hu.2 _ _ (Got.upd_old (Got.upd_old (Got.upd_old (Got.upd_old (Got.upd_old (Got.upd_old (Got.upd_self _ _ _) rfl) rfl) rfl) rfl) rfl) rfl) (by kernel_rfl)))
      have b1 := (hR.get 1 rfl (hu.2 _ _ (Got.upd_old (Got.upd_old (Got.upd_old (Got.upd_old (Got.upd_old (Got.upd_self _ _ _) rfl) rfl) rfl) rfl) rfl) (by kernel_rfl)))
      have b2 := (hR.get 2 rfl (hu.2 _ _ (Got.upd_old (Got.upd_old (Got.upd_old (Got.upd_old (Got.upd_self _ _ _) rfl) rfl) rfl) rfl) (by kernel_rfl)))
      have b3 := (hR.get 3 rfl (hu.2 _ _ (Got.upd_old (Got.upd_old (Got.upd_old (Got.upd_self _ _ _) rfl) rfl) rfl) (by kernel_rfl)))
      have b4 := (hR.get 4 rfl (hu.2 _ _ (Got.upd_old (Got.upd_old (Got.upd_self _ _ _) rfl) rfl) (by kernel_rfl)))
      have b5 := (hR.get 5 rfl (hu.2 _ _ (Got.upd_old (Got.upd_self _ _ _) rfl) (by kernel_rfl)))
      have b6 := (hR.get 6 rfl (hu.2 _ _ (Got.upd_self _ _ _) (by kernel_rfl)))
      have hal : Al u [.slice A2 4 c2, .slice A4 2 c4, .slice A6 2 c6, .slice A8 4 c8, .slice A10 4 c10, .slice A15 4 c15, .slice A20 4 c20] (headLs sm 2712847316 mo li) := ⟨b0, b1, b2, b3, b4, b5, b6, trivial⟩
      clear b0 b1 b2 b3 b4 b5 b6
      unfold relAt
      go_simp
      refine ⟨hR.into0 ((Kept.refl _ _).alloc _), hR.put 7 rfl rfl ⟨u.heap.size, [.slice A2 4 c2, .slice A4 2 c4, .slice A6 2 c6, .slice A8 4 c8, .slice A10 4 c10, .slice A15 4 c15, .slice A20 4 c20], rfl, rfl, (hal.on0 ((Kept.refl _ _).alloc _)).bys (Blk.new _ _ _)⟩⟩
    intro v hv
    obtain ⟨u, _, hu⟩ := hv
    obtain ⟨gb, vsb, rfl, -, -⟩ := hR.get 7 rfl hu
    clear hu
    intro K hK
    go_big_quiet_op
    go_big_quiet_on
    repeat (first | (refine wpR_det hp2 rfl ((hR.rel _).trans rfl) rfl ?_; intro K hK; go_big_quiet_op; go_big_quiet_on) | (refine wpR_ptr hp2 rfl ((hR.rel _).trans rfl) rfl rfl ?_; intro K hK; go_big_quiet_op; go_big_quiet_on) | (refine wpR_skip pick rfl ?_; intro K hK; go_big_quiet_op; go_big_quiet_on))
    refine wpR_rel pick rfl ((hR.rel _).trans rfl) ((hR.turns _).trans rfl) ?_ ?_
    · intro u hu
      have hk := hR.since hu.1
      have hks := hk.size
      obtain ⟨g', vs', e, hn', hB⟩ := (hR.get 7 rfl (hu.2 _ _ (Got.upd_self _ _ _) (by kernel_rfl)))
      obtain rfl : gb = g' := by injection e with e; injection e with e; injection e
      have hz := slConcatRow_any gb 7 vs' (headLs sm 2712847316 mo li) u hB (by rw [hn']; omega) HFL.out
      rw [hn'] at hz
      clear hB e
      unfold relAt
      go_simp
      refine hz.mono ?_
      rintro e w' ⟨v, rfl, hT, hb'⟩
      exact ⟨_, rfl, hR.intoB hb', hR.put 8 rfl rfl (hT.more (Nat.le_trans HW.out.size hks))⟩
    intro v hv
    obtain ⟨u, _, hu⟩ := hv
    obtain hT1 := hR.get 8 rfl hu
    clear hu
    have hT := hT1.byt
    clear hT1
    obtain ⟨vA, vc, rfl, -, -, -⟩ := hT
    intro K hK
    go_big_quiet_op
    go_big_quiet_on
    repeat (first | (refine wpR_det hp2 rfl ((hR.rel _).trans rfl) rfl ?_; intro K hK; go_big_quiet_op; go_big_quiet_on) | (refine wpR_ptr hp2 rfl ((hR.rel _).trans rfl) rfl rfl ?_; intro K hK; go_big_quiet_op; go_big_quiet_on) | (refine wpR_skip pick rfl ?_; intro K hK; go_big_quiet_op; go_big_quiet_on))
    refine wpR_nil ?_
    intro w2 hk2 hF hM
    have HZ := Lib.hid ((hR.get 8 rfl (hF _ _ (Got.upd_self _ _ _))))
    have HWZ := Lib.hid (keptK HW.out hk2)
    clear hF hM hk2 hp1 hp2 hR p0 p1 p2 p3
    go_wp2_with fail
    go_ret
    exact ⟨_, rfl, HZ.out, HWZ.out⟩
end Go.Proofs.Ytohimionlgaaoaa
