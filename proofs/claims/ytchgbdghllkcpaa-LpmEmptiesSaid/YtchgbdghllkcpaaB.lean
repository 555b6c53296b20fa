/- The reference's Bytes and Of. -/
import Derived.Test.YtchgbdghllkcpaaA
import Derived.Test.YtchgbdghllkcpaaPlainB
import Derived.Test.YtchgbdghllkcpaaRgRow
namespace Go.Proofs.Ytchgbdghllkcpaa
open Go.RowKit
set_option linter.unusedVariables false
def OwnV (B k : Nat) (l : List UInt8) (v : Value) (u : World) : Prop := ∃ g, v = .slice (some ⟨g, 0, none⟩) k k ∧ B ≤ g ∧ Own u 5 g k l
theorem OwnV.on {B k : Nat} {l : List UInt8} {v : Value} {u u' : World} (h : OwnV B k l v u) (hk : Kept (fun _ => False) u u') : OwnV B k l v u' := by
  obtain ⟨g, h1, h2, h3⟩ := h
  exact ⟨g, h1, h2, h3.kept hk (fun h => h)⟩
theorem ownV_is (w : World) (k : Nat) (l : List UInt8) (hl : l.length = k) (hm : k ≤ 1000) : ∃ v u, Kept (fun _ => False) w u ∧ OwnV w.heap.size k l v u := by
  subst hl
  exact ⟨_, _, (Kept.refl _ _).alloc _, _, rfl, Nat.le_refl _, Own.of_blk (Blk.new w 5 (bcs l).toArray) (by unfold maxLen; omega)⟩
def BytP (l : List UInt8) (w : World) (e : Ending) (w' : World) : Prop := ∃ v, e = .returned v ∧ Byt w' v l ∧ Below w.heap.size w w'
theorem Try.info5 : (Try.prog.info? 5).map (fun i => (i.zero, i.size, i.bytes)) = some (some (.int .u8 0), 1, 1) := by kernel_rfl
set_option maxHeartbeats 2000000 in
theorem refABytes_any (a : Ad) (w : World) (hw : a.wf) : Calls Try.prog 23 #[.agg #[.bool a.six, .int .u64 (a.hi : Int), .int .u64 (a.lo : Int)]] w (BytP a.bytes w) := by
  obtain ⟨s, hi, lo⟩ := a
  unfold Ad.wf at hw
  simp only at hw
  obtain ⟨hhi, hlo⟩ := hw
  have hinf := Try.info5
  cases s with
  | false =>
    have HE := Lib.hid (show Ad.bytes ⟨false, hi, lo⟩ = digs 4 (lo : Int) from rfl)
    go_enter Try.func23, Try.ntmps23
    go_wp2_with fail
    refine (refBytes_any 4 (lo : Int) 4 _ (by omega) (by omega) (by omega)).mono ?_
    rintro e w1 ⟨rfl, ho, hb1⟩
    have HO := Lib.hid (show Byt w1 (.slice (some ⟨w.heap.size + 1, 0, none⟩) 4 4) (digs 4 (lo : Int)) by have := ho.byt; rw [digs_length] at this; simpa using this)
    have HB := Lib.hid hb1
    clear ho hb1
    go_wp2_with fail
    go_ret
    exact ⟨_, rfl, by rw [HE.out]; exact HO.out, bel1.trans (HB.out.mono (by simp))⟩
  | true =>
    have HE := Lib.hid (show Ad.bytes ⟨true, hi, lo⟩ = digs 8 (hi : Int) ++ digs 8 (lo : Int) from rfl)
    go_enter Try.func23, Try.ntmps23
    go_upto_region 3 with fail
    obtain ⟨w1, hw1⟩ : ∃ w1 : World, w1 = w.alloc (.cells #[.bool true, .int .u64 (hi : Int), .int .u64 (lo : Int)] 24) := ⟨_, rfl⟩
    have HX1 := Lib.hid (show Blk w1 w.heap.size 24 #[.bool true, .int .u64 (hi : Int), .int .u64 (lo : Int)] by rw [hw1]; exact Blk.new _ _ _)
    have HB1 := Lib.hid (show Below w.heap.size w w1 by rw [hw1]; exact bel1)
    rw [← hw1]
    clear hw1
    obtain ⟨xb, hxb⟩ : ∃ xb, w.heap.size = xb := ⟨_, rfl⟩
    rw [hxb] at HX1 ⊢
    have HXB := Lib.hid hxb
    clear hxb
    have x1 := HX1.out.cell 1
    have x2 := HX1.out.cell 2
    simp at x1 x2
    have xlt := HX1.out.lt
    have hs1 := HB1.out.size
    refine wp_region_kept 6 [(2, OwnV w1.heap.size 8 (digs 8 (hi : Int))), (5, OwnV w1.heap.size 8 (digs 8 (lo : Int)))] ?st ?ne rfl (by kernel_rfl) (by kernel_rfl) ?_
    case st =>
      intro p hp
      simp only [List.mem_cons, List.not_mem_nil, or_false] at hp
      rcases hp with rfl | rfl
      · intro v u u' h hk; exact h.on hk
      · intro v u u' h hk; exact h.on hk
    case ne =>
      intro p hp
      simp only [List.mem_cons, List.not_mem_nil, or_false] at hp
      rcases hp with rfl | rfl
      · exact ownV_is w1 8 (digs 8 (hi : Int)) (digs_length _ _) (by omega)
      · exact ownV_is w1 8 (digs 8 (lo : Int)) (digs_length _ _) (by omega)
    simp only [List.take_succ_cons, List.take_zero, List.drop_succ_cons, List.drop_zero]
    intro G pick hR hp1 hp2
    have p1 : ∀ u, (pick u).cell? ⟨xb, 1, none⟩ = some (.int .u64 (hi : Int)) := fun u => ((hp1 u).cell xlt (fun h => h) _).trans x1
    have p2 : ∀ u, (pick u).cell? ⟨xb, 2, none⟩ = some (.int .u64 (lo : Int)) := fun u => ((hp1 u).cell xlt (fun h => h) _).trans x2
    repeat (first | (refine wpR_det hp2 rfl ((hR.rel _).trans rfl) rfl ?_; intro K hK; go_big_quiet_op; go_big_quiet_on) | (refine wpR_ptr hp2 rfl ((hR.rel _).trans rfl) rfl rfl ?_; intro K hK; go_big_quiet_op; go_big_quiet_on) | (refine wpR_skip pick rfl ?_; intro K hK; go_big_quiet_op; go_big_quiet_on))
    refine wpR_rel pick rfl ((hR.rel _).trans rfl) ((hR.turns _).trans rfl) ?_ ?_
    · intro u hu
      have hk := hR.since hu.1
      have hks := hk.size
      unfold relAt
      go_simp
      refine (refBytes_any 8 (hi : Int) 8 u (by omega) (by omega) (by omega)).mono ?_
      rintro e w' ⟨rfl, ho, hb'⟩
      exact ⟨_, rfl, hR.intoB hb', hR.put 0 rfl rfl ⟨_, rfl, hks, ho⟩⟩
    intro v hv
    obtain ⟨u, _, hu⟩ := hv
    obtain ⟨g2, rfl, hg2, -⟩ := hR.get 0 rfl hu
    clear hu
    intro K hK
    go_big_quiet_op
    go_big_quiet_on
    repeat (first | (refine wpR_det hp2 rfl ((hR.rel _).trans rfl) rfl ?_; intro K hK; go_big_quiet_op; go_big_quiet_on) | (refine wpR_ptr hp2 rfl ((hR.rel _).trans rfl) rfl rfl ?_; intro K hK; go_big_quiet_op; go_big_quiet_on) | (refine wpR_skip pick rfl ?_; intro K hK; go_big_quiet_op; go_big_quiet_on))
    refine wpR_rel pick rfl ((hR.rel _).trans rfl) ((hR.turns _).trans rfl) ?_ ?_
    · intro u hu
      have hk := hR.since hu.1
      have hks := hk.size
      unfold relAt
      go_simp
      refine (refBytes_any 8 (lo : Int) 8 u (by omega) (by omega) (by omega)).mono ?_
      rintro e w' ⟨rfl, ho, hb'⟩
      exact ⟨_, rfl, hR.intoB hb', hR.put 1 rfl rfl ⟨_, rfl, hks, ho⟩⟩
    intro v hv
    obtain ⟨u, _, hu⟩ := hv
    obtain ⟨g5, rfl, hg5, -⟩ := hR.get 1 rfl hu
    clear hu
    intro K hK
    go_big_quiet_op
    go_big_quiet_on
    repeat (first | (refine wpR_det hp2 rfl ((hR.rel _).trans rfl) rfl ?_; intro K hK; go_big_quiet_op; go_big_quiet_on) | (refine wpR_ptr hp2 rfl ((hR.rel _).trans rfl) rfl rfl ?_; intro K hK; go_big_quiet_op; go_big_quiet_on) | (refine wpR_skip pick rfl ?_; intro K hK; go_big_quiet_op; go_big_quiet_on))
    refine wpR_nil ?_
    intro w2 hk2 hF hM
    have HT2 := Lib.hid (hR.get 0 rfl (hF _ _ (Got.upd_old (Got.upd_self _ _ _) rfl)))
    have HT5 := Lib.hid (hR.get 1 rfl (hF _ _ (Got.upd_self _ _ _)))
    have HK2 := Lib.hid hk2
    have hs2 := hk2.size
    clear hF hM hk2 hp1 hp2 hR p1 p2 x1 x2
    have HO2 := Lib.hid (show Own w2 5 g2 8 (digs 8 (hi : Int)) by obtain ⟨g, e, _, h⟩ := HT2.out; injection e with e; injection e with e; injection e with e; subst e; exact h)
    have HO5 := Lib.hid (show Own w2 5 g5 8 (digs 8 (lo : Int)) by obtain ⟨g, e, _, h⟩ := HT5.out; injection e with e; injection e with e; injection e with e; subst e; exact h)
    have HRW := Lib.hid (show Row w2 w.heap.size 5 (.slice (some ⟨g2, 0, none⟩) 8 8) (bcs (digs 8 (hi : Int))) by have := HO2.out.row (base := w.heap.size) (by omega); rwa [digs_length] at this)
    have HSR := Lib.hid (show Src w2 (some ⟨g5, 0, none⟩) (bcs (digs 8 (lo : Int))) from HO5.out.bs.src)
    go_wp2_with (at_builtin; refine wpList_append_row rfl (.tmp 11) (.tmp 14) 52 rfl w.heap.size 5 (.int .u8 0) 1 Try.underlying52 hinf rfl (.slice (some ⟨g2, 0, none⟩) 8 8) (bcs (digs 8 (hi : Int))) rfl (some ⟨g5, 0, none⟩) 8 8 (bcs (digs 8 (lo : Int))) rfl ?a0 HRW.out HSR.out (bcs_one _) ?a3 ?a4 ?a5 ?_)
    case a0 => simp [bcs_length, digs_length]
    case a3 => simp [bcs_length, digs_length]; unfold maxLen; omega
    case a4 => simp [bcs_length, digs_length]
    case a5 => omega
    intro v3 w3 hr3 hg3 _
    rw [← bcs_append] at hr3
    have HY := Lib.hid hr3.byt
    have HB3 := Lib.hid (show Below w.heap.size w w3 from (HB1.out.trans (HK2.out.below (by omega) (fun i h => h.elim))).trans (below_grown hg3 (fun i hi => by have hi' : some g2 = some i := hi; injection hi' with hi'; omega) (by omega)))
    clear hr3 hg3
    go_wp2_with fail
    go_ret
    exact ⟨_, rfl, by rw [HE.out]; exact HY.out, HB3.out⟩
set_option maxHeartbeats 2000000 in
theorem refOf4 (A : Option Addr) (c : Nat) (l : List UInt8) (w : World) (hl : l.length = 4) (hB : BS w w.heap.size A l) : Calls Try.prog 25 #[.slice A 4 c] w fun e w' => e = .returned (.tuple #[.agg #[.bool false, .int .u64 0, .int .u64 (num l)], .bool true]) ∧ Below w.heap.size w w' := by
  have HN := Lib.hid (fun w' (h : Below w.heap.size w w') => refNum_any A c l w' (by omega) (hB.onB h (Nat.le_refl _)))
  rw [hl] at HN
  clear hB
  go_enter Try.func25, Try.ntmps25
  go_wp2_with fail
  refine (HN.out _ bel1).mono ?_
  rintro e w1 ⟨rfl, rfl⟩
  go_wp2_with fail
  refine bodyPost_ret (results_blk_tmp (P := Try.prog) Try.results25 _ _ w.heap.size 24 #[.bool false, .int .u64 0, .int .u64 (num l)] _ rfl ?_ Try.underlying24 rfl (by kernel_rfl)) rfl ⟨rfl, ?_⟩
  · go_light
    exact Blk.new _ _ _
  · go_light
    exact bel1
set_option maxHeartbeats 2000000 in
theorem refOf16 (A : Option Addr) (c : Nat) (l : List UInt8) (w : World) (hl : l.length = 16) (hc : 16 ≤ c) (hcm : c ≤ maxLen) (hB : BS w w.heap.size A l) : Calls Try.prog 25 #[.slice A 16 c] w fun e w' => e = .returned (.tuple #[.agg #[.bool true, .int .u64 (num (l.take 8)), .int .u64 (num (l.drop 8))], .bool true]) ∧ Below w.heap.size w w' := by
  obtain ⟨b, o, hb, rfl, hat⟩ := hB.at (k := 0) (by omega)
  have hT := hat.take 8
  have hD := hat.drop 8
  have HT := Lib.hid (fun w' (h : Below w.heap.size w w') => refNum_any (some ⟨b, o, none⟩) c (l.take 8) w' (by simp; omega) ((BS.of_at (B := w.heap.size) hT hb).onB h (Nat.le_refl _)))
  have HD := Lib.hid (fun w' (h : Below w.heap.size w w') => refNum_any (some ⟨b, o + 8, none⟩) (c - 8) (l.drop 8) w' (by simp; omega) ((BS.of_at (B := w.heap.size) hD hb).onB h (Nat.le_refl _)))
  rw [show (l.take 8).length = 8 by simp; omega] at HT
  rw [show (l.drop 8).length = 8 by simp; omega] at HD
  unfold maxLen at hcm
  clear hB hat hT hD hl
  go_enter Try.func25, Try.ntmps25
  go_upto_region 5 with fail
  obtain ⟨w1, hw1⟩ : ∃ w1 : World, w1 = w.alloc (.cells #[.bool false, .int .u64 0, .int .u64 0] 24) := ⟨_, rfl⟩
  have HX1 := Lib.hid (show Blk w1 w.heap.size 24 #[.bool false, .int .u64 0, .int .u64 0] by rw [hw1]; exact Blk.new _ _ _)
  have HB1 := Lib.hid (show Below w.heap.size w w1 by rw [hw1]; exact bel1)
  rw [← hw1]
  clear hw1
  have hc8 : (8 : Int) ≤ (c : Int) := by omega
  have hc16 : (16 : Int) ≤ (c : Int) := by omega
  have hne : ¬ c = 8 := by omega
  refine wp_region_kept 7 [(2, fun v u => v = .int .u64 (num (l.take 8))), (5, fun v u => v = .int .u64 (num (l.drop 8)))] ?st ?ne rfl (by kernel_rfl) (by kernel_rfl) ?_
  case st =>
    intro p hp
    simp only [List.mem_cons, List.not_mem_nil, or_false] at hp
    rcases hp with rfl | rfl
    · intro v u u' h hk; exact h
    · intro v u u' h hk; exact h
  case ne =>
    intro p hp
    simp only [List.mem_cons, List.not_mem_nil, or_false] at hp
    rcases hp with rfl | rfl
    · exact ⟨_, _, Kept.refl _ _, rfl⟩
    · exact ⟨_, _, Kept.refl _ _, rfl⟩
  simp only [List.take_succ_cons, List.take_zero, List.drop_succ_cons, List.drop_zero]
  intro G pick hR hp1 hp2
  repeat (first | (refine wpR_det hp2 rfl ((hR.rel _).trans rfl) rfl ?_; intro K hK; go_big_quiet_op; go_big_quiet_on) | (refine wpR_ptr hp2 rfl ((hR.rel _).trans rfl) rfl rfl ?_; intro K hK; go_big_quiet_op; go_big_quiet_on) | (refine wpR_skip pick rfl ?_; intro K hK; go_big_quiet_op; go_big_quiet_on))
  refine wpR_rel pick rfl ((hR.rel _).trans rfl) ((hR.turns _).trans rfl) ?_ ?_
  · intro u hu
    have hk := hR.since hu.1
    have hks := hk.size
    unfold relAt
    go_simp
    refine (HT.out u (HB1.out.trans (hk.below HB1.out.size (fun _ h => h.elim)))).mono ?_
    rintro e w' ⟨rfl, rfl⟩
    exact ⟨_, rfl, hR.intoB (Below.refl _ _), hR.put 0 rfl rfl rfl⟩
  intro v hv
  obtain ⟨u, _, hu⟩ := hv
  obtain rfl := hR.get 0 rfl hu
  clear hu
  intro K hK
  go_big_quiet_op
  go_big_quiet_on
  repeat (first | (refine wpR_det hp2 rfl ((hR.rel _).trans rfl) rfl ?_; intro K hK; go_big_quiet_op; go_big_quiet_on) | (refine wpR_ptr hp2 rfl ((hR.rel _).trans rfl) rfl rfl ?_; intro K hK; go_big_quiet_op; go_big_quiet_on) | (refine wpR_skip pick rfl ?_; intro K hK; go_big_quiet_op; go_big_quiet_on))
  refine wpR_rel pick rfl ((hR.rel _).trans rfl) ((hR.turns _).trans rfl) ?_ ?_
  · intro u hu
    have hk := hR.since hu.1
    have hks := hk.size
    unfold relAt
    go_simp
    refine (HD.out u (HB1.out.trans (hk.below HB1.out.size (fun _ h => h.elim)))).mono ?_
    rintro e w' ⟨rfl, rfl⟩
    exact ⟨_, rfl, hR.intoB (Below.refl _ _), hR.put 1 rfl rfl rfl⟩
  intro v hv
  obtain ⟨u, _, hu⟩ := hv
  obtain rfl := hR.get 1 rfl hu
  clear hu
  intro K hK
  go_big_quiet_op
  go_big_quiet_on
  repeat (first | (refine wpR_det hp2 rfl ((hR.rel _).trans rfl) rfl ?_; intro K hK; go_big_quiet_op; go_big_quiet_on) | (refine wpR_ptr hp2 rfl ((hR.rel _).trans rfl) rfl rfl ?_; intro K hK; go_big_quiet_op; go_big_quiet_on) | (refine wpR_skip pick rfl ?_; intro K hK; go_big_quiet_op; go_big_quiet_on))
  refine wpR_nil ?_
  intro w2 hk2 hF hM
  have HX2 := Lib.hid (HX1.out.kept hk2 (fun h => h))
  have HK2 := Lib.hid hk2
  have x2 := HX2.out.cell
  have xf := HX2.out.frozen
  have xlt := HX2.out.lt
  clear hF hM hk2 hp1 hp2 hR
  go_wp2_with fail
  refine bodyPost_ret (results_blk_tmp (P := Try.prog) Try.results25 _ _ w.heap.size 24 #[.bool true, .int .u64 (num (l.take 8)), .int .u64 (num (l.drop 8))] _ rfl ?_ Try.underlying24 rfl (by kernel_rfl)) rfl ⟨rfl, ?_⟩
  · go_light
    repeat (first | (with_reducible apply Blk.set_to) | ((with_reducible apply Blk.far'); omega))
    exact HX2.out
    all_goals rfl
  · go_light
    refine Kept.below (S := fun i => w.heap.size ≤ i) ?_ (Nat.le_refl _) (fun i h => h)
    repeat (first | ((with_reducible apply Kept.setNew); omega))
    exact (Kept.of_below HB1.out (fun i _ h => h)).then HK2.out (fun i _ h => h.elim)
end Go.Proofs.Ytchgbdghllkcpaa
