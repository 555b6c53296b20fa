/- The law VarintPuts, walked. -/
import Derived.Test.YtpclmedpnoalhaaW
import Derived.Test.YtpclmedpnoalhaaRgRow
namespace Go.Proofs.Ytpclmedpnoalhaa
open Go.RowKit
set_option linter.unusedVariables false

theorem size_0 (n : Int) (w : World) (h0 : 4611686018427387904 ≤ n) : Calls Try.prog 16 #[.int .u64 n] w fun e w' => e = .returned (.int .i64 0) ∧ w = w' := by
  go_enter Try.func16, Try.ntmps16
  go_wp2_with fail
  go_ret
  exact ⟨rfl, rfl⟩
theorem refSize_0 (n : Int) (w : World) (h0 : 4611686018427387904 ≤ n) : Calls Try.prog 17 #[.int .u64 n] w fun e w' => e = .returned (.int .i64 0) ∧ w = w' := by
  go_enter Try.func17, Try.ntmps17
  go_wp2_with fail
  refine wp_loop_rounds 5 ?_; rw [rounds_succ]
  go_wp2_with fail
  refine (power_any 0 w (by omega)).mono ?_
  rintro e w1 ⟨rfl, rfl⟩
  rw [show ((2 ^ 0 : Nat) : Int) = 1 from rfl]
  go_wp2_with fail
  refine (power_any 6 w (by omega)).mono ?_
  rintro e w1 ⟨rfl, rfl⟩
  rw [show ((2 ^ 6 : Nat) : Int) = 64 from rfl]
  go_wp2_with fail
  rw [rounds_succ]
  go_wp2_with fail
  refine (power_any 1 w (by omega)).mono ?_
  rintro e w1 ⟨rfl, rfl⟩
  rw [show ((2 ^ 1 : Nat) : Int) = 2 from rfl]
  go_wp2_with fail
  refine (power_any 14 w (by omega)).mono ?_
  rintro e w1 ⟨rfl, rfl⟩
  rw [show ((2 ^ 14 : Nat) : Int) = 16384 from rfl]
  go_wp2_with fail
  rw [rounds_succ]
  go_wp2_with fail
  refine (power_any 2 w (by omega)).mono ?_
  rintro e w1 ⟨rfl, rfl⟩
  rw [show ((2 ^ 2 : Nat) : Int) = 4 from rfl]
  go_wp2_with fail
  refine (power_any 30 w (by omega)).mono ?_
  rintro e w1 ⟨rfl, rfl⟩
  rw [show ((2 ^ 30 : Nat) : Int) = 1073741824 from rfl]
  go_wp2_with fail
  rw [rounds_succ]
  go_wp2_with fail
  refine (power_any 3 w (by omega)).mono ?_
  rintro e w1 ⟨rfl, rfl⟩
  rw [show ((2 ^ 3 : Nat) : Int) = 8 from rfl]
  go_wp2_with fail
  refine (power_any 62 w (by omega)).mono ?_
  rintro e w1 ⟨rfl, rfl⟩
  rw [show ((2 ^ 62 : Nat) : Int) = 4611686018427387904 from rfl]
  go_wp2_with fail
  rw [rounds_succ]
  go_wp2_with fail
  go_ret
  exact ⟨rfl, rfl⟩
theorem put_0 (A : Option Addr) (c k : Nat) (n : Int) (w : World) (h0 : 4611686018427387904 ≤ n) :
    Calls Try.prog 15 #[.slice A k c, .int .u64 n] w fun e w' => e = .returned (.tuple #[.slice none 0 0, .int .i64 30]) ∧ w = w' := by
  go_enter Try.func15, Try.ntmps15
  go_wp2_with fail
  refine (size_0 n w h0).mono ?_
  rintro e w1 ⟨rfl, rfl⟩
  go_wp2_with fail
  go_ret2
  exact ⟨rfl, rfl⟩
theorem puts_0 (A : Option Addr) (c k : Nat) (n : Int) (w : World) (h0 : 4611686018427387904 ≤ n) (hk : k ≤ 500) :
    Calls Try.prog 6 #[.slice A k c, .int .u64 n] w fun e w' => e = .returned (.bool true) ∧ Below w.heap.size w w' := by
  go_enter Try.func6, Try.ntmps6
  go_wp2_with fail
  refine (put_0 A c k n w h0).mono ?_
  rintro e w1 ⟨rfl, rfl⟩
  go_wp2_with fail
  refine (size_0 n w h0).mono ?_
  rintro e w1 ⟨rfl, rfl⟩
  go_wp2_with fail
  refine (refSize_0 n w h0).mono ?_
  rintro e w1 ⟨rfl, rfl⟩
  go_wp2_with fail
  refine (refSize_0 n w h0).mono ?_
  rintro e w1 ⟨rfl, rfl⟩
  go_wp2_with fail
  refine (awake_any w).mono ?_
  rintro e w1 ⟨rfl, rfl⟩
  go_wp2_with fail
  go_ret
  exact ⟨rfl, Below.refl _ _⟩
theorem puts_long (A : Option Addr) (c k : Nat) (n : Int) (w : World) (h : 500 < k) (hk : k ≤ maxLen) :
    Calls Try.prog 6 #[.slice A k c, .int .u64 n] w fun e w' => e = .returned (.bool true) ∧ Below w.heap.size w w' := by
  unfold maxLen at hk
  go_enter Try.func6, Try.ntmps6
  go_wp2_with fail
  refine (awake_any w).mono ?_
  rintro e w1 ⟨rfl, rfl⟩
  go_wp2_with fail
  go_ret
  exact ⟨rfl, Below.refl _ _⟩

set_option maxRecDepth 100000 in
set_option maxHeartbeats 800000 in
theorem puts_1 (A : Option Addr) (c : Nat) (l : List UInt8) (n : Int) (w : World) (h0 : 0 ≤ n) (h1 : n < 64) (hl : l.length ≤ 500) (hB : BS w w.heap.size A l) :
    Calls Try.prog 6 #[.slice A l.length c, .int .u64 n] w fun e w' => e = .returned (.bool true) ∧ Below w.heap.size w w' := by
  have HB := Lib.hid hB
  have h5 := Try.info5t
  obtain ⟨tk1, tk2⟩ : tkN (digs 1 n ++ l) = 1 ∧ tkV (digs 1 n ++ l) = n := by
    have := tk_marks 0 n 0 l (by omega) (by simp; omega) (by omega) (by omega) (by rfl)
    simpa using this
  have HT1 := Lib.hid tk1
  have HT2 := Lib.hid tk2
  have HEL := Lib.hid (digs_length 1 n)
  obtain ⟨enc, henc⟩ : ∃ enc, enc = digs 1 n := ⟨_, rfl⟩
  rw [← henc] at HT1 HT2 HEL
  have HP := Lib.hid (put_1 A c l n w h0 h1 (by omega) hB)
  have HRB := Lib.hid (fun u => refBytes_1 n u h0 h1)
  rw [← henc] at HP
  have HRB' : Hid (∀ u, Calls Try.prog 18 #[.int .u64 n] u fun e w' => e = .returned (.slice (some ⟨u.heap.size, 0, none⟩) 1 1) ∧ Own w' 5 u.heap.size 1 enc ∧ Below u.heap.size u w') := Lib.hid (fun u => by rw [henc]; exact refBytes_1 n u h0 h1)
  clear hB tk1 tk2 henc HRB
  go_enter Try.func6, Try.ntmps6
  go_wp2_with fail
  refine HP.out.mono ?_
  rintro e w1 ⟨rfl, hO1, hb1⟩
  have hs1 := hb1.size
  have hg1 := hO1.lt
  have HO1 := Lib.hid hO1
  have HB1 := Lib.hid hb1
  clear hO1 hb1
  go_wp2_with fail
  refine (size_1 n w1 h0 h1).mono ?_
  rintro e w2 ⟨rfl, rfl⟩
  go_wp2_with fail
  refine (refSize_1 n w1 h0 h1).mono ?_
  rintro e w2 ⟨rfl, rfl⟩
  go_wp2_with fail
  refine (refSize_1 n w1 h0 h1).mono ?_
  rintro e w2 ⟨rfl, rfl⟩
  go_wp2_with fail
  refine (HRB'.out w1).mono ?_
  rintro e w2 ⟨rfl, hO2, hb2⟩
  have hs2 := hb2.size
  have hr2 := hO2.row (base := w1.heap.size) (Nat.le_refl _)
  rw [HEL.out] at hr2
  have HR2 := Lib.hid hr2
  have HO2 := Lib.hid (HO1.out.below hb2 hg1)
  have HB2 := Lib.hid (HB1.out.trans (hb2.mono hs1))
  have HL2 := Lib.hid ((HB.out.onB HB1.out (Nat.le_refl _)).onB hb2 (Nat.le_refl _))
  clear hO2 hb2 hr2
  go_wp2_with (at_builtin; refine wpList_append_row rfl (.tmp 40) (.tmp 41) 34 rfl w1.heap.size 5 (.int .u8 0) 1 Try.underlying34 h5 rfl _ (bcs enc) rfl A l.length c (bcs l) rfl ?a0 HR2.out HL2.out.src (bcs_one _) ?a3 ?a4 hs2 ?_)
  case a0 => rw [bcs_length]
  case a3 => rw [bcs_length, bcs_length, HEL.out]; unfold maxLen; omega
  case a4 => rw [bcs_length, bcs_length, HEL.out]; omega
  intro v3 w3 hrow hgr _
  rw [← bcs_append] at hrow
  obtain ⟨NA, nc, hve, hnl, hnc, hbs⟩ := Row.byt hrow
  rw [List.length_append, HEL.out] at hve
  subst hve
  have hs3 := hgr.size
  have HN := Lib.hid hbs
  have hk3 : Kept (fun i => w1.heap.size ≤ i) w2 w3 := kept_grown hgr (fun i e _ => by simp [Value.ownBlock] at e; omega)
  have HB3 := Lib.hid (HB2.out.trans (hk3.below (by omega) (fun i h => by omega)))
  have HO3 := Lib.hid (HO2.out.kept hk3 (by omega))
  clear hrow hgr hbs hk3
  go_wp2_with fail
  have hz := take_any NA nc (enc ++ l) w3 (by rw [List.length_append, HEL.out]; omega) hnl hnc HN.out
  rw [List.length_append, HEL.out] at hz
  have HTK := Lib.hid hz
  clear hz
  clear hnl hnc
  refine HTK.out.mono ?_
  rintro e w4 ⟨htk, hb4⟩
  have hs4 := hb4.size
  rcases htk with ⟨hz, _⟩ | ⟨_, v4, rfl, hy⟩
  · exact absurd hz (by rw [HT1.out]; omega)
  rw [HT1.out, List.drop_left' HEL.out] at hy
  rw [HT2.out]
  obtain ⟨A4, c4, rfl, _, _, hbs4⟩ := hy
  have HB4 := Lib.hid (HB3.out.trans (hb4.mono (by omega)))
  have HO4 := Lib.hid (HO3.out.below hb4 (by omega))
  have HY4 := Lib.hid hbs4
  have HL4 := Lib.hid (HB.out.onB HB4.out (Nat.le_refl _))
  clear hb4 hbs4 HN HTK HB1 HO1 HR2 HO2 HB2 HL2 HB3 HO3
  go_wp2_with fail
  refine wp_region_add 34 (fun i => w4.heap.size ≤ i) [2, 4, 6, 7, 8] [2, 6, 8] [(2, fun v u => v = .slice (some ⟨v.ownBlock.getD 0, 0, none⟩) 0 0 ∧ Row u w4.heap.size 5 v (bcs [])), (4, fun v u => Row u w4.heap.size 5 v (bcs l)), (6, fun v u => v = .slice (some ⟨v.ownBlock.getD 0, 0, none⟩) 1 1 ∧ BS u u.heap.size (some ⟨v.ownBlock.getD 0, 0, none⟩) enc), (7, fun v u => Byt u v (l ++ enc)), (8, fun v u => v = .string ⟨(l ++ enc).toArray⟩), (31, fun v u => v = .bool true)] ?st ?ne rfl (by kernel_rfl) (by kernel_rfl) (by kernel_rfl) ?_
  case st =>
    intro p hp
    simp only [List.mem_cons, List.not_mem_nil, or_false] at hp
    rcases hp with rfl | rfl | rfl | rfl | rfl | rfl
    · intro v u u' h hk; exact ⟨h.1, h.2.kept hk (fun _ _ h => h)⟩
    · intro v u u' h hk; exact Row.kept h hk (fun _ _ h => h)
    · intro v u u' h hk; exact ⟨h.1, h.2.on hk (fun _ _ h => h)⟩
    · intro v u u' h hk; exact h.on0 hk
    · intro v u u' h hk; exact h
    · intro v u u' h hk; exact h
  case ne =>
    intro p hp
    simp only [List.mem_cons, List.not_mem_nil, or_false] at hp
    rcases hp with rfl | rfl | rfl | rfl | rfl | rfl
    · exact ⟨_, _, (Kept.refl _ _).alloc _, rfl, Row.of_blk (cs := #[]) (Blk.new_ rfl _ _) (Nat.le_refl _) (by simp) rfl⟩
    · exact ⟨_, _, (Kept.refl _ _).alloc _, (Own.of_blk (e := 5) (Blk.new w4 5 (bcs l).toArray) (by unfold maxLen; omega)).row (Nat.le_refl _)⟩
    · exact ⟨.slice (some ⟨w4.heap.size, 0, none⟩) 1 1, _, (Kept.refl _ _).alloc _, rfl, (Own.of_blk (e := 5) (Blk.new w4 5 (bcs enc).toArray) (by rw [HEL.out]; unfold maxLen; omega)).bs⟩
    · exact Byt.some _ _ (by rw [List.length_append, HEL.out]; unfold maxLen; omega)
    · exact ⟨_, _, Kept.refl _ _, rfl⟩
    · exact ⟨_, _, Kept.refl _ _, rfl⟩
  simp only [List.take_succ_cons, List.take_zero, List.drop_succ_cons, List.drop_zero]
  intro G pick hR hp1 hp2
  have hcA : ∀ u, (convert 34 9 (.slice (some ⟨w.heap.size, 0, none⟩) (l.length + 1) (l.length + 1))).run Try.prog (pick u) = .ok (.string ⟨(l ++ enc).toArray⟩) (pick u) := fun u => by have h := (HO4.out.bs.on (hp1 u) (fun i hi h => by omega)).conv Try.underlying34 Try.underlying5 Try.underlying9 (c := l.length + 1); rw [List.length_append, HEL.out] at h; exact h
  have hcB : ∀ u, (convert 34 9 (.slice A4 l.length c4)).run Try.prog (pick u) = .ok (.string ⟨l.toArray⟩) (pick u) := fun u => (HY4.out.on (hp1 u) (fun i hi h => by omega)).conv Try.underlying34 Try.underlying5 Try.underlying9
  have hcC : ∀ u, (convert 34 9 (.slice A l.length c)).run Try.prog (pick u) = .ok (.string ⟨l.toArray⟩) (pick u) := fun u => (HL4.out.on (hp1 u) (fun i hi h => by omega)).conv Try.underlying34 Try.underlying5 Try.underlying9
  repeat (first | (refine wpR_det hp2 rfl ((hR.rel _).trans rfl) rfl ?_; intro K hK; go_big_quiet_op; go_big_quiet_on) | (refine wpR_skip pick rfl ?_; intro K hK; go_big_quiet_op; go_big_quiet_on))
  refine wpR_add pick rfl ((hR.rel _).trans rfl) ((hR.turns _).trans rfl) ((hR.adds _).trans rfl) ?_ ?_
  · intro u hu hM
    have hk := hR.since hu.1
    have hks := hk.size
    unfold relAt
    go_simp
    exact ⟨hR.into0 ((Kept.refl _ _).alloc _), hR.put 0 rfl rfl ⟨rfl, Row.of_blk (cs := #[]) (Blk.new_ rfl _ _) hks (by simp) rfl⟩⟩
  intro v hv
  obtain ⟨u, _, hu⟩ := hv
  obtain ⟨hv2, hrow2⟩ := hR.get 0 rfl hu
  clear hu
  obtain ⟨g2, hg2⟩ : ∃ g, v = .slice (some ⟨g, 0, none⟩) 0 0 := ⟨_, hv2⟩
  subst hg2
  clear hv2 hrow2
  intro K hK
  go_big_quiet_op
  go_big_quiet_on
  repeat (first | (refine wpR_det hp2 rfl ((hR.rel _).trans rfl) rfl ?_; intro K hK; go_big_quiet_op; go_big_quiet_on) | (refine wpR_skip pick rfl ?_; intro K hK; go_big_quiet_op; go_big_quiet_on))
  refine wpR_turn pick rfl ((hR.rel _).trans rfl) ((hR.turns _).trans rfl) ((hR.adds _).trans rfl) ?_ ?_
  · intro u hu hM
    have hk := hR.since hu.1
    have hks := hk.size
    have hr := (hR.get 0 rfl hM.2).2
    refine relAt_append_row (.tmp 49) (.tmp 50) 34 rfl w4.heap.size 5 (.int .u8 0) 1 Try.underlying34 h5 rfl _ (bcs []) rfl A l.length c (bcs l) rfl ?_ hr (HL4.out.on hk (fun i hi h => by omega)).src (bcs_one _) ?_ ?_ hks ?_
    · rw [bcs_length]
    · rw [bcs_length, bcs_length]; unfold maxLen; simp; omega
    · rw [bcs_length, bcs_length]; simp; omega
    · intro v' w' hr' hg' _
      exact ⟨hR.into (kept_grown hg' (fun i e _ => (hr.lt i e).1)), hR.put 1 rfl rfl hr'⟩
  intro v hv
  obtain ⟨u, _, hu⟩ := hv
  obtain hrow4 := hR.get 1 rfl hu
  clear hu
  clear hrow4
  intro K hK
  go_big_quiet_op
  go_big_quiet_on
  repeat (first | (refine wpR_det hp2 rfl ((hR.rel _).trans rfl) rfl ?_; intro K hK; go_big_quiet_op; go_big_quiet_on) | (refine wpR_skip pick rfl ?_; intro K hK; go_big_quiet_op; go_big_quiet_on))
  refine wpR_add pick rfl ((hR.rel _).trans rfl) ((hR.turns _).trans rfl) ((hR.adds _).trans rfl) ?_ ?_
  · intro u hu hM
    have hk := hR.since hu.1
    have hks := hk.size
    unfold relAt
    go_simp
    refine (HRB'.out u).mono ?_
    rintro e w' ⟨rfl, hO, hb⟩
    exact ⟨_, rfl, hR.intoB hb, hR.put 2 rfl rfl ⟨rfl, hO.bs⟩⟩
  intro v hv
  obtain ⟨u, _, hu⟩ := hv
  obtain ⟨hv6, -⟩ := hR.get 2 rfl hu
  clear hu
  obtain ⟨g6, hg6⟩ : ∃ g, v = .slice (some ⟨g, 0, none⟩) 1 1 := ⟨_, hv6⟩
  subst hg6
  clear hv6
  intro K hK
  go_big_quiet_op
  go_big_quiet_on
  repeat (first | (refine wpR_det hp2 rfl ((hR.rel _).trans rfl) rfl ?_; intro K hK; go_big_quiet_op; go_big_quiet_on) | (refine wpR_skip pick rfl ?_; intro K hK; go_big_quiet_op; go_big_quiet_on))
  refine wpR_turn pick rfl ((hR.rel _).trans rfl) ((hR.turns _).trans rfl) ((hR.adds _).trans rfl) ?_ ?_
  · intro u hu hM
    have hk := hR.since hu.1
    have hks := hk.size
    have hr : Row u w4.heap.size 5 v (bcs l) := hR.get 1 rfl hM.1
    have hb6 := (hR.get 2 rfl hM.2).2
    refine relAt_append_row (.tmp 51) (.tmp 53) 34 rfl w4.heap.size 5 (.int .u8 0) 1 Try.underlying34 h5 rfl _ (bcs l) rfl _ _ _ (bcs enc) rfl ?_ hr hb6.src (bcs_one _) ?_ ?_ hks ?_
    · rw [bcs_length, HEL.out]
    · rw [bcs_length, bcs_length, HEL.out]; unfold maxLen; omega
    · rw [bcs_length, bcs_length, HEL.out]; omega
    · intro v' w' hr' hg' _
      rw [← bcs_append] at hr'
      exact ⟨hR.into (kept_grown hg' (fun i e _ => (hr.lt i e).1)), hR.put 3 rfl rfl hr'.byt⟩
  intro v hv
  obtain ⟨u, _, hu⟩ := hv
  obtain ⟨A7, c7, rfl, -, -, -⟩ := hR.get 3 rfl hu
  clear hu
  rw [List.length_append, HEL.out]
  intro K hK
  go_big_quiet_op
  go_big_quiet_on
  repeat (first | (refine wpR_det hp2 rfl ((hR.rel _).trans rfl) rfl ?_; intro K hK; go_big_quiet_op; go_big_quiet_on) | (refine wpR_skip pick rfl ?_; intro K hK; go_big_quiet_op; go_big_quiet_on))
  refine wpR_add pick rfl ((hR.rel _).trans rfl) ((hR.turns _).trans rfl) ((hR.adds _).trans rfl) ?_ ?_
  · intro u hu hM
    have hk := hR.since hu.1
    have hks := hk.size
    have hb7 := hR.get 3 rfl hM
    obtain ⟨A8, c8, e8, -, -, hbs8⟩ := hb7
    injection e8 with ea el ec
    subst ea ec
    have hcv := hbs8.conv Try.underlying34 Try.underlying5 Try.underlying9 (c := c7)
    rw [List.length_append, HEL.out] at hcv
    clear el hbs8
    unfold relAt
    go_simp
    exact ⟨hR.same, hR.put 4 rfl rfl rfl⟩
  intro v hv
  obtain ⟨u, _, hu⟩ := hv
  obtain rfl := hR.get 4 rfl hu
  clear hu
  intro K hK
  go_big_quiet_op
  go_big_quiet_on
  repeat (first | (refine wpR_det hp2 rfl ((hR.rel _).trans rfl) rfl ?_; intro K hK; go_big_quiet_op; go_big_quiet_on) | (refine wpR_skip pick rfl ?_; intro K hK; go_big_quiet_op; go_big_quiet_on))
  refine wpR_rel pick rfl ((hR.rel _).trans rfl) ((hR.turns _).trans rfl) ?_ ?_
  · intro u hu
    have hk := hR.since hu.1
    have hks := hk.size
    unfold relAt
    go_simp
    refine (awake_any u).mono ?_
    rintro e w' ⟨rfl, rfl⟩
    exact ⟨_, rfl, hR.same, hR.put 5 rfl rfl rfl⟩
  intro v hv
  obtain ⟨u, _, hu⟩ := hv
  obtain rfl := hR.get 5 rfl hu
  clear hu
  intro K hK
  go_big_quiet_op
  go_big_quiet_on
  repeat (first | (refine wpR_det hp2 rfl ((hR.rel _).trans rfl) rfl ?_; intro K hK; go_big_quiet_op; go_big_quiet_on) | (refine wpR_skip pick rfl ?_; intro K hK; go_big_quiet_op; go_big_quiet_on))
  refine wpR_nil ?_
  intro w5 hk2 hF hM
  have HB5 := Lib.hid (HB4.out.trans (hk2.below (by have := HB4.out.size; omega) (fun i h => by have := HB4.out.size; omega)))
  clear hF hM hk2 hp1 hp2 hR hcA hcB hcC
  go_wp2_with fail
  go_ret
  exact ⟨rfl, HB5.out⟩

set_option maxRecDepth 100000 in
set_option maxHeartbeats 800000 in
theorem puts_2 (A : Option Addr) (c : Nat) (l : List UInt8) (n : Int) (w : World) (h0 : 64 ≤ n) (h1 : n < 16384) (hl : l.length ≤ 500) (hB : BS w w.heap.size A l) :
    Calls Try.prog 6 #[.slice A l.length c, .int .u64 n] w fun e w' => e = .returned (.bool true) ∧ Below w.heap.size w w' := by
  have HB := Lib.hid hB
  have h5 := Try.info5t
  obtain ⟨tk1, tk2⟩ : tkN (digs 2 (n + 16384) ++ l) = 2 ∧ tkV (digs 2 (n + 16384) ++ l) = n := by
    have := tk_marks 1 n 1 l (by omega) (by simp; omega) (by omega) (by omega) (by rfl)
    simpa using this
  have HT1 := Lib.hid tk1
  have HT2 := Lib.hid tk2
  have HEL := Lib.hid (digs_length 2 (n + 16384))
  obtain ⟨enc, henc⟩ : ∃ enc, enc = digs 2 (n + 16384) := ⟨_, rfl⟩
  rw [← henc] at HT1 HT2 HEL
  have HP := Lib.hid (put_2 A c l n w h0 h1 (by omega) hB)
  have HRB := Lib.hid (fun u => refBytes_2 n u h0 h1)
  rw [← henc] at HP
  have HRB' : Hid (∀ u, Calls Try.prog 18 #[.int .u64 n] u fun e w' => e = .returned (.slice (some ⟨u.heap.size, 0, none⟩) 2 2) ∧ Own w' 5 u.heap.size 2 enc ∧ Below u.heap.size u w') := Lib.hid (fun u => by rw [henc]; exact refBytes_2 n u h0 h1)
  clear hB tk1 tk2 henc HRB
  go_enter Try.func6, Try.ntmps6
  go_wp2_with fail
  refine HP.out.mono ?_
  rintro e w1 ⟨rfl, hO1, hb1⟩
  have hs1 := hb1.size
  have hg1 := hO1.lt
  have HO1 := Lib.hid hO1
  have HB1 := Lib.hid hb1
  clear hO1 hb1
  go_wp2_with fail
  refine (size_2 n w1 h0 h1).mono ?_
  rintro e w2 ⟨rfl, rfl⟩
  go_wp2_with fail
  refine (refSize_2 n w1 h0 h1).mono ?_
  rintro e w2 ⟨rfl, rfl⟩
  go_wp2_with fail
  refine (refSize_2 n w1 h0 h1).mono ?_
  rintro e w2 ⟨rfl, rfl⟩
  go_wp2_with fail
  refine (HRB'.out w1).mono ?_
  rintro e w2 ⟨rfl, hO2, hb2⟩
  have hs2 := hb2.size
  have hr2 := hO2.row (base := w1.heap.size) (Nat.le_refl _)
  rw [HEL.out] at hr2
  have HR2 := Lib.hid hr2
  have HO2 := Lib.hid (HO1.out.below hb2 hg1)
  have HB2 := Lib.hid (HB1.out.trans (hb2.mono hs1))
  have HL2 := Lib.hid ((HB.out.onB HB1.out (Nat.le_refl _)).onB hb2 (Nat.le_refl _))
  clear hO2 hb2 hr2
  go_wp2_with (at_builtin; refine wpList_append_row rfl (.tmp 40) (.tmp 41) 34 rfl w1.heap.size 5 (.int .u8 0) 1 Try.underlying34 h5 rfl _ (bcs enc) rfl A l.length c (bcs l) rfl ?a0 HR2.out HL2.out.src (bcs_one _) ?a3 ?a4 hs2 ?_)
  case a0 => rw [bcs_length]
  case a3 => rw [bcs_length, bcs_length, HEL.out]; unfold maxLen; omega
  case a4 => rw [bcs_length, bcs_length, HEL.out]; omega
  intro v3 w3 hrow hgr _
  rw [← bcs_append] at hrow
  obtain ⟨NA, nc, hve, hnl, hnc, hbs⟩ := Row.byt hrow
  rw [List.length_append, HEL.out] at hve
  subst hve
  have hs3 := hgr.size
  have HN := Lib.hid hbs
  have hk3 : Kept (fun i => w1.heap.size ≤ i) w2 w3 := kept_grown hgr (fun i e _ => by simp [Value.ownBlock] at e; omega)
  have HB3 := Lib.hid (HB2.out.trans (hk3.below (by omega) (fun i h => by omega)))
  have HO3 := Lib.hid (HO2.out.kept hk3 (by omega))
  clear hrow hgr hbs hk3
  go_wp2_with fail
  have hz := take_any NA nc (enc ++ l) w3 (by rw [List.length_append, HEL.out]; omega) hnl hnc HN.out
  rw [List.length_append, HEL.out] at hz
  have HTK := Lib.hid hz
  clear hz
  clear hnl hnc
  refine HTK.out.mono ?_
  rintro e w4 ⟨htk, hb4⟩
  have hs4 := hb4.size
  rcases htk with ⟨hz, _⟩ | ⟨_, v4, rfl, hy⟩
  · exact absurd hz (by rw [HT1.out]; omega)
  rw [HT1.out, List.drop_left' HEL.out] at hy
  rw [HT2.out]
  obtain ⟨A4, c4, rfl, _, _, hbs4⟩ := hy
  have HB4 := Lib.hid (HB3.out.trans (hb4.mono (by omega)))
  have HO4 := Lib.hid (HO3.out.below hb4 (by omega))
  have HY4 := Lib.hid hbs4
  have HL4 := Lib.hid (HB.out.onB HB4.out (Nat.le_refl _))
  clear hb4 hbs4 HN HTK HB1 HO1 HR2 HO2 HB2 HL2 HB3 HO3
  go_wp2_with fail
  refine wp_region_add 34 (fun i => w4.heap.size ≤ i) [2, 4, 6, 7, 8] [2, 6, 8] [(2, fun v u => v = .slice (some ⟨v.ownBlock.getD 0, 0, none⟩) 0 0 ∧ Row u w4.heap.size 5 v (bcs [])), (4, fun v u => Row u w4.heap.size 5 v (bcs l)), (6, fun v u => v = .slice (some ⟨v.ownBlock.getD 0, 0, none⟩) 2 2 ∧ BS u u.heap.size (some ⟨v.ownBlock.getD 0, 0, none⟩) enc), (7, fun v u => Byt u v (l ++ enc)), (8, fun v u => v = .string ⟨(l ++ enc).toArray⟩), (31, fun v u => v = .bool true)] ?st ?ne rfl (by kernel_rfl) (by kernel_rfl) (by kernel_rfl) ?_
  case st =>
    intro p hp
    simp only [List.mem_cons, List.not_mem_nil, or_false] at hp
    rcases hp with rfl | rfl | rfl | rfl | rfl | rfl
    · intro v u u' h hk; exact ⟨h.1, h.2.kept hk (fun _ _ h => h)⟩
    · intro v u u' h hk; exact Row.kept h hk (fun _ _ h => h)
    · intro v u u' h hk; exact ⟨h.1, h.2.on hk (fun _ _ h => h)⟩
    · intro v u u' h hk; exact h.on0 hk
    · intro v u u' h hk; exact h
    · intro v u u' h hk; exact h
  case ne =>
    intro p hp
    simp only [List.mem_cons, List.not_mem_nil, or_false] at hp
    rcases hp with rfl | rfl | rfl | rfl | rfl | rfl
    · exact ⟨_, _, (Kept.refl _ _).alloc _, rfl, Row.of_blk (cs := #[]) (Blk.new_ rfl _ _) (Nat.le_refl _) (by simp) rfl⟩
    · exact ⟨_, _, (Kept.refl _ _).alloc _, (Own.of_blk (e := 5) (Blk.new w4 5 (bcs l).toArray) (by unfold maxLen; omega)).row (Nat.le_refl _)⟩
    · exact ⟨.slice (some ⟨w4.heap.size, 0, none⟩) 2 2, _, (Kept.refl _ _).alloc _, rfl, (Own.of_blk (e := 5) (Blk.new w4 5 (bcs enc).toArray) (by rw [HEL.out]; unfold maxLen; omega)).bs⟩
    · exact Byt.some _ _ (by rw [List.length_append, HEL.out]; unfold maxLen; omega)
    · exact ⟨_, _, Kept.refl _ _, rfl⟩
    · exact ⟨_, _, Kept.refl _ _, rfl⟩
  simp only [List.take_succ_cons, List.take_zero, List.drop_succ_cons, List.drop_zero]
  intro G pick hR hp1 hp2
  have hcA : ∀ u, (convert 34 9 (.slice (some ⟨w.heap.size, 0, none⟩) (l.length + 2) (l.length + 2))).run Try.prog (pick u) = .ok (.string ⟨(l ++ enc).toArray⟩) (pick u) := fun u => by have h := (HO4.out.bs.on (hp1 u) (fun i hi h => by omega)).conv Try.underlying34 Try.underlying5 Try.underlying9 (c := l.length + 2); rw [List.length_append, HEL.out] at h; exact h
  have hcB : ∀ u, (convert 34 9 (.slice A4 l.length c4)).run Try.prog (pick u) = .ok (.string ⟨l.toArray⟩) (pick u) := fun u => (HY4.out.on (hp1 u) (fun i hi h => by omega)).conv Try.underlying34 Try.underlying5 Try.underlying9
  have hcC : ∀ u, (convert 34 9 (.slice A l.length c)).run Try.prog (pick u) = .ok (.string ⟨l.toArray⟩) (pick u) := fun u => (HL4.out.on (hp1 u) (fun i hi h => by omega)).conv Try.underlying34 Try.underlying5 Try.underlying9
  repeat (first | (refine wpR_det hp2 rfl ((hR.rel _).trans rfl) rfl ?_; intro K hK; go_big_quiet_op; go_big_quiet_on) | (refine wpR_skip pick rfl ?_; intro K hK; go_big_quiet_op; go_big_quiet_on))
  refine wpR_add pick rfl ((hR.rel _).trans rfl) ((hR.turns _).trans rfl) ((hR.adds _).trans rfl) ?_ ?_
  · intro u hu hM
    have hk := hR.since hu.1
    have hks := hk.size
    unfold relAt
    go_simp
    exact ⟨hR.into0 ((Kept.refl _ _).alloc _), hR.put 0 rfl rfl ⟨rfl, Row.of_blk (cs := #[]) (Blk.new_ rfl _ _) hks (by simp) rfl⟩⟩
  intro v hv
  obtain ⟨u, _, hu⟩ := hv
  obtain ⟨hv2, hrow2⟩ := hR.get 0 rfl hu
  clear hu
  obtain ⟨g2, hg2⟩ : ∃ g, v = .slice (some ⟨g, 0, none⟩) 0 0 := ⟨_, hv2⟩
  subst hg2
  clear hv2 hrow2
  intro K hK
  go_big_quiet_op
  go_big_quiet_on
  repeat (first | (refine wpR_det hp2 rfl ((hR.rel _).trans rfl) rfl ?_; intro K hK; go_big_quiet_op; go_big_quiet_on) | (refine wpR_skip pick rfl ?_; intro K hK; go_big_quiet_op; go_big_quiet_on))
  refine wpR_turn pick rfl ((hR.rel _).trans rfl) ((hR.turns _).trans rfl) ((hR.adds _).trans rfl) ?_ ?_
  · intro u hu hM
    have hk := hR.since hu.1
    have hks := hk.size
    have hr := (hR.get 0 rfl hM.2).2
    refine relAt_append_row (.tmp 49) (.tmp 50) 34 rfl w4.heap.size 5 (.int .u8 0) 1 Try.underlying34 h5 rfl _ (bcs []) rfl A l.length c (bcs l) rfl ?_ hr (HL4.out.on hk (fun i hi h => by omega)).src (bcs_one _) ?_ ?_ hks ?_
    · rw [bcs_length]
    · rw [bcs_length, bcs_length]; unfold maxLen; simp; omega
    · rw [bcs_length, bcs_length]; simp; omega
    · intro v' w' hr' hg' _
      exact ⟨hR.into (kept_grown hg' (fun i e _ => (hr.lt i e).1)), hR.put 1 rfl rfl hr'⟩
  intro v hv
  obtain ⟨u, _, hu⟩ := hv
  obtain hrow4 := hR.get 1 rfl hu
  clear hu
  clear hrow4
  intro K hK
  go_big_quiet_op
  go_big_quiet_on
  repeat (first | (refine wpR_det hp2 rfl ((hR.rel _).trans rfl) rfl ?_; intro K hK; go_big_quiet_op; go_big_quiet_on) | (refine wpR_skip pick rfl ?_; intro K hK; go_big_quiet_op; go_big_quiet_on))
  refine wpR_add pick rfl ((hR.rel _).trans rfl) ((hR.turns _).trans rfl) ((hR.adds _).trans rfl) ?_ ?_
  · intro u hu hM
    have hk := hR.since hu.1
    have hks := hk.size
    unfold relAt
    go_simp
    refine (HRB'.out u).mono ?_
    rintro e w' ⟨rfl, hO, hb⟩
    exact ⟨_, rfl, hR.intoB hb, hR.put 2 rfl rfl ⟨rfl, hO.bs⟩⟩
  intro v hv
  obtain ⟨u, _, hu⟩ := hv
  obtain ⟨hv6, -⟩ := hR.get 2 rfl hu
  clear hu
  obtain ⟨g6, hg6⟩ : ∃ g, v = .slice (some ⟨g, 0, none⟩) 2 2 := ⟨_, hv6⟩
  subst hg6
  clear hv6
  intro K hK
  go_big_quiet_op
  go_big_quiet_on
  repeat (first | (refine wpR_det hp2 rfl ((hR.rel _).trans rfl) rfl ?_; intro K hK; go_big_quiet_op; go_big_quiet_on) | (refine wpR_skip pick rfl ?_; intro K hK; go_big_quiet_op; go_big_quiet_on))
  refine wpR_turn pick rfl ((hR.rel _).trans rfl) ((hR.turns _).trans rfl) ((hR.adds _).trans rfl) ?_ ?_
  · intro u hu hM
    have hk := hR.since hu.1
    have hks := hk.size
    have hr : Row u w4.heap.size 5 v (bcs l) := hR.get 1 rfl hM.1
    have hb6 := (hR.get 2 rfl hM.2).2
    refine relAt_append_row (.tmp 51) (.tmp 53) 34 rfl w4.heap.size 5 (.int .u8 0) 1 Try.underlying34 h5 rfl _ (bcs l) rfl _ _ _ (bcs enc) rfl ?_ hr hb6.src (bcs_one _) ?_ ?_ hks ?_
    · rw [bcs_length, HEL.out]
    · rw [bcs_length, bcs_length, HEL.out]; unfold maxLen; omega
    · rw [bcs_length, bcs_length, HEL.out]; omega
    · intro v' w' hr' hg' _
      rw [← bcs_append] at hr'
      exact ⟨hR.into (kept_grown hg' (fun i e _ => (hr.lt i e).1)), hR.put 3 rfl rfl hr'.byt⟩
  intro v hv
  obtain ⟨u, _, hu⟩ := hv
  obtain ⟨A7, c7, rfl, -, -, -⟩ := hR.get 3 rfl hu
  clear hu
  rw [List.length_append, HEL.out]
  intro K hK
  go_big_quiet_op
  go_big_quiet_on
  repeat (first | (refine wpR_det hp2 rfl ((hR.rel _).trans rfl) rfl ?_; intro K hK; go_big_quiet_op; go_big_quiet_on) | (refine wpR_skip pick rfl ?_; intro K hK; go_big_quiet_op; go_big_quiet_on))
  refine wpR_add pick rfl ((hR.rel _).trans rfl) ((hR.turns _).trans rfl) ((hR.adds _).trans rfl) ?_ ?_
  · intro u hu hM
    have hk := hR.since hu.1
    have hks := hk.size
    have hb7 := hR.get 3 rfl hM
    obtain ⟨A8, c8, e8, -, -, hbs8⟩ := hb7
    injection e8 with ea el ec
    subst ea ec
    have hcv := hbs8.conv Try.underlying34 Try.underlying5 Try.underlying9 (c := c7)
    rw [List.length_append, HEL.out] at hcv
    clear el hbs8
    unfold relAt
    go_simp
    exact ⟨hR.same, hR.put 4 rfl rfl rfl⟩
  intro v hv
  obtain ⟨u, _, hu⟩ := hv
  obtain rfl := hR.get 4 rfl hu
  clear hu
  intro K hK
  go_big_quiet_op
  go_big_quiet_on
  repeat (first | (refine wpR_det hp2 rfl ((hR.rel _).trans rfl) rfl ?_; intro K hK; go_big_quiet_op; go_big_quiet_on) | (refine wpR_skip pick rfl ?_; intro K hK; go_big_quiet_op; go_big_quiet_on))
  refine wpR_rel pick rfl ((hR.rel _).trans rfl) ((hR.turns _).trans rfl) ?_ ?_
  · intro u hu
    have hk := hR.since hu.1
    have hks := hk.size
    unfold relAt
    go_simp
    refine (awake_any u).mono ?_
    rintro e w' ⟨rfl, rfl⟩
    exact ⟨_, rfl, hR.same, hR.put 5 rfl rfl rfl⟩
  intro v hv
  obtain ⟨u, _, hu⟩ := hv
  obtain rfl := hR.get 5 rfl hu
  clear hu
  intro K hK
  go_big_quiet_op
  go_big_quiet_on
  repeat (first | (refine wpR_det hp2 rfl ((hR.rel _).trans rfl) rfl ?_; intro K hK; go_big_quiet_op; go_big_quiet_on) | (refine wpR_skip pick rfl ?_; intro K hK; go_big_quiet_op; go_big_quiet_on))
  refine wpR_nil ?_
  intro w5 hk2 hF hM
  have HB5 := Lib.hid (HB4.out.trans (hk2.below (by have := HB4.out.size; omega) (fun i h => by have := HB4.out.size; omega)))
  clear hF hM hk2 hp1 hp2 hR hcA hcB hcC
  go_wp2_with fail
  go_ret
  exact ⟨rfl, HB5.out⟩

set_option maxRecDepth 100000 in
set_option maxHeartbeats 800000 in
theorem puts_4 (A : Option Addr) (c : Nat) (l : List UInt8) (n : Int) (w : World) (h0 : 16384 ≤ n) (h1 : n < 1073741824) (hl : l.length ≤ 500) (hB : BS w w.heap.size A l) :
    Calls Try.prog 6 #[.slice A l.length c, .int .u64 n] w fun e w' => e = .returned (.bool true) ∧ Below w.heap.size w w' := by
  have HB := Lib.hid hB
  have h5 := Try.info5t
  obtain ⟨tk1, tk2⟩ : tkN (digs 4 (n + 2147483648) ++ l) = 4 ∧ tkV (digs 4 (n + 2147483648) ++ l) = n := by
    have := tk_marks 3 n 2 l (by omega) (by simp; omega) (by omega) (by omega) (by rfl)
    simpa using this
  have HT1 := Lib.hid tk1
  have HT2 := Lib.hid tk2
  have HEL := Lib.hid (digs_length 4 (n + 2147483648))
  obtain ⟨enc, henc⟩ : ∃ enc, enc = digs 4 (n + 2147483648) := ⟨_, rfl⟩
  rw [← henc] at HT1 HT2 HEL
  have HP := Lib.hid (put_4 A c l n w h0 h1 (by omega) hB)
  have HRB := Lib.hid (fun u => refBytes_4 n u h0 h1)
  rw [← henc] at HP
  have HRB' : Hid (∀ u, Calls Try.prog 18 #[.int .u64 n] u fun e w' => e = .returned (.slice (some ⟨u.heap.size, 0, none⟩) 4 4) ∧ Own w' 5 u.heap.size 4 enc ∧ Below u.heap.size u w') := Lib.hid (fun u => by rw [henc]; exact refBytes_4 n u h0 h1)
  clear hB tk1 tk2 henc HRB
  go_enter Try.func6, Try.ntmps6
  go_wp2_with fail
  refine HP.out.mono ?_
  rintro e w1 ⟨rfl, hO1, hb1⟩
  have hs1 := hb1.size
  have hg1 := hO1.lt
  have HO1 := Lib.hid hO1
  have HB1 := Lib.hid hb1
  clear hO1 hb1
  go_wp2_with fail
  refine (size_4 n w1 h0 h1).mono ?_
  rintro e w2 ⟨rfl, rfl⟩
  go_wp2_with fail
  refine (refSize_4 n w1 h0 h1).mono ?_
  rintro e w2 ⟨rfl, rfl⟩
  go_wp2_with fail
  refine (refSize_4 n w1 h0 h1).mono ?_
  rintro e w2 ⟨rfl, rfl⟩
  go_wp2_with fail
  refine (HRB'.out w1).mono ?_
  rintro e w2 ⟨rfl, hO2, hb2⟩
  have hs2 := hb2.size
  have hr2 := hO2.row (base := w1.heap.size) (Nat.le_refl _)
  rw [HEL.out] at hr2
  have HR2 := Lib.hid hr2
  have HO2 := Lib.hid (HO1.out.below hb2 hg1)
  have HB2 := Lib.hid (HB1.out.trans (hb2.mono hs1))
  have HL2 := Lib.hid ((HB.out.onB HB1.out (Nat.le_refl _)).onB hb2 (Nat.le_refl _))
  clear hO2 hb2 hr2
  go_wp2_with (at_builtin; refine wpList_append_row rfl (.tmp 40) (.tmp 41) 34 rfl w1.heap.size 5 (.int .u8 0) 1 Try.underlying34 h5 rfl _ (bcs enc) rfl A l.length c (bcs l) rfl ?a0 HR2.out HL2.out.src (bcs_one _) ?a3 ?a4 hs2 ?_)
  case a0 => rw [bcs_length]
  case a3 => rw [bcs_length, bcs_length, HEL.out]; unfold maxLen; omega
  case a4 => rw [bcs_length, bcs_length, HEL.out]; omega
  intro v3 w3 hrow hgr _
  rw [← bcs_append] at hrow
  obtain ⟨NA, nc, hve, hnl, hnc, hbs⟩ := Row.byt hrow
  rw [List.length_append, HEL.out] at hve
  subst hve
  have hs3 := hgr.size
  have HN := Lib.hid hbs
  have hk3 : Kept (fun i => w1.heap.size ≤ i) w2 w3 := kept_grown hgr (fun i e _ => by simp [Value.ownBlock] at e; omega)
  have HB3 := Lib.hid (HB2.out.trans (hk3.below (by omega) (fun i h => by omega)))
  have HO3 := Lib.hid (HO2.out.kept hk3 (by omega))
  clear hrow hgr hbs hk3
  go_wp2_with fail
  have hz := take_any NA nc (enc ++ l) w3 (by rw [List.length_append, HEL.out]; omega) hnl hnc HN.out
  rw [List.length_append, HEL.out] at hz
  have HTK := Lib.hid hz
  clear hz
  clear hnl hnc
  refine HTK.out.mono ?_
  rintro e w4 ⟨htk, hb4⟩
  have hs4 := hb4.size
  rcases htk with ⟨hz, _⟩ | ⟨_, v4, rfl, hy⟩
  · exact absurd hz (by rw [HT1.out]; omega)
  rw [HT1.out, List.drop_left' HEL.out] at hy
  rw [HT2.out]
  obtain ⟨A4, c4, rfl, _, _, hbs4⟩ := hy
  have HB4 := Lib.hid (HB3.out.trans (hb4.mono (by omega)))
  have HO4 := Lib.hid (HO3.out.below hb4 (by omega))
  have HY4 := Lib.hid hbs4
  have HL4 := Lib.hid (HB.out.onB HB4.out (Nat.le_refl _))
  clear hb4 hbs4 HN HTK HB1 HO1 HR2 HO2 HB2 HL2 HB3 HO3
  go_wp2_with fail
  refine wp_region_add 34 (fun i => w4.heap.size ≤ i) [2, 4, 6, 7, 8] [2, 6, 8] [(2, fun v u => v = .slice (some ⟨v.ownBlock.getD 0, 0, none⟩) 0 0 ∧ Row u w4.heap.size 5 v (bcs [])), (4, fun v u => Row u w4.heap.size 5 v (bcs l)), (6, fun v u => v = .slice (some ⟨v.ownBlock.getD 0, 0, none⟩) 4 4 ∧ BS u u.heap.size (some ⟨v.ownBlock.getD 0, 0, none⟩) enc), (7, fun v u => Byt u v (l ++ enc)), (8, fun v u => v = .string ⟨(l ++ enc).toArray⟩), (31, fun v u => v = .bool true)] ?st ?ne rfl (by kernel_rfl) (by kernel_rfl) (by kernel_rfl) ?_
  case st =>
    intro p hp
    simp only [List.mem_cons, List.not_mem_nil, or_false] at hp
    rcases hp with rfl | rfl | rfl | rfl | rfl | rfl
    · intro v u u' h hk; exact ⟨h.1, h.2.kept hk (fun _ _ h => h)⟩
    · intro v u u' h hk; exact Row.kept h hk (fun _ _ h => h)
    · intro v u u' h hk; exact ⟨h.1, h.2.on hk (fun _ _ h => h)⟩
    · intro v u u' h hk; exact h.on0 hk
    · intro v u u' h hk; exact h
    · intro v u u' h hk; exact h
  case ne =>
    intro p hp
    simp only [List.mem_cons, List.not_mem_nil, or_false] at hp
    rcases hp with rfl | rfl | rfl | rfl | rfl | rfl
    · exact ⟨_, _, (Kept.refl _ _).alloc _, rfl, Row.of_blk (cs := #[]) (Blk.new_ rfl _ _) (Nat.le_refl _) (by simp) rfl⟩
    · exact ⟨_, _, (Kept.refl _ _).alloc _, (Own.of_blk (e := 5) (Blk.new w4 5 (bcs l).toArray) (by unfold maxLen; omega)).row (Nat.le_refl _)⟩
    · exact ⟨.slice (some ⟨w4.heap.size, 0, none⟩) 4 4, _, (Kept.refl _ _).alloc _, rfl, (Own.of_blk (e := 5) (Blk.new w4 5 (bcs enc).toArray) (by rw [HEL.out]; unfold maxLen; omega)).bs⟩
    · exact Byt.some _ _ (by rw [List.length_append, HEL.out]; unfold maxLen; omega)
    · exact ⟨_, _, Kept.refl _ _, rfl⟩
    · exact ⟨_, _, Kept.refl _ _, rfl⟩
  simp only [List.take_succ_cons, List.take_zero, List.drop_succ_cons, List.drop_zero]
  intro G pick hR hp1 hp2
  have hcA : ∀ u, (convert 34 9 (.slice (some ⟨w.heap.size, 0, none⟩) (l.length + 4) (l.length + 4))).run Try.prog (pick u) = .ok (.string ⟨(l ++ enc).toArray⟩) (pick u) := fun u => by have h := (HO4.out.bs.on (hp1 u) (fun i hi h => by omega)).conv Try.underlying34 Try.underlying5 Try.underlying9 (c := l.length + 4); rw [List.length_append, HEL.out] at h; exact h
  have hcB : ∀ u, (convert 34 9 (.slice A4 l.length c4)).run Try.prog (pick u) = .ok (.string ⟨l.toArray⟩) (pick u) := fun u => (HY4.out.on (hp1 u) (fun i hi h => by omega)).conv Try.underlying34 Try.underlying5 Try.underlying9
  have hcC : ∀ u, (convert 34 9 (.slice A l.length c)).run Try.prog (pick u) = .ok (.string ⟨l.toArray⟩) (pick u) := fun u => (HL4.out.on (hp1 u) (fun i hi h => by omega)).conv Try.underlying34 Try.underlying5 Try.underlying9
  repeat (first | (refine wpR_det hp2 rfl ((hR.rel _).trans rfl) rfl ?_; intro K hK; go_big_quiet_op; go_big_quiet_on) | (refine wpR_skip pick rfl ?_; intro K hK; go_big_quiet_op; go_big_quiet_on))
  refine wpR_add pick rfl ((hR.rel _).trans rfl) ((hR.turns _).trans rfl) ((hR.adds _).trans rfl) ?_ ?_
  · intro u hu hM
    have hk := hR.since hu.1
    have hks := hk.size
    unfold relAt
    go_simp
    exact ⟨hR.into0 ((Kept.refl _ _).alloc _), hR.put 0 rfl rfl ⟨rfl, Row.of_blk (cs := #[]) (Blk.new_ rfl _ _) hks (by simp) rfl⟩⟩
  intro v hv
  obtain ⟨u, _, hu⟩ := hv
  obtain ⟨hv2, hrow2⟩ := hR.get 0 rfl hu
  clear hu
  obtain ⟨g2, hg2⟩ : ∃ g, v = .slice (some ⟨g, 0, none⟩) 0 0 := ⟨_, hv2⟩
  subst hg2
  clear hv2 hrow2
  intro K hK
  go_big_quiet_op
  go_big_quiet_on
  repeat (first | (refine wpR_det hp2 rfl ((hR.rel _).trans rfl) rfl ?_; intro K hK; go_big_quiet_op; go_big_quiet_on) | (refine wpR_skip pick rfl ?_; intro K hK; go_big_quiet_op; go_big_quiet_on))
  refine wpR_turn pick rfl ((hR.rel _).trans rfl) ((hR.turns _).trans rfl) ((hR.adds _).trans rfl) ?_ ?_
  · intro u hu hM
    have hk := hR.since hu.1
    have hks := hk.size
    have hr := (hR.get 0 rfl hM.2).2
    refine relAt_append_row (.tmp 49) (.tmp 50) 34 rfl w4.heap.size 5 (.int .u8 0) 1 Try.underlying34 h5 rfl _ (bcs []) rfl A l.length c (bcs l) rfl ?_ hr (HL4.out.on hk (fun i hi h => by omega)).src (bcs_one _) ?_ ?_ hks ?_
    · rw [bcs_length]
    · rw [bcs_length, bcs_length]; unfold maxLen; simp; omega
    · rw [bcs_length, bcs_length]; simp; omega
    · intro v' w' hr' hg' _
      exact ⟨hR.into (kept_grown hg' (fun i e _ => (hr.lt i e).1)), hR.put 1 rfl rfl hr'⟩
  intro v hv
  obtain ⟨u, _, hu⟩ := hv
  obtain hrow4 := hR.get 1 rfl hu
  clear hu
  clear hrow4
  intro K hK
  go_big_quiet_op
  go_big_quiet_on
  repeat (first | (refine wpR_det hp2 rfl ((hR.rel _).trans rfl) rfl ?_; intro K hK; go_big_quiet_op; go_big_quiet_on) | (refine wpR_skip pick rfl ?_; intro K hK; go_big_quiet_op; go_big_quiet_on))
  refine wpR_add pick rfl ((hR.rel _).trans rfl) ((hR.turns _).trans rfl) ((hR.adds _).trans rfl) ?_ ?_
  · intro u hu hM
    have hk := hR.since hu.1
    have hks := hk.size
    unfold relAt
    go_simp
    refine (HRB'.out u).mono ?_
    rintro e w' ⟨rfl, hO, hb⟩
    exact ⟨_, rfl, hR.intoB hb, hR.put 2 rfl rfl ⟨rfl, hO.bs⟩⟩
  intro v hv
  obtain ⟨u, _, hu⟩ := hv
  obtain ⟨hv6, -⟩ := hR.get 2 rfl hu
  clear hu
  obtain ⟨g6, hg6⟩ : ∃ g, v = .slice (some ⟨g, 0, none⟩) 4 4 := ⟨_, hv6⟩
  subst hg6
  clear hv6
  intro K hK
  go_big_quiet_op
  go_big_quiet_on
  repeat (first | (refine wpR_det hp2 rfl ((hR.rel _).trans rfl) rfl ?_; intro K hK; go_big_quiet_op; go_big_quiet_on) | (refine wpR_skip pick rfl ?_; intro K hK; go_big_quiet_op; go_big_quiet_on))
  refine wpR_turn pick rfl ((hR.rel _).trans rfl) ((hR.turns _).trans rfl) ((hR.adds _).trans rfl) ?_ ?_
  · intro u hu hM
    have hk := hR.since hu.1
    have hks := hk.size
    have hr : Row u w4.heap.size 5 v (bcs l) := hR.get 1 rfl hM.1
    have hb6 := (hR.get 2 rfl hM.2).2
    refine relAt_append_row (.tmp 51) (.tmp 53) 34 rfl w4.heap.size 5 (.int .u8 0) 1 Try.underlying34 h5 rfl _ (bcs l) rfl _ _ _ (bcs enc) rfl ?_ hr hb6.src (bcs_one _) ?_ ?_ hks ?_
    · rw [bcs_length, HEL.out]
    · rw [bcs_length, bcs_length, HEL.out]; unfold maxLen; omega
    · rw [bcs_length, bcs_length, HEL.out]; omega
    · intro v' w' hr' hg' _
      rw [← bcs_append] at hr'
      exact ⟨hR.into (kept_grown hg' (fun i e _ => (hr.lt i e).1)), hR.put 3 rfl rfl hr'.byt⟩
  intro v hv
  obtain ⟨u, _, hu⟩ := hv
  obtain ⟨A7, c7, rfl, -, -, -⟩ := hR.get 3 rfl hu
  clear hu
  rw [List.length_append, HEL.out]
  intro K hK
  go_big_quiet_op
  go_big_quiet_on
  repeat (first | (refine wpR_det hp2 rfl ((hR.rel _).trans rfl) rfl ?_; intro K hK; go_big_quiet_op; go_big_quiet_on) | (refine wpR_skip pick rfl ?_; intro K hK; go_big_quiet_op; go_big_quiet_on))
  refine wpR_add pick rfl ((hR.rel _).trans rfl) ((hR.turns _).trans rfl) ((hR.adds _).trans rfl) ?_ ?_
  · intro u hu hM
    have hk := hR.since hu.1
    have hks := hk.size
    have hb7 := hR.get 3 rfl hM
    obtain ⟨A8, c8, e8, -, -, hbs8⟩ := hb7
    injection e8 with ea el ec
    subst ea ec
    have hcv := hbs8.conv Try.underlying34 Try.underlying5 Try.underlying9 (c := c7)
    rw [List.length_append, HEL.out] at hcv
    clear el hbs8
    unfold relAt
    go_simp
    exact ⟨hR.same, hR.put 4 rfl rfl rfl⟩
  intro v hv
  obtain ⟨u, _, hu⟩ := hv
  obtain rfl := hR.get 4 rfl hu
  clear hu
  intro K hK
  go_big_quiet_op
  go_big_quiet_on
  repeat (first | (refine wpR_det hp2 rfl ((hR.rel _).trans rfl) rfl ?_; intro K hK; go_big_quiet_op; go_big_quiet_on) | (refine wpR_skip pick rfl ?_; intro K hK; go_big_quiet_op; go_big_quiet_on))
  refine wpR_rel pick rfl ((hR.rel _).trans rfl) ((hR.turns _).trans rfl) ?_ ?_
  · intro u hu
    have hk := hR.since hu.1
    have hks := hk.size
    unfold relAt
    go_simp
    refine (awake_any u).mono ?_
    rintro e w' ⟨rfl, rfl⟩
    exact ⟨_, rfl, hR.same, hR.put 5 rfl rfl rfl⟩
  intro v hv
  obtain ⟨u, _, hu⟩ := hv
  obtain rfl := hR.get 5 rfl hu
  clear hu
  intro K hK
  go_big_quiet_op
  go_big_quiet_on
  repeat (first | (refine wpR_det hp2 rfl ((hR.rel _).trans rfl) rfl ?_; intro K hK; go_big_quiet_op; go_big_quiet_on) | (refine wpR_skip pick rfl ?_; intro K hK; go_big_quiet_op; go_big_quiet_on))
  refine wpR_nil ?_
  intro w5 hk2 hF hM
  have HB5 := Lib.hid (HB4.out.trans (hk2.below (by have := HB4.out.size; omega) (fun i h => by have := HB4.out.size; omega)))
  clear hF hM hk2 hp1 hp2 hR hcA hcB hcC
  go_wp2_with fail
  go_ret
  exact ⟨rfl, HB5.out⟩

set_option maxRecDepth 100000 in
set_option maxHeartbeats 800000 in
theorem puts_8 (A : Option Addr) (c : Nat) (l : List UInt8) (n : Int) (w : World) (h0 : 1073741824 ≤ n) (h1 : n < 4611686018427387904) (hl : l.length ≤ 500) (hB : BS w w.heap.size A l) :
    Calls Try.prog 6 #[.slice A l.length c, .int .u64 n] w fun e w' => e = .returned (.bool true) ∧ Below w.heap.size w w' := by
  have HB := Lib.hid hB
  have h5 := Try.info5t
  obtain ⟨tk1, tk2⟩ : tkN (digs 8 (n + 13835058055282163712) ++ l) = 8 ∧ tkV (digs 8 (n + 13835058055282163712) ++ l) = n := by
    have := tk_marks 7 n 3 l (by omega) (by simp; omega) (by omega) (by omega) (by rfl)
    simpa using this
  have HT1 := Lib.hid tk1
  have HT2 := Lib.hid tk2
  have HEL := Lib.hid (digs_length 8 (n + 13835058055282163712))
  obtain ⟨enc, henc⟩ : ∃ enc, enc = digs 8 (n + 13835058055282163712) := ⟨_, rfl⟩
  rw [← henc] at HT1 HT2 HEL
  have HP := Lib.hid (put_8 A c l n w h0 h1 (by omega) hB)
  have HRB := Lib.hid (fun u => refBytes_8 n u h0 h1)
  rw [← henc] at HP
  have HRB' : Hid (∀ u, Calls Try.prog 18 #[.int .u64 n] u fun e w' => e = .returned (.slice (some ⟨u.heap.size, 0, none⟩) 8 8) ∧ Own w' 5 u.heap.size 8 enc ∧ Below u.heap.size u w') := Lib.hid (fun u => by rw [henc]; exact refBytes_8 n u h0 h1)
  clear hB tk1 tk2 henc HRB
  go_enter Try.func6, Try.ntmps6
  go_wp2_with fail
  refine HP.out.mono ?_
  rintro e w1 ⟨rfl, hO1, hb1⟩
  have hs1 := hb1.size
  have hg1 := hO1.lt
  have HO1 := Lib.hid hO1
  have HB1 := Lib.hid hb1
  clear hO1 hb1
  go_wp2_with fail
  refine (size_8 n w1 h0 h1).mono ?_
  rintro e w2 ⟨rfl, rfl⟩
  go_wp2_with fail
  refine (refSize_8 n w1 h0 h1).mono ?_
  rintro e w2 ⟨rfl, rfl⟩
  go_wp2_with fail
  refine (refSize_8 n w1 h0 h1).mono ?_
  rintro e w2 ⟨rfl, rfl⟩
  go_wp2_with fail
  refine (HRB'.out w1).mono ?_
  rintro e w2 ⟨rfl, hO2, hb2⟩
  have hs2 := hb2.size
  have hr2 := hO2.row (base := w1.heap.size) (Nat.le_refl _)
  rw [HEL.out] at hr2
  have HR2 := Lib.hid hr2
  have HO2 := Lib.hid (HO1.out.below hb2 hg1)
  have HB2 := Lib.hid (HB1.out.trans (hb2.mono hs1))
  have HL2 := Lib.hid ((HB.out.onB HB1.out (Nat.le_refl _)).onB hb2 (Nat.le_refl _))
  clear hO2 hb2 hr2
  go_wp2_with (at_builtin; refine wpList_append_row rfl (.tmp 40) (.tmp 41) 34 rfl w1.heap.size 5 (.int .u8 0) 1 Try.underlying34 h5 rfl _ (bcs enc) rfl A l.length c (bcs l) rfl ?a0 HR2.out HL2.out.src (bcs_one _) ?a3 ?a4 hs2 ?_)
  case a0 => rw [bcs_length]
  case a3 => rw [bcs_length, bcs_length, HEL.out]; unfold maxLen; omega
  case a4 => rw [bcs_length, bcs_length, HEL.out]; omega
  intro v3 w3 hrow hgr _
  rw [← bcs_append] at hrow
  obtain ⟨NA, nc, hve, hnl, hnc, hbs⟩ := Row.byt hrow
  rw [List.length_append, HEL.out] at hve
  subst hve
  have hs3 := hgr.size
  have HN := Lib.hid hbs
  have hk3 : Kept (fun i => w1.heap.size ≤ i) w2 w3 := kept_grown hgr (fun i e _ => by simp [Value.ownBlock] at e; omega)
  have HB3 := Lib.hid (HB2.out.trans (hk3.below (by omega) (fun i h => by omega)))
  have HO3 := Lib.hid (HO2.out.kept hk3 (by omega))
  clear hrow hgr hbs hk3
  go_wp2_with fail
  have hz := take_any NA nc (enc ++ l) w3 (by rw [List.length_append, HEL.out]; omega) hnl hnc HN.out
  rw [List.length_append, HEL.out] at hz
  have HTK := Lib.hid hz
  clear hz
  clear hnl hnc
  refine HTK.out.mono ?_
  rintro e w4 ⟨htk, hb4⟩
  have hs4 := hb4.size
  rcases htk with ⟨hz, _⟩ | ⟨_, v4, rfl, hy⟩
  · exact absurd hz (by rw [HT1.out]; omega)
  rw [HT1.out, List.drop_left' HEL.out] at hy
  rw [HT2.out]
  obtain ⟨A4, c4, rfl, _, _, hbs4⟩ := hy
  have HB4 := Lib.hid (HB3.out.trans (hb4.mono (by omega)))
  have HO4 := Lib.hid (HO3.out.below hb4 (by omega))
  have HY4 := Lib.hid hbs4
  have HL4 := Lib.hid (HB.out.onB HB4.out (Nat.le_refl _))
  clear hb4 hbs4 HN HTK HB1 HO1 HR2 HO2 HB2 HL2 HB3 HO3
  go_wp2_with fail
  refine wp_region_add 34 (fun i => w4.heap.size ≤ i) [2, 4, 6, 7, 8] [2, 6, 8] [(2, fun v u => v = .slice (some ⟨v.ownBlock.getD 0, 0, none⟩) 0 0 ∧ Row u w4.heap.size 5 v (bcs [])), (4, fun v u => Row u w4.heap.size 5 v (bcs l)), (6, fun v u => v = .slice (some ⟨v.ownBlock.getD 0, 0, none⟩) 8 8 ∧ BS u u.heap.size (some ⟨v.ownBlock.getD 0, 0, none⟩) enc), (7, fun v u => Byt u v (l ++ enc)), (8, fun v u => v = .string ⟨(l ++ enc).toArray⟩), (31, fun v u => v = .bool true)] ?st ?ne rfl (by kernel_rfl) (by kernel_rfl) (by kernel_rfl) ?_
  case st =>
    intro p hp
    simp only [List.mem_cons, List.not_mem_nil, or_false] at hp
    rcases hp with rfl | rfl | rfl | rfl | rfl | rfl
    · intro v u u' h hk; exact ⟨h.1, h.2.kept hk (fun _ _ h => h)⟩
    · intro v u u' h hk; exact Row.kept h hk (fun _ _ h => h)
    · intro v u u' h hk; exact ⟨h.1, h.2.on hk (fun _ _ h => h)⟩
    · intro v u u' h hk; exact h.on0 hk
    · intro v u u' h hk; exact h
    · intro v u u' h hk; exact h
  case ne =>
    intro p hp
    simp only [List.mem_cons, List.not_mem_nil, or_false] at hp
    rcases hp with rfl | rfl | rfl | rfl | rfl | rfl
    · exact ⟨_, _, (Kept.refl _ _).alloc _, rfl, Row.of_blk (cs := #[]) (Blk.new_ rfl _ _) (Nat.le_refl _) (by simp) rfl⟩
    · exact ⟨_, _, (Kept.refl _ _).alloc _, (Own.of_blk (e := 5) (Blk.new w4 5 (bcs l).toArray) (by unfold maxLen; omega)).row (Nat.le_refl _)⟩
    · exact ⟨.slice (some ⟨w4.heap.size, 0, none⟩) 8 8, _, (Kept.refl _ _).alloc _, rfl, (Own.of_blk (e := 5) (Blk.new w4 5 (bcs enc).toArray) (by rw [HEL.out]; unfold maxLen; omega)).bs⟩
    · exact Byt.some _ _ (by rw [List.length_append, HEL.out]; unfold maxLen; omega)
    · exact ⟨_, _, Kept.refl _ _, rfl⟩
    · exact ⟨_, _, Kept.refl _ _, rfl⟩
  simp only [List.take_succ_cons, List.take_zero, List.drop_succ_cons, List.drop_zero]
  intro G pick hR hp1 hp2
  have hcA : ∀ u, (convert 34 9 (.slice (some ⟨w.heap.size, 0, none⟩) (l.length + 8) (l.length + 8))).run Try.prog (pick u) = .ok (.string ⟨(l ++ enc).toArray⟩) (pick u) := fun u => by have h := (HO4.out.bs.on (hp1 u) (fun i hi h => by omega)).conv Try.underlying34 Try.underlying5 Try.underlying9 (c := l.length + 8); rw [List.length_append, HEL.out] at h; exact h
  have hcB : ∀ u, (convert 34 9 (.slice A4 l.length c4)).run Try.prog (pick u) = .ok (.string ⟨l.toArray⟩) (pick u) := fun u => (HY4.out.on (hp1 u) (fun i hi h => by omega)).conv Try.underlying34 Try.underlying5 Try.underlying9
  have hcC : ∀ u, (convert 34 9 (.slice A l.length c)).run Try.prog (pick u) = .ok (.string ⟨l.toArray⟩) (pick u) := fun u => (HL4.out.on (hp1 u) (fun i hi h => by omega)).conv Try.underlying34 Try.underlying5 Try.underlying9
  repeat (first | (refine wpR_det hp2 rfl ((hR.rel _).trans rfl) rfl ?_; intro K hK; go_big_quiet_op; go_big_quiet_on) | (refine wpR_skip pick rfl ?_; intro K hK; go_big_quiet_op; go_big_quiet_on))
  refine wpR_add pick rfl ((hR.rel _).trans rfl) ((hR.turns _).trans rfl) ((hR.adds _).trans rfl) ?_ ?_
  · intro u hu hM
    have hk := hR.since hu.1
    have hks := hk.size
    unfold relAt
    go_simp
    exact ⟨hR.into0 ((Kept.refl _ _).alloc _), hR.put 0 rfl rfl ⟨rfl, Row.of_blk (cs := #[]) (Blk.new_ rfl _ _) hks (by simp) rfl⟩⟩
  intro v hv
  obtain ⟨u, _, hu⟩ := hv
  obtain ⟨hv2, hrow2⟩ := hR.get 0 rfl hu
  clear hu
  obtain ⟨g2, hg2⟩ : ∃ g, v = .slice (some ⟨g, 0, none⟩) 0 0 := ⟨_, hv2⟩
  subst hg2
  clear hv2 hrow2
  intro K hK
  go_big_quiet_op
  go_big_quiet_on
  repeat (first | (refine wpR_det hp2 rfl ((hR.rel _).trans rfl) rfl ?_; intro K hK; go_big_quiet_op; go_big_quiet_on) | (refine wpR_skip pick rfl ?_; intro K hK; go_big_quiet_op; go_big_quiet_on))
  refine wpR_turn pick rfl ((hR.rel _).trans rfl) ((hR.turns _).trans rfl) ((hR.adds _).trans rfl) ?_ ?_
  · intro u hu hM
    have hk := hR.since hu.1
    have hks := hk.size
    have hr := (hR.get 0 rfl hM.2).2
    refine relAt_append_row (.tmp 49) (.tmp 50) 34 rfl w4.heap.size 5 (.int .u8 0) 1 Try.underlying34 h5 rfl _ (bcs []) rfl A l.length c (bcs l) rfl ?_ hr (HL4.out.on hk (fun i hi h => by omega)).src (bcs_one _) ?_ ?_ hks ?_
    · rw [bcs_length]
    · rw [bcs_length, bcs_length]; unfold maxLen; simp; omega
    · rw [bcs_length, bcs_length]; simp; omega
    · intro v' w' hr' hg' _
      exact ⟨hR.into (kept_grown hg' (fun i e _ => (hr.lt i e).1)), hR.put 1 rfl rfl hr'⟩
  intro v hv
  obtain ⟨u, _, hu⟩ := hv
  obtain hrow4 := hR.get 1 rfl hu
  clear hu
  clear hrow4
  intro K hK
  go_big_quiet_op
  go_big_quiet_on
  repeat (first | (refine wpR_det hp2 rfl ((hR.rel _).trans rfl) rfl ?_; intro K hK; go_big_quiet_op; go_big_quiet_on) | (refine wpR_skip pick rfl ?_; intro K hK; go_big_quiet_op; go_big_quiet_on))
  refine wpR_add pick rfl ((hR.rel _).trans rfl) ((hR.turns _).trans rfl) ((hR.adds _).trans rfl) ?_ ?_
  · intro u hu hM
    have hk := hR.since hu.1
    have hks := hk.size
    unfold relAt
    go_simp
    refine (HRB'.out u).mono ?_
    rintro e w' ⟨rfl, hO, hb⟩
    exact ⟨_, rfl, hR.intoB hb, hR.put 2 rfl rfl ⟨rfl, hO.bs⟩⟩
  intro v hv
  obtain ⟨u, _, hu⟩ := hv
  obtain ⟨hv6, -⟩ := hR.get 2 rfl hu
  clear hu
  obtain ⟨g6, hg6⟩ : ∃ g, v = .slice (some ⟨g, 0, none⟩) 8 8 := ⟨_, hv6⟩
  subst hg6
  clear hv6
  intro K hK
  go_big_quiet_op
  go_big_quiet_on
  repeat (first | (refine wpR_det hp2 rfl ((hR.rel _).trans rfl) rfl ?_; intro K hK; go_big_quiet_op; go_big_quiet_on) | (refine wpR_skip pick rfl ?_; intro K hK; go_big_quiet_op; go_big_quiet_on))
  refine wpR_turn pick rfl ((hR.rel _).trans rfl) ((hR.turns _).trans rfl) ((hR.adds _).trans rfl) ?_ ?_
  · intro u hu hM
    have hk := hR.since hu.1
    have hks := hk.size
    have hr : Row u w4.heap.size 5 v (bcs l) := hR.get 1 rfl hM.1
    have hb6 := (hR.get 2 rfl hM.2).2
    refine relAt_append_row (.tmp 51) (.tmp 53) 34 rfl w4.heap.size 5 (.int .u8 0) 1 Try.underlying34 h5 rfl _ (bcs l) rfl _ _ _ (bcs enc) rfl ?_ hr hb6.src (bcs_one _) ?_ ?_ hks ?_
    · rw [bcs_length, HEL.out]
    · rw [bcs_length, bcs_length, HEL.out]; unfold maxLen; omega
    · rw [bcs_length, bcs_length, HEL.out]; omega
    · intro v' w' hr' hg' _
      rw [← bcs_append] at hr'
      exact ⟨hR.into (kept_grown hg' (fun i e _ => (hr.lt i e).1)), hR.put 3 rfl rfl hr'.byt⟩
  intro v hv
  obtain ⟨u, _, hu⟩ := hv
  obtain ⟨A7, c7, rfl, -, -, -⟩ := hR.get 3 rfl hu
  clear hu
  rw [List.length_append, HEL.out]
  intro K hK
  go_big_quiet_op
  go_big_quiet_on
  repeat (first | (refine wpR_det hp2 rfl ((hR.rel _).trans rfl) rfl ?_; intro K hK; go_big_quiet_op; go_big_quiet_on) | (refine wpR_skip pick rfl ?_; intro K hK; go_big_quiet_op; go_big_quiet_on))
  refine wpR_add pick rfl ((hR.rel _).trans rfl) ((hR.turns _).trans rfl) ((hR.adds _).trans rfl) ?_ ?_
  · intro u hu hM
    have hk := hR.since hu.1
    have hks := hk.size
    have hb7 := hR.get 3 rfl hM
    obtain ⟨A8, c8, e8, -, -, hbs8⟩ := hb7
    injection e8 with ea el ec
    subst ea ec
    have hcv := hbs8.conv Try.underlying34 Try.underlying5 Try.underlying9 (c := c7)
    rw [List.length_append, HEL.out] at hcv
    clear el hbs8
    unfold relAt
    go_simp
    exact ⟨hR.same, hR.put 4 rfl rfl rfl⟩
  intro v hv
  obtain ⟨u, _, hu⟩ := hv
  obtain rfl := hR.get 4 rfl hu
  clear hu
  intro K hK
  go_big_quiet_op
  go_big_quiet_on
  repeat (first | (refine wpR_det hp2 rfl ((hR.rel _).trans rfl) rfl ?_; intro K hK; go_big_quiet_op; go_big_quiet_on) | (refine wpR_skip pick rfl ?_; intro K hK; go_big_quiet_op; go_big_quiet_on))
  refine wpR_rel pick rfl ((hR.rel _).trans rfl) ((hR.turns _).trans rfl) ?_ ?_
  · intro u hu
    have hk := hR.since hu.1
    have hks := hk.size
    unfold relAt
    go_simp
    refine (awake_any u).mono ?_
    rintro e w' ⟨rfl, rfl⟩
    exact ⟨_, rfl, hR.same, hR.put 5 rfl rfl rfl⟩
  intro v hv
  obtain ⟨u, _, hu⟩ := hv
  obtain rfl := hR.get 5 rfl hu
  clear hu
  intro K hK
  go_big_quiet_op
  go_big_quiet_on
  repeat (first | (refine wpR_det hp2 rfl ((hR.rel _).trans rfl) rfl ?_; intro K hK; go_big_quiet_op; go_big_quiet_on) | (refine wpR_skip pick rfl ?_; intro K hK; go_big_quiet_op; go_big_quiet_on))
  refine wpR_nil ?_
  intro w5 hk2 hF hM
  have HB5 := Lib.hid (HB4.out.trans (hk2.below (by have := HB4.out.size; omega) (fun i h => by have := HB4.out.size; omega)))
  clear hF hM hk2 hp1 hp2 hR hcA hcB hcC
  go_wp2_with fail
  go_ret
  exact ⟨rfl, HB5.out⟩

theorem puts_l (A : Option Addr) (c : Nat) (l : List UInt8) (n : Int) (w : World) (n0 : 0 ≤ n) (hc : l.length ≤ c) (hcm : c ≤ maxLen) (hB : BS w w.heap.size A l) :
    Calls Try.prog 6 #[.slice A l.length c, .int .u64 n] w fun e w' => e = .returned (.bool true) ∧ Below w.heap.size w w' := by
  rcases Nat.lt_or_ge 500 l.length with h | h
  · exact puts_long A c l.length n w h (by omega)
  have hn : n < 64 ∨ (64 ≤ n ∧ n < 16384) ∨ (16384 ≤ n ∧ n < 1073741824) ∨ (1073741824 ≤ n ∧ n < 4611686018427387904) ∨ 4611686018427387904 ≤ n := by omega
  rcases hn with hn | ⟨h1, h2⟩ | ⟨h1, h2⟩ | ⟨h1, h2⟩ | hn
  · exact puts_1 A c l n w n0 hn h hB
  · exact puts_2 A c l n w h1 h2 h hB
  · exact puts_4 A c l n w h1 h2 h hB
  · exact puts_8 A c l n w h1 h2 h hB
  · exact puts_0 A c l.length n w hn h
end Go.Proofs.Ytpclmedpnoalhaa
