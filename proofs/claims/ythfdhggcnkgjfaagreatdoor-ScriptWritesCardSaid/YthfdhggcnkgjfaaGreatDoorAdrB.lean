/- Contracts of addr.Bytes and of the reference's Bytes of layer 3. -/
import Derived.Test.YthfdhggcnkgjfaaGreatDoorOctPut
import Derived.Test.YthfdhggcnkgjfaaGreatDoorRefBytes
import Derived.Test.YthfdhggcnkgjfaaGreatDoorBase
namespace Go.Proofs.YthfdhggcnkgjfaaGreatDoor
open Go.RowKit
set_option linter.unusedVariables false

theorem Tryz.info5j : (Tryz.prog.info? 5).map (fun i => (i.zero, i.size, i.bytes)) = some (some (.int .u8 0), 1, 1) := by kernel_rfl
structure Adq where
  six : Bool
  high : Int
  low : Int
structure Adq.wf (a : Adq) : Prop where
  high0 : 0 ≤ a.high
  high1 : a.high < 18446744073709551616
  low0 : 0 ≤ a.low
  low1 : a.low < 18446744073709551616
def Adq.bs (a : Adq) : List UInt8 := if a.six = true then digs 8 a.high ++ digs 8 a.low else digs 4 a.low
def AdqPost (a : Adq) (w : World) (e : Ending) (w' : World) : Prop := ∃ v, e = .returned v ∧ Row w' w.heap.size 5 v (bcs a.bs) ∧ Below w.heap.size w w'
theorem Own.row_ {w : World} {e g cap base n : Nat} {l : List UInt8} (h : Own w e g cap l) (hb : base ≤ g) (hn : l.length = n) : Row w base e (.slice (some ⟨g, 0, none⟩) n cap) (bcs l) := by subst hn; exact h.row hb
set_option maxRecDepth 20000 in
set_option maxHeartbeats 2000000 in
theorem adBytes_any (a : Adq) (w : World) (hw : a.wf) : Calls Tryz.prog 79 #[.agg #[.bool a.six, .int .u64 a.high, .int .u64 a.low]] w (AdqPost a w) := by
  obtain ⟨h0, h1, l0, l1⟩ := hw
  obtain ⟨six, high, low⟩ := a
  simp only at h0 h1 l0 l1
  cases six with
  | false =>
    have HE := Lib.hid (show Adq.bs ⟨false, high, low⟩ = digs 4 low from rfl)
    go_enter Tryz.func79, Tryz.ntmps79
    go_wp2_with fail
    refine (put_nil 4 low _ l0 l1 (by omega)).mono ?_
    rintro e w1 ⟨rfl, hO, hb⟩
    have HR := Lib.hid (show Row w1 w.heap.size 5 (.slice (some ⟨w.heap.size + 1, 0, none⟩) 4 4) (bcs (digs 4 low)) by have h := hO.row_ (base := w.heap.size) (by simp) (digs_length 4 low); simpa using h)
    have HB := Lib.hid (((Below.refl w.heap.size w).alloc (Nat.le_refl _) (.cells #[.bool false, .int .u64 high, .int .u64 low] 25)).trans (hb.mono (by simp)))
    clear hO hb
    go_wp2_with fail
    go_ret
    exact ⟨_, rfl, by rw [HE.out]; exact HR.out, HB.out⟩
  | true =>
    have HE := Lib.hid (show Adq.bs ⟨true, high, low⟩ = digs 8 high ++ digs 8 low from rfl)
    go_enter Tryz.func79, Tryz.ntmps79
    go_wp2_with fail
    obtain ⟨w1, hw1⟩ : ∃ w1 : World, w1 = w.alloc (.cells #[.bool true, .int .u64 high, .int .u64 low] 25) := ⟨_, rfl⟩
    have HN := Lib.hid (show Blk w1 w.heap.size 25 #[.bool true, .int .u64 high, .int .u64 low] by rw [hw1]; exact Blk.new _ _ _)
    have HB1 := Lib.hid (show Below w.heap.size w w1 by rw [hw1]; exact (Below.refl _ _).alloc (Nat.le_refl _) _)
    have hlt := HN.out.lt
    rw [← hw1]
    clear hw1
    refine wp_region_kept 7 [(2, fun v u => Byt u v (digs 8 high)), (5, fun v u => Row u w1.heap.size 5 v (bcs (digs 8 high ++ digs 8 low)))] ?st ?ne rfl (by kernel_rfl) (by kernel_rfl) ?_
    case st =>
      intro p hp
      simp only [List.mem_cons, List.not_mem_nil, or_false] at hp
      rcases hp with rfl | rfl
      · intro v u u' h hk; exact h.on0 hk
      · intro v u u' h hk; exact Row.kept h hk (fun _ _ h => h)
    case ne =>
      intro p hp
      simp only [List.mem_cons, List.not_mem_nil, or_false] at hp
      rcases hp with rfl | rfl
      · exact Byt.some _ _ (by rw [digs_length]; unfold maxLen; omega)
      · exact ⟨_, _, (Kept.refl _ _).alloc _, (Own.of_blk (e := 5) (Blk.new w1 5 (bcs (digs 8 high ++ digs 8 low)).toArray) (by rw [List.length_append, digs_length, digs_length]; unfold maxLen; omega)).row (Nat.le_refl _)⟩
    simp only [List.take_succ_cons, List.take_zero, List.drop_succ_cons, List.drop_zero]
    intro G pick hR hp1 hp2
    have pc : ∀ u i, (pick u).cell? ⟨w.heap.size, i, none⟩ = (#[.bool true, .int .u64 high, .int .u64 low] : Array Value)[i]? := fun u i => ((hp1 u).cell hlt (fun h => h) _).trans (HN.out.cell i)
    repeat (first | (refine wpR_det hp2 rfl ((hR.rel _).trans rfl) rfl ?_; intro K hK; go_big_quiet_op; go_big_quiet_on) | (refine wpR_ptr hp2 rfl ((hR.rel _).trans rfl) rfl rfl ?_; intro K hK; go_big_quiet_op; go_big_quiet_on) | (refine wpR_skip pick rfl ?_; intro K hK; go_big_quiet_op; go_big_quiet_on))
    refine wpR_rel pick rfl ((hR.rel _).trans rfl) ((hR.turns _).trans rfl) ?_ ?_
    · intro u hu
      have hk := hR.since hu.1
      have hks := hk.size
      unfold relAt
      go_simp
      refine (put_nil 8 high u h0 h1 (by omega)).mono ?_
      rintro e w' ⟨rfl, hO, hb⟩
      have hy := hO.byt
      rw [digs_length] at hy
      exact ⟨_, rfl, hR.intoB hb, hR.put 0 rfl rfl hy⟩
    intro v hv
    obtain ⟨u, _, hu⟩ := hv
    obtain ⟨A2, c2, rfl, -, -, -⟩ := hR.get 0 rfl hu
    clear hu
    intro K hK
    go_big_quiet_op
    go_big_quiet_on
    repeat (first | (refine wpR_det hp2 rfl ((hR.rel _).trans rfl) rfl ?_; intro K hK; go_big_quiet_op; go_big_quiet_on) | (refine wpR_ptr hp2 rfl ((hR.rel _).trans rfl) rfl rfl ?_; intro K hK; go_big_quiet_op; go_big_quiet_on) | (refine wpR_skip pick rfl ?_; intro K hK; go_big_quiet_op; go_big_quiet_on))
    refine wpR_rel pick rfl ((hR.rel _).trans rfl) ((hR.turns _).trans rfl) ?_ ?_
    · intro u hu
      have hk := hR.since hu.1
      have hks := hk.size
      obtain ⟨A3, c3, e3, -, -, hbs⟩ := (hR.get 0 rfl (hu.2 _ _ (Got.upd_self _ _ _) (by kernel_rfl)))
      injection e3 with ea el ec
      subst ea ec
      clear el
      unfold relAt
      go_simp
      refine (put_any A2 c2 8 (digs 8 high) low 8 u (by rw [digs_length]; omega) hbs l0 l1 (by omega)).mono ?_
      rintro e w' ⟨rfl, hO, hb⟩
      exact ⟨_, rfl, hR.intoB hb, hR.put 1 rfl rfl (hO.row_ hks (by rw [List.length_append, digs_length, digs_length]))⟩
    intro v hv
    obtain ⟨u, _, hu⟩ := hv
    obtain hr5 := hR.get 1 rfl hu
    clear hu
    clear hr5
    intro K hK
    go_big_quiet_op
    go_big_quiet_on
    repeat (first | (refine wpR_det hp2 rfl ((hR.rel _).trans rfl) rfl ?_; intro K hK; go_big_quiet_op; go_big_quiet_on) | (refine wpR_ptr hp2 rfl ((hR.rel _).trans rfl) rfl rfl ?_; intro K hK; go_big_quiet_op; go_big_quiet_on) | (refine wpR_skip pick rfl ?_; intro K hK; go_big_quiet_op; go_big_quiet_on))
    refine wpR_nil ?_
    intro wX hk2 hF hM
    obtain ⟨v2, rfl, hrow⟩ : ∃ v2, v2 = v ∧ Row wX w1.heap.size 5 v2 (bcs (digs 8 high ++ digs 8 low)) := ⟨v, rfl, (hR.get 1 rfl (hF _ _ (Got.upd_self _ _ _)))⟩
    have HR := Lib.hid (hrow.more (base' := w.heap.size) (by omega))
    have HB := Lib.hid (HB1.out.trans (hk2.below (by omega) (fun _ h => h.elim)))
    clear hF hM hk2 hp1 hp2 hR pc hrow
    go_wp2_with fail
    go_ret
    exact ⟨_, rfl, by rw [HE.out]; exact HR.out, HB.out⟩
set_option maxRecDepth 20000 in
set_option maxHeartbeats 2000000 in
theorem refAdBytes_any (a : Adq) (w : World) (hw : a.wf) : Calls Tryz.prog 47 #[.agg #[.bool a.six, .int .u64 a.high, .int .u64 a.low]] w (AdqPost a w) := by
  obtain ⟨h0, h1, l0, l1⟩ := hw
  obtain ⟨six, high, low⟩ := a
  simp only at h0 h1 l0 l1
  have h5 := Tryz.info5j
  cases six with
  | false =>
    have HE := Lib.hid (show Adq.bs ⟨false, high, low⟩ = digs 4 low from rfl)
    go_enter Tryz.func47, Tryz.ntmps47
    go_wp2_with fail
    refine (refBytes_any 4 low 4 _ l0 l1 (by omega)).mono ?_
    rintro e w1 ⟨rfl, hO, hb⟩
    have HR := Lib.hid (show Row w1 w.heap.size 5 (.slice (some ⟨w.heap.size + 1, 0, none⟩) 4 4) (bcs (digs 4 low)) by have h := hO.row_ (base := w.heap.size) (by simp) (digs_length 4 low); simpa using h)
    have HB := Lib.hid (((Below.refl w.heap.size w).alloc (Nat.le_refl _) (.cells #[.bool false, .int .u64 high, .int .u64 low] 25)).trans (hb.mono (by simp)))
    clear hO hb
    go_wp2_with fail
    go_ret
    exact ⟨_, rfl, by rw [HE.out]; exact HR.out, HB.out⟩
  | true =>
    have HE := Lib.hid (show Adq.bs ⟨true, high, low⟩ = digs 8 high ++ digs 8 low from rfl)
    go_enter Tryz.func47, Tryz.ntmps47
    go_wp2_with fail
    obtain ⟨w1, hw1⟩ : ∃ w1 : World, w1 = w.alloc (.cells #[.bool true, .int .u64 high, .int .u64 low] 25) := ⟨_, rfl⟩
    have HN := Lib.hid (show Blk w1 w.heap.size 25 #[.bool true, .int .u64 high, .int .u64 low] by rw [hw1]; exact Blk.new _ _ _)
    have HB1 := Lib.hid (show Below w.heap.size w w1 by rw [hw1]; exact (Below.refl _ _).alloc (Nat.le_refl _) _)
    have hlt := HN.out.lt
    rw [← hw1]
    clear hw1
    refine wp_region_add 8 (fun i => w1.heap.size ≤ i) [2, 5, 6] [2, 5] [(2, fun v u => Row u w1.heap.size 5 v (bcs (digs 8 high))), (5, fun v u => Byt u v (digs 8 low)), (6, fun v u => Row u w1.heap.size 5 v (bcs (digs 8 high ++ digs 8 low)))] ?st ?ne rfl (by kernel_rfl) (by kernel_rfl) (by kernel_rfl) ?_
    case st =>
      intro p hp
      simp only [List.mem_cons, List.not_mem_nil, or_false] at hp
      rcases hp with rfl | rfl | rfl
      · intro v u u' h hk; exact Row.kept h hk (fun _ _ h => h)
      · intro v u u' h hk; exact h.on0 hk
      · intro v u u' h hk; exact Row.kept h hk (fun _ _ h => h)
    case ne =>
      intro p hp
      simp only [List.mem_cons, List.not_mem_nil, or_false] at hp
      rcases hp with rfl | rfl | rfl
      · exact ⟨_, _, (Kept.refl _ _).alloc _, (Own.of_blk (e := 5) (Blk.new w1 5 (bcs (digs 8 high)).toArray) (by rw [digs_length]; unfold maxLen; omega)).row (Nat.le_refl _)⟩
      · exact Byt.some _ _ (by rw [digs_length]; unfold maxLen; omega)
      · exact ⟨_, _, (Kept.refl _ _).alloc _, (Own.of_blk (e := 5) (Blk.new w1 5 (bcs (digs 8 high ++ digs 8 low)).toArray) (by rw [List.length_append, digs_length, digs_length]; unfold maxLen; omega)).row (Nat.le_refl _)⟩
    simp only [List.take_succ_cons, List.take_zero, List.drop_succ_cons, List.drop_zero]
    intro G pick hR hp1 hp2
    have pc : ∀ u i, (pick u).cell? ⟨w.heap.size, i, none⟩ = (#[.bool true, .int .u64 high, .int .u64 low] : Array Value)[i]? := fun u i => ((hp1 u).cell hlt (by omega) _).trans (HN.out.cell i)
    repeat (first | (refine wpR_det hp2 rfl ((hR.rel _).trans rfl) rfl ?_; intro K hK; go_big_quiet_op; go_big_quiet_on) | (refine wpR_ptr hp2 rfl ((hR.rel _).trans rfl) rfl rfl ?_; intro K hK; go_big_quiet_op; go_big_quiet_on) | (refine wpR_skip pick rfl ?_; intro K hK; go_big_quiet_op; go_big_quiet_on))
    refine wpR_add pick rfl ((hR.rel _).trans rfl) ((hR.turns _).trans rfl) ((hR.adds _).trans rfl) ?_ ?_
    · intro u hu hM
      have hk := hR.since hu.1
      have hks := hk.size
      unfold relAt
      go_simp
      refine (refBytes_any 8 high 8 u h0 h1 (by omega)).mono ?_
      rintro e w' ⟨rfl, hO, hb⟩
      exact ⟨_, rfl, hR.intoB hb, hR.put 0 rfl rfl (hO.row_ hks (digs_length _ _))⟩
    intro v hv
    obtain ⟨u, _, hu⟩ := hv
    obtain hr2 := hR.get 0 rfl hu
    clear hu
    obtain ⟨A2, c2, hv2, -⟩ := hr2.shape
    rw [bcs_length, digs_length] at hv2
    subst hv2
    clear hr2
    intro K hK
    go_big_quiet_op
    go_big_quiet_on
    repeat (first | (refine wpR_det hp2 rfl ((hR.rel _).trans rfl) rfl ?_; intro K hK; go_big_quiet_op; go_big_quiet_on) | (refine wpR_ptr hp2 rfl ((hR.rel _).trans rfl) rfl rfl ?_; intro K hK; go_big_quiet_op; go_big_quiet_on) | (refine wpR_skip pick rfl ?_; intro K hK; go_big_quiet_op; go_big_quiet_on))
    refine wpR_add pick rfl ((hR.rel _).trans rfl) ((hR.turns _).trans rfl) ((hR.adds _).trans rfl) ?_ ?_
    · intro u hu hM
      have hk := hR.since hu.1
      have hks := hk.size
      unfold relAt
      go_simp
      refine (refBytes_any 8 low 8 u l0 l1 (by omega)).mono ?_
      rintro e w' ⟨rfl, hO, hb⟩
      have hy := hO.byt
      rw [digs_length] at hy
      exact ⟨_, rfl, hR.intoB hb, hR.put 1 rfl rfl hy⟩
    intro v hv
    obtain ⟨u, _, hu⟩ := hv
    obtain ⟨A5, c5, rfl, -, -, -⟩ := hR.get 1 rfl hu
    clear hu
    rw [digs_length]
    intro K hK
    go_big_quiet_op
    go_big_quiet_on
    repeat (first | (refine wpR_det hp2 rfl ((hR.rel _).trans rfl) rfl ?_; intro K hK; go_big_quiet_op; go_big_quiet_on) | (refine wpR_ptr hp2 rfl ((hR.rel _).trans rfl) rfl rfl ?_; intro K hK; go_big_quiet_op; go_big_quiet_on) | (refine wpR_skip pick rfl ?_; intro K hK; go_big_quiet_op; go_big_quiet_on))
    refine wpR_turn pick rfl ((hR.rel _).trans rfl) ((hR.turns _).trans rfl) ((hR.adds _).trans rfl) ?_ ?_
    · intro u hu hM
      have hk := hR.since hu.1
      have hks := hk.size
      have hr := hR.get 0 rfl hM.1.2
      obtain ⟨A6, c6, e6, -, -, hbs6⟩ := hR.get 1 rfl hM.2
      rw [digs_length] at e6
      injection e6 with ea el ec
      subst ea ec
      refine relAt_append_row (.tmp 11) (.tmp 14) 30 rfl w1.heap.size 5 (.int .u8 0) 1 Tryz.underlying30 h5 rfl _ (bcs (digs 8 high)) rfl _ _ _ (bcs (digs 8 low)) rfl ?_ hr hbs6.src (bcs_one _) ?_ ?_ hks ?_
      · rw [bcs_length, digs_length]
      · rw [bcs_length, bcs_length, digs_length, digs_length]; unfold maxLen; omega
      · rw [bcs_length, bcs_length, digs_length, digs_length]; omega
      · intro v' w' hr' hg' _
        rw [← bcs_append] at hr'
        exact ⟨hR.into (kept_grown hg' (fun i e _ => (hr.lt i e).1)), hR.put 2 rfl rfl hr'⟩
    intro v hv
    obtain ⟨u, _, hu⟩ := hv
    obtain hr6 := hR.get 2 rfl hu
    clear hu
    clear hr6
    intro K hK
    go_big_quiet_op
    go_big_quiet_on
    repeat (first | (refine wpR_det hp2 rfl ((hR.rel _).trans rfl) rfl ?_; intro K hK; go_big_quiet_op; go_big_quiet_on) | (refine wpR_ptr hp2 rfl ((hR.rel _).trans rfl) rfl rfl ?_; intro K hK; go_big_quiet_op; go_big_quiet_on) | (refine wpR_skip pick rfl ?_; intro K hK; go_big_quiet_op; go_big_quiet_on))
    refine wpR_nil ?_
    intro wX hk2 hF hM
    have HR := Lib.hid ((show Row wX w1.heap.size 5 v (bcs (digs 8 high ++ digs 8 low)) from hR.get 2 rfl hM).more (base' := w.heap.size) (by omega))
    have HB := Lib.hid (HB1.out.trans (hk2.below (by omega) (fun i h => by omega)))
    clear hF hM hk2 hp1 hp2 hR pc
    go_wp2_with fail
    go_ret
    exact ⟨_, rfl, by rw [HE.out]; exact HR.out, HB.out⟩
end Go.Proofs.YthfdhggcnkgjfaaGreatDoor
