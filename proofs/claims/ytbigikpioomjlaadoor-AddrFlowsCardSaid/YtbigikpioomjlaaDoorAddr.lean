/- Contracts of addr.Bytes, addr.Key, and of the reference's Right, Bytes, Key of layer 3. -/
import Derived.Test.YtbigikpioomjlaaDoorOctPut
import Derived.Test.YtbigikpioomjlaaDoorRefBytes
import Derived.Test.YtbigikpioomjlaaDoorRefJoin
import Derived.Test.YtbigikpioomjlaaDoorRgRow
namespace Go.Proofs.YtbigikpioomjlaaDoor
open Go.RowKit
set_option linter.unusedVariables false

structure Ad where
  six : Bool
  high : Int
  low : Int
structure Ad.wf (a : Ad) : Prop where
  high0 : 0 ≤ a.high
  high1 : a.high < 18446744073709551616
  low0 : 0 ≤ a.low
  low1 : a.low < 18446744073709551616
structure Fl where
  src : Ad
  dst : Ad
  sp : Int
  dp : Int
  pr : Int
structure Fl.wf (f : Fl) : Prop where
  src : f.src.wf
  dst : f.dst.wf
  sp0 : 0 ≤ f.sp
  sp1 : f.sp < 65536
  dp0 : 0 ≤ f.dp
  dp1 : f.dp < 65536
  pr0 : 0 ≤ f.pr
  pr1 : f.pr < 256
def Ad.bs (a : Ad) : List UInt8 := if a.six = true then digs 8 a.high ++ digs 8 a.low else digs 4 a.low
theorem Ad.bs_len (a : Ad) : a.bs.length ≤ 16 := by unfold Ad.bs; split <;> simp [digs_length]
def Fl.key (f : Fl) : List UInt8 := f.src.bs ++ (f.dst.bs ++ (digs 2 f.sp ++ (digs 2 f.dp ++ digs 1 f.pr)))
theorem Fl.key_len (f : Fl) : 5 ≤ f.key.length ∧ f.key.length ≤ 37 := by
  have h1 := f.src.bs_len
  have h2 := f.dst.bs_len
  unfold Fl.key; simp only [List.length_append, digs_length]; omega
/-- May an address be? -/
def Ad.okB (a : Ad) : Bool := a.six || (decide (a.high = 0) && decide (a.low ≤ 4294967295))
theorem refRightA_any (a : Ad) (w : World) : Calls Tryd.prog 5 #[.agg #[.bool a.six, .int .u64 a.high, .int .u64 a.low]] w fun e w' => e = .returned (.bool a.okB) ∧ Below w.heap.size w w' := by
  obtain ⟨six, high, low⟩ := a
  cases six with
  | true =>
    go_enter Tryd.func5, Tryd.ntmps5
    go_wp2_with fail
    go_ret
    exact ⟨rfl, (Below.refl _ _).alloc (Nat.le_refl _) _⟩
  | false =>
    by_cases h : high = 0
    · subst h
      have HE := Lib.hid (show Ad.okB ⟨false, 0, low⟩ = decide (low ≤ 4294967295) by simp [Ad.okB])
      go_enter Tryd.func5, Tryd.ntmps5
      go_wp2_with fail
      go_ret
      exact ⟨by rw [HE.out]; rfl, (Below.refl _ _).alloc (Nat.le_refl _) _⟩
    · have h' : (high == 0) = false := by simp [h]
      have HE := Lib.hid (show Ad.okB ⟨false, high, low⟩ = false by simp [Ad.okB, h])
      clear h
      go_enter Tryd.func5, Tryd.ntmps5
      go_wp2_with fail
      go_ret
      exact ⟨by rw [HE.out]; rfl, (Below.refl _ _).alloc (Nat.le_refl _) _⟩
def AdPost (a : Ad) (w : World) (e : Ending) (w' : World) : Prop := ∃ v, e = .returned v ∧ Row w' w.heap.size 5 v (bcs a.bs) ∧ Below w.heap.size w w'
theorem Own.row_ {w : World} {e g cap base n : Nat} {l : List UInt8} (h : Own w e g cap l) (hb : base ≤ g) (hn : l.length = n) : Row w base e (.slice (some ⟨g, 0, none⟩) n cap) (bcs l) := by subst hn; exact h.row hb
set_option maxHeartbeats 1000000 in
theorem adBytes_any (a : Ad) (w : World) (hw : a.wf) : Calls Tryd.prog 15 #[.agg #[.bool a.six, .int .u64 a.high, .int .u64 a.low]] w (AdPost a w) := by
  obtain ⟨h0, h1, l0, l1⟩ := hw
  obtain ⟨six, high, low⟩ := a
  simp only at h0 h1 l0 l1
  cases six with
  | false =>
    have HE := Lib.hid (show Ad.bs ⟨false, high, low⟩ = digs 4 low from rfl)
    go_enter Tryd.func15, Tryd.ntmps15
    go_wp2_with fail
    refine (put_nil 4 low _ l0 l1 (by omega)).mono ?_
    rintro e w1 ⟨rfl, hO, hb⟩
    have HR := Lib.hid (show Row w1 w.heap.size 5 (.slice (some ⟨w.heap.size + 1, 0, none⟩) 4 4) (bcs (digs 4 low)) by have h := hO.row_ (base := w.heap.size) (by simp) (digs_length 4 low); simpa using h)
    have HB := Lib.hid (((Below.refl w.heap.size w).alloc (Nat.le_refl _) (.cells #[.bool false, .int .u64 high, .int .u64 low] 24)).trans (hb.mono (by simp)))
    clear hO hb
    go_wp2_with fail
    go_ret
    exact ⟨_, rfl, by rw [HE.out]; exact HR.out, HB.out⟩
  | true =>
    have HE := Lib.hid (show Ad.bs ⟨true, high, low⟩ = digs 8 high ++ digs 8 low from rfl)
    go_enter Tryd.func15, Tryd.ntmps15
    go_wp2_with fail
    obtain ⟨w1, hw1⟩ : ∃ w1 : World, w1 = w.alloc (.cells #[.bool true, .int .u64 high, .int .u64 low] 24) := ⟨_, rfl⟩
    have HN := Lib.hid (show Blk w1 w.heap.size 24 #[.bool true, .int .u64 high, .int .u64 low] by rw [hw1]; exact Blk.new _ _ _)
    have HB1 := Lib.hid (show Below w.heap.size w w1 by rw [hw1]; exact (Below.refl _ _).alloc (Nat.le_refl _) _)
    have hlt := HN.out.lt
    rw [← hw1]
    clear hw1
    refine wp_region_kept 7 [(2, fun v u => Byt u v (digs 8 high)), (5, fun v u => Row u w1.heap.size 5 v (bcs (digs 8 high ++ digs 8 low)))] ?st ?ne rfl (by kernel_rfl) (by kernel_rfl) ?_
    case st =>
      intro p hp
      simp only [List.mem_cons, List.not_mem_nil, or_false] at hp
      rcases hp with rfl | rfl
      · intro v u u' h hk; exact h.on0 hk
      · intro v u u' h hk; exact Row.kept h hk (fun _ _ h => h)
    case ne =>
      intro p hp
      simp only [List.mem_cons, List.not_mem_nil, or_false] at hp
      rcases hp with rfl | rfl
      · exact Byt.some _ _ (by rw [digs_length]; unfold maxLen; omega)
      · exact ⟨_, _, (Kept.refl _ _).alloc _, (Own.of_blk (e := 5) (Blk.new w1 5 (bcs (digs 8 high ++ digs 8 low)).toArray) (by rw [List.length_append, digs_length, digs_length]; unfold maxLen; omega)).row (Nat.le_refl _)⟩
    simp only [List.take_succ_cons, List.take_zero, List.drop_succ_cons, List.drop_zero]
    intro G pick hR hp1 hp2
    have pc : ∀ u i, (pick u).cell? ⟨w.heap.size, i, none⟩ = (#[.bool true, .int .u64 high, .int .u64 low] : Array Value)[i]? := fun u i => ((hp1 u).cell hlt (fun h => h) _).trans (HN.out.cell i)
    repeat (first | (refine wpR_det hp2 rfl ((hR.rel _).trans rfl) rfl ?_; intro K hK; go_big_quiet_op; go_big_quiet_on) | (refine wpR_ptr hp2 rfl ((hR.rel _).trans rfl) rfl rfl ?_; intro K hK; go_big_quiet_op; go_big_quiet_on) | (refine wpR_skip pick rfl ?_; intro K hK; go_big_quiet_op; go_big_quiet_on))
    refine wpR_rel pick rfl ((hR.rel _).trans rfl) ((hR.turns _).trans rfl) ?_ ?_
    · intro u hu
      have hk := hR.since hu.1
      have hks := hk.size
      unfold relAt
      go_simp
      refine (put_nil 8 high u h0 h1 (by omega)).mono ?_
      rintro e w' ⟨rfl, hO, hb⟩
      have hy := hO.byt
      rw [digs_length] at hy
      exact ⟨_, rfl, hR.intoB hb, hR.put 0 rfl rfl hy⟩
    intro v hv
    obtain ⟨u, _, hu⟩ := hv
    obtain ⟨A2, c2, rfl, -, -, -⟩ := hR.get 0 rfl hu
    clear hu
    intro K hK
    go_big_quiet_op
    go_big_quiet_on
    repeat (first | (refine wpR_det hp2 rfl ((hR.rel _).trans rfl) rfl ?_; intro K hK; go_big_quiet_op; go_big_quiet_on) | (refine wpR_ptr hp2 rfl ((hR.rel _).trans rfl) rfl rfl ?_; intro K hK; go_big_quiet_op; go_big_quiet_on) | (refine wpR_skip pick rfl ?_; intro K hK; go_big_quiet_op; go_big_quiet_on))
    refine wpR_rel pick rfl ((hR.rel _).trans rfl) ((hR.turns _).trans rfl) ?_ ?_
    · intro u hu
      have hk := hR.since hu.1
      have hks := hk.size
      obtain ⟨A3, c3, e3, -, -, hbs⟩ := (hR.get 0 rfl (hu.2 _ _ (Got.upd_self _ _ _) (by kernel_rfl)))
      injection e3 with ea el ec
      subst ea ec
      clear el
      unfold relAt
      go_simp
      refine (put_any A2 c2 8 (digs 8 high) low 8 u (by rw [digs_length]; omega) hbs l0 l1 (by omega)).mono ?_
      rintro e w' ⟨rfl, hO, hb⟩
      exact ⟨_, rfl, hR.intoB hb, hR.put 1 rfl rfl (hO.row_ hks (by rw [List.length_append, digs_length, digs_length]))⟩
    intro v hv
    obtain ⟨u, _, hu⟩ := hv
    obtain hr5 := hR.get 1 rfl hu
    clear hu
    clear hr5
    intro K hK
    go_big_quiet_op
    go_big_quiet_on
    repeat (first | (refine wpR_det hp2 rfl ((hR.rel _).trans rfl) rfl ?_; intro K hK; go_big_quiet_op; go_big_quiet_on) | (refine wpR_ptr hp2 rfl ((hR.rel _).trans rfl) rfl rfl ?_; intro K hK; go_big_quiet_op; go_big_quiet_on) | (refine wpR_skip pick rfl ?_; intro K hK; go_big_quiet_op; go_big_quiet_on))
    refine wpR_nil ?_
    intro wX hk2 hF hM
    obtain ⟨v2, rfl, hrow⟩ : ∃ v2, v2 = v ∧ Row wX w1.heap.size 5 v2 (bcs (digs 8 high ++ digs 8 low)) := ⟨v, rfl, (hR.get 1 rfl (hF _ _ (Got.upd_self _ _ _)))⟩
    have HR := Lib.hid (hrow.more (base' := w.heap.size) (by omega))
    have HB := Lib.hid (HB1.out.trans (hk2.below (by omega) (fun _ h => h.elim)))
    clear hF hM hk2 hp1 hp2 hR pc hrow
    go_wp2_with fail
    go_ret
    exact ⟨_, rfl, by rw [HE.out]; exact HR.out, HB.out⟩
set_option maxHeartbeats 1000000 in
theorem refAdBytes_any (a : Ad) (w : World) (hw : a.wf) : Calls Tryd.prog 18 #[.agg #[.bool a.six, .int .u64 a.high, .int .u64 a.low]] w (AdPost a w) := by
  obtain ⟨h0, h1, l0, l1⟩ := hw
  obtain ⟨six, high, low⟩ := a
  simp only at h0 h1 l0 l1
  have h5 := Tryd.info5j
  cases six with
  | false =>
    have HE := Lib.hid (show Ad.bs ⟨false, high, low⟩ = digs 4 low from rfl)
    go_enter Tryd.func18, Tryd.ntmps18
    go_wp2_with fail
    refine (refBytes_any 4 low 4 _ l0 l1 (by omega)).mono ?_
    rintro e w1 ⟨rfl, hO, hb⟩
    have HR := Lib.hid (show Row w1 w.heap.size 5 (.slice (some ⟨w.heap.size + 1, 0, none⟩) 4 4) (bcs (digs 4 low)) by have h := hO.row_ (base := w.heap.size) (by simp) (digs_length 4 low); simpa using h)
    have HB := Lib.hid (((Below.refl w.heap.size w).alloc (Nat.le_refl _) (.cells #[.bool false, .int .u64 high, .int .u64 low] 24)).trans (hb.mono (by simp)))
    clear hO hb
    go_wp2_with fail
    go_ret
    exact ⟨_, rfl, by rw [HE.out]; exact HR.out, HB.out⟩
  | true =>
    have HE := Lib.hid (show Ad.bs ⟨true, high, low⟩ = digs 8 high ++ digs 8 low from rfl)
    go_enter Tryd.func18, Tryd.ntmps18
    go_wp2_with fail
    obtain ⟨w1, hw1⟩ : ∃ w1 : World, w1 = w.alloc (.cells #[.bool true, .int .u64 high, .int .u64 low] 24) := ⟨_, rfl⟩
    have HN := Lib.hid (show Blk w1 w.heap.size 24 #[.bool true, .int .u64 high, .int .u64 low] by rw [hw1]; exact Blk.new _ _ _)
    have HB1 := Lib.hid (show Below w.heap.size w w1 by rw [hw1]; exact (Below.refl _ _).alloc (Nat.le_refl _) _)
    have hlt := HN.out.lt
    rw [← hw1]
    clear hw1
    refine wp_region_add 8 (fun i => w1.heap.size ≤ i) [2, 5, 6] [2, 5] [(2, fun v u => Row u w1.heap.size 5 v (bcs (digs 8 high))), (5, fun v u => Byt u v (digs 8 low)), (6, fun v u => Row u w1.heap.size 5 v (bcs (digs 8 high ++ digs 8 low)))] ?st ?ne rfl (by kernel_rfl) (by kernel_rfl) (by kernel_rfl) ?_
    case st =>
      intro p hp
      simp only [List.mem_cons, List.not_mem_nil, or_false] at hp
      rcases hp with rfl | rfl | rfl
      · intro v u u' h hk; exact Row.kept h hk (fun _ _ h => h)
      · intro v u u' h hk; exact h.on0 hk
      · intro v u u' h hk; exact Row.kept h hk (fun _ _ h => h)
    case ne =>
      intro p hp
      simp only [List.mem_cons, List.not_mem_nil, or_false] at hp
      rcases hp with rfl | rfl | rfl
      · exact ⟨_, _, (Kept.refl _ _).alloc _, (Own.of_blk (e := 5) (Blk.new w1 5 (bcs (digs 8 high)).toArray) (by rw [digs_length]; unfold maxLen; omega)).row (Nat.le_refl _)⟩
      · exact Byt.some _ _ (by rw [digs_length]; unfold maxLen; omega)
      · exact ⟨_, _, (Kept.refl _ _).alloc _, (Own.of_blk (e := 5) (Blk.new w1 5 (bcs (digs 8 high ++ digs 8 low)).toArray) (by rw [List.length_append, digs_length, digs_length]; unfold maxLen; omega)).row (Nat.le_refl _)⟩
    simp only [List.take_succ_cons, List.take_zero, List.drop_succ_cons, List.drop_zero]
    intro G pick hR hp1 hp2
    have pc : ∀ u i, (pick u).cell? ⟨w.heap.size, i, none⟩ = (#[.bool true, .int .u64 high, .int .u64 low] : Array Value)[i]? := fun u i => ((hp1 u).cell hlt (by omega) _).trans (HN.out.cell i)
    repeat (first | (refine wpR_det hp2 rfl ((hR.rel _).trans rfl) rfl ?_; intro K hK; go_big_quiet_op; go_big_quiet_on) | (refine wpR_ptr hp2 rfl ((hR.rel _).trans rfl) rfl rfl ?_; intro K hK; go_big_quiet_op; go_big_quiet_on) | (refine wpR_skip pick rfl ?_; intro K hK; go_big_quiet_op; go_big_quiet_on))
    refine wpR_add pick rfl ((hR.rel _).trans rfl) ((hR.turns _).trans rfl) ((hR.adds _).trans rfl) ?_ ?_
    · intro u hu hM
      have hk := hR.since hu.1
      have hks := hk.size
      unfold relAt
      go_simp
      refine (refBytes_any 8 high 8 u h0 h1 (by omega)).mono ?_
      rintro e w' ⟨rfl, hO, hb⟩
      exact ⟨_, rfl, hR.intoB hb, hR.put 0 rfl rfl (hO.row_ hks (digs_length _ _))⟩
    intro v hv
    obtain ⟨u, _, hu⟩ := hv
    obtain hr2 := hR.get 0 rfl hu
    clear hu
    obtain ⟨A2, c2, hv2, -⟩ := hr2.shape
    rw [bcs_length, digs_length] at hv2
    subst hv2
    clear hr2
    intro K hK
    go_big_quiet_op
    go_big_quiet_on
    repeat (first | (refine wpR_det hp2 rfl ((hR.rel _).trans rfl) rfl ?_; intro K hK; go_big_quiet_op; go_big_quiet_on) | (refine wpR_ptr hp2 rfl ((hR.rel _).trans rfl) rfl rfl ?_; intro K hK; go_big_quiet_op; go_big_quiet_on) | (refine wpR_skip pick rfl ?_; intro K hK; go_big_quiet_op; go_big_quiet_on))
    refine wpR_add pick rfl ((hR.rel _).trans rfl) ((hR.turns _).trans rfl) ((hR.adds _).trans rfl) ?_ ?_
    · intro u hu hM
      have hk := hR.since hu.1
      have hks := hk.size
      unfold relAt
      go_simp
      refine (refBytes_any 8 low 8 u l0 l1 (by omega)).mono ?_
      rintro e w' ⟨rfl, hO, hb⟩
      have hy := hO.byt
      rw [digs_length] at hy
      exact ⟨_, rfl, hR.intoB hb, hR.put 1 rfl rfl hy⟩
    intro v hv
    obtain ⟨u, _, hu⟩ := hv
    obtain ⟨A5, c5, rfl, -, -, -⟩ := hR.get 1 rfl hu
    clear hu
    rw [digs_length]
    intro K hK
    go_big_quiet_op
    go_big_quiet_on
    repeat (first | (refine wpR_det hp2 rfl ((hR.rel _).trans rfl) rfl ?_; intro K hK; go_big_quiet_op; go_big_quiet_on) | (refine wpR_ptr hp2 rfl ((hR.rel _).trans rfl) rfl rfl ?_; intro K hK; go_big_quiet_op; go_big_quiet_on) | (refine wpR_skip pick rfl ?_; intro K hK; go_big_quiet_op; go_big_quiet_on))
    refine wpR_turn pick rfl ((hR.rel _).trans rfl) ((hR.turns _).trans rfl) ((hR.adds _).trans rfl) ?_ ?_
    · intro u hu hM
      have hk := hR.since hu.1
      have hks := hk.size
      have hr := hR.get 0 rfl hM.1.2
      obtain ⟨A6, c6, e6, -, -, hbs6⟩ := hR.get 1 rfl hM.2
      rw [digs_length] at e6
      injection e6 with ea el ec
      subst ea ec
      refine relAt_append_row (.tmp 11) (.tmp 14) 31 rfl w1.heap.size 5 (.int .u8 0) 1 Tryd.underlying31 h5 rfl _ (bcs (digs 8 high)) rfl _ _ _ (bcs (digs 8 low)) rfl ?_ hr hbs6.src (bcs_one _) ?_ ?_ hks ?_
      · rw [bcs_length, digs_length]
      · rw [bcs_length, bcs_length, digs_length, digs_length]; unfold maxLen; omega
      · rw [bcs_length, bcs_length, digs_length, digs_length]; omega
      · intro v' w' hr' hg' _
        rw [← bcs_append] at hr'
        exact ⟨hR.into (kept_grown hg' (fun i e _ => (hr.lt i e).1)), hR.put 2 rfl rfl hr'⟩
    intro v hv
    obtain ⟨u, _, hu⟩ := hv
    obtain hr6 := hR.get 2 rfl hu
    clear hu
    clear hr6
    intro K hK
    go_big_quiet_op
    go_big_quiet_on
    repeat (first | (refine wpR_det hp2 rfl ((hR.rel _).trans rfl) rfl ?_; intro K hK; go_big_quiet_op; go_big_quiet_on) | (refine wpR_ptr hp2 rfl ((hR.rel _).trans rfl) rfl rfl ?_; intro K hK; go_big_quiet_op; go_big_quiet_on) | (refine wpR_skip pick rfl ?_; intro K hK; go_big_quiet_op; go_big_quiet_on))
    refine wpR_nil ?_
    intro wX hk2 hF hM
    have HR := Lib.hid ((show Row wX w1.heap.size 5 v (bcs (digs 8 high ++ digs 8 low)) from hR.get 2 rfl hM).more (base' := w.heap.size) (by omega))
    have HB := Lib.hid (HB1.out.trans (hk2.below (by omega) (fun i h => by omega)))
    clear hF hM hk2 hp1 hp2 hR pc
    go_wp2_with fail
    go_ret
    exact ⟨_, rfl, by rw [HE.out]; exact HR.out, HB.out⟩
def KeyPost (f : Fl) (w : World) (e : Ending) (w' : World) : Prop := ∃ v, e = .returned v ∧ Byt w' v f.key ∧ Below w.heap.size w w'
set_option maxRecDepth 100000 in
set_option maxHeartbeats 2000000 in
theorem adKey_any (f : Fl) (w : World) (hw : f.wf) : Calls Tryd.prog 8 #[.agg #[.bool f.src.six, .int .u64 f.src.high, .int .u64 f.src.low, .bool f.dst.six, .int .u64 f.dst.high, .int .u64 f.dst.low, .int .u16 f.sp, .int .u16 f.dp, .int .u8 f.pr]] w (KeyPost f w) := by
  have HW := Lib.hid hw
  obtain ⟨ws, wd, sp0, sp1, dp0, dp1, pr0, pr1⟩ := hw
  have h5 := Tryd.info5j
  have hls := f.src.bs_len
  have hld := f.dst.bs_len
  have HS := Lib.hid (fun u => adBytes_any f.src u HW.out.src)
  have HD := Lib.hid (fun u => adBytes_any f.dst u HW.out.dst)
  have HKY := Lib.hid (show f.key = (((f.src.bs ++ f.dst.bs) ++ digs 2 f.sp) ++ digs 2 f.dp) ++ digs 1 f.pr by simp [Fl.key])
  clear ws wd
  go_enter Tryd.func8, Tryd.ntmps8
  go_wp2_with fail
  obtain ⟨w1, hw1⟩ : ∃ w1 : World, w1 = w.alloc (.cells #[.bool f.src.six, .int .u64 f.src.high, .int .u64 f.src.low, .bool f.dst.six, .int .u64 f.dst.high, .int .u64 f.dst.low, .int .u16 f.sp, .int .u16 f.dp, .int .u8 f.pr] 27) := ⟨_, rfl⟩
  have HN := Lib.hid (show Blk w1 w.heap.size 27 #[.bool f.src.six, .int .u64 f.src.high, .int .u64 f.src.low, .bool f.dst.six, .int .u64 f.dst.high, .int .u64 f.dst.low, .int .u16 f.sp, .int .u16 f.dp, .int .u8 f.pr] by rw [hw1]; exact Blk.new _ _ _)
  have HB1 := Lib.hid (show Below w.heap.size w w1 by rw [hw1]; exact (Below.refl _ _).alloc (Nat.le_refl _) _)
  have hlt := HN.out.lt
  rw [← hw1]
  clear hw1
  refine wp_region_add 8 (fun i => w1.heap.size ≤ i) [2, 5, 6] [2, 5] [(2, fun v u => Row u w1.heap.size 5 v (bcs f.src.bs)), (5, fun v u => Byt u v f.dst.bs), (6, fun v u => Row u w1.heap.size 5 v (bcs (f.src.bs ++ f.dst.bs)))] ?st ?ne rfl (by kernel_rfl) (by kernel_rfl) (by kernel_rfl) ?_
  case st =>
    intro p hp
    simp only [List.mem_cons, List.not_mem_nil, or_false] at hp
    rcases hp with rfl | rfl | rfl
    · intro v u u' h hk; exact Row.kept h hk (fun _ _ h => h)
    · intro v u u' h hk; exact h.on0 hk
    · intro v u u' h hk; exact Row.kept h hk (fun _ _ h => h)
  case ne =>
    intro p hp
    simp only [List.mem_cons, List.not_mem_nil, or_false] at hp
    rcases hp with rfl | rfl | rfl
    · exact ⟨_, _, (Kept.refl _ _).alloc _, (Own.of_blk (e := 5) (Blk.new w1 5 (bcs f.src.bs).toArray) (by unfold maxLen; omega)).row (Nat.le_refl _)⟩
    · exact Byt.some _ _ (by unfold maxLen; omega)
    · exact ⟨_, _, (Kept.refl _ _).alloc _, (Own.of_blk (e := 5) (Blk.new w1 5 (bcs (f.src.bs ++ f.dst.bs)).toArray) (by rw [List.length_append]; unfold maxLen; omega)).row (Nat.le_refl _)⟩
  simp only [List.take_succ_cons, List.take_zero, List.drop_succ_cons, List.drop_zero]
  intro G pick hR hp1 hp2
  have pc : ∀ u i, (pick u).cell? ⟨w.heap.size, i, none⟩ = (#[.bool f.src.six, .int .u64 f.src.high, .int .u64 f.src.low, .bool f.dst.six, .int .u64 f.dst.high, .int .u64 f.dst.low, .int .u16 f.sp, .int .u16 f.dp, .int .u8 f.pr] : Array Value)[i]? := fun u i => ((hp1 u).cell hlt (by omega) _).trans (HN.out.cell i)
  repeat (first | (refine wpR_det hp2 rfl ((hR.rel _).trans rfl) rfl ?_; intro K hK; go_big_quiet_op; go_big_quiet_on) | (refine wpR_ptr hp2 rfl ((hR.rel _).trans rfl) rfl rfl ?_; intro K hK; go_big_quiet_op; go_big_quiet_on) | (refine wpR_skip pick rfl ?_; intro K hK; go_big_quiet_op; go_big_quiet_on))
  refine wpR_add pick rfl ((hR.rel _).trans rfl) ((hR.turns _).trans rfl) ((hR.adds _).trans rfl) ?_ ?_
  · intro u hu hM
    have hk := hR.since hu.1
    have hks := hk.size
    unfold relAt
    go_simp
    refine (HS.out u).mono ?_
    rintro e w' ⟨v, rfl, hr, hb⟩
    exact ⟨_, rfl, hR.intoB hb, hR.put 0 rfl rfl (hr.more hks)⟩
  intro v hv
  obtain ⟨u, _, hu⟩ := hv
  obtain hr2 := hR.get 0 rfl hu
  clear hu
  obtain ⟨A2, c2, hv2, -⟩ := hr2.shape
  rw [bcs_length] at hv2
  subst hv2
  clear hr2
  intro K hK
  go_big_quiet_op
  go_big_quiet_on
  repeat (first | (refine wpR_det hp2 rfl ((hR.rel _).trans rfl) rfl ?_; intro K hK; go_big_quiet_op; go_big_quiet_on) | (refine wpR_ptr hp2 rfl ((hR.rel _).trans rfl) rfl rfl ?_; intro K hK; go_big_quiet_op; go_big_quiet_on) | (refine wpR_skip pick rfl ?_; intro K hK; go_big_quiet_op; go_big_quiet_on))
  refine wpR_add pick rfl ((hR.rel _).trans rfl) ((hR.turns _).trans rfl) ((hR.adds _).trans rfl) ?_ ?_
  · intro u hu hM
    have hk := hR.since hu.1
    have hks := hk.size
    unfold relAt
    go_simp
    refine (HD.out u).mono ?_
    rintro e w' ⟨v, rfl, hr, hb⟩
    exact ⟨_, rfl, hR.intoB hb, hR.put 1 rfl rfl hr.byt⟩
  intro v hv
  obtain ⟨u, _, hu⟩ := hv
  obtain ⟨A5, c5, rfl, -, -, -⟩ := hR.get 1 rfl hu
  clear hu
  intro K hK
  go_big_quiet_op
  go_big_quiet_on
  repeat (first | (refine wpR_det hp2 rfl ((hR.rel _).trans rfl) rfl ?_; intro K hK; go_big_quiet_op; go_big_quiet_on) | (refine wpR_ptr hp2 rfl ((hR.rel _).trans rfl) rfl rfl ?_; intro K hK; go_big_quiet_op; go_big_quiet_on) | (refine wpR_skip pick rfl ?_; intro K hK; go_big_quiet_op; go_big_quiet_on))
  refine wpR_turn pick rfl ((hR.rel _).trans rfl) ((hR.turns _).trans rfl) ((hR.adds _).trans rfl) ?_ ?_
  · intro u hu hM
    have hk := hR.since hu.1
    have hks := hk.size
    have hr := hR.get 0 rfl hM.1.2
    obtain ⟨A6, c6, e6, -, -, hbs6⟩ := hR.get 1 rfl hM.2
    injection e6 with ea el ec
    subst ea ec
    refine relAt_append_row (.tmp 6) (.tmp 9) 31 rfl w1.heap.size 5 (.int .u8 0) 1 Tryd.underlying31 h5 rfl _ (bcs f.src.bs) rfl _ _ _ (bcs f.dst.bs) rfl ?_ hr hbs6.src (bcs_one _) ?_ ?_ hks ?_
    · rw [bcs_length]
    · rw [bcs_length, bcs_length]; unfold maxLen; omega
    · rw [bcs_length, bcs_length]; omega
    · intro v' w' hr' hg' _
      rw [← bcs_append] at hr'
      exact ⟨hR.into (kept_grown hg' (fun i e _ => (hr.lt i e).1)), hR.put 2 rfl rfl hr'⟩
  intro v hv
  obtain ⟨u, _, hu⟩ := hv
  obtain hr6 := hR.get 2 rfl hu
  clear hu
  clear hr6
  intro K hK
  go_big_quiet_op
  go_big_quiet_on
  repeat (first | (refine wpR_det hp2 rfl ((hR.rel _).trans rfl) rfl ?_; intro K hK; go_big_quiet_op; go_big_quiet_on) | (refine wpR_ptr hp2 rfl ((hR.rel _).trans rfl) rfl rfl ?_; intro K hK; go_big_quiet_op; go_big_quiet_on) | (refine wpR_skip pick rfl ?_; intro K hK; go_big_quiet_op; go_big_quiet_on))
  refine wpR_nil ?_
  intro wX hk2 hF hM
  obtain ⟨A2, c2, rfl, -, -, hbs2⟩ : Byt wX v (f.src.bs ++ f.dst.bs) := (show Row wX w1.heap.size 5 v (bcs (f.src.bs ++ f.dst.bs)) from hR.get 2 rfl hM).byt
  have HBS2 := Lib.hid hbs2
  have hs2 := hk2.size
  have HN2 := Lib.hid (HN.out.kept hk2 (by omega))
  have HB2 := Lib.hid (HB1.out.trans (hk2.below (by omega) (fun i h => by omega)))
  have cN := HN2.out.cell
  clear hF hM hk2 hp1 hp2 hR pc hbs2 HN
  rw [List.length_append]
  go_wp2_with fail
  have hz := put_any A2 c2 2 (f.src.bs ++ f.dst.bs) f.sp 2 wX (by rw [List.length_append]; omega) HBS2.out sp0 (by omega) (by omega)
  rw [List.length_append] at hz
  have HZ := Lib.hid hz
  clear hz
  refine HZ.out.mono ?_
  rintro e w3 ⟨rfl, hO3, hb3⟩
  have hs3 := hb3.size
  have HBS3 := Lib.hid hO3.bs
  have HN3 := Lib.hid (HN2.out.below hb3 (by omega))
  have HB3 := Lib.hid (HB2.out.trans (hb3.mono (by omega)))
  clear cN hO3 hb3 HZ HN2 HBS2
  have cN := HN3.out.cell
  go_wp2_with fail
  have hz := put_any (some ⟨wX.heap.size, 0, none⟩) (f.src.bs.length + f.dst.bs.length + 2) 2 ((f.src.bs ++ f.dst.bs) ++ digs 2 f.sp) f.dp 2 w3 (by simp only [List.length_append, digs_length]; omega) HBS3.out dp0 (by omega) (by omega)
  simp only [List.length_append, digs_length] at hz
  have HZ := Lib.hid hz
  clear hz
  refine HZ.out.mono ?_
  rintro e w4 ⟨rfl, hO4, hb4⟩
  have hs4 := hb4.size
  have HBS4 := Lib.hid hO4.bs
  have HN4 := Lib.hid (HN3.out.below hb4 (by omega))
  have HB4 := Lib.hid (HB3.out.trans (hb4.mono (by omega)))
  clear cN hO4 hb4 HZ HN3 HBS3
  have cN := HN4.out.cell
  go_wp2_with fail
  have hz := put_any (some ⟨w3.heap.size, 0, none⟩) (f.src.bs.length + f.dst.bs.length + 2 + 2) 1 (((f.src.bs ++ f.dst.bs) ++ digs 2 f.sp) ++ digs 2 f.dp) f.pr 1 w4 (by simp only [List.length_append, digs_length]; omega) HBS4.out pr0 (by omega) (by omega)
  simp only [List.length_append, digs_length] at hz
  have HZ := Lib.hid hz
  clear hz
  refine HZ.out.mono ?_
  rintro e w5 ⟨rfl, hO5, hb5⟩
  have HY5 := Lib.hid hO5.byt
  have HB5 := Lib.hid (HB4.out.trans (hb5.mono (by omega)))
  clear hO5 hb5 cN HZ
  go_wp2_with fail
  go_ret
  exact ⟨_, rfl, by have h := HY5.out; simp only [List.length_append, digs_length] at h; rw [HKY.out]; exact h, HB5.out⟩
def keyLs (f : Fl) : List (List UInt8) := [f.src.bs, f.dst.bs, digs 2 f.sp, digs 2 f.dp, digs 1 f.pr]
theorem keyLs_flat (f : Fl) : (keyLs f).flatten = f.key := by simp [keyLs, Fl.key]
theorem Bys.five {w : World} {g t : Nat} {v0 v1 v2 v3 v4 : Value} {l0 l1 l2 l3 l4 : List UInt8} (h : Blk w g t #[v0, v1, v2, v3, v4]) (b0 : Byt w v0 l0) (b1 : Byt w v1 l1) (b2 : Byt w v2 l2) (b3 : Byt w v3 l3) (b4 : Byt w v4 l4) : Bys w g [v0, v1, v2, v3, v4] [l0, l1, l2, l3, l4] := by
  refine ⟨rfl, h.lt, fun k hk hk' => ?_⟩
  have hk5 : k < 5 := hk
  rw [h.cell k]
  have hc : k = 0 ∨ k = 1 ∨ k = 2 ∨ k = 3 ∨ k = 4 := by omega
  rcases hc with rfl | rfl | rfl | rfl | rfl
  · exact ⟨rfl, b0⟩
  · exact ⟨rfl, b1⟩
  · exact ⟨rfl, b2⟩
  · exact ⟨rfl, b3⟩
  · exact ⟨rfl, b4⟩
theorem Bys.on0 {w w' : World} {g : Nat} {vs : List Value} {ls : List (List UInt8)} (h : Bys w g vs ls) (hk : Kept (fun _ => False) w w') : Bys w' g vs ls :=
  ⟨h.1, Nat.lt_of_lt_of_le h.2.1 hk.size, fun k h1 h2 => ⟨(hk.cell h.2.1 (fun h => h) _).trans (h.2.2 k h1 h2).1, (h.2.2 k h1 h2).2.on0 hk⟩⟩
def Bys5 (u : World) (v : Value) (ls : List (List UInt8)) : Prop := ∃ g v0 v1 v2 v3 v4, v = .slice (some ⟨g, 0, none⟩) 5 5 ∧ Bys u g [v0, v1, v2, v3, v4] ls
theorem Bys5.some (w : World) (l0 l1 l2 l3 l4 : List UInt8) (h0 : l0.length ≤ maxLen) (h1 : l1.length ≤ maxLen) (h2 : l2.length ≤ maxLen) (h3 : l3.length ≤ maxLen) (h4 : l4.length ≤ maxLen) : ∃ v u, Kept (fun _ => False) w u ∧ Bys5 u v [l0, l1, l2, l3, l4] := by
  obtain ⟨v0, u0, k0, b0⟩ := Byt.some (S := fun _ => False) w l0 h0
  obtain ⟨v1, u1, k1, b1⟩ := Byt.some (S := fun _ => False) u0 l1 h1
  obtain ⟨v2, u2, k2, b2⟩ := Byt.some (S := fun _ => False) u1 l2 h2
  obtain ⟨v3, u3, k3, b3⟩ := Byt.some (S := fun _ => False) u2 l3 h3
  obtain ⟨v4, u4, k4, b4⟩ := Byt.some (S := fun _ => False) u3 l4 h4
  have ka : Kept (fun _ => False) u4 (u4.alloc (.cells #[v0, v1, v2, v3, v4] 0)) := (Kept.refl _ _).alloc _
  exact ⟨_, _, ((((k0.trans k1).trans k2).trans k3).trans k4).trans ka, u4.heap.size, v0, v1, v2, v3, v4, rfl,
    Bys.five (Blk.new _ _ _) ((((b0.on0 k1).on0 k2).on0 k3).on0 k4 |>.on0 ka) (((b1.on0 k2).on0 k3).on0 k4 |>.on0 ka) ((b2.on0 k3).on0 k4 |>.on0 ka) (b3.on0 k4 |>.on0 ka) (b4.on0 ka)⟩
set_option maxRecDepth 100000 in
set_option maxHeartbeats 2000000 in
theorem refAdKey_any (f : Fl) (w : World) (hw : f.wf) : Calls Tryd.prog 9 #[.agg #[.bool f.src.six, .int .u64 f.src.high, .int .u64 f.src.low, .bool f.dst.six, .int .u64 f.dst.high, .int .u64 f.dst.low, .int .u16 f.sp, .int .u16 f.dp, .int .u8 f.pr]] w (KeyPost f w) := by
  have HW := Lib.hid hw
  obtain ⟨ws, wd, sp0, sp1, dp0, dp1, pr0, pr1⟩ := hw
  have hls := f.src.bs_len
  have hld := f.dst.bs_len
  have HS := Lib.hid (fun u => refAdBytes_any f.src u HW.out.src)
  have HD := Lib.hid (fun u => refAdBytes_any f.dst u HW.out.dst)
  have HKL := Lib.hid f.key_len
  have HKF := Lib.hid (keyLs_flat f)
  clear ws wd
  go_enter Tryd.func9, Tryd.ntmps9
  go_wp2_with fail
  obtain ⟨w1, hw1⟩ : ∃ w1 : World, w1 = w.alloc (.cells #[.bool f.src.six, .int .u64 f.src.high, .int .u64 f.src.low, .bool f.dst.six, .int .u64 f.dst.high, .int .u64 f.dst.low, .int .u16 f.sp, .int .u16 f.dp, .int .u8 f.pr] 27) := ⟨_, rfl⟩
  have HN := Lib.hid (show Blk w1 w.heap.size 27 #[.bool f.src.six, .int .u64 f.src.high, .int .u64 f.src.low, .bool f.dst.six, .int .u64 f.dst.high, .int .u64 f.dst.low, .int .u16 f.sp, .int .u16 f.dp, .int .u8 f.pr] by rw [hw1]; exact Blk.new _ _ _)
  have HB1 := Lib.hid (show Below w.heap.size w w1 by rw [hw1]; exact (Below.refl _ _).alloc (Nat.le_refl _) _)
  have hlt := HN.out.lt
  rw [← hw1]
  clear hw1
  refine wp_region_kept 21 [(2, fun v u => Byt u v f.src.bs), (5, fun v u => Byt u v f.dst.bs), (9, fun v u => Byt u v (digs 2 f.sp)), (13, fun v u => Byt u v (digs 2 f.dp)), (17, fun v u => Byt u v (digs 1 f.pr)), (18, fun v u => Bys5 u v (keyLs f)), (19, fun v u => Byt u v f.key)] ?st ?ne rfl (by kernel_rfl) (by kernel_rfl) ?_
  case st =>
    intro p hp
    simp only [List.mem_cons, List.not_mem_nil, or_false] at hp
    rcases hp with rfl | rfl | rfl | rfl | rfl | rfl | rfl
    · intro v u u' h hk; exact h.on0 hk
    · intro v u u' h hk; exact h.on0 hk
    · intro v u u' h hk; exact h.on0 hk
    · intro v u u' h hk; exact h.on0 hk
    · intro v u u' h hk; exact h.on0 hk
    · rintro v u u' ⟨g, v0, v1, v2, v3, v4, rfl, h⟩ hk; exact ⟨g, v0, v1, v2, v3, v4, rfl, h.on0 hk⟩
    · intro v u u' h hk; exact h.on0 hk
  case ne =>
    intro p hp
    simp only [List.mem_cons, List.not_mem_nil, or_false] at hp
    rcases hp with rfl | rfl | rfl | rfl | rfl | rfl | rfl
    · exact Byt.some _ _ (by unfold maxLen; omega)
    · exact Byt.some _ _ (by unfold maxLen; omega)
    · exact Byt.some _ _ (by rw [digs_length]; unfold maxLen; omega)
    · exact Byt.some _ _ (by rw [digs_length]; unfold maxLen; omega)
    · exact Byt.some _ _ (by rw [digs_length]; unfold maxLen; omega)
    · exact Bys5.some _ _ _ _ _ _ (by unfold maxLen; omega) (by unfold maxLen; omega) (by rw [digs_length]; unfold maxLen; omega) (by rw [digs_length]; unfold maxLen; omega) (by rw [digs_length]; unfold maxLen; omega)
    · exact Byt.some _ _ (by have := HKL.out; unfold maxLen; omega)
  simp only [List.take_succ_cons, List.take_zero, List.drop_succ_cons, List.drop_zero]
  intro G pick hR hp1 hp2
  have pc : ∀ u i, (pick u).cell? ⟨w.heap.size, i, none⟩ = (#[.bool f.src.six, .int .u64 f.src.high, .int .u64 f.src.low, .bool f.dst.six, .int .u64 f.dst.high, .int .u64 f.dst.low, .int .u16 f.sp, .int .u16 f.dp, .int .u8 f.pr] : Array Value)[i]? := fun u i => ((hp1 u).cell hlt (fun h => h) _).trans (HN.out.cell i)
  repeat (first | (refine wpR_det hp2 rfl ((hR.rel _).trans rfl) rfl ?_; intro K hK; go_big_quiet_op; go_big_quiet_on) | (refine wpR_ptr hp2 rfl ((hR.rel _).trans rfl) rfl rfl ?_; intro K hK; go_big_quiet_op; go_big_quiet_on) | (refine wpR_skip pick rfl ?_; intro K hK; go_big_quiet_op; go_big_quiet_on))
  refine wpR_rel pick rfl ((hR.rel _).trans rfl) ((hR.turns _).trans rfl) ?_ ?_
  · intro u hu
    have hk := hR.since hu.1
    have hks := hk.size
    unfold relAt
    go_simp
    refine (HS.out u).mono ?_
    rintro e w' ⟨v, rfl, hr, hb⟩
    exact ⟨_, rfl, hR.intoB hb, hR.put 0 rfl rfl hr.byt⟩
  intro v hv
  obtain ⟨u, _, hu⟩ := hv
  obtain ⟨A2, c2, rfl, -, -, -⟩ := hR.get 0 rfl hu
  clear hu
  intro K hK
  go_big_quiet_op
  go_big_quiet_on
  repeat (first | (refine wpR_det hp2 rfl ((hR.rel _).trans rfl) rfl ?_; intro K hK; go_big_quiet_op; go_big_quiet_on) | (refine wpR_ptr hp2 rfl ((hR.rel _).trans rfl) rfl rfl ?_; intro K hK; go_big_quiet_op; go_big_quiet_on) | (refine wpR_skip pick rfl ?_; intro K hK; go_big_quiet_op; go_big_quiet_on))
  refine wpR_rel pick rfl ((hR.rel _).trans rfl) ((hR.turns _).trans rfl) ?_ ?_
  · intro u hu
    have hk := hR.since hu.1
    have hks := hk.size
    unfold relAt
    go_simp
    refine (HD.out u).mono ?_
    rintro e w' ⟨v, rfl, hr, hb⟩
    exact ⟨_, rfl, hR.intoB hb, hR.put 1 rfl rfl hr.byt⟩
  intro v hv
  obtain ⟨u, _, hu⟩ := hv
  obtain ⟨A5, c5, rfl, -, -, -⟩ := hR.get 1 rfl hu
  clear hu
  intro K hK
  go_big_quiet_op
  go_big_quiet_on
  repeat (first | (refine wpR_det hp2 rfl ((hR.rel _).trans rfl) rfl ?_; intro K hK; go_big_quiet_op; go_big_quiet_on) | (refine wpR_ptr hp2 rfl ((hR.rel _).trans rfl) rfl rfl ?_; intro K hK; go_big_quiet_op; go_big_quiet_on) | (refine wpR_skip pick rfl ?_; intro K hK; go_big_quiet_op; go_big_quiet_on))
  refine wpR_rel pick rfl ((hR.rel _).trans rfl) ((hR.turns _).trans rfl) ?_ ?_
  · intro u hu
    have hk := hR.since hu.1
    have hks := hk.size
    unfold relAt
    go_simp
    refine (refBytes_any 2 f.sp 2 u sp0 (by omega) (by omega)).mono ?_
    rintro e w' ⟨rfl, hO, hb⟩
    have hy := hO.byt
    rw [digs_length] at hy
    exact ⟨_, rfl, hR.intoB hb, hR.put 2 rfl rfl hy⟩
  intro v hv
  obtain ⟨u, _, hu⟩ := hv
  obtain ⟨A9, c9, rfl, -, -, -⟩ := hR.get 2 rfl hu
  clear hu
  rw [digs_length]
  intro K hK
  go_big_quiet_op
  go_big_quiet_on
  repeat (first | (refine wpR_det hp2 rfl ((hR.rel _).trans rfl) rfl ?_; intro K hK; go_big_quiet_op; go_big_quiet_on) | (refine wpR_ptr hp2 rfl ((hR.rel _).trans rfl) rfl rfl ?_; intro K hK; go_big_quiet_op; go_big_quiet_on) | (refine wpR_skip pick rfl ?_; intro K hK; go_big_quiet_op; go_big_quiet_on))
  refine wpR_rel pick rfl ((hR.rel _).trans rfl) ((hR.turns _).trans rfl) ?_ ?_
  · intro u hu
    have hk := hR.since hu.1
    have hks := hk.size
    unfold relAt
    go_simp
    refine (refBytes_any 2 f.dp 2 u dp0 (by omega) (by omega)).mono ?_
    rintro e w' ⟨rfl, hO, hb⟩
    have hy := hO.byt
    rw [digs_length] at hy
    exact ⟨_, rfl, hR.intoB hb, hR.put 3 rfl rfl hy⟩
  intro v hv
  obtain ⟨u, _, hu⟩ := hv
  obtain ⟨A13, c13, rfl, -, -, -⟩ := hR.get 3 rfl hu
  clear hu
  rw [digs_length]
  intro K hK
  go_big_quiet_op
  go_big_quiet_on
  repeat (first | (refine wpR_det hp2 rfl ((hR.rel _).trans rfl) rfl ?_; intro K hK; go_big_quiet_op; go_big_quiet_on) | (refine wpR_ptr hp2 rfl ((hR.rel _).trans rfl) rfl rfl ?_; intro K hK; go_big_quiet_op; go_big_quiet_on) | (refine wpR_skip pick rfl ?_; intro K hK; go_big_quiet_op; go_big_quiet_on))
  refine wpR_rel pick rfl ((hR.rel _).trans rfl) ((hR.turns _).trans rfl) ?_ ?_
  · intro u hu
    have hk := hR.since hu.1
    have hks := hk.size
    unfold relAt
    go_simp
    refine (refBytes_any 1 f.pr 1 u pr0 (by omega) (by omega)).mono ?_
    rintro e w' ⟨rfl, hO, hb⟩
    have hy := hO.byt
    rw [digs_length] at hy
    exact ⟨_, rfl, hR.intoB hb, hR.put 4 rfl rfl hy⟩
  intro v hv
  obtain ⟨u, _, hu⟩ := hv
  obtain ⟨A17, c17, rfl, -, -, -⟩ := hR.get 4 rfl hu
  clear hu
  rw [digs_length]
  intro K hK
  go_big_quiet_op
  go_big_quiet_on
  repeat (first | (refine wpR_det hp2 rfl ((hR.rel _).trans rfl) rfl ?_; intro K hK; go_big_quiet_op; go_big_quiet_on) | (refine wpR_ptr hp2 rfl ((hR.rel _).trans rfl) rfl rfl ?_; intro K hK; go_big_quiet_op; go_big_quiet_on) | (refine wpR_skip pick rfl ?_; intro K hK; go_big_quiet_op; go_big_quiet_on))
  refine wpR_rel pick rfl ((hR.rel _).trans rfl) ((hR.turns _).trans rfl) ?_ ?_
  · intro u hu
    have hk := hR.since hu.1
    have hks := hk.size
    have b0 := (hR.get 0 rfl (hu.2 _ _ (Got.upd_old (Got.upd_old (Got.upd_old (Got.upd_old (Got.upd_self _ _ _) rfl) rfl) rfl) rfl) (by kernel_rfl)))
    have b1 := (hR.get 1 rfl (hu.2 _ _ (Got.upd_old (Got.upd_old (Got.upd_old (Got.upd_self _ _ _) rfl) rfl) rfl) (by kernel_rfl)))
    have b2 := (hR.get 2 rfl (hu.2 _ _ (Got.upd_old (Got.upd_old (Got.upd_self _ _ _) rfl) rfl) (by kernel_rfl)))
    have b3 := (hR.get 3 rfl (hu.2 _ _ (Got.upd_old (Got.upd_self _ _ _) rfl) (by kernel_rfl)))
    have b4 := (hR.get 4 rfl (hu.2 _ _ (Got.upd_self _ _ _) (by kernel_rfl)))
    unfold relAt
    go_simp
    have hk0 : ∀ o, Kept (fun _ => False) u (u.alloc o) := fun o => (Kept.refl _ _).alloc o
    refine ⟨hR.into0 (hk0 _), hR.put 5 rfl rfl ⟨u.heap.size, _, _, _, _, _, rfl, Bys.five (Blk.new _ _ _) (b0.on0 (hk0 _)) (b1.on0 (hk0 _)) ?_ ?_ ?_⟩⟩
    · have h := b2.on0 (hk0 (.cells #[.slice A2 f.src.bs.length c2, .slice A5 f.dst.bs.length c5, .slice A9 2 c9, .slice A13 2 c13, .slice A17 1 c17] 31)); exact h
    · have h := b3.on0 (hk0 (.cells #[.slice A2 f.src.bs.length c2, .slice A5 f.dst.bs.length c5, .slice A9 2 c9, .slice A13 2 c13, .slice A17 1 c17] 31)); exact h
    · have h := b4.on0 (hk0 (.cells #[.slice A2 f.src.bs.length c2, .slice A5 f.dst.bs.length c5, .slice A9 2 c9, .slice A13 2 c13, .slice A17 1 c17] 31)); exact h
  intro v hv
  obtain ⟨u, _, hu⟩ := hv
  obtain ⟨g18, x0, x1, x2, x3, x4, rfl, -⟩ := hR.get 5 rfl hu
  clear hu
  intro K hK
  go_big_quiet_op
  go_big_quiet_on
  repeat (first | (refine wpR_det hp2 rfl ((hR.rel _).trans rfl) rfl ?_; intro K hK; go_big_quiet_op; go_big_quiet_on) | (refine wpR_ptr hp2 rfl ((hR.rel _).trans rfl) rfl rfl ?_; intro K hK; go_big_quiet_op; go_big_quiet_on) | (refine wpR_skip pick rfl ?_; intro K hK; go_big_quiet_op; go_big_quiet_on))
  refine wpR_rel pick rfl ((hR.rel _).trans rfl) ((hR.turns _).trans rfl) ?_ ?_
  · intro u hu
    have hk := hR.since hu.1
    have hks := hk.size
    obtain ⟨g, v0, v1, v2, v3, v4, e, hb5⟩ := (hR.get 5 rfl (hu.2 _ _ (Got.upd_self _ _ _) (by kernel_rfl)))
    obtain rfl : g18 = g := by injection e with e; injection e with e; injection e
    have hz : Calls Tryd.prog 17 #[.slice (some ⟨g18, 0, none⟩) 5 5] u _ := refJoin_any g18 5 [v0, v1, v2, v3, v4] (keyLs f) u hb5 (by simp) (by rw [HKF.out]; have := HKL.out; omega)
    clear e
    unfold relAt
    go_simp
    refine hz.mono ?_
    rintro e w' ⟨v, rfl, hy, hb⟩
    rw [HKF.out] at hy
    exact ⟨_, rfl, hR.intoB hb, hR.put 6 rfl rfl hy⟩
  intro v hv
  obtain ⟨u, _, hu⟩ := hv
  obtain ⟨A19, c19, rfl, -, -, -⟩ := hR.get 6 rfl hu
  clear hu
  intro K hK
  go_big_quiet_op
  go_big_quiet_on
  repeat (first | (refine wpR_det hp2 rfl ((hR.rel _).trans rfl) rfl ?_; intro K hK; go_big_quiet_op; go_big_quiet_on) | (refine wpR_ptr hp2 rfl ((hR.rel _).trans rfl) rfl rfl ?_; intro K hK; go_big_quiet_op; go_big_quiet_on) | (refine wpR_skip pick rfl ?_; intro K hK; go_big_quiet_op; go_big_quiet_on))
  refine wpR_nil ?_
  intro wX hk2 hF hM
  have HY := Lib.hid (hR.get 6 rfl (hF _ _ (Got.upd_self _ _ _)))
  have HB := Lib.hid (HB1.out.trans (hk2.below (by omega) (fun _ h => h.elim)))
  clear hF hM hk2 hp1 hp2 hR pc
  go_wp2_with fail
  go_ret
  exact ⟨_, rfl, HY.out, HB.out⟩
end Go.Proofs.YtbigikpioomjlaaDoor
