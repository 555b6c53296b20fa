/- An operation's line. -/
import Derived.Test.YthfdhggcnkgjfaaGreatDoorUD
import Derived.Test.YthfdhggcnkgjfaaGreatDoorYA
import Derived.Test.YthfdhggcnkgjfaaGreatDoorF
namespace Go.Proofs.YthfdhggcnkgjfaaGreatDoor
open Go.RowKit
set_option linter.unusedVariables false
set_option linter.unusedSimpArgs false
theorem digs_lenB {b M : Nat} (hb : 2 ≤ b) {k : Nat} (hM : M ≤ b ^ (k + 1)) (ns : List Nat) (h : ∀ n ∈ ns, n < M) : ∀ p ∈ ns.map (digB b), p.length ≤ k + 1 := fun p hp => by
  obtain ⟨q, hq, rfl⟩ := List.mem_map.1 hp
  exact digB_len hb k q (Nat.lt_of_lt_of_le (h q hq) hM)
theorem adrT_len (a : Adr) : (adrT a).length ≤ 4000 := by
  unfold adrT
  split
  · refine Nat.le_trans (joinC_len_le 58 4 _ (digs_lenB (M := 65536) (by omega) (k := 3) (by decide) _ ?_)) (by simp [grp])
    intro n hn
    exact grp_lt hn
  · refine Nat.le_trans (joinC_len_le 46 3 _ (digs_lenB (M := 256) (by omega) (k := 2) (by decide) _ ?_)) (by simp [by4])
    intro n hn
    unfold by4 at hn
    simp only [List.mem_cons, List.not_mem_nil, or_false] at hn
    omega
theorem textA_len (a : Adr) : (textA a).length ≤ 4000 := by
  unfold textA
  split
  · exact adrT_len a
  · simp
theorem proT_len (n : Nat) : (proT n).length ≤ 4000 := by
  unfold proT
  repeat' split
  all_goals decide
theorem wayN_len (n : Nat) : (wayN n).length ≤ 4000 := by
  unfold wayN
  repeat' split
  all_goals decide
theorem wayT_len (n : Int) : (wayT n).length ≤ 4000 := wayN_len _
theorem wayT_eq (n : Int) : wayT n = polN n := by
  unfold wayT wayN polN
  by_cases h1 : n = 1
  · subst h1; rfl
  by_cases h2 : n = 2
  · subst h2; rfl
  by_cases h3 : n = 3
  · subst h3; rfl
  by_cases h4 : n = 4
  · subst h4; rfl
  rw [if_neg h1, if_neg h2, if_neg h3, if_neg h4, if_neg (by omega), if_neg (by omega), if_neg (by omega), if_neg (by omega)]
theorem wayW_any (n : Int) (w : World) : Calls Tryz.prog 65 #[.int .i64 n] w (WordR w (wayT n)) := by
  refine (polName_any n w).mono ?_
  rintro e w' ⟨rfl, rfl⟩
  exact ⟨_, rfl, (wayT_eq n).symm, Kept.refl _ _⟩
def writeO (o : Osp) : List UInt8 := if 1 ≤ o.kind ∧ o.kind ≤ 8 then joinC 32 (issueT :: opG textA proT o) else []
set_option maxRecDepth 20000 in
set_option maxHeartbeats 16000000 in
theorem writeOp_any (o : Osp) (MA : Option Addr) (mc : Nat) (w : World) (hT : Tabs w) (hI : OspI o) (hl : o.ms.length ≤ 70) (hM : ES w w.heap.size MA 2 (mcs o.ms)) :
    Calls Tryz.prog 42 #[.agg (OC (.slice MA o.ms.length mc) o)] w (WordR w (writeO o)) := by
  have HT := Lib.hid hT
  have HM := Lib.hid hM
  have HI := Lib.hid hI
  have HL := Lib.hid hl
  have lv := Nat.le_trans (numT_len hI.vip) (show 20 ≤ 4000 by decide)
  have lb := Nat.le_trans (numT_len hI.backend) (show 20 ≤ 4000 by decide)
  have le := Nat.le_trans (numT_len hI.version) (show 20 ≤ 4000 by decide)
  have lp := Nat.le_trans (numT_lenN (Nat.le_trans hI.port (show 65535 ≤ 4294967295 by decide))) (show 20 ≤ 4000 by decide)
  have la := textA_len o.a
  have lr := proT_len o.proto
  have lw := wayT_len o.way
  have p0 : (0 : Int) ≤ (o.port : Int) := Int.natCast_nonneg _
  have p1 : (o.port : Int) ≤ 65535 := by have := hI.port; omega
  clear hT hM hI hl
  unfold OC
  go_enter Tryz.func42, Tryz.ntmps42
  go_upto_region 1 with fail
  obtain ⟨w1, hw1⟩ : ∃ w1 : World, w1 = w.alloc (.cells #[.int .i64 o.kind, .int .i64 o.vip, .int .i64 o.backend, .int .i64 o.version, .bool o.a.six, .int .u64 (o.a.hi : Int), .int .u64 (o.a.lo : Int), .int .u16 (o.port : Int), .int .u8 (o.proto : Int), .int .i64 o.way, .slice MA o.ms.length mc] 29) := ⟨_, rfl⟩
  have HK1 := Lib.hid (show Kept (fun _ => False) w w1 by rw [hw1]; exact (Kept.refl _ _).alloc _)
  have HN1 := Lib.hid (show Blk w1 w.heap.size 29 #[.int .i64 o.kind, .int .i64 o.vip, .int .i64 o.backend, .int .i64 o.version, .bool o.a.six, .int .u64 (o.a.hi : Int), .int .u64 (o.a.lo : Int), .int .u16 (o.port : Int), .int .u8 (o.proto : Int), .int .i64 o.way, .slice MA o.ms.length mc] by rw [hw1]; exact Blk.new _ _ _)
  have wz := HK1.out.size
  rw [← hw1]
  clear hw1
  have cB := HN1.out.cell
  by_cases hk1 : o.kind = 1
  · skip
    have HKE0 := Lib.hid hk1
    have q1 : (o.kind == 1) = true := by rw [hk1]; rfl
    have HWR := Lib.hid (show writeO o = joinC 32 (issueT :: [backendT, numT o.backend, textA o.a]) by unfold writeO opG; rw [if_pos (by omega), if_pos hk1])
    clear hk1
    go_upto_region 3 with fail
    have HLEN := Lib.hid (show (joinC 32 [[105, 115, 115, 117, 101], [98, 97, 99, 107, 101, 110, 100], numT o.backend, textA o.a]).length ≤ 140737488355328 from Nat.le_trans (joinC_len_le 32 4000 _ (by
          intro p hp
          simp only [List.mem_cons, List.not_mem_nil, or_false] at hp
          rcases hp with rfl | rfl | rfl | rfl
          all_goals first | decide | (show List.length _ ≤ 4000; simp; done) | omega)) (by simp))
    refine wp_region_kept 8 [(2, fun v u => ∃ y : ByteArray, v = .string y ∧ y.data.toList = numT o.backend), (5, fun v u => ∃ y : ByteArray, v = .string y ∧ y.data.toList = textA o.a), (6, fun v u => ∃ xs : List ByteArray, xs.map (·.data.toList) = [[105, 115, 115, 117, 101], [98, 97, 99, 107, 101, 110, 100], numT o.backend, textA o.a] ∧ Row u w.heap.size 9 v (xs.map Value.string)), (7, fun v u => ∃ y : ByteArray, v = .string y ∧ y.data.toList = joinC 32 [[105, 115, 115, 117, 101], [98, 97, 99, 107, 101, 110, 100], numT o.backend, textA o.a])] ?st ?ne rfl (by kernel_rfl) (by kernel_rfl) ?_
    case st =>
      intro p hp
      simp only [List.mem_cons, List.not_mem_nil, or_false] at hp
      rcases hp with rfl | rfl | rfl | rfl
      · intro v u u' h hk; exact h
      · intro v u u' h hk; exact h
      · intro v u u' h hk; obtain ⟨xs, h1, h2⟩ := h; exact ⟨xs, h1, Row.kept h2 hk (fun _ _ h => h)⟩
      · intro v u u' h hk; exact h
    case ne =>
      intro p hp
      simp only [List.mem_cons, List.not_mem_nil, or_false] at hp
      rcases hp with rfl | rfl | rfl | rfl
      · exact ⟨_, _, Kept.refl _ _, ⟨(numT o.backend).toArray⟩, rfl, rfl⟩
      · exact ⟨_, _, Kept.refl _ _, ⟨(textA o.a).toArray⟩, rfl, rfl⟩
      · exact ⟨_, _, (Kept.refl _ _).alloc (.cells (([[105, 115, 115, 117, 101], [98, 97, 99, 107, 101, 110, 100], numT o.backend, textA o.a]).map fun l => Value.string ⟨l.toArray⟩).toArray 9), ([[105, 115, 115, 117, 101], [98, 97, 99, 107, 101, 110, 100], numT o.backend, textA o.a]).map fun l => ⟨l.toArray⟩, by simp, Row.of_blk (Blk.new _ _ _) (by omega) (by unfold maxLen; simp; try omega) (by simp)⟩
      · exact ⟨_, _, Kept.refl _ _, ⟨(joinC 32 [[105, 115, 115, 117, 101], [98, 97, 99, 107, 101, 110, 100], numT o.backend, textA o.a]).toArray⟩, rfl, rfl⟩
    simp only [List.take_succ_cons, List.take_zero, List.drop_succ_cons, List.drop_zero]
    intro G pick hR hp1 hp2
    have sF : ∀ u i, (pick u).cell? ⟨w.heap.size, i, none⟩ = (#[.int .i64 o.kind, .int .i64 o.vip, .int .i64 o.backend, .int .i64 o.version, .bool o.a.six, .int .u64 (o.a.hi : Int), .int .u64 (o.a.lo : Int), .int .u16 (o.port : Int), .int .u8 (o.proto : Int), .int .i64 o.way, .slice MA o.ms.length mc] : Array Value)[i]? := fun u i => ((hp1 u).cell HN1.out.lt (fun h => h) _).trans (HN1.out.cell i)
    repeat (first | (refine wpR_det hp2 rfl ((hR.rel _).trans rfl) rfl ?_; intro K hK; go_big_quiet_op; go_big_quiet_on) | (refine wpR_ptr hp2 rfl ((hR.rel _).trans rfl) rfl rfl ?_; intro K hK; go_big_quiet_op; go_big_quiet_on) | (refine wpR_skip pick rfl ?_; intro K hK; go_big_quiet_op; go_big_quiet_on))
    refine wpR_rel pick rfl ((hR.rel _).trans rfl) ((hR.turns _).trans rfl) ?_ ?_
    · intro u hu
      have hk := hR.since hu.1
      have hks := hk.size
      unfold relAt
      go_simp
      refine (num_any o.backend HI.out.backend.1 HI.out.backend.2 u (HT.out.on (HK1.out.trans hk))).mono ?_
      rintro e w' ⟨y, rfl, hy, hk'⟩
      exact ⟨_, rfl, hR.into0 hk', hR.put 0 rfl rfl ⟨y, rfl, hy⟩⟩
    intro v hv
    obtain ⟨u, _, hu⟩ := hv
    obtain ⟨y1, rfl, hy1⟩ := hR.get 0 rfl hu
    clear hu
    have HY1 := Lib.hid hy1
    clear hy1
    intro K hK
    go_big_quiet_op
    go_big_quiet_on
    repeat (first | (refine wpR_det hp2 rfl ((hR.rel _).trans rfl) rfl ?_; intro K hK; go_big_quiet_op; go_big_quiet_on) | (refine wpR_ptr hp2 rfl ((hR.rel _).trans rfl) rfl rfl ?_; intro K hK; go_big_quiet_op; go_big_quiet_on) | (refine wpR_skip pick rfl ?_; intro K hK; go_big_quiet_op; go_big_quiet_on))
    refine wpR_rel pick rfl ((hR.rel _).trans rfl) ((hR.turns _).trans rfl) ?_ ?_
    · intro u hu
      have hk := hR.since hu.1
      have hks := hk.size
      unfold relAt
      go_simp
      refine (text_any o.a HI.out.hi HI.out.lo u (HT.out.on (HK1.out.trans hk))).mono ?_
      rintro e w' ⟨y, rfl, hy, hk'⟩
      exact ⟨_, rfl, hR.into0 hk', hR.put 1 rfl rfl ⟨y, rfl, hy⟩⟩
    intro v hv
    obtain ⟨u, _, hu⟩ := hv
    obtain ⟨y2, rfl, hy2⟩ := hR.get 1 rfl hu
    clear hu
    have HY2 := Lib.hid hy2
    clear hy2
    intro K hK
    go_big_quiet_op
    go_big_quiet_on
    repeat (first | (refine wpR_det hp2 rfl ((hR.rel _).trans rfl) rfl ?_; intro K hK; go_big_quiet_op; go_big_quiet_on) | (refine wpR_ptr hp2 rfl ((hR.rel _).trans rfl) rfl rfl ?_; intro K hK; go_big_quiet_op; go_big_quiet_on) | (refine wpR_skip pick rfl ?_; intro K hK; go_big_quiet_op; go_big_quiet_on))
    refine wpR_rel pick rfl ((hR.rel _).trans rfl) ((hR.turns _).trans rfl) ?_ ?_
    · intro u hu
      have hk := hR.since hu.1
      have hks := hk.size
      unfold relAt
      go_simp
      exact ⟨hR.into0 ((Kept.refl _ _).alloc _), hR.put 2 rfl rfl ⟨[(⟨#[105, 115, 115, 117, 101]⟩ : ByteArray), (⟨#[98, 97, 99, 107, 101, 110, 100]⟩ : ByteArray), y1, y2], by simp only [List.map_cons, List.map_nil]; rw [HY1.out, HY2.out]; try rfl, Row.of_blk (Blk.new u 9 #[.string (⟨#[105, 115, 115, 117, 101]⟩ : ByteArray), .string (⟨#[98, 97, 99, 107, 101, 110, 100]⟩ : ByteArray), .string y1, .string y2]) (by omega) (show 4 ≤ maxLen by decide) rfl⟩⟩
    intro v hv
    obtain ⟨u, _, hu⟩ := hv
    obtain ⟨xs, hxs, hrxs⟩ := hR.get 2 rfl hu
    clear hu
    have HXS := Lib.hid hxs
    intro K hK
    go_big_quiet_op
    go_big_quiet_on
    repeat (first | (refine wpR_det hp2 rfl ((hR.rel _).trans rfl) rfl ?_; intro K hK; go_big_quiet_op; go_big_quiet_on) | (refine wpR_ptr hp2 rfl ((hR.rel _).trans rfl) rfl rfl ?_; intro K hK; go_big_quiet_op; go_big_quiet_on) | (refine wpR_skip pick rfl ?_; intro K hK; go_big_quiet_op; go_big_quiet_on))
    refine wpR_rel pick rfl ((hR.rel _).trans rfl) ((hR.turns _).trans rfl) ?_ ?_
    · intro u hu
      have hk := hR.since hu.1
      have hks := hk.size
      obtain ⟨xs', hx', hr'⟩ := (hR.get 2 rfl (hu.2 _ _ (Got.upd_self _ _ _) (by kernel_rfl)))
      have hne' : xs' ≠ [] := fun e => by rw [e] at hx'; cases hx'
      have hln' : xs'.length ≤ 1000 := by have := congrArg List.length hx'; simp at this; omega
      unfold relAt
      go_simp
      refine (line_any xs' hr' hne' hln' (by rw [hx']; exact HLEN.out)).mono ?_
      rintro e w' ⟨y, rfl, hy, hk'⟩
      exact ⟨_, rfl, hR.into0 hk', hR.put 3 rfl rfl ⟨y, rfl, by rw [hy, hx']⟩⟩
    intro v hv
    obtain ⟨u, _, hu⟩ := hv
    obtain ⟨yL, rfl, hyL⟩ := hR.get 3 rfl hu
    clear hu
    have HYL := Lib.hid hyL
    clear hyL
    intro K hK
    go_big_quiet_op
    go_big_quiet_on
    repeat (first | (refine wpR_det hp2 rfl ((hR.rel _).trans rfl) rfl ?_; intro K hK; go_big_quiet_op; go_big_quiet_on) | (refine wpR_ptr hp2 rfl ((hR.rel _).trans rfl) rfl rfl ?_; intro K hK; go_big_quiet_op; go_big_quiet_on) | (refine wpR_skip pick rfl ?_; intro K hK; go_big_quiet_op; go_big_quiet_on))
    refine wpR_nil ?_
    intro wE hk2 hF hM
    have HKE := Lib.hid (HK1.out.trans hk2)
    clear hF hM hk2 hp1 hp2 hR sF
    go_wp2_with fail
    go_ret
    exact ⟨yL, rfl, by rw [HYL.out, HWR.out]; try rfl, HKE.out⟩
  by_cases hk2 : o.kind = 2
  · skip
    have HKE0 := Lib.hid hk2
    have q1 : (o.kind == 1) = false := by rw [hk2]; rfl
    have q2 : (o.kind == 2) = true := by rw [hk2]; rfl
    have HWR := Lib.hid (show writeO o = joinC 32 (issueT :: [vipT, textA o.a, numT o.port, proT o.proto, wayT o.way]) by unfold writeO opG; rw [if_pos (by omega), if_neg (by omega), if_pos hk2])
    clear hk2
    go_upto_region 5 with fail
    have HLEN := Lib.hid (show (joinC 32 [[105, 115, 115, 117, 101], [118, 105, 112], textA o.a, numT (o.port : Int), proT o.proto, wayT o.way]).length ≤ 140737488355328 from Nat.le_trans (joinC_len_le 32 4000 _ (by
          intro p hp
          simp only [List.mem_cons, List.not_mem_nil, or_false] at hp
          rcases hp with rfl | rfl | rfl | rfl | rfl | rfl
          all_goals first | decide | (show List.length _ ≤ 4000; simp; done) | omega)) (by simp))
    refine wp_region_kept 15 [(2, fun v u => ∃ y : ByteArray, v = .string y ∧ y.data.toList = textA o.a), (6, fun v u => ∃ y : ByteArray, v = .string y ∧ y.data.toList = numT (o.port : Int)), (9, fun v u => ∃ y : ByteArray, v = .string y ∧ y.data.toList = proT o.proto), (12, fun v u => ∃ y : ByteArray, v = .string y ∧ y.data.toList = wayT o.way), (13, fun v u => ∃ xs : List ByteArray, xs.map (·.data.toList) = [[105, 115, 115, 117, 101], [118, 105, 112], textA o.a, numT (o.port : Int), proT o.proto, wayT o.way] ∧ Row u w.heap.size 9 v (xs.map Value.string)), (14, fun v u => ∃ y : ByteArray, v = .string y ∧ y.data.toList = joinC 32 [[105, 115, 115, 117, 101], [118, 105, 112], textA o.a, numT (o.port : Int), proT o.proto, wayT o.way])] ?st ?ne rfl (by kernel_rfl) (by kernel_rfl) ?_
    case st =>
      intro p hp
      simp only [List.mem_cons, List.not_mem_nil, or_false] at hp
      rcases hp with rfl | rfl | rfl | rfl | rfl | rfl
      · intro v u u' h hk; exact h
      · intro v u u' h hk; exact h
      · intro v u u' h hk; exact h
      · intro v u u' h hk; exact h
      · intro v u u' h hk; obtain ⟨xs, h1, h2⟩ := h; exact ⟨xs, h1, Row.kept h2 hk (fun _ _ h => h)⟩
      · intro v u u' h hk; exact h
    case ne =>
      intro p hp
      simp only [List.mem_cons, List.not_mem_nil, or_false] at hp
      rcases hp with rfl | rfl | rfl | rfl | rfl | rfl
      · exact ⟨_, _, Kept.refl _ _, ⟨(textA o.a).toArray⟩, rfl, rfl⟩
      · exact ⟨_, _, Kept.refl _ _, ⟨(numT (o.port : Int)).toArray⟩, rfl, rfl⟩
      · exact ⟨_, _, Kept.refl _ _, ⟨(proT o.proto).toArray⟩, rfl, rfl⟩
      · exact ⟨_, _, Kept.refl _ _, ⟨(wayT o.way).toArray⟩, rfl, rfl⟩
      · exact ⟨_, _, (Kept.refl _ _).alloc (.cells (([[105, 115, 115, 117, 101], [118, 105, 112], textA o.a, numT (o.port : Int), proT o.proto, wayT o.way]).map fun l => Value.string ⟨l.toArray⟩).toArray 9), ([[105, 115, 115, 117, 101], [118, 105, 112], textA o.a, numT (o.port : Int), proT o.proto, wayT o.way]).map fun l => ⟨l.toArray⟩, by simp, Row.of_blk (Blk.new _ _ _) (by omega) (by unfold maxLen; simp; try omega) (by simp)⟩
      · exact ⟨_, _, Kept.refl _ _, ⟨(joinC 32 [[105, 115, 115, 117, 101], [118, 105, 112], textA o.a, numT (o.port : Int), proT o.proto, wayT o.way]).toArray⟩, rfl, rfl⟩
    simp only [List.take_succ_cons, List.take_zero, List.drop_succ_cons, List.drop_zero]
    intro G pick hR hp1 hp2
    have sF : ∀ u i, (pick u).cell? ⟨w.heap.size, i, none⟩ = (#[.int .i64 o.kind, .int .i64 o.vip, .int .i64 o.backend, .int .i64 o.version, .bool o.a.six, .int .u64 (o.a.hi : Int), .int .u64 (o.a.lo : Int), .int .u16 (o.port : Int), .int .u8 (o.proto : Int), .int .i64 o.way, .slice MA o.ms.length mc] : Array Value)[i]? := fun u i => ((hp1 u).cell HN1.out.lt (fun h => h) _).trans (HN1.out.cell i)
    repeat (first | (refine wpR_det hp2 rfl ((hR.rel _).trans rfl) rfl ?_; intro K hK; go_big_quiet_op; go_big_quiet_on) | (refine wpR_ptr hp2 rfl ((hR.rel _).trans rfl) rfl rfl ?_; intro K hK; go_big_quiet_op; go_big_quiet_on) | (refine wpR_skip pick rfl ?_; intro K hK; go_big_quiet_op; go_big_quiet_on))
    refine wpR_rel pick rfl ((hR.rel _).trans rfl) ((hR.turns _).trans rfl) ?_ ?_
    · intro u hu
      have hk := hR.since hu.1
      have hks := hk.size
      unfold relAt
      go_simp
      refine (text_any o.a HI.out.hi HI.out.lo u (HT.out.on (HK1.out.trans hk))).mono ?_
      rintro e w' ⟨y, rfl, hy, hk'⟩
      exact ⟨_, rfl, hR.into0 hk', hR.put 0 rfl rfl ⟨y, rfl, hy⟩⟩
    intro v hv
    obtain ⟨u, _, hu⟩ := hv
    obtain ⟨y1, rfl, hy1⟩ := hR.get 0 rfl hu
    clear hu
    have HY1 := Lib.hid hy1
    clear hy1
    intro K hK
    go_big_quiet_op
    go_big_quiet_on
    repeat (first | (refine wpR_det hp2 rfl ((hR.rel _).trans rfl) rfl ?_; intro K hK; go_big_quiet_op; go_big_quiet_on) | (refine wpR_ptr hp2 rfl ((hR.rel _).trans rfl) rfl rfl ?_; intro K hK; go_big_quiet_op; go_big_quiet_on) | (refine wpR_skip pick rfl ?_; intro K hK; go_big_quiet_op; go_big_quiet_on))
    refine wpR_rel pick rfl ((hR.rel _).trans rfl) ((hR.turns _).trans rfl) ?_ ?_
    · intro u hu
      have hk := hR.since hu.1
      have hks := hk.size
      unfold relAt
      go_simp
      refine (num_any (o.port : Int) (by omega) (by omega) u (HT.out.on (HK1.out.trans hk))).mono ?_
      rintro e w' ⟨y, rfl, hy, hk'⟩
      exact ⟨_, rfl, hR.into0 hk', hR.put 1 rfl rfl ⟨y, rfl, hy⟩⟩
    intro v hv
    obtain ⟨u, _, hu⟩ := hv
    obtain ⟨y2, rfl, hy2⟩ := hR.get 1 rfl hu
    clear hu
    have HY2 := Lib.hid hy2
    clear hy2
    intro K hK
    go_big_quiet_op
    go_big_quiet_on
    repeat (first | (refine wpR_det hp2 rfl ((hR.rel _).trans rfl) rfl ?_; intro K hK; go_big_quiet_op; go_big_quiet_on) | (refine wpR_ptr hp2 rfl ((hR.rel _).trans rfl) rfl rfl ?_; intro K hK; go_big_quiet_op; go_big_quiet_on) | (refine wpR_skip pick rfl ?_; intro K hK; go_big_quiet_op; go_big_quiet_on))
    refine wpR_rel pick rfl ((hR.rel _).trans rfl) ((hR.turns _).trans rfl) ?_ ?_
    · intro u hu
      have hk := hR.since hu.1
      have hks := hk.size
      unfold relAt
      go_simp
      refine (proto_any o.proto HI.out.proto u).mono ?_
      rintro e w' ⟨y, rfl, hy, hk'⟩
      exact ⟨_, rfl, hR.into0 hk', hR.put 2 rfl rfl ⟨y, rfl, hy⟩⟩
    intro v hv
    obtain ⟨u, _, hu⟩ := hv
    obtain ⟨y3, rfl, hy3⟩ := hR.get 2 rfl hu
    clear hu
    have HY3 := Lib.hid hy3
    clear hy3
    intro K hK
    go_big_quiet_op
    go_big_quiet_on
    repeat (first | (refine wpR_det hp2 rfl ((hR.rel _).trans rfl) rfl ?_; intro K hK; go_big_quiet_op; go_big_quiet_on) | (refine wpR_ptr hp2 rfl ((hR.rel _).trans rfl) rfl rfl ?_; intro K hK; go_big_quiet_op; go_big_quiet_on) | (refine wpR_skip pick rfl ?_; intro K hK; go_big_quiet_op; go_big_quiet_on))
    refine wpR_rel pick rfl ((hR.rel _).trans rfl) ((hR.turns _).trans rfl) ?_ ?_
    · intro u hu
      have hk := hR.since hu.1
      have hks := hk.size
      unfold relAt
      go_simp
      refine (wayW_any o.way u).mono ?_
      rintro e w' ⟨y, rfl, hy, hk'⟩
      exact ⟨_, rfl, hR.into0 hk', hR.put 3 rfl rfl ⟨y, rfl, hy⟩⟩
    intro v hv
    obtain ⟨u, _, hu⟩ := hv
    obtain ⟨y4, rfl, hy4⟩ := hR.get 3 rfl hu
    clear hu
    have HY4 := Lib.hid hy4
    clear hy4
    intro K hK
    go_big_quiet_op
    go_big_quiet_on
    repeat (first | (refine wpR_det hp2 rfl ((hR.rel _).trans rfl) rfl ?_; intro K hK; go_big_quiet_op; go_big_quiet_on) | (refine wpR_ptr hp2 rfl ((hR.rel _).trans rfl) rfl rfl ?_; intro K hK; go_big_quiet_op; go_big_quiet_on) | (refine wpR_skip pick rfl ?_; intro K hK; go_big_quiet_op; go_big_quiet_on))
    refine wpR_rel pick rfl ((hR.rel _).trans rfl) ((hR.turns _).trans rfl) ?_ ?_
    · intro u hu
      have hk := hR.since hu.1
      have hks := hk.size
      unfold relAt
      go_simp
      exact ⟨hR.into0 ((Kept.refl _ _).alloc _), hR.put 4 rfl rfl ⟨[(⟨#[105, 115, 115, 117, 101]⟩ : ByteArray), (⟨#[118, 105, 112]⟩ : ByteArray), y1, y2, y3, y4], by simp only [List.map_cons, List.map_nil]; rw [HY1.out, HY2.out, HY3.out, HY4.out]; try rfl, Row.of_blk (Blk.new u 9 #[.string (⟨#[105, 115, 115, 117, 101]⟩ : ByteArray), .string (⟨#[118, 105, 112]⟩ : ByteArray), .string y1, .string y2, .string y3, .string y4]) (by omega) (show 6 ≤ maxLen by decide) rfl⟩⟩
    intro v hv
    obtain ⟨u, _, hu⟩ := hv
    obtain ⟨xs, hxs, hrxs⟩ := hR.get 4 rfl hu
    clear hu
    have HXS := Lib.hid hxs
    intro K hK
    go_big_quiet_op
    go_big_quiet_on
    repeat (first | (refine wpR_det hp2 rfl ((hR.rel _).trans rfl) rfl ?_; intro K hK; go_big_quiet_op; go_big_quiet_on) | (refine wpR_ptr hp2 rfl ((hR.rel _).trans rfl) rfl rfl ?_; intro K hK; go_big_quiet_op; go_big_quiet_on) | (refine wpR_skip pick rfl ?_; intro K hK; go_big_quiet_op; go_big_quiet_on))
    refine wpR_rel pick rfl ((hR.rel _).trans rfl) ((hR.turns _).trans rfl) ?_ ?_
    · intro u hu
      have hk := hR.since hu.1
      have hks := hk.size
      obtain ⟨xs', hx', hr'⟩ := (hR.get 4 rfl (hu.2 _ _ (Got.upd_self _ _ _) (by kernel_rfl)))
      have hne' : xs' ≠ [] := fun e => by rw [e] at hx'; cases hx'
      have hln' : xs'.length ≤ 1000 := by have := congrArg List.length hx'; simp at this; omega
      unfold relAt
      go_simp
      refine (line_any xs' hr' hne' hln' (by rw [hx']; exact HLEN.out)).mono ?_
      rintro e w' ⟨y, rfl, hy, hk'⟩
      exact ⟨_, rfl, hR.into0 hk', hR.put 5 rfl rfl ⟨y, rfl, by rw [hy, hx']⟩⟩
    intro v hv
    obtain ⟨u, _, hu⟩ := hv
    obtain ⟨yL, rfl, hyL⟩ := hR.get 5 rfl hu
    clear hu
    have HYL := Lib.hid hyL
    clear hyL
    intro K hK
    go_big_quiet_op
    go_big_quiet_on
    repeat (first | (refine wpR_det hp2 rfl ((hR.rel _).trans rfl) rfl ?_; intro K hK; go_big_quiet_op; go_big_quiet_on) | (refine wpR_ptr hp2 rfl ((hR.rel _).trans rfl) rfl rfl ?_; intro K hK; go_big_quiet_op; go_big_quiet_on) | (refine wpR_skip pick rfl ?_; intro K hK; go_big_quiet_op; go_big_quiet_on))
    refine wpR_nil ?_
    intro wE hk2 hF hM
    have HKE := Lib.hid (HK1.out.trans hk2)
    clear hF hM hk2 hp1 hp2 hR sF
    go_wp2_with fail
    go_ret
    exact ⟨yL, rfl, by rw [HYL.out, HWR.out]; try rfl, HKE.out⟩
  by_cases hk3 : o.kind = 3
  · skip
    have HKE0 := Lib.hid hk3
    have q1 : (o.kind == 1) = false := by rw [hk3]; rfl
    have q2 : (o.kind == 2) = false := by rw [hk3]; rfl
    have q3 : (o.kind == 3) = true := by rw [hk3]; rfl
    have HWR := Lib.hid (show writeO o = joinC 32 (issueT :: ([membersT, numT o.vip] ++ o.ms.map memT)) by unfold writeO opG; rw [if_pos (by omega), if_neg (by omega), if_neg (by omega), if_pos hk3])
    clear hk3
    have HML := Lib.hid (memLine_any o MA mc w1 (HT.out.on HK1.out) HI.out HL.out (HM.out.on HK1.out (fun _ _ h => h)))
    unfold OC at HML
    go_wp2_with (show wpList _ _ _ ((⟨_, .load 29 (.tmp 1), _, _, _, none⟩ : Oper) :: _) _ _; refine wpList_load_mid rfl 29 (.tmp 1) rfl w.heap.size 0 rfl [.int .i64 o.kind, .int .i64 o.vip, .int .i64 o.backend, .int .i64 o.version, .bool o.a.six, .int .u64 (o.a.hi : Int), .int .u64 (o.a.lo : Int), .int .u16 (o.port : Int), .int .u8 (o.proto : Int), .int .i64 o.way, .slice MA o.ms.length mc] _ HN1.out.range Tryz.underlying29 rfl (by kernel_rfl) ?_)
    refine HML.out.mono ?_
    rintro e wE ⟨yL, rfl, hyL, hk⟩
    have HYL := Lib.hid hyL
    have HKE := Lib.hid (HK1.out.trans hk)
    clear hyL hk
    go_wp2_with fail
    go_ret
    exact ⟨yL, rfl, by rw [HYL.out, HWR.out]; try rfl, HKE.out⟩
  by_cases hk4 : o.kind = 4
  · skip
    have HKE0 := Lib.hid hk4
    have q1 : (o.kind == 1) = false := by rw [hk4]; rfl
    have q2 : (o.kind == 2) = false := by rw [hk4]; rfl
    have q3 : (o.kind == 3) = false := by rw [hk4]; rfl
    have q4 : (o.kind == 4) = true := by rw [hk4]; rfl
    have HWR := Lib.hid (show writeO o = joinC 32 (issueT :: [retireT, numT o.vip, numT o.version]) by unfold writeO opG; rw [if_pos (by omega), if_neg (by omega), if_neg (by omega), if_neg (by omega), if_pos hk4])
    clear hk4
    go_upto_region 9 with fail
    have HLEN := Lib.hid (show (joinC 32 [[105, 115, 115, 117, 101], [114, 101, 116, 105, 114, 101], numT o.vip, numT o.version]).length ≤ 140737488355328 from Nat.le_trans (joinC_len_le 32 4000 _ (by
          intro p hp
          simp only [List.mem_cons, List.not_mem_nil, or_false] at hp
          rcases hp with rfl | rfl | rfl | rfl
          all_goals first | decide | (show List.length _ ≤ 4000; simp; done) | omega)) (by simp))
    refine wp_region_kept 8 [(2, fun v u => ∃ y : ByteArray, v = .string y ∧ y.data.toList = numT o.vip), (5, fun v u => ∃ y : ByteArray, v = .string y ∧ y.data.toList = numT o.version), (6, fun v u => ∃ xs : List ByteArray, xs.map (·.data.toList) = [[105, 115, 115, 117, 101], [114, 101, 116, 105, 114, 101], numT o.vip, numT o.version] ∧ Row u w.heap.size 9 v (xs.map Value.string)), (7, fun v u => ∃ y : ByteArray, v = .string y ∧ y.data.toList = joinC 32 [[105, 115, 115, 117, 101], [114, 101, 116, 105, 114, 101], numT o.vip, numT o.version])] ?st ?ne rfl (by kernel_rfl) (by kernel_rfl) ?_
    case st =>
      intro p hp
      simp only [List.mem_cons, List.not_mem_nil, or_false] at hp
      rcases hp with rfl | rfl | rfl | rfl
      · intro v u u' h hk; exact h
      · intro v u u' h hk; exact h
      · intro v u u' h hk; obtain ⟨xs, h1, h2⟩ := h; exact ⟨xs, h1, Row.kept h2 hk (fun _ _ h => h)⟩
      · intro v u u' h hk; exact h
    case ne =>
      intro p hp
      simp only [List.mem_cons, List.not_mem_nil, or_false] at hp
      rcases hp with rfl | rfl | rfl | rfl
      · exact ⟨_, _, Kept.refl _ _, ⟨(numT o.vip).toArray⟩, rfl, rfl⟩
      · exact ⟨_, _, Kept.refl _ _, ⟨(numT o.version).toArray⟩, rfl, rfl⟩
      · exact ⟨_, _, (Kept.refl _ _).alloc (.cells (([[105, 115, 115, 117, 101], [114, 101, 116, 105, 114, 101], numT o.vip, numT o.version]).map fun l => Value.string ⟨l.toArray⟩).toArray 9), ([[105, 115, 115, 117, 101], [114, 101, 116, 105, 114, 101], numT o.vip, numT o.version]).map fun l => ⟨l.toArray⟩, by simp, Row.of_blk (Blk.new _ _ _) (by omega) (by unfold maxLen; simp; try omega) (by simp)⟩
      · exact ⟨_, _, Kept.refl _ _, ⟨(joinC 32 [[105, 115, 115, 117, 101], [114, 101, 116, 105, 114, 101], numT o.vip, numT o.version]).toArray⟩, rfl, rfl⟩
    simp only [List.take_succ_cons, List.take_zero, List.drop_succ_cons, List.drop_zero]
    intro G pick hR hp1 hp2
    have sF : ∀ u i, (pick u).cell? ⟨w.heap.size, i, none⟩ = (#[.int .i64 o.kind, .int .i64 o.vip, .int .i64 o.backend, .int .i64 o.version, .bool o.a.six, .int .u64 (o.a.hi : Int), .int .u64 (o.a.lo : Int), .int .u16 (o.port : Int), .int .u8 (o.proto : Int), .int .i64 o.way, .slice MA o.ms.length mc] : Array Value)[i]? := fun u i => ((hp1 u).cell HN1.out.lt (fun h => h) _).trans (HN1.out.cell i)
    repeat (first | (refine wpR_det hp2 rfl ((hR.rel _).trans rfl) rfl ?_; intro K hK; go_big_quiet_op; go_big_quiet_on) | (refine wpR_ptr hp2 rfl ((hR.rel _).trans rfl) rfl rfl ?_; intro K hK; go_big_quiet_op; go_big_quiet_on) | (refine wpR_skip pick rfl ?_; intro K hK; go_big_quiet_op; go_big_quiet_on))
    refine wpR_rel pick rfl ((hR.rel _).trans rfl) ((hR.turns _).trans rfl) ?_ ?_
    · intro u hu
      have hk := hR.since hu.1
      have hks := hk.size
      unfold relAt
      go_simp
      refine (num_any o.vip HI.out.vip.1 HI.out.vip.2 u (HT.out.on (HK1.out.trans hk))).mono ?_
      rintro e w' ⟨y, rfl, hy, hk'⟩
      exact ⟨_, rfl, hR.into0 hk', hR.put 0 rfl rfl ⟨y, rfl, hy⟩⟩
    intro v hv
    obtain ⟨u, _, hu⟩ := hv
    obtain ⟨y1, rfl, hy1⟩ := hR.get 0 rfl hu
    clear hu
    have HY1 := Lib.hid hy1
    clear hy1
    intro K hK
    go_big_quiet_op
    go_big_quiet_on
    repeat (first | (refine wpR_det hp2 rfl ((hR.rel _).trans rfl) rfl ?_; intro K hK; go_big_quiet_op; go_big_quiet_on) | (refine wpR_ptr hp2 rfl ((hR.rel _).trans rfl) rfl rfl ?_; intro K hK; go_big_quiet_op; go_big_quiet_on) | (refine wpR_skip pick rfl ?_; intro K hK; go_big_quiet_op; go_big_quiet_on))
    refine wpR_rel pick rfl ((hR.rel _).trans rfl) ((hR.turns _).trans rfl) ?_ ?_
    · intro u hu
      have hk := hR.since hu.1
      have hks := hk.size
      unfold relAt
      go_simp
      refine (num_any o.version HI.out.version.1 HI.out.version.2 u (HT.out.on (HK1.out.trans hk))).mono ?_
      rintro e w' ⟨y, rfl, hy, hk'⟩
      exact ⟨_, rfl, hR.into0 hk', hR.put 1 rfl rfl ⟨y, rfl, hy⟩⟩
    intro v hv
    obtain ⟨u, _, hu⟩ := hv
    obtain ⟨y2, rfl, hy2⟩ := hR.get 1 rfl hu
    clear hu
    have HY2 := Lib.hid hy2
    clear hy2
    intro K hK
    go_big_quiet_op
    go_big_quiet_on
    repeat (first | (refine wpR_det hp2 rfl ((hR.rel _).trans rfl) rfl ?_; intro K hK; go_big_quiet_op; go_big_quiet_on) | (refine wpR_ptr hp2 rfl ((hR.rel _).trans rfl) rfl rfl ?_; intro K hK; go_big_quiet_op; go_big_quiet_on) | (refine wpR_skip pick rfl ?_; intro K hK; go_big_quiet_op; go_big_quiet_on))
    refine wpR_rel pick rfl ((hR.rel _).trans rfl) ((hR.turns _).trans rfl) ?_ ?_
    · intro u hu
      have hk := hR.since hu.1
      have hks := hk.size
      unfold relAt
      go_simp
      exact ⟨hR.into0 ((Kept.refl _ _).alloc _), hR.put 2 rfl rfl ⟨[(⟨#[105, 115, 115, 117, 101]⟩ : ByteArray), (⟨#[114, 101, 116, 105, 114, 101]⟩ : ByteArray), y1, y2], by simp only [List.map_cons, List.map_nil]; rw [HY1.out, HY2.out]; try rfl, Row.of_blk (Blk.new u 9 #[.string (⟨#[105, 115, 115, 117, 101]⟩ : ByteArray), .string (⟨#[114, 101, 116, 105, 114, 101]⟩ : ByteArray), .string y1, .string y2]) (by omega) (show 4 ≤ maxLen by decide) rfl⟩⟩
    intro v hv
    obtain ⟨u, _, hu⟩ := hv
    obtain ⟨xs, hxs, hrxs⟩ := hR.get 2 rfl hu
    clear hu
    have HXS := Lib.hid hxs
    intro K hK
    go_big_quiet_op
    go_big_quiet_on
    repeat (first | (refine wpR_det hp2 rfl ((hR.rel _).trans rfl) rfl ?_; intro K hK; go_big_quiet_op; go_big_quiet_on) | (refine wpR_ptr hp2 rfl ((hR.rel _).trans rfl) rfl rfl ?_; intro K hK; go_big_quiet_op; go_big_quiet_on) | (refine wpR_skip pick rfl ?_; intro K hK; go_big_quiet_op; go_big_quiet_on))
    refine wpR_rel pick rfl ((hR.rel _).trans rfl) ((hR.turns _).trans rfl) ?_ ?_
    · intro u hu
      have hk := hR.since hu.1
      have hks := hk.size
      obtain ⟨xs', hx', hr'⟩ := (hR.get 2 rfl (hu.2 _ _ (Got.upd_self _ _ _) (by kernel_rfl)))
      have hne' : xs' ≠ [] := fun e => by rw [e] at hx'; cases hx'
      have hln' : xs'.length ≤ 1000 := by have := congrArg List.length hx'; simp at this; omega
      unfold relAt
      go_simp
      refine (line_any xs' hr' hne' hln' (by rw [hx']; exact HLEN.out)).mono ?_
      rintro e w' ⟨y, rfl, hy, hk'⟩
      exact ⟨_, rfl, hR.into0 hk', hR.put 3 rfl rfl ⟨y, rfl, by rw [hy, hx']⟩⟩
    intro v hv
    obtain ⟨u, _, hu⟩ := hv
    obtain ⟨yL, rfl, hyL⟩ := hR.get 3 rfl hu
    clear hu
    have HYL := Lib.hid hyL
    clear hyL
    intro K hK
    go_big_quiet_op
    go_big_quiet_on
    repeat (first | (refine wpR_det hp2 rfl ((hR.rel _).trans rfl) rfl ?_; intro K hK; go_big_quiet_op; go_big_quiet_on) | (refine wpR_ptr hp2 rfl ((hR.rel _).trans rfl) rfl rfl ?_; intro K hK; go_big_quiet_op; go_big_quiet_on) | (refine wpR_skip pick rfl ?_; intro K hK; go_big_quiet_op; go_big_quiet_on))
    refine wpR_nil ?_
    intro wE hk2 hF hM
    have HKE := Lib.hid (HK1.out.trans hk2)
    clear hF hM hk2 hp1 hp2 hR sF
    go_wp2_with fail
    go_ret
    exact ⟨yL, rfl, by rw [HYL.out, HWR.out]; try rfl, HKE.out⟩
  by_cases hk5 : o.kind = 5
  · skip
    have HKE0 := Lib.hid hk5
    have q1 : (o.kind == 1) = false := by rw [hk5]; rfl
    have q2 : (o.kind == 2) = false := by rw [hk5]; rfl
    have q3 : (o.kind == 3) = false := by rw [hk5]; rfl
    have q4 : (o.kind == 4) = false := by rw [hk5]; rfl
    have q5 : (o.kind == 5) = true := by rw [hk5]; rfl
    have HWR := Lib.hid (show writeO o = joinC 32 (issueT :: [releaseT, numT o.vip, numT o.version]) by unfold writeO opG; rw [if_pos (by omega), if_neg (by omega), if_neg (by omega), if_neg (by omega), if_neg (by omega), if_pos hk5])
    clear hk5
    go_upto_region 11 with fail
    have HLEN := Lib.hid (show (joinC 32 [[105, 115, 115, 117, 101], [114, 101, 108, 101, 97, 115, 101], numT o.vip, numT o.version]).length ≤ 140737488355328 from Nat.le_trans (joinC_len_le 32 4000 _ (by
          intro p hp
          simp only [List.mem_cons, List.not_mem_nil, or_false] at hp
          rcases hp with rfl | rfl | rfl | rfl
          all_goals first | decide | (show List.length _ ≤ 4000; simp; done) | omega)) (by simp))
    refine wp_region_kept 8 [(2, fun v u => ∃ y : ByteArray, v = .string y ∧ y.data.toList = numT o.vip), (5, fun v u => ∃ y : ByteArray, v = .string y ∧ y.data.toList = numT o.version), (6, fun v u => ∃ xs : List ByteArray, xs.map (·.data.toList) = [[105, 115, 115, 117, 101], [114, 101, 108, 101, 97, 115, 101], numT o.vip, numT o.version] ∧ Row u w.heap.size 9 v (xs.map Value.string)), (7, fun v u => ∃ y : ByteArray, v = .string y ∧ y.data.toList = joinC 32 [[105, 115, 115, 117, 101], [114, 101, 108, 101, 97, 115, 101], numT o.vip, numT o.version])] ?st ?ne rfl (by kernel_rfl) (by kernel_rfl) ?_
    case st =>
      intro p hp
      simp only [List.mem_cons, List.not_mem_nil, or_false] at hp
      rcases hp with rfl | rfl | rfl | rfl
      · intro v u u' h hk; exact h
      · intro v u u' h hk; exact h
      · intro v u u' h hk; obtain ⟨xs, h1, h2⟩ := h; exact ⟨xs, h1, Row.kept h2 hk (fun _ _ h => h)⟩
      · intro v u u' h hk; exact h
    case ne =>
      intro p hp
      simp only [List.mem_cons, List.not_mem_nil, or_false] at hp
      rcases hp with rfl | rfl | rfl | rfl
      · exact ⟨_, _, Kept.refl _ _, ⟨(numT o.vip).toArray⟩, rfl, rfl⟩
      · exact ⟨_, _, Kept.refl _ _, ⟨(numT o.version).toArray⟩, rfl, rfl⟩
      · exact ⟨_, _, (Kept.refl _ _).alloc (.cells (([[105, 115, 115, 117, 101], [114, 101, 108, 101, 97, 115, 101], numT o.vip, numT o.version]).map fun l => Value.string ⟨l.toArray⟩).toArray 9), ([[105, 115, 115, 117, 101], [114, 101, 108, 101, 97, 115, 101], numT o.vip, numT o.version]).map fun l => ⟨l.toArray⟩, by simp, Row.of_blk (Blk.new _ _ _) (by omega) (by unfold maxLen; simp; try omega) (by simp)⟩
      · exact ⟨_, _, Kept.refl _ _, ⟨(joinC 32 [[105, 115, 115, 117, 101], [114, 101, 108, 101, 97, 115, 101], numT o.vip, numT o.version]).toArray⟩, rfl, rfl⟩
    simp only [List.take_succ_cons, List.take_zero, List.drop_succ_cons, List.drop_zero]
    intro G pick hR hp1 hp2
    have sF : ∀ u i, (pick u).cell? ⟨w.heap.size, i, none⟩ = (#[.int .i64 o.kind, .int .i64 o.vip, .int .i64 o.backend, .int .i64 o.version, .bool o.a.six, .int .u64 (o.a.hi : Int), .int .u64 (o.a.lo : Int), .int .u16 (o.port : Int), .int .u8 (o.proto : Int), .int .i64 o.way, .slice MA o.ms.length mc] : Array Value)[i]? := fun u i => ((hp1 u).cell HN1.out.lt (fun h => h) _).trans (HN1.out.cell i)
    repeat (first | (refine wpR_det hp2 rfl ((hR.rel _).trans rfl) rfl ?_; intro K hK; go_big_quiet_op; go_big_quiet_on) | (refine wpR_ptr hp2 rfl ((hR.rel _).trans rfl) rfl rfl ?_; intro K hK; go_big_quiet_op; go_big_quiet_on) | (refine wpR_skip pick rfl ?_; intro K hK; go_big_quiet_op; go_big_quiet_on))
    refine wpR_rel pick rfl ((hR.rel _).trans rfl) ((hR.turns _).trans rfl) ?_ ?_
    · intro u hu
      have hk := hR.since hu.1
      have hks := hk.size
      unfold relAt
      go_simp
      refine (num_any o.vip HI.out.vip.1 HI.out.vip.2 u (HT.out.on (HK1.out.trans hk))).mono ?_
      rintro e w' ⟨y, rfl, hy, hk'⟩
      exact ⟨_, rfl, hR.into0 hk', hR.put 0 rfl rfl ⟨y, rfl, hy⟩⟩
    intro v hv
    obtain ⟨u, _, hu⟩ := hv
    obtain ⟨y1, rfl, hy1⟩ := hR.get 0 rfl hu
    clear hu
    have HY1 := Lib.hid hy1
    clear hy1
    intro K hK
    go_big_quiet_op
    go_big_quiet_on
    repeat (first | (refine wpR_det hp2 rfl ((hR.rel _).trans rfl) rfl ?_; intro K hK; go_big_quiet_op; go_big_quiet_on) | (refine wpR_ptr hp2 rfl ((hR.rel _).trans rfl) rfl rfl ?_; intro K hK; go_big_quiet_op; go_big_quiet_on) | (refine wpR_skip pick rfl ?_; intro K hK; go_big_quiet_op; go_big_quiet_on))
    refine wpR_rel pick rfl ((hR.rel _).trans rfl) ((hR.turns _).trans rfl) ?_ ?_
    · intro u hu
      have hk := hR.since hu.1
      have hks := hk.size
      unfold relAt
      go_simp
      refine (num_any o.version HI.out.version.1 HI.out.version.2 u (HT.out.on (HK1.out.trans hk))).mono ?_
      rintro e w' ⟨y, rfl, hy, hk'⟩
      exact ⟨_, rfl, hR.into0 hk', hR.put 1 rfl rfl ⟨y, rfl, hy⟩⟩
    intro v hv
    obtain ⟨u, _, hu⟩ := hv
    obtain ⟨y2, rfl, hy2⟩ := hR.get 1 rfl hu
    clear hu
    have HY2 := Lib.hid hy2
    clear hy2
    intro K hK
    go_big_quiet_op
    go_big_quiet_on
    repeat (first | (refine wpR_det hp2 rfl ((hR.rel _).trans rfl) rfl ?_; intro K hK; go_big_quiet_op; go_big_quiet_on) | (refine wpR_ptr hp2 rfl ((hR.rel _).trans rfl) rfl rfl ?_; intro K hK; go_big_quiet_op; go_big_quiet_on) | (refine wpR_skip pick rfl ?_; intro K hK; go_big_quiet_op; go_big_quiet_on))
    refine wpR_rel pick rfl ((hR.rel _).trans rfl) ((hR.turns _).trans rfl) ?_ ?_
    · intro u hu
      have hk := hR.since hu.1
      have hks := hk.size
      unfold relAt
      go_simp
      exact ⟨hR.into0 ((Kept.refl _ _).alloc _), hR.put 2 rfl rfl ⟨[(⟨#[105, 115, 115, 117, 101]⟩ : ByteArray), (⟨#[114, 101, 108, 101, 97, 115, 101]⟩ : ByteArray), y1, y2], by simp only [List.map_cons, List.map_nil]; rw [HY1.out, HY2.out]; try rfl, Row.of_blk (Blk.new u 9 #[.string (⟨#[105, 115, 115, 117, 101]⟩ : ByteArray), .string (⟨#[114, 101, 108, 101, 97, 115, 101]⟩ : ByteArray), .string y1, .string y2]) (by omega) (show 4 ≤ maxLen by decide) rfl⟩⟩
    intro v hv
    obtain ⟨u, _, hu⟩ := hv
    obtain ⟨xs, hxs, hrxs⟩ := hR.get 2 rfl hu
    clear hu
    have HXS := Lib.hid hxs
    intro K hK
    go_big_quiet_op
    go_big_quiet_on
    repeat (first | (refine wpR_det hp2 rfl ((hR.rel _).trans rfl) rfl ?_; intro K hK; go_big_quiet_op; go_big_quiet_on) | (refine wpR_ptr hp2 rfl ((hR.rel _).trans rfl) rfl rfl ?_; intro K hK; go_big_quiet_op; go_big_quiet_on) | (refine wpR_skip pick rfl ?_; intro K hK; go_big_quiet_op; go_big_quiet_on))
    refine wpR_rel pick rfl ((hR.rel _).trans rfl) ((hR.turns _).trans rfl) ?_ ?_
    · intro u hu
      have hk := hR.since hu.1
      have hks := hk.size
      obtain ⟨xs', hx', hr'⟩ := (hR.get 2 rfl (hu.2 _ _ (Got.upd_self _ _ _) (by kernel_rfl)))
      have hne' : xs' ≠ [] := fun e => by rw [e] at hx'; cases hx'
      have hln' : xs'.length ≤ 1000 := by have := congrArg List.length hx'; simp at this; omega
      unfold relAt
      go_simp
      refine (line_any xs' hr' hne' hln' (by rw [hx']; exact HLEN.out)).mono ?_
      rintro e w' ⟨y, rfl, hy, hk'⟩
      exact ⟨_, rfl, hR.into0 hk', hR.put 3 rfl rfl ⟨y, rfl, by rw [hy, hx']⟩⟩
    intro v hv
    obtain ⟨u, _, hu⟩ := hv
    obtain ⟨yL, rfl, hyL⟩ := hR.get 3 rfl hu
    clear hu
    have HYL := Lib.hid hyL
    clear hyL
    intro K hK
    go_big_quiet_op
    go_big_quiet_on
    repeat (first | (refine wpR_det hp2 rfl ((hR.rel _).trans rfl) rfl ?_; intro K hK; go_big_quiet_op; go_big_quiet_on) | (refine wpR_ptr hp2 rfl ((hR.rel _).trans rfl) rfl rfl ?_; intro K hK; go_big_quiet_op; go_big_quiet_on) | (refine wpR_skip pick rfl ?_; intro K hK; go_big_quiet_op; go_big_quiet_on))
    refine wpR_nil ?_
    intro wE hk2 hF hM
    have HKE := Lib.hid (HK1.out.trans hk2)
    clear hF hM hk2 hp1 hp2 hR sF
    go_wp2_with fail
    go_ret
    exact ⟨yL, rfl, by rw [HYL.out, HWR.out]; try rfl, HKE.out⟩
  by_cases hk6 : o.kind = 6
  · skip
    have HKE0 := Lib.hid hk6
    have q1 : (o.kind == 1) = false := by rw [hk6]; rfl
    have q2 : (o.kind == 2) = false := by rw [hk6]; rfl
    have q3 : (o.kind == 3) = false := by rw [hk6]; rfl
    have q4 : (o.kind == 4) = false := by rw [hk6]; rfl
    have q5 : (o.kind == 5) = false := by rw [hk6]; rfl
    have q6 : (o.kind == 6) = true := by rw [hk6]; rfl
    have HWR := Lib.hid (show writeO o = joinC 32 (issueT :: [evictT, numT o.backend]) by unfold writeO opG; rw [if_pos (by omega), if_neg (by omega), if_neg (by omega), if_neg (by omega), if_neg (by omega), if_neg (by omega), if_pos hk6])
    clear hk6
    have HLEN := Lib.hid (show (joinC 32 [[105, 115, 115, 117, 101], [101, 118, 105, 99, 116], numT o.backend]).length ≤ 140737488355328 from Nat.le_trans (joinC_len_le 32 4000 _ (by
          intro p hp
          simp only [List.mem_cons, List.not_mem_nil, or_false] at hp
          rcases hp with rfl | rfl | rfl
          all_goals first | decide | (show List.length _ ≤ 4000; simp; done) | omega)) (by simp))
    go_wp2_with fail
    refine (num_any o.backend HI.out.backend.1 HI.out.backend.2 w1 (HT.out.on (HK1.out))).mono ?_
    rintro e w2 ⟨y1, rfl, hy1, hk⟩
    have HY1 := Lib.hid hy1
    have HK2 := Lib.hid (HK1.out.trans hk)
    have HN2 := Lib.hid (HN1.out.kept hk (fun h => h))
    clear hy1 hk cB HN1
    have cB := HN2.out.cell
    have HXS := Lib.hid (show ([(⟨#[105, 115, 115, 117, 101]⟩ : ByteArray), (⟨#[101, 118, 105, 99, 116]⟩ : ByteArray), y1] : List ByteArray).map (·.data.toList) = [[105, 115, 115, 117, 101], [101, 118, 105, 99, 116], numT o.backend] by simp only [List.map_cons, List.map_nil]; rw [HY1.out]; try rfl)
    have HRW := Lib.hid (show Row (w2.alloc (.cells #[.string (⟨#[105, 115, 115, 117, 101]⟩ : ByteArray), .string (⟨#[101, 118, 105, 99, 116]⟩ : ByteArray), .string y1] 9)) w2.heap.size 9 (.slice (some ⟨w2.heap.size, 0, none⟩) 3 3) (([(⟨#[105, 115, 115, 117, 101]⟩ : ByteArray), (⟨#[101, 118, 105, 99, 116]⟩ : ByteArray), y1] : List ByteArray).map Value.string) from Row.of_blk (Blk.new _ _ _) (Nat.le_refl _) (show 3 ≤ maxLen by decide) rfl)
    have HLN := Lib.hid (line_any [(⟨#[105, 115, 115, 117, 101]⟩ : ByteArray), (⟨#[101, 118, 105, 99, 116]⟩ : ByteArray), y1] HRW.out (by simp) (by simp) (by rw [HXS.out]; exact HLEN.out))
    rw [HXS.out] at HLN
    clear HXS HRW HLEN
    go_wp2_with fail
    refine HLN.out.mono ?_
    rintro e wE ⟨yL, rfl, hyL, hk⟩
    have HYL := Lib.hid hyL
    have HKE := Lib.hid ((HK2.out.alloc _).trans hk)
    clear hyL hk
    go_wp2_with fail
    go_ret
    exact ⟨yL, rfl, by rw [HYL.out, HWR.out]; try rfl, HKE.out⟩
  by_cases hk7 : o.kind = 7
  · skip
    have HKE0 := Lib.hid hk7
    have q1 : (o.kind == 1) = false := by rw [hk7]; rfl
    have q2 : (o.kind == 2) = false := by rw [hk7]; rfl
    have q3 : (o.kind == 3) = false := by rw [hk7]; rfl
    have q4 : (o.kind == 4) = false := by rw [hk7]; rfl
    have q5 : (o.kind == 5) = false := by rw [hk7]; rfl
    have q6 : (o.kind == 6) = false := by rw [hk7]; rfl
    have q7 : (o.kind == 7) = true := by rw [hk7]; rfl
    have HWR := Lib.hid (show writeO o = joinC 32 (issueT :: [admitT, numT o.backend]) by unfold writeO opG; rw [if_pos (by omega), if_neg (by omega), if_neg (by omega), if_neg (by omega), if_neg (by omega), if_neg (by omega), if_neg (by omega), if_pos hk7])
    clear hk7
    have HLEN := Lib.hid (show (joinC 32 [[105, 115, 115, 117, 101], [97, 100, 109, 105, 116], numT o.backend]).length ≤ 140737488355328 from Nat.le_trans (joinC_len_le 32 4000 _ (by
          intro p hp
          simp only [List.mem_cons, List.not_mem_nil, or_false] at hp
          rcases hp with rfl | rfl | rfl
          all_goals first | decide | (show List.length _ ≤ 4000; simp; done) | omega)) (by simp))
    go_wp2_with fail
    refine (num_any o.backend HI.out.backend.1 HI.out.backend.2 w1 (HT.out.on (HK1.out))).mono ?_
    rintro e w2 ⟨y1, rfl, hy1, hk⟩
    have HY1 := Lib.hid hy1
    have HK2 := Lib.hid (HK1.out.trans hk)
    have HN2 := Lib.hid (HN1.out.kept hk (fun h => h))
    clear hy1 hk cB HN1
    have cB := HN2.out.cell
    have HXS := Lib.hid (show ([(⟨#[105, 115, 115, 117, 101]⟩ : ByteArray), (⟨#[97, 100, 109, 105, 116]⟩ : ByteArray), y1] : List ByteArray).map (·.data.toList) = [[105, 115, 115, 117, 101], [97, 100, 109, 105, 116], numT o.backend] by simp only [List.map_cons, List.map_nil]; rw [HY1.out]; try rfl)
    have HRW := Lib.hid (show Row (w2.alloc (.cells #[.string (⟨#[105, 115, 115, 117, 101]⟩ : ByteArray), .string (⟨#[97, 100, 109, 105, 116]⟩ : ByteArray), .string y1] 9)) w2.heap.size 9 (.slice (some ⟨w2.heap.size, 0, none⟩) 3 3) (([(⟨#[105, 115, 115, 117, 101]⟩ : ByteArray), (⟨#[97, 100, 109, 105, 116]⟩ : ByteArray), y1] : List ByteArray).map Value.string) from Row.of_blk (Blk.new _ _ _) (Nat.le_refl _) (show 3 ≤ maxLen by decide) rfl)
    have HLN := Lib.hid (line_any [(⟨#[105, 115, 115, 117, 101]⟩ : ByteArray), (⟨#[97, 100, 109, 105, 116]⟩ : ByteArray), y1] HRW.out (by simp) (by simp) (by rw [HXS.out]; exact HLEN.out))
    rw [HXS.out] at HLN
    clear HXS HRW HLEN
    go_wp2_with fail
    refine HLN.out.mono ?_
    rintro e wE ⟨yL, rfl, hyL, hk⟩
    have HYL := Lib.hid hyL
    have HKE := Lib.hid ((HK2.out.alloc _).trans hk)
    clear hyL hk
    go_wp2_with fail
    go_ret
    exact ⟨yL, rfl, by rw [HYL.out, HWR.out]; try rfl, HKE.out⟩
  by_cases hk8 : o.kind = 8
  · skip
    have HKE0 := Lib.hid hk8
    have q1 : (o.kind == 1) = false := by rw [hk8]; rfl
    have q2 : (o.kind == 2) = false := by rw [hk8]; rfl
    have q3 : (o.kind == 3) = false := by rw [hk8]; rfl
    have q4 : (o.kind == 4) = false := by rw [hk8]; rfl
    have q5 : (o.kind == 5) = false := by rw [hk8]; rfl
    have q6 : (o.kind == 6) = false := by rw [hk8]; rfl
    have q7 : (o.kind == 7) = false := by rw [hk8]; rfl
    have q8 : (o.kind == 8) = true := by rw [hk8]; rfl
    have HWR := Lib.hid (show writeO o = joinC 32 (issueT :: [rotateT]) by unfold writeO opG; rw [if_pos (by omega), if_neg (by omega), if_neg (by omega), if_neg (by omega), if_neg (by omega), if_neg (by omega), if_neg (by omega), if_neg (by omega)])
    clear hk8
    have HLEN := Lib.hid (show (joinC 32 [[105, 115, 115, 117, 101], [114, 111, 116, 97, 116, 101]]).length ≤ 140737488355328 from Nat.le_trans (joinC_len_le 32 4000 _ (by
          intro p hp
          simp only [List.mem_cons, List.not_mem_nil, or_false] at hp
          rcases hp with rfl | rfl
          all_goals first | decide | (show List.length _ ≤ 4000; simp; done) | omega)) (by simp))
    have HXS := Lib.hid (show ([(⟨#[105, 115, 115, 117, 101]⟩ : ByteArray), (⟨#[114, 111, 116, 97, 116, 101]⟩ : ByteArray)] : List ByteArray).map (·.data.toList) = [[105, 115, 115, 117, 101], [114, 111, 116, 97, 116, 101]] by simp only [List.map_cons, List.map_nil]; skip; try rfl)
    have HRW := Lib.hid (show Row (w1.alloc (.cells #[.string (⟨#[105, 115, 115, 117, 101]⟩ : ByteArray), .string (⟨#[114, 111, 116, 97, 116, 101]⟩ : ByteArray)] 9)) w1.heap.size 9 (.slice (some ⟨w1.heap.size, 0, none⟩) 2 2) (([(⟨#[105, 115, 115, 117, 101]⟩ : ByteArray), (⟨#[114, 111, 116, 97, 116, 101]⟩ : ByteArray)] : List ByteArray).map Value.string) from Row.of_blk (Blk.new _ _ _) (Nat.le_refl _) (show 2 ≤ maxLen by decide) rfl)
    have HLN := Lib.hid (line_any [(⟨#[105, 115, 115, 117, 101]⟩ : ByteArray), (⟨#[114, 111, 116, 97, 116, 101]⟩ : ByteArray)] HRW.out (by simp) (by simp) (by rw [HXS.out]; exact HLEN.out))
    rw [HXS.out] at HLN
    clear HXS HRW HLEN
    go_wp2_with fail
    refine HLN.out.mono ?_
    rintro e wE ⟨yL, rfl, hyL, hk⟩
    have HYL := Lib.hid hyL
    have HKE := Lib.hid ((HK1.out.alloc _).trans hk)
    clear hyL hk
    go_wp2_with fail
    go_ret
    exact ⟨yL, rfl, by rw [HYL.out, HWR.out]; try rfl, HKE.out⟩
  have HWR := Lib.hid (show writeO o = [] by unfold writeO; rw [if_neg (by omega)])
  have q1 : (o.kind == 1) = false := beq_eq_false_iff_ne.2 hk1
  have q2 : (o.kind == 2) = false := beq_eq_false_iff_ne.2 hk2
  have q3 : (o.kind == 3) = false := beq_eq_false_iff_ne.2 hk3
  have q4 : (o.kind == 4) = false := beq_eq_false_iff_ne.2 hk4
  have q5 : (o.kind == 5) = false := beq_eq_false_iff_ne.2 hk5
  have q6 : (o.kind == 6) = false := beq_eq_false_iff_ne.2 hk6
  have q7 : (o.kind == 7) = false := beq_eq_false_iff_ne.2 hk7
  have q8 : (o.kind == 8) = false := beq_eq_false_iff_ne.2 hk8
  clear hk1 hk2 hk3 hk4 hk5 hk6 hk7 hk8
  go_wp2_with fail
  go_ret
  exact ⟨_, rfl, by rw [HWR.out], HK1.out⟩
end Go.Proofs.YthfdhggcnkgjfaaGreatDoor
