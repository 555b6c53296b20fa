/- The document's operation, written. -/
import Derived.Test.YthfdhggcnkgjfaaGreatDoorTB
import Derived.Test.YthfdhggcnkgjfaaGreatDoorUE
import Derived.Test.YthfdhggcnkgjfaaGreatDoorXG
namespace Go.Proofs.YthfdhggcnkgjfaaGreatDoor
open Go.RowKit
set_option linter.unusedVariables false
set_option linter.unusedSimpArgs false
theorem nums_cells (ns : List Nat) (g : Nat) (w : World) (hl : ns.length ≤ 10) (hB : Blk w g 3 (ns.map fun (n : Nat) => Value.int .i64 (n : Int)).toArray) (hn : ∀ n ∈ ns, n < 9223372036854775808) : Calls Tryz.prog 25 #[.slice (some ⟨g, 0, none⟩) ns.length ns.length] w (WordR w (numsT ns)) :=
  nums_any ns g ns.length w hl (Nat.le_refl _) hn hB.lt (fun k hk => by
    rw [hB.cell]
    simp [hk])
theorem refNameW_any (k : Nat) (h4 : k ≤ 4) (w : World) : Calls Tryz.prog 37 #[.int .i64 (k : Int)] w (WordR w (wayN k)) := by
  by_cases h1 : 1 ≤ k
  · refine (refName_any k h1 h4 w).mono ?_
    rintro e w' ⟨rfl, hb⟩
    exact ⟨_, rfl, rfl, Kept.ofB hb⟩
  · obtain rfl : k = 0 := by omega
    go_enter Tryz.func37, Tryz.ntmps37
    go_wp2_with fail
    go_ret
    exact ⟨_, rfl, rfl, (Kept.refl _ _).alloc _⟩
theorem join_flat (c : UInt8) (p : List UInt8) (ps : List (List UInt8)) : joinC c (p :: ps) = p ++ (ps.map fun q => c :: q).flatten := by
  induction ps generalizing p with
  | nil => simp [joinC]
  | cons q ps ih => rw [joinC_cons2, ih]; simp
structure OspN (o : Osp) : Prop where
  vip : 0 ≤ o.vip
  backend : 0 ≤ o.backend
  version : 0 ≤ o.version
  way : 0 ≤ o.way ∧ o.way ≤ 4
  ms : ∀ m ∈ o.ms, 0 ≤ m.1 ∧ 0 ≤ m.2
set_option maxRecDepth 20000 in
set_option maxHeartbeats 16000000 in
theorem refWriteOp_any (o : Osp) (MA : Option Addr) (mc : Nat) (w : World) (hI : OspI o) (hN : OspN o) (hl : o.ms.length ≤ 70) (hM : ES w w.heap.size MA 2 (mcs o.ms)) :
    Calls Tryz.prog 24 #[.agg (OC (.slice MA o.ms.length mc) o)] w (WordR w (joinC 32 (opG adrT proR o))) := by
  have HM := Lib.hid hM
  have HI := Lib.hid hI
  have HL := Lib.hid hl
  have HMI := Lib.hid hI.ms
  have HMN := Lib.hid hN.ms
  have la := adrT_len o.a
  obtain ⟨ovip, hv⟩ : ∃ n : Nat, o.vip = (n : Int) := ⟨o.vip.toNat, by have := hN.vip; omega⟩
  obtain ⟨oback, hb⟩ : ∃ n : Nat, o.backend = (n : Int) := ⟨o.backend.toNat, by have := hN.backend; omega⟩
  obtain ⟨over, hve⟩ : ∃ n : Nat, o.version = (n : Int) := ⟨o.version.toNat, by have := hN.version; omega⟩
  obtain ⟨oway, hwy⟩ : ∃ n : Nat, o.way = (n : Int) := ⟨o.way.toNat, by have := hN.way; omega⟩
  have HV := Lib.hid hv
  have HB := Lib.hid hb
  have HVE := Lib.hid hve
  have HWY := Lib.hid (show oway ≤ 4 by have := hN.way; omega)
  have HWYE := Lib.hid hwy
  have iv : ovip < 9223372036854775808 := by have := hI.vip.2; omega
  have ib : oback < 9223372036854775808 := by have := hI.backend.2; omega
  have ie : over < 9223372036854775808 := by have := hI.version.2; omega
  have ip : o.port < 9223372036854775808 := by have := hI.port; omega
  have lw := wayN_len oway
  have lv : (numsT [ovip]).length ≤ 21 := numsT_len _ (by simp; omega)
  have lb : (numsT [oback]).length ≤ 21 := numsT_len _ (by simp; omega)
  have lp : (numsT [o.port]).length ≤ 21 := numsT_len _ (by simp; omega)
  have p0 : (0 : Int) ≤ (o.port : Int) := Int.natCast_nonneg _
  have p1 : (o.port : Int) ≤ 65535 := by have := hI.port; omega
  unfold OC
  rw [hv, hb, hve, hwy]
  clear hM hI hN hl hv hb hve hwy
  go_enter Tryz.func24, Tryz.ntmps24
  go_upto_region 1 with fail
  obtain ⟨w1, hw1⟩ : ∃ w1 : World, w1 = w.alloc (.cells #[.int .i64 o.kind, .int .i64 (ovip : Int), .int .i64 (oback : Int), .int .i64 (over : Int), .bool o.a.six, .int .u64 (o.a.hi : Int), .int .u64 (o.a.lo : Int), .int .u16 (o.port : Int), .int .u8 (o.proto : Int), .int .i64 (oway : Int), .slice MA o.ms.length mc] 39) := ⟨_, rfl⟩
  have HK1 := Lib.hid (show Kept (fun _ => False) w w1 by rw [hw1]; exact (Kept.refl _ _).alloc _)
  have HN1 := Lib.hid (show Blk w1 w.heap.size 39 #[.int .i64 o.kind, .int .i64 (ovip : Int), .int .i64 (oback : Int), .int .i64 (over : Int), .bool o.a.six, .int .u64 (o.a.hi : Int), .int .u64 (o.a.lo : Int), .int .u16 (o.port : Int), .int .u8 (o.proto : Int), .int .i64 (oway : Int), .slice MA o.ms.length mc] by rw [hw1]; exact Blk.new _ _ _)
  have wz := HK1.out.size
  rw [← hw1]
  clear hw1
  have cB := HN1.out.cell
  by_cases hk1 : o.kind = 1
  · skip
    have q1 : (o.kind == 1) = true := by rw [hk1]; rfl
    have HWR := Lib.hid (show joinC 32 (opG adrT proR o) = joinC 32 [backendT, numT (oback : Int), adrT o.a] by unfold opG; rw [if_pos hk1, HB.out])
    clear hk1
    go_upto_region 3 with fail
    refine wp_region_kept 10 [(2, fun v u => ∃ g : Nat, v = .slice (some ⟨g, 0, none⟩) 1 1 ∧ Blk u g 3 #[.int .i64 (oback : Int)]), (3, fun v u => ∃ y : ByteArray, v = .string y ∧ y.data.toList = numsT [oback]), (4, fun v u => ∃ y : ByteArray, v = .string y ∧ y.data.toList = [98, 97, 99, 107, 101, 110, 100] ++ numsT [oback]), (5, fun v u => ∃ y : ByteArray, v = .string y ∧ y.data.toList = ([98, 97, 99, 107, 101, 110, 100] ++ numsT [oback]) ++ [32]), (8, fun v u => ∃ y : ByteArray, v = .string y ∧ y.data.toList = adrT o.a), (9, fun v u => ∃ y : ByteArray, v = .string y ∧ y.data.toList = (([98, 97, 99, 107, 101, 110, 100] ++ numsT [oback]) ++ [32]) ++ adrT o.a)] ?st ?ne rfl (by kernel_rfl) (by kernel_rfl) ?_
    case st =>
      intro p hp
      simp only [List.mem_cons, List.not_mem_nil, or_false] at hp
      rcases hp with rfl | rfl | rfl | rfl | rfl | rfl
      · intro v u u' h hk; obtain ⟨g, h1, h2⟩ := h; exact ⟨g, h1, h2.kept hk (fun h => h)⟩
      · intro v u u' h hk; exact h
      · intro v u u' h hk; exact h
      · intro v u u' h hk; exact h
      · intro v u u' h hk; exact h
      · intro v u u' h hk; exact h
    case ne =>
      intro p hp
      simp only [List.mem_cons, List.not_mem_nil, or_false] at hp
      rcases hp with rfl | rfl | rfl | rfl | rfl | rfl
      · exact ⟨_, _, (Kept.refl _ _).alloc (.cells #[.int .i64 (oback : Int)] 3), _, rfl, Blk.new _ _ _⟩
      · exact ⟨_, _, Kept.refl _ _, ⟨(numsT [oback]).toArray⟩, rfl, rfl⟩
      · exact ⟨_, _, Kept.refl _ _, ⟨([98, 97, 99, 107, 101, 110, 100] ++ numsT [oback]).toArray⟩, rfl, rfl⟩
      · exact ⟨_, _, Kept.refl _ _, ⟨(([98, 97, 99, 107, 101, 110, 100] ++ numsT [oback]) ++ [32]).toArray⟩, rfl, rfl⟩
      · exact ⟨_, _, Kept.refl _ _, ⟨(adrT o.a).toArray⟩, rfl, rfl⟩
      · exact ⟨_, _, Kept.refl _ _, ⟨((([98, 97, 99, 107, 101, 110, 100] ++ numsT [oback]) ++ [32]) ++ adrT o.a).toArray⟩, rfl, rfl⟩
    simp only [List.take_succ_cons, List.take_zero, List.drop_succ_cons, List.drop_zero]
    intro G pick hR hp1 hp2
    have sF : ∀ u i, (pick u).cell? ⟨w.heap.size, i, none⟩ = (#[.int .i64 o.kind, .int .i64 (ovip : Int), .int .i64 (oback : Int), .int .i64 (over : Int), .bool o.a.six, .int .u64 (o.a.hi : Int), .int .u64 (o.a.lo : Int), .int .u16 (o.port : Int), .int .u8 (o.proto : Int), .int .i64 (oway : Int), .slice MA o.ms.length mc] : Array Value)[i]? := fun u i => ((hp1 u).cell HN1.out.lt (fun h => h) _).trans (HN1.out.cell i)
    repeat (first | (refine wpR_det hp2 rfl ((hR.rel _).trans rfl) rfl ?_; intro K hK; go_big_quiet_op; go_big_quiet_on) | (refine wpR_ptr hp2 rfl ((hR.rel _).trans rfl) rfl rfl ?_; intro K hK; go_big_quiet_op; go_big_quiet_on) | (refine wpR_skip pick rfl ?_; intro K hK; go_big_quiet_op; go_big_quiet_on))
    refine wpR_rel pick rfl ((hR.rel _).trans rfl) ((hR.turns _).trans rfl) ?_ ?_
    · intro u hu
      have hk := hR.since hu.1
      have hks := hk.size
      unfold relAt
      go_simp
      exact ⟨hR.into0 ((Kept.refl _ _).alloc _), hR.put 0 rfl rfl ⟨_, rfl, Blk.new _ _ _⟩⟩
    intro v hv
    obtain ⟨u, _, hu⟩ := hv
    obtain ⟨g2, rfl, hb2⟩ := hR.get 0 rfl hu
    clear hu
    clear hb2
    intro K hK
    go_big_quiet_op
    go_big_quiet_on
    repeat (first | (refine wpR_det hp2 rfl ((hR.rel _).trans rfl) rfl ?_; intro K hK; go_big_quiet_op; go_big_quiet_on) | (refine wpR_ptr hp2 rfl ((hR.rel _).trans rfl) rfl rfl ?_; intro K hK; go_big_quiet_op; go_big_quiet_on) | (refine wpR_skip pick rfl ?_; intro K hK; go_big_quiet_op; go_big_quiet_on))
    refine wpR_rel pick rfl ((hR.rel _).trans rfl) ((hR.turns _).trans rfl) ?_ ?_
    · intro u hu
      have hk := hR.since hu.1
      have hks := hk.size
      obtain ⟨g', hg', hB'⟩ := (hR.get 0 rfl (hu.2 _ _ (Got.upd_self _ _ _) (by kernel_rfl)))
      injection hg' with e1 _ _
      injection e1 with e1
      injection e1 with e1
      subst e1
      have hcall := nums_cells [oback] _ u (by simp) hB' (by simp; omega)
      unfold relAt
      go_simp
      refine (hcall).mono ?_
      rintro e w' ⟨y, rfl, hy, hk'⟩
      exact ⟨_, rfl, hR.into0 hk', hR.put 1 rfl rfl ⟨y, rfl, hy⟩⟩
    intro v hv
    obtain ⟨u, _, hu⟩ := hv
    obtain ⟨y1, rfl, hy1⟩ := hR.get 1 rfl hu
    clear hu
    have HY1 := Lib.hid hy1
    clear hy1
    intro K hK
    go_big_quiet_op
    go_big_quiet_on
    repeat (first | (refine wpR_det hp2 rfl ((hR.rel _).trans rfl) rfl ?_; intro K hK; go_big_quiet_op; go_big_quiet_on) | (refine wpR_ptr hp2 rfl ((hR.rel _).trans rfl) rfl rfl ?_; intro K hK; go_big_quiet_op; go_big_quiet_on) | (refine wpR_skip pick rfl ?_; intro K hK; go_big_quiet_op; go_big_quiet_on))
    refine wpR_rel pick rfl ((hR.rel _).trans rfl) ((hR.turns _).trans rfl) ?_ ?_
    · intro u hu
      have hk := hR.since hu.1
      have hks := hk.size
      have hz : ¬ (9223372036854775807 < 7 + y1.size) := by
        rw [Lib.size_eq y1, HY1.out]
        try simp only [List.length_append, List.length_cons, List.length_nil]
        omega
      unfold relAt
      go_simp
      exact ⟨hR.same, hR.put 2 rfl rfl ⟨_, rfl, by rw [cat_data, HY1.out]; try rfl⟩⟩
    intro v hv
    obtain ⟨u, _, hu⟩ := hv
    obtain ⟨y2, rfl, hy2⟩ := hR.get 2 rfl hu
    clear hu
    have HY2 := Lib.hid hy2
    clear hy2
    intro K hK
    go_big_quiet_op
    go_big_quiet_on
    repeat (first | (refine wpR_det hp2 rfl ((hR.rel _).trans rfl) rfl ?_; intro K hK; go_big_quiet_op; go_big_quiet_on) | (refine wpR_ptr hp2 rfl ((hR.rel _).trans rfl) rfl rfl ?_; intro K hK; go_big_quiet_op; go_big_quiet_on) | (refine wpR_skip pick rfl ?_; intro K hK; go_big_quiet_op; go_big_quiet_on))
    refine wpR_rel pick rfl ((hR.rel _).trans rfl) ((hR.turns _).trans rfl) ?_ ?_
    · intro u hu
      have hk := hR.since hu.1
      have hks := hk.size
      have hz : ¬ (9223372036854775807 < y2.size + 1) := by
        rw [Lib.size_eq y2, HY2.out]
        try simp only [List.length_append, List.length_cons, List.length_nil]
        omega
      unfold relAt
      go_simp
      exact ⟨hR.same, hR.put 3 rfl rfl ⟨_, rfl, by rw [cat_data, HY2.out]; try rfl⟩⟩
    intro v hv
    obtain ⟨u, _, hu⟩ := hv
    obtain ⟨y3, rfl, hy3⟩ := hR.get 3 rfl hu
    clear hu
    have HY3 := Lib.hid hy3
    clear hy3
    intro K hK
    go_big_quiet_op
    go_big_quiet_on
    repeat (first | (refine wpR_det hp2 rfl ((hR.rel _).trans rfl) rfl ?_; intro K hK; go_big_quiet_op; go_big_quiet_on) | (refine wpR_ptr hp2 rfl ((hR.rel _).trans rfl) rfl rfl ?_; intro K hK; go_big_quiet_op; go_big_quiet_on) | (refine wpR_skip pick rfl ?_; intro K hK; go_big_quiet_op; go_big_quiet_on))
    refine wpR_rel pick rfl ((hR.rel _).trans rfl) ((hR.turns _).trans rfl) ?_ ?_
    · intro u hu
      have hk := hR.since hu.1
      have hks := hk.size
      unfold relAt
      go_simp
      refine (refText_any o.a HI.out.hi HI.out.lo u).mono ?_
      rintro e w' ⟨y, rfl, hy, hk'⟩
      exact ⟨_, rfl, hR.into0 hk', hR.put 4 rfl rfl ⟨y, rfl, hy⟩⟩
    intro v hv
    obtain ⟨u, _, hu⟩ := hv
    obtain ⟨y4, rfl, hy4⟩ := hR.get 4 rfl hu
    clear hu
    have HY4 := Lib.hid hy4
    clear hy4
    intro K hK
    go_big_quiet_op
    go_big_quiet_on
    repeat (first | (refine wpR_det hp2 rfl ((hR.rel _).trans rfl) rfl ?_; intro K hK; go_big_quiet_op; go_big_quiet_on) | (refine wpR_ptr hp2 rfl ((hR.rel _).trans rfl) rfl rfl ?_; intro K hK; go_big_quiet_op; go_big_quiet_on) | (refine wpR_skip pick rfl ?_; intro K hK; go_big_quiet_op; go_big_quiet_on))
    refine wpR_rel pick rfl ((hR.rel _).trans rfl) ((hR.turns _).trans rfl) ?_ ?_
    · intro u hu
      have hk := hR.since hu.1
      have hks := hk.size
      have hz : ¬ (9223372036854775807 < y3.size + y4.size) := by
        rw [Lib.size_eq y3, HY3.out, Lib.size_eq y4, HY4.out]
        try simp only [List.length_append, List.length_cons, List.length_nil]
        omega
      unfold relAt
      go_simp
      exact ⟨hR.same, hR.put 5 rfl rfl ⟨_, rfl, by rw [cat_data, HY3.out, HY4.out]; try rfl⟩⟩
    intro v hv
    obtain ⟨u, _, hu⟩ := hv
    obtain ⟨y5, rfl, hy5⟩ := hR.get 5 rfl hu
    clear hu
    have HY5 := Lib.hid hy5
    clear hy5
    intro K hK
    go_big_quiet_op
    go_big_quiet_on
    repeat (first | (refine wpR_det hp2 rfl ((hR.rel _).trans rfl) rfl ?_; intro K hK; go_big_quiet_op; go_big_quiet_on) | (refine wpR_ptr hp2 rfl ((hR.rel _).trans rfl) rfl rfl ?_; intro K hK; go_big_quiet_op; go_big_quiet_on) | (refine wpR_skip pick rfl ?_; intro K hK; go_big_quiet_op; go_big_quiet_on))
    refine wpR_nil ?_
    intro wE hk2 hF hM
    have HKE := Lib.hid (HK1.out.trans hk2)
    clear hF hM hk2 hp1 hp2 hR sF
    go_wp2_with fail
    go_ret
    exact ⟨y5, rfl, by rw [HY5.out, HWR.out]; first | rfl | simp [numsT, joinC, backendT, vipT, retireT, releaseT, evictT, admitT, udpT, tcpT, membersT], HKE.out⟩
  by_cases hk2 : o.kind = 2
  · skip
    have q1 : (o.kind == 1) = false := by rw [hk2]; rfl
    have q2 : (o.kind == 2) = true := by rw [hk2]; rfl
    have HW0 := Lib.hid (show joinC 32 (opG adrT proR o) = joinC 32 [vipT, adrT o.a, numT (o.port : Int), proR o.proto, wayN oway] by unfold opG; rw [if_neg (by omega), if_pos hk2, HWYE.out]; rfl)
    clear hk1 hk2
    by_cases hpr : o.proto = 17
    · skip
      have q17 : ((o.proto : Int) == 17) = true := by rw [hpr]; rfl
      have HWR := Lib.hid (show joinC 32 (opG adrT proR o) = joinC 32 [vipT, adrT o.a, numT (o.port : Int), udpT, wayN oway] by rw [HW0.out, hpr]; rfl)
      clear hpr HW0
      go_upto_region 8 with fail
      refine wp_region_kept 16 [(2, fun v u => ∃ y : ByteArray, v = .string y ∧ y.data.toList = adrT o.a), (3, fun v u => ∃ y : ByteArray, v = .string y ∧ y.data.toList = [118, 105, 112, 32] ++ adrT o.a), (7, fun v u => ∃ g : Nat, v = .slice (some ⟨g, 0, none⟩) 1 1 ∧ Blk u g 3 #[.int .i64 (o.port : Int)]), (8, fun v u => ∃ y : ByteArray, v = .string y ∧ y.data.toList = numsT [o.port]), (9, fun v u => ∃ y : ByteArray, v = .string y ∧ y.data.toList = ([118, 105, 112, 32] ++ adrT o.a) ++ numsT [o.port]), (11, fun v u => ∃ y : ByteArray, v = .string y ∧ y.data.toList = (([118, 105, 112, 32] ++ adrT o.a) ++ numsT [o.port]) ++ [32, 117, 100, 112, 32]), (14, fun v u => ∃ y : ByteArray, v = .string y ∧ y.data.toList = wayN oway), (15, fun v u => ∃ y : ByteArray, v = .string y ∧ y.data.toList = ((([118, 105, 112, 32] ++ adrT o.a) ++ numsT [o.port]) ++ [32, 117, 100, 112, 32]) ++ wayN oway)] ?st ?ne rfl (by kernel_rfl) (by kernel_rfl) ?_
      case st =>
        intro p hp
        simp only [List.mem_cons, List.not_mem_nil, or_false] at hp
        rcases hp with rfl | rfl | rfl | rfl | rfl | rfl | rfl | rfl
        · intro v u u' h hk; exact h
        · intro v u u' h hk; exact h
        · intro v u u' h hk; obtain ⟨g, h1, h2⟩ := h; exact ⟨g, h1, h2.kept hk (fun h => h)⟩
        · intro v u u' h hk; exact h
        · intro v u u' h hk; exact h
        · intro v u u' h hk; exact h
        · intro v u u' h hk; exact h
        · intro v u u' h hk; exact h
      case ne =>
        intro p hp
        simp only [List.mem_cons, List.not_mem_nil, or_false] at hp
        rcases hp with rfl | rfl | rfl | rfl | rfl | rfl | rfl | rfl
        · exact ⟨_, _, Kept.refl _ _, ⟨(adrT o.a).toArray⟩, rfl, rfl⟩
        · exact ⟨_, _, Kept.refl _ _, ⟨([118, 105, 112, 32] ++ adrT o.a).toArray⟩, rfl, rfl⟩
        · exact ⟨_, _, (Kept.refl _ _).alloc (.cells #[.int .i64 (o.port : Int)] 3), _, rfl, Blk.new _ _ _⟩
        · exact ⟨_, _, Kept.refl _ _, ⟨(numsT [o.port]).toArray⟩, rfl, rfl⟩
        · exact ⟨_, _, Kept.refl _ _, ⟨(([118, 105, 112, 32] ++ adrT o.a) ++ numsT [o.port]).toArray⟩, rfl, rfl⟩
        · exact ⟨_, _, Kept.refl _ _, ⟨((([118, 105, 112, 32] ++ adrT o.a) ++ numsT [o.port]) ++ [32, 117, 100, 112, 32]).toArray⟩, rfl, rfl⟩
        · exact ⟨_, _, Kept.refl _ _, ⟨(wayN oway).toArray⟩, rfl, rfl⟩
        · exact ⟨_, _, Kept.refl _ _, ⟨(((([118, 105, 112, 32] ++ adrT o.a) ++ numsT [o.port]) ++ [32, 117, 100, 112, 32]) ++ wayN oway).toArray⟩, rfl, rfl⟩
      simp only [List.take_succ_cons, List.take_zero, List.drop_succ_cons, List.drop_zero]
      intro G pick hR hp1 hp2
      have sF : ∀ u i, (pick u).cell? ⟨w.heap.size, i, none⟩ = (#[.int .i64 o.kind, .int .i64 (ovip : Int), .int .i64 (oback : Int), .int .i64 (over : Int), .bool o.a.six, .int .u64 (o.a.hi : Int), .int .u64 (o.a.lo : Int), .int .u16 (o.port : Int), .int .u8 (o.proto : Int), .int .i64 (oway : Int), .slice MA o.ms.length mc] : Array Value)[i]? := fun u i => ((hp1 u).cell HN1.out.lt (fun h => h) _).trans (HN1.out.cell i)
      repeat (first | (refine wpR_det hp2 rfl ((hR.rel _).trans rfl) rfl ?_; intro K hK; go_big_quiet_op; go_big_quiet_on) | (refine wpR_ptr hp2 rfl ((hR.rel _).trans rfl) rfl rfl ?_; intro K hK; go_big_quiet_op; go_big_quiet_on) | (refine wpR_skip pick rfl ?_; intro K hK; go_big_quiet_op; go_big_quiet_on))
      refine wpR_rel pick rfl ((hR.rel _).trans rfl) ((hR.turns _).trans rfl) ?_ ?_
      · intro u hu
        have hk := hR.since hu.1
        have hks := hk.size
        unfold relAt
        go_simp
        refine (refText_any o.a HI.out.hi HI.out.lo u).mono ?_
        rintro e w' ⟨y, rfl, hy, hk'⟩
        exact ⟨_, rfl, hR.into0 hk', hR.put 0 rfl rfl ⟨y, rfl, hy⟩⟩
      intro v hv
      obtain ⟨u, _, hu⟩ := hv
      obtain ⟨y1, rfl, hy1⟩ := hR.get 0 rfl hu
      clear hu
      have HY1 := Lib.hid hy1
      clear hy1
      intro K hK
      go_big_quiet_op
      go_big_quiet_on
      repeat (first | (refine wpR_det hp2 rfl ((hR.rel _).trans rfl) rfl ?_; intro K hK; go_big_quiet_op; go_big_quiet_on) | (refine wpR_ptr hp2 rfl ((hR.rel _).trans rfl) rfl rfl ?_; intro K hK; go_big_quiet_op; go_big_quiet_on) | (refine wpR_skip pick rfl ?_; intro K hK; go_big_quiet_op; go_big_quiet_on))
      refine wpR_rel pick rfl ((hR.rel _).trans rfl) ((hR.turns _).trans rfl) ?_ ?_
      · intro u hu
        have hk := hR.since hu.1
        have hks := hk.size
        have hz : ¬ (9223372036854775807 < 4 + y1.size) := by
          rw [Lib.size_eq y1, HY1.out]
          try simp only [List.length_append, List.length_cons, List.length_nil]
          omega
        unfold relAt
        go_simp
        exact ⟨hR.same, hR.put 1 rfl rfl ⟨_, rfl, by rw [cat_data, HY1.out]; try rfl⟩⟩
      intro v hv
      obtain ⟨u, _, hu⟩ := hv
      obtain ⟨y2, rfl, hy2⟩ := hR.get 1 rfl hu
      clear hu
      have HY2 := Lib.hid hy2
      clear hy2
      intro K hK
      go_big_quiet_op
      go_big_quiet_on
      repeat (first | (refine wpR_det hp2 rfl ((hR.rel _).trans rfl) rfl ?_; intro K hK; go_big_quiet_op; go_big_quiet_on) | (refine wpR_ptr hp2 rfl ((hR.rel _).trans rfl) rfl rfl ?_; intro K hK; go_big_quiet_op; go_big_quiet_on) | (refine wpR_skip pick rfl ?_; intro K hK; go_big_quiet_op; go_big_quiet_on))
      refine wpR_rel pick rfl ((hR.rel _).trans rfl) ((hR.turns _).trans rfl) ?_ ?_
      · intro u hu
        have hk := hR.since hu.1
        have hks := hk.size
        unfold relAt
        go_simp
        exact ⟨hR.into0 ((Kept.refl _ _).alloc _), hR.put 2 rfl rfl ⟨_, rfl, Blk.new _ _ _⟩⟩
      intro v hv
      obtain ⟨u, _, hu⟩ := hv
      obtain ⟨g7, rfl, hb7⟩ := hR.get 2 rfl hu
      clear hu
      clear hb7
      intro K hK
      go_big_quiet_op
      go_big_quiet_on
      repeat (first | (refine wpR_det hp2 rfl ((hR.rel _).trans rfl) rfl ?_; intro K hK; go_big_quiet_op; go_big_quiet_on) | (refine wpR_ptr hp2 rfl ((hR.rel _).trans rfl) rfl rfl ?_; intro K hK; go_big_quiet_op; go_big_quiet_on) | (refine wpR_skip pick rfl ?_; intro K hK; go_big_quiet_op; go_big_quiet_on))
      refine wpR_rel pick rfl ((hR.rel _).trans rfl) ((hR.turns _).trans rfl) ?_ ?_
      · intro u hu
        have hk := hR.since hu.1
        have hks := hk.size
        obtain ⟨g', hg', hB'⟩ := (hR.get 2 rfl (hu.2 _ _ (Got.upd_self _ _ _) (by kernel_rfl)))
        injection hg' with e1 _ _
        injection e1 with e1
        injection e1 with e1
        subst e1
        have hcall := nums_cells [o.port] _ u (by simp) hB' (by simp; omega)
        unfold relAt
        go_simp
        refine (hcall).mono ?_
        rintro e w' ⟨y, rfl, hy, hk'⟩
        exact ⟨_, rfl, hR.into0 hk', hR.put 3 rfl rfl ⟨y, rfl, hy⟩⟩
      intro v hv
      obtain ⟨u, _, hu⟩ := hv
      obtain ⟨y3, rfl, hy3⟩ := hR.get 3 rfl hu
      clear hu
      have HY3 := Lib.hid hy3
      clear hy3
      intro K hK
      go_big_quiet_op
      go_big_quiet_on
      repeat (first | (refine wpR_det hp2 rfl ((hR.rel _).trans rfl) rfl ?_; intro K hK; go_big_quiet_op; go_big_quiet_on) | (refine wpR_ptr hp2 rfl ((hR.rel _).trans rfl) rfl rfl ?_; intro K hK; go_big_quiet_op; go_big_quiet_on) | (refine wpR_skip pick rfl ?_; intro K hK; go_big_quiet_op; go_big_quiet_on))
      refine wpR_rel pick rfl ((hR.rel _).trans rfl) ((hR.turns _).trans rfl) ?_ ?_
      · intro u hu
        have hk := hR.since hu.1
        have hks := hk.size
        have hz : ¬ (9223372036854775807 < y2.size + y3.size) := by
          rw [Lib.size_eq y2, HY2.out, Lib.size_eq y3, HY3.out]
          try simp only [List.length_append, List.length_cons, List.length_nil]
          omega
        unfold relAt
        go_simp
        exact ⟨hR.same, hR.put 4 rfl rfl ⟨_, rfl, by rw [cat_data, HY2.out, HY3.out]; try rfl⟩⟩
      intro v hv
      obtain ⟨u, _, hu⟩ := hv
      obtain ⟨y4, rfl, hy4⟩ := hR.get 4 rfl hu
      clear hu
      have HY4 := Lib.hid hy4
      clear hy4
      intro K hK
      go_big_quiet_op
      go_big_quiet_on
      repeat (first | (refine wpR_det hp2 rfl ((hR.rel _).trans rfl) rfl ?_; intro K hK; go_big_quiet_op; go_big_quiet_on) | (refine wpR_ptr hp2 rfl ((hR.rel _).trans rfl) rfl rfl ?_; intro K hK; go_big_quiet_op; go_big_quiet_on) | (refine wpR_skip pick rfl ?_; intro K hK; go_big_quiet_op; go_big_quiet_on))
      refine wpR_rel pick rfl ((hR.rel _).trans rfl) ((hR.turns _).trans rfl) ?_ ?_
      · intro u hu
        have hk := hR.since hu.1
        have hks := hk.size
        have hz : ¬ (9223372036854775807 < y4.size + 5) := by
          rw [Lib.size_eq y4, HY4.out]
          try simp only [List.length_append, List.length_cons, List.length_nil]
          omega
        unfold relAt
        go_simp
        exact ⟨hR.same, hR.put 5 rfl rfl ⟨_, rfl, by rw [cat_data, HY4.out]; try rfl⟩⟩
      intro v hv
      obtain ⟨u, _, hu⟩ := hv
      obtain ⟨y5, rfl, hy5⟩ := hR.get 5 rfl hu
      clear hu
      have HY5 := Lib.hid hy5
      clear hy5
      intro K hK
      go_big_quiet_op
      go_big_quiet_on
      repeat (first | (refine wpR_det hp2 rfl ((hR.rel _).trans rfl) rfl ?_; intro K hK; go_big_quiet_op; go_big_quiet_on) | (refine wpR_ptr hp2 rfl ((hR.rel _).trans rfl) rfl rfl ?_; intro K hK; go_big_quiet_op; go_big_quiet_on) | (refine wpR_skip pick rfl ?_; intro K hK; go_big_quiet_op; go_big_quiet_on))
      refine wpR_rel pick rfl ((hR.rel _).trans rfl) ((hR.turns _).trans rfl) ?_ ?_
      · intro u hu
        have hk := hR.since hu.1
        have hks := hk.size
        unfold relAt
        go_simp
        refine (refNameW_any oway HWY.out u).mono ?_
        rintro e w' ⟨y, rfl, hy, hk'⟩
        exact ⟨_, rfl, hR.into0 hk', hR.put 6 rfl rfl ⟨y, rfl, hy⟩⟩
      intro v hv
      obtain ⟨u, _, hu⟩ := hv
      obtain ⟨y6, rfl, hy6⟩ := hR.get 6 rfl hu
      clear hu
      have HY6 := Lib.hid hy6
      clear hy6
      intro K hK
      go_big_quiet_op
      go_big_quiet_on
      repeat (first | (refine wpR_det hp2 rfl ((hR.rel _).trans rfl) rfl ?_; intro K hK; go_big_quiet_op; go_big_quiet_on) | (refine wpR_ptr hp2 rfl ((hR.rel _).trans rfl) rfl rfl ?_; intro K hK; go_big_quiet_op; go_big_quiet_on) | (refine wpR_skip pick rfl ?_; intro K hK; go_big_quiet_op; go_big_quiet_on))
      refine wpR_rel pick rfl ((hR.rel _).trans rfl) ((hR.turns _).trans rfl) ?_ ?_
      · intro u hu
        have hk := hR.since hu.1
        have hks := hk.size
        have hz : ¬ (9223372036854775807 < y5.size + y6.size) := by
          rw [Lib.size_eq y5, HY5.out, Lib.size_eq y6, HY6.out]
          try simp only [List.length_append, List.length_cons, List.length_nil]
          omega
        unfold relAt
        go_simp
        exact ⟨hR.same, hR.put 7 rfl rfl ⟨_, rfl, by rw [cat_data, HY5.out, HY6.out]; try rfl⟩⟩
      intro v hv
      obtain ⟨u, _, hu⟩ := hv
      obtain ⟨y7, rfl, hy7⟩ := hR.get 7 rfl hu
      clear hu
      have HY7 := Lib.hid hy7
      clear hy7
      intro K hK
      go_big_quiet_op
      go_big_quiet_on
      repeat (first | (refine wpR_det hp2 rfl ((hR.rel _).trans rfl) rfl ?_; intro K hK; go_big_quiet_op; go_big_quiet_on) | (refine wpR_ptr hp2 rfl ((hR.rel _).trans rfl) rfl rfl ?_; intro K hK; go_big_quiet_op; go_big_quiet_on) | (refine wpR_skip pick rfl ?_; intro K hK; go_big_quiet_op; go_big_quiet_on))
      refine wpR_nil ?_
      intro wE hk2 hF hM
      have HKE := Lib.hid (HK1.out.trans hk2)
      clear hF hM hk2 hp1 hp2 hR sF
      go_wp2_with fail
      go_ret
      exact ⟨y7, rfl, by rw [HY7.out, HWR.out]; first | rfl | simp [numsT, joinC, backendT, vipT, retireT, releaseT, evictT, admitT, udpT, tcpT, membersT], HKE.out⟩
    · skip
      have q17 : ((o.proto : Int) == 17) = false := beq_eq_false_iff_ne.2 (by omega)
      have HWR := Lib.hid (show joinC 32 (opG adrT proR o) = joinC 32 [vipT, adrT o.a, numT (o.port : Int), tcpT, wayN oway] by rw [HW0.out, show proR o.proto = tcpT by unfold proR; rw [if_neg hpr]])
      clear hpr HW0
      go_upto_region 8 with fail
      refine wp_region_kept 16 [(2, fun v u => ∃ y : ByteArray, v = .string y ∧ y.data.toList = adrT o.a), (3, fun v u => ∃ y : ByteArray, v = .string y ∧ y.data.toList = [118, 105, 112, 32] ++ adrT o.a), (7, fun v u => ∃ g : Nat, v = .slice (some ⟨g, 0, none⟩) 1 1 ∧ Blk u g 3 #[.int .i64 (o.port : Int)]), (8, fun v u => ∃ y : ByteArray, v = .string y ∧ y.data.toList = numsT [o.port]), (9, fun v u => ∃ y : ByteArray, v = .string y ∧ y.data.toList = ([118, 105, 112, 32] ++ adrT o.a) ++ numsT [o.port]), (11, fun v u => ∃ y : ByteArray, v = .string y ∧ y.data.toList = (([118, 105, 112, 32] ++ adrT o.a) ++ numsT [o.port]) ++ [32, 116, 99, 112, 32]), (14, fun v u => ∃ y : ByteArray, v = .string y ∧ y.data.toList = wayN oway), (15, fun v u => ∃ y : ByteArray, v = .string y ∧ y.data.toList = ((([118, 105, 112, 32] ++ adrT o.a) ++ numsT [o.port]) ++ [32, 116, 99, 112, 32]) ++ wayN oway)] ?st ?ne rfl (by kernel_rfl) (by kernel_rfl) ?_
      case st =>
        intro p hp
        simp only [List.mem_cons, List.not_mem_nil, or_false] at hp
        rcases hp with rfl | rfl | rfl | rfl | rfl | rfl | rfl | rfl
        · intro v u u' h hk; exact h
        · intro v u u' h hk; exact h
        · intro v u u' h hk; obtain ⟨g, h1, h2⟩ := h; exact ⟨g, h1, h2.kept hk (fun h => h)⟩
        · intro v u u' h hk; exact h
        · intro v u u' h hk; exact h
        · intro v u u' h hk; exact h
        · intro v u u' h hk; exact h
        · intro v u u' h hk; exact h
      case ne =>
        intro p hp
        simp only [List.mem_cons, List.not_mem_nil, or_false] at hp
        rcases hp with rfl | rfl | rfl | rfl | rfl | rfl | rfl | rfl
        · exact ⟨_, _, Kept.refl _ _, ⟨(adrT o.a).toArray⟩, rfl, rfl⟩
        · exact ⟨_, _, Kept.refl _ _, ⟨([118, 105, 112, 32] ++ adrT o.a).toArray⟩, rfl, rfl⟩
        · exact ⟨_, _, (Kept.refl _ _).alloc (.cells #[.int .i64 (o.port : Int)] 3), _, rfl, Blk.new _ _ _⟩
        · exact ⟨_, _, Kept.refl _ _, ⟨(numsT [o.port]).toArray⟩, rfl, rfl⟩
        · exact ⟨_, _, Kept.refl _ _, ⟨(([118, 105, 112, 32] ++ adrT o.a) ++ numsT [o.port]).toArray⟩, rfl, rfl⟩
        · exact ⟨_, _, Kept.refl _ _, ⟨((([118, 105, 112, 32] ++ adrT o.a) ++ numsT [o.port]) ++ [32, 116, 99, 112, 32]).toArray⟩, rfl, rfl⟩
        · exact ⟨_, _, Kept.refl _ _, ⟨(wayN oway).toArray⟩, rfl, rfl⟩
        · exact ⟨_, _, Kept.refl _ _, ⟨(((([118, 105, 112, 32] ++ adrT o.a) ++ numsT [o.port]) ++ [32, 116, 99, 112, 32]) ++ wayN oway).toArray⟩, rfl, rfl⟩
      simp only [List.take_succ_cons, List.take_zero, List.drop_succ_cons, List.drop_zero]
      intro G pick hR hp1 hp2
      have sF : ∀ u i, (pick u).cell? ⟨w.heap.size, i, none⟩ = (#[.int .i64 o.kind, .int .i64 (ovip : Int), .int .i64 (oback : Int), .int .i64 (over : Int), .bool o.a.six, .int .u64 (o.a.hi : Int), .int .u64 (o.a.lo : Int), .int .u16 (o.port : Int), .int .u8 (o.proto : Int), .int .i64 (oway : Int), .slice MA o.ms.length mc] : Array Value)[i]? := fun u i => ((hp1 u).cell HN1.out.lt (fun h => h) _).trans (HN1.out.cell i)
      repeat (first | (refine wpR_det hp2 rfl ((hR.rel _).trans rfl) rfl ?_; intro K hK; go_big_quiet_op; go_big_quiet_on) | (refine wpR_ptr hp2 rfl ((hR.rel _).trans rfl) rfl rfl ?_; intro K hK; go_big_quiet_op; go_big_quiet_on) | (refine wpR_skip pick rfl ?_; intro K hK; go_big_quiet_op; go_big_quiet_on))
      refine wpR_rel pick rfl ((hR.rel _).trans rfl) ((hR.turns _).trans rfl) ?_ ?_
      · intro u hu
        have hk := hR.since hu.1
        have hks := hk.size
        unfold relAt
        go_simp
        refine (refText_any o.a HI.out.hi HI.out.lo u).mono ?_
        rintro e w' ⟨y, rfl, hy, hk'⟩
        exact ⟨_, rfl, hR.into0 hk', hR.put 0 rfl rfl ⟨y, rfl, hy⟩⟩
      intro v hv
      obtain ⟨u, _, hu⟩ := hv
      obtain ⟨y1, rfl, hy1⟩ := hR.get 0 rfl hu
      clear hu
      have HY1 := Lib.hid hy1
      clear hy1
      intro K hK
      go_big_quiet_op
      go_big_quiet_on
      repeat (first | (refine wpR_det hp2 rfl ((hR.rel _).trans rfl) rfl ?_; intro K hK; go_big_quiet_op; go_big_quiet_on) | (refine wpR_ptr hp2 rfl ((hR.rel _).trans rfl) rfl rfl ?_; intro K hK; go_big_quiet_op; go_big_quiet_on) | (refine wpR_skip pick rfl ?_; intro K hK; go_big_quiet_op; go_big_quiet_on))
      refine wpR_rel pick rfl ((hR.rel _).trans rfl) ((hR.turns _).trans rfl) ?_ ?_
      · intro u hu
        have hk := hR.since hu.1
        have hks := hk.size
        have hz : ¬ (9223372036854775807 < 4 + y1.size) := by
          rw [Lib.size_eq y1, HY1.out]
          try simp only [List.length_append, List.length_cons, List.length_nil]
          omega
        unfold relAt
        go_simp
        exact ⟨hR.same, hR.put 1 rfl rfl ⟨_, rfl, by rw [cat_data, HY1.out]; try rfl⟩⟩
      intro v hv
      obtain ⟨u, _, hu⟩ := hv
      obtain ⟨y2, rfl, hy2⟩ := hR.get 1 rfl hu
      clear hu
      have HY2 := Lib.hid hy2
      clear hy2
      intro K hK
      go_big_quiet_op
      go_big_quiet_on
      repeat (first | (refine wpR_det hp2 rfl ((hR.rel _).trans rfl) rfl ?_; intro K hK; go_big_quiet_op; go_big_quiet_on) | (refine wpR_ptr hp2 rfl ((hR.rel _).trans rfl) rfl rfl ?_; intro K hK; go_big_quiet_op; go_big_quiet_on) | (refine wpR_skip pick rfl ?_; intro K hK; go_big_quiet_op; go_big_quiet_on))
      refine wpR_rel pick rfl ((hR.rel _).trans rfl) ((hR.turns _).trans rfl) ?_ ?_
      · intro u hu
        have hk := hR.since hu.1
        have hks := hk.size
        unfold relAt
        go_simp
        exact ⟨hR.into0 ((Kept.refl _ _).alloc _), hR.put 2 rfl rfl ⟨_, rfl, Blk.new _ _ _⟩⟩
      intro v hv
      obtain ⟨u, _, hu⟩ := hv
      obtain ⟨g7, rfl, hb7⟩ := hR.get 2 rfl hu
      clear hu
      clear hb7
      intro K hK
      go_big_quiet_op
      go_big_quiet_on
      repeat (first | (refine wpR_det hp2 rfl ((hR.rel _).trans rfl) rfl ?_; intro K hK; go_big_quiet_op; go_big_quiet_on) | (refine wpR_ptr hp2 rfl ((hR.rel _).trans rfl) rfl rfl ?_; intro K hK; go_big_quiet_op; go_big_quiet_on) | (refine wpR_skip pick rfl ?_; intro K hK; go_big_quiet_op; go_big_quiet_on))
      refine wpR_rel pick rfl ((hR.rel _).trans rfl) ((hR.turns _).trans rfl) ?_ ?_
      · intro u hu
        have hk := hR.since hu.1
        have hks := hk.size
        obtain ⟨g', hg', hB'⟩ := (hR.get 2 rfl (hu.2 _ _ (Got.upd_self _ _ _) (by kernel_rfl)))
        injection hg' with e1 _ _
        injection e1 with e1
        injection e1 with e1
        subst e1
        have hcall := nums_cells [o.port] _ u (by simp) hB' (by simp; omega)
        unfold relAt
        go_simp
        refine (hcall).mono ?_
        rintro e w' ⟨y, rfl, hy, hk'⟩
        exact ⟨_, rfl, hR.into0 hk', hR.put 3 rfl rfl ⟨y, rfl, hy⟩⟩
      intro v hv
      obtain ⟨u, _, hu⟩ := hv
      obtain ⟨y3, rfl, hy3⟩ := hR.get 3 rfl hu
      clear hu
      have HY3 := Lib.hid hy3
      clear hy3
      intro K hK
      go_big_quiet_op
      go_big_quiet_on
      repeat (first | (refine wpR_det hp2 rfl ((hR.rel _).trans rfl) rfl ?_; intro K hK; go_big_quiet_op; go_big_quiet_on) | (refine wpR_ptr hp2 rfl ((hR.rel _).trans rfl) rfl rfl ?_; intro K hK; go_big_quiet_op; go_big_quiet_on) | (refine wpR_skip pick rfl ?_; intro K hK; go_big_quiet_op; go_big_quiet_on))
      refine wpR_rel pick rfl ((hR.rel _).trans rfl) ((hR.turns _).trans rfl) ?_ ?_
      · intro u hu
        have hk := hR.since hu.1
        have hks := hk.size
        have hz : ¬ (9223372036854775807 < y2.size + y3.size) := by
          rw [Lib.size_eq y2, HY2.out, Lib.size_eq y3, HY3.out]
          try simp only [List.length_append, List.length_cons, List.length_nil]
          omega
        unfold relAt
        go_simp
        exact ⟨hR.same, hR.put 4 rfl rfl ⟨_, rfl, by rw [cat_data, HY2.out, HY3.out]; try rfl⟩⟩
      intro v hv
      obtain ⟨u, _, hu⟩ := hv
      obtain ⟨y4, rfl, hy4⟩ := hR.get 4 rfl hu
      clear hu
      have HY4 := Lib.hid hy4
      clear hy4
      intro K hK
      go_big_quiet_op
      go_big_quiet_on
      repeat (first | (refine wpR_det hp2 rfl ((hR.rel _).trans rfl) rfl ?_; intro K hK; go_big_quiet_op; go_big_quiet_on) | (refine wpR_ptr hp2 rfl ((hR.rel _).trans rfl) rfl rfl ?_; intro K hK; go_big_quiet_op; go_big_quiet_on) | (refine wpR_skip pick rfl ?_; intro K hK; go_big_quiet_op; go_big_quiet_on))
      refine wpR_rel pick rfl ((hR.rel _).trans rfl) ((hR.turns _).trans rfl) ?_ ?_
      · intro u hu
        have hk := hR.since hu.1
        have hks := hk.size
        have hz : ¬ (9223372036854775807 < y4.size + 5) := by
          rw [Lib.size_eq y4, HY4.out]
          try simp only [List.length_append, List.length_cons, List.length_nil]
          omega
        unfold relAt
        go_simp
        exact ⟨hR.same, hR.put 5 rfl rfl ⟨_, rfl, by rw [cat_data, HY4.out]; try rfl⟩⟩
      intro v hv
      obtain ⟨u, _, hu⟩ := hv
      obtain ⟨y5, rfl, hy5⟩ := hR.get 5 rfl hu
      clear hu
      have HY5 := Lib.hid hy5
      clear hy5
      intro K hK
      go_big_quiet_op
      go_big_quiet_on
      repeat (first | (refine wpR_det hp2 rfl ((hR.rel _).trans rfl) rfl ?_; intro K hK; go_big_quiet_op; go_big_quiet_on) | (refine wpR_ptr hp2 rfl ((hR.rel _).trans rfl) rfl rfl ?_; intro K hK; go_big_quiet_op; go_big_quiet_on) | (refine wpR_skip pick rfl ?_; intro K hK; go_big_quiet_op; go_big_quiet_on))
      refine wpR_rel pick rfl ((hR.rel _).trans rfl) ((hR.turns _).trans rfl) ?_ ?_
      · intro u hu
        have hk := hR.since hu.1
        have hks := hk.size
        unfold relAt
        go_simp
        refine (refNameW_any oway HWY.out u).mono ?_
        rintro e w' ⟨y, rfl, hy, hk'⟩
        exact ⟨_, rfl, hR.into0 hk', hR.put 6 rfl rfl ⟨y, rfl, hy⟩⟩
      intro v hv
      obtain ⟨u, _, hu⟩ := hv
      obtain ⟨y6, rfl, hy6⟩ := hR.get 6 rfl hu
      clear hu
      have HY6 := Lib.hid hy6
      clear hy6
      intro K hK
      go_big_quiet_op
      go_big_quiet_on
      repeat (first | (refine wpR_det hp2 rfl ((hR.rel _).trans rfl) rfl ?_; intro K hK; go_big_quiet_op; go_big_quiet_on) | (refine wpR_ptr hp2 rfl ((hR.rel _).trans rfl) rfl rfl ?_; intro K hK; go_big_quiet_op; go_big_quiet_on) | (refine wpR_skip pick rfl ?_; intro K hK; go_big_quiet_op; go_big_quiet_on))
      refine wpR_rel pick rfl ((hR.rel _).trans rfl) ((hR.turns _).trans rfl) ?_ ?_
      · intro u hu
        have hk := hR.since hu.1
        have hks := hk.size
        have hz : ¬ (9223372036854775807 < y5.size + y6.size) := by
          rw [Lib.size_eq y5, HY5.out, Lib.size_eq y6, HY6.out]
          try simp only [List.length_append, List.length_cons, List.length_nil]
          omega
        unfold relAt
        go_simp
        exact ⟨hR.same, hR.put 7 rfl rfl ⟨_, rfl, by rw [cat_data, HY5.out, HY6.out]; try rfl⟩⟩
      intro v hv
      obtain ⟨u, _, hu⟩ := hv
      obtain ⟨y7, rfl, hy7⟩ := hR.get 7 rfl hu
      clear hu
      have HY7 := Lib.hid hy7
      clear hy7
      intro K hK
      go_big_quiet_op
      go_big_quiet_on
      repeat (first | (refine wpR_det hp2 rfl ((hR.rel _).trans rfl) rfl ?_; intro K hK; go_big_quiet_op; go_big_quiet_on) | (refine wpR_ptr hp2 rfl ((hR.rel _).trans rfl) rfl rfl ?_; intro K hK; go_big_quiet_op; go_big_quiet_on) | (refine wpR_skip pick rfl ?_; intro K hK; go_big_quiet_op; go_big_quiet_on))
      refine wpR_nil ?_
      intro wE hk2 hF hM
      have HKE := Lib.hid (HK1.out.trans hk2)
      clear hF hM hk2 hp1 hp2 hR sF
      go_wp2_with fail
      go_ret
      exact ⟨y7, rfl, by rw [HY7.out, HWR.out]; first | rfl | simp [numsT, joinC, backendT, vipT, retireT, releaseT, evictT, admitT, udpT, tcpT, membersT], HKE.out⟩
  by_cases hk3 : o.kind = 3
  · skip
    have q1 : (o.kind == 1) = false := by rw [hk3]; rfl
    have q2 : (o.kind == 2) = false := by rw [hk3]; rfl
    have q3 : (o.kind == 3) = true := by rw [hk3]; rfl
    have HWR := Lib.hid (show joinC 32 (opG adrT proR o) = joinC 32 ([membersT, numT (ovip : Int)] ++ o.ms.map memT) by unfold opG; rw [if_neg (by omega), if_neg (by omega), if_pos hk3, HV.out])
    clear hk1 hk2 hk3
    have HNS := Lib.hid (nums_cells [ovip] _ (w1.alloc (.cells #[.int .i64 (ovip : Int)] 3)) (by simp) (Blk.new w1 3 #[.int .i64 (ovip : Int)]) (by simp; omega))
    go_wp2_with fail
    refine HNS.out.mono ?_
    rintro e w2 ⟨z, rfl, hz, hk⟩
    have HZ := Lib.hid hz
    have hzz : ¬ (9223372036854775807 < 7 + z.size) := by rw [Lib.size_eq, hz]; omega
    have HK2 := Lib.hid ((HK1.out.alloc _).trans hk)
    have HN2 := Lib.hid ((HN1.out.alloc _).kept hk (fun h => h))
    clear hz hk HNS cB HN1
    have cB := HN2.out.cell
    have lB := HN2.out.lt
    have HZL := Lib.hid (show z.size ≤ 21 by rw [Lib.size_eq, HZ.out]; exact lv)
    go_wp2_with fail
    go_loopw [4, 5] (fun v n wr => ∃ (k : Nat) (y : ByteArray), k ≤ o.ms.length ∧ n = .int .i64 (k : Int) ∧ v = .string y ∧ Hid (y.data.toList = membersT ++ (numsT [ovip] ++ ((o.ms.take k).map fun m => 32 :: memT m).flatten)) ∧ y.size ≤ 28 + 42 * k ∧ Hid (Kept (fun _ => False) w2 wr)) (fun _ n _ => o.ms.length - (intOf n).toNat)
    case atStart => exact ⟨0, _, by omega, rfl, rfl, Lib.hid (by rw [cat_data, HZ.out]; simp [membersT]), by rw [ByteArray.size_append]; have := HZL.out; show 7 + z.size ≤ _; omega, Lib.hid (Kept.refl _ _)⟩
    case round =>
      obtain ⟨k, yv, hk, rfl, rfl, HY, hys, HKW⟩ := hrel
      have k0 : (0 : Int) ≤ (k : Int) := Int.natCast_nonneg _
      have HNW := Lib.hid (HN2.out.kept HKW.out (fun h => h))
      have cW := HNW.out.cell
      have lN := HNW.out.lt
      have hll := HL.out
      by_cases hlt : k < o.ms.length
      · have kI : (k : Int) < (o.ms.length : Int) := by omega
        obtain ⟨b, off, hb, rfl, hat⟩ := HM.out.at (k := k) (by rw [mcs_len]; exact hlt)
        obtain ⟨⟨ma, mb⟩, hm⟩ : ∃ m, o.ms[k] = m := ⟨_, rfl⟩
        have hin : (ma, mb) ∈ o.ms := by rw [← hm]; exact List.getElem_mem hlt
        obtain ⟨an, ha⟩ : ∃ n : Nat, ma = (n : Int) := ⟨ma.toNat, by have := (HMN.out _ hin).1; simp only at this; omega⟩
        obtain ⟨bn, hb'⟩ : ∃ n : Nat, mb = (n : Int) := ⟨mb.toNat, by have := (HMN.out _ hin).2; simp only at this; omega⟩
        subst ha hb'
        have HI2 := HMI.out _ hin
        have han : an < 9223372036854775808 := by have := HI2.1.2; simp only at this; omega
        have hbn : bn < 9223372036854775808 := by have := HI2.2.2; simp only at this; omega
        have HTK := Lib.hid (show o.ms.take (k + 1) = o.ms.take k ++ [((an : Int), (bn : Int))] by rw [List.take_succ_eq_append_getElem hlt, hm])
        have HK0 := Lib.hid (HK2.out.trans HKW.out)
        have c0 : wr.cell? ⟨b, off + k * 2, none⟩ = some (.int .i64 (an : Int)) := by
          rw [HK0.out.cell hb (fun h => h), hat.get0 (k := k) (by rw [mcs_len]; exact hlt) (by decide)]
          simp [mcs, hm]
        have c1 : wr.cell? ⟨b, off + k * 2 + 1, none⟩ = some (.int .i64 (bn : Int)) := by
          rw [HK0.out.cell hb (fun h => h), hat.get (k := k) (by rw [mcs_len]; exact hlt) 1 (by decide)]
          simp [mcs, hm]
        have hbw : b < wr.heap.size := Nat.lt_of_lt_of_le hb HK0.out.size
        have l1 : (numsT [an]).length ≤ 21 := numsT_len _ (by simp; omega)
        have l2 : (numT (bn : Int)).length ≤ 20 := numT_lenZ hbn
        have l3 : yv.data.toList.length ≤ 28 + 42 * k := by rw [← Lib.size_eq]; exact hys
        clear hm hat hin HI2
        go_upto_region 14 with fail
        refine wp_region_kept 19 [(7, fun v u => ∃ g : Nat, v = .slice (some ⟨g, 0, none⟩) 1 1 ∧ Blk u g 3 #[.int .i64 (an : Int)]), (8, fun v u => ∃ y : ByteArray, v = .string y ∧ y.data.toList = numsT [an]), (9, fun v u => ∃ y : ByteArray, v = .string y ∧ y.data.toList = yv.data.toList ++ numsT [an]), (10, fun v u => ∃ y : ByteArray, v = .string y ∧ y.data.toList = (yv.data.toList ++ numsT [an]) ++ [58]), (17, fun v u => ∃ y : ByteArray, v = .string y ∧ y.data.toList = numT (bn : Int)), (18, fun v u => ∃ y : ByteArray, v = .string y ∧ y.data.toList = ((yv.data.toList ++ numsT [an]) ++ [58]) ++ numT (bn : Int))] ?st ?ne rfl (by kernel_rfl) (by kernel_rfl) ?_
        case st =>
          intro p hp
          simp only [List.mem_cons, List.not_mem_nil, or_false] at hp
          rcases hp with rfl | rfl | rfl | rfl | rfl | rfl
          · intro v u u' h hk; obtain ⟨g, h1, h2⟩ := h; exact ⟨g, h1, h2.kept hk (fun h => h)⟩
          · intro v u u' h hk; exact h
          · intro v u u' h hk; exact h
          · intro v u u' h hk; exact h
          · intro v u u' h hk; exact h
          · intro v u u' h hk; exact h
        case ne =>
          intro p hp
          simp only [List.mem_cons, List.not_mem_nil, or_false] at hp
          rcases hp with rfl | rfl | rfl | rfl | rfl | rfl
          · exact ⟨_, _, (Kept.refl _ _).alloc (.cells #[.int .i64 (an : Int)] 3), _, rfl, Blk.new _ _ _⟩
          · exact ⟨_, _, Kept.refl _ _, ⟨(numsT [an]).toArray⟩, rfl, rfl⟩
          · exact ⟨_, _, Kept.refl _ _, ⟨(yv.data.toList ++ numsT [an]).toArray⟩, rfl, rfl⟩
          · exact ⟨_, _, Kept.refl _ _, ⟨((yv.data.toList ++ numsT [an]) ++ [58]).toArray⟩, rfl, rfl⟩
          · exact ⟨_, _, Kept.refl _ _, ⟨(numT (bn : Int)).toArray⟩, rfl, rfl⟩
          · exact ⟨_, _, Kept.refl _ _, ⟨(((yv.data.toList ++ numsT [an]) ++ [58]) ++ numT (bn : Int)).toArray⟩, rfl, rfl⟩
        simp only [List.take_succ_cons, List.take_zero, List.drop_succ_cons, List.drop_zero]
        intro G pick hR hp1 hp2
        have sF : ∀ u i, (pick u).cell? ⟨w.heap.size, i, none⟩ = (#[.int .i64 o.kind, .int .i64 (ovip : Int), .int .i64 (oback : Int), .int .i64 (over : Int), .bool o.a.six, .int .u64 (o.a.hi : Int), .int .u64 (o.a.lo : Int), .int .u16 (o.port : Int), .int .u8 (o.proto : Int), .int .i64 (oway : Int), .slice (some ⟨b, off, none⟩) o.ms.length mc] : Array Value)[i]? := fun u i => ((hp1 u).cell lN (fun h => h) _).trans (HNW.out.cell i)
        have s0 : ∀ u, (pick u).cell? ⟨b, off + k * 2, none⟩ = some (.int .i64 (an : Int)) := fun u => ((hp1 u).cell hbw (fun h => h) _).trans c0
        have s1 : ∀ u, (pick u).cell? ⟨b, off + k * 2 + 1, none⟩ = some (.int .i64 (bn : Int)) := fun u => ((hp1 u).cell hbw (fun h => h) _).trans c1
        repeat (first | (refine wpR_det hp2 rfl ((hR.rel _).trans rfl) rfl ?_; intro K hK; go_big_quiet_op; go_big_quiet_on) | (refine wpR_ptr hp2 rfl ((hR.rel _).trans rfl) rfl rfl ?_; intro K hK; go_big_quiet_op; go_big_quiet_on) | (refine wpR_skip pick rfl ?_; intro K hK; go_big_quiet_op; go_big_quiet_on))
        refine wpR_rel pick rfl ((hR.rel _).trans rfl) ((hR.turns _).trans rfl) ?_ ?_
        · intro u hu
          have hk := hR.since hu.1
          have hks := hk.size
          unfold relAt
          go_simp
          exact ⟨hR.into0 ((Kept.refl _ _).alloc _), hR.put 0 rfl rfl ⟨_, rfl, Blk.new _ _ _⟩⟩
        intro v hv
        obtain ⟨u, _, hu⟩ := hv
        obtain ⟨g7, rfl, hb7⟩ := hR.get 0 rfl hu
        clear hu
        clear hb7
        intro K hK
        go_big_quiet_op
        go_big_quiet_on
        repeat (first | (refine wpR_det hp2 rfl ((hR.rel _).trans rfl) rfl ?_; intro K hK; go_big_quiet_op; go_big_quiet_on) | (refine wpR_ptr hp2 rfl ((hR.rel _).trans rfl) rfl rfl ?_; intro K hK; go_big_quiet_op; go_big_quiet_on) | (refine wpR_skip pick rfl ?_; intro K hK; go_big_quiet_op; go_big_quiet_on))
        refine wpR_rel pick rfl ((hR.rel _).trans rfl) ((hR.turns _).trans rfl) ?_ ?_
        · intro u hu
          have hk := hR.since hu.1
          have hks := hk.size
          obtain ⟨g', hg', hB'⟩ := (hR.get 0 rfl (hu.2 _ _ (Got.upd_self _ _ _) (by kernel_rfl)))
          injection hg' with e1 _ _
          injection e1 with e1
          injection e1 with e1
          subst e1
          have hcall := nums_cells [an] _ u (by simp) hB' (by simp; omega)
          unfold relAt
          go_simp
          refine (hcall).mono ?_
          rintro e w' ⟨y, rfl, hy, hk'⟩
          exact ⟨_, rfl, hR.into0 hk', hR.put 1 rfl rfl ⟨y, rfl, hy⟩⟩
        intro v hv
        obtain ⟨u, _, hu⟩ := hv
        obtain ⟨y1, rfl, hy1⟩ := hR.get 1 rfl hu
        clear hu
        have HY1 := Lib.hid hy1
        clear hy1
        intro K hK
        go_big_quiet_op
        go_big_quiet_on
        repeat (first | (refine wpR_det hp2 rfl ((hR.rel _).trans rfl) rfl ?_; intro K hK; go_big_quiet_op; go_big_quiet_on) | (refine wpR_ptr hp2 rfl ((hR.rel _).trans rfl) rfl rfl ?_; intro K hK; go_big_quiet_op; go_big_quiet_on) | (refine wpR_skip pick rfl ?_; intro K hK; go_big_quiet_op; go_big_quiet_on))
        refine wpR_rel pick rfl ((hR.rel _).trans rfl) ((hR.turns _).trans rfl) ?_ ?_
        · intro u hu
          have hk := hR.since hu.1
          have hks := hk.size
          have hz : ¬ (9223372036854775807 < yv.size + y1.size) := by
            rw [Lib.size_eq y1, HY1.out]
            try simp only [List.length_append, List.length_cons, List.length_nil]
            omega
          unfold relAt
          go_simp
          exact ⟨hR.same, hR.put 2 rfl rfl ⟨_, rfl, by rw [cat_data, HY1.out]; try rfl⟩⟩
        intro v hv
        obtain ⟨u, _, hu⟩ := hv
        obtain ⟨y2, rfl, hy2⟩ := hR.get 2 rfl hu
        clear hu
        have HY2 := Lib.hid hy2
        clear hy2
        intro K hK
        go_big_quiet_op
        go_big_quiet_on
        repeat (first | (refine wpR_det hp2 rfl ((hR.rel _).trans rfl) rfl ?_; intro K hK; go_big_quiet_op; go_big_quiet_on) | (refine wpR_ptr hp2 rfl ((hR.rel _).trans rfl) rfl rfl ?_; intro K hK; go_big_quiet_op; go_big_quiet_on) | (refine wpR_skip pick rfl ?_; intro K hK; go_big_quiet_op; go_big_quiet_on))
        refine wpR_rel pick rfl ((hR.rel _).trans rfl) ((hR.turns _).trans rfl) ?_ ?_
        · intro u hu
          have hk := hR.since hu.1
          have hks := hk.size
          have hz : ¬ (9223372036854775807 < y2.size + 1) := by
            rw [Lib.size_eq y2, HY2.out]
            try simp only [List.length_append, List.length_cons, List.length_nil]
            omega
          unfold relAt
          go_simp
          exact ⟨hR.same, hR.put 3 rfl rfl ⟨_, rfl, by rw [cat_data, HY2.out]; try rfl⟩⟩
        intro v hv
        obtain ⟨u, _, hu⟩ := hv
        obtain ⟨y3, rfl, hy3⟩ := hR.get 3 rfl hu
        clear hu
        have HY3 := Lib.hid hy3
        clear hy3
        intro K hK
        go_big_quiet_op
        go_big_quiet_on
        repeat (first | (refine wpR_det hp2 rfl ((hR.rel _).trans rfl) rfl ?_; intro K hK; go_big_quiet_op; go_big_quiet_on) | (refine wpR_ptr hp2 rfl ((hR.rel _).trans rfl) rfl rfl ?_; intro K hK; go_big_quiet_op; go_big_quiet_on) | (refine wpR_skip pick rfl ?_; intro K hK; go_big_quiet_op; go_big_quiet_on))
        refine wpR_rel pick rfl ((hR.rel _).trans rfl) ((hR.turns _).trans rfl) ?_ ?_
        · intro u hu
          have hk := hR.since hu.1
          have hks := hk.size
          unfold relAt
          go_simp
          refine (refDig_any bn hbn u).mono ?_
          rintro e w' ⟨y, rfl, hy, hk'⟩
          exact ⟨_, rfl, hR.into0 hk', hR.put 4 rfl rfl ⟨y, rfl, hy⟩⟩
        intro v hv
        obtain ⟨u, _, hu⟩ := hv
        obtain ⟨y4, rfl, hy4⟩ := hR.get 4 rfl hu
        clear hu
        have HY4 := Lib.hid hy4
        clear hy4
        intro K hK
        go_big_quiet_op
        go_big_quiet_on
        repeat (first | (refine wpR_det hp2 rfl ((hR.rel _).trans rfl) rfl ?_; intro K hK; go_big_quiet_op; go_big_quiet_on) | (refine wpR_ptr hp2 rfl ((hR.rel _).trans rfl) rfl rfl ?_; intro K hK; go_big_quiet_op; go_big_quiet_on) | (refine wpR_skip pick rfl ?_; intro K hK; go_big_quiet_op; go_big_quiet_on))
        refine wpR_rel pick rfl ((hR.rel _).trans rfl) ((hR.turns _).trans rfl) ?_ ?_
        · intro u hu
          have hk := hR.since hu.1
          have hks := hk.size
          have hz : ¬ (9223372036854775807 < y3.size + y4.size) := by
            rw [Lib.size_eq y3, HY3.out, Lib.size_eq y4, HY4.out]
            try simp only [List.length_append, List.length_cons, List.length_nil]
            omega
          unfold relAt
          go_simp
          exact ⟨hR.same, hR.put 5 rfl rfl ⟨_, rfl, by rw [cat_data, HY3.out, HY4.out]; try rfl⟩⟩
        intro v hv
        obtain ⟨u, _, hu⟩ := hv
        obtain ⟨y5, rfl, hy5⟩ := hR.get 5 rfl hu
        clear hu
        have HY5 := Lib.hid hy5
        clear hy5
        intro K hK
        go_big_quiet_op
        go_big_quiet_on
        repeat (first | (refine wpR_det hp2 rfl ((hR.rel _).trans rfl) rfl ?_; intro K hK; go_big_quiet_op; go_big_quiet_on) | (refine wpR_ptr hp2 rfl ((hR.rel _).trans rfl) rfl rfl ?_; intro K hK; go_big_quiet_op; go_big_quiet_on) | (refine wpR_skip pick rfl ?_; intro K hK; go_big_quiet_op; go_big_quiet_on))
        refine wpR_nil ?_
        intro w5 hk2 hF hM
        have HK5 := Lib.hid (HKW.out.trans hk2)
        clear hF hM hk2 hp1 hp2 hR sF s0 s1 c0 c1
        go_wp2_with fail
        go_roundw
        case rel => exact ⟨k + 1, y5, by omega, by go_num, rfl, Lib.hid (by rw [HY5.out, HY.out, HTK.out]; simp [numsT, memT]), by rw [Lib.size_eq, HY5.out]; simp only [List.length_append, List.length_cons, List.length_nil]; omega, HK5⟩
        case measure => simp [intOf] <;> omega
      · obtain rfl : k = o.ms.length := by omega
        have kI : ¬ ((o.ms.length : Int) < (o.ms.length : Int)) := by omega
        have HF := Lib.hid (show yv.data.toList = joinC 32 (opG adrT proR o) by
          rw [HY.out, HWR.out, List.take_length, List.cons_append, List.cons_append, List.nil_append, join_flat]
          simp [numsT, List.map_map, Function.comp_def])
        go_wp2_with fail
        go_ret
        exact ⟨yv, rfl, HF.out, HK2.out.trans HKW.out⟩
  by_cases hk4 : o.kind = 4
  · skip
    have q1 : (o.kind == 1) = false := by rw [hk4]; rfl
    have q2 : (o.kind == 2) = false := by rw [hk4]; rfl
    have q3 : (o.kind == 3) = false := by rw [hk4]; rfl
    have q4 : (o.kind == 4) = true := by rw [hk4]; rfl
    have HWR := Lib.hid (show joinC 32 (opG adrT proR o) = joinC 32 [retireT, numT (ovip : Int), numT (over : Int)] by unfold opG; rw [if_neg (by omega), if_neg (by omega), if_neg (by omega), if_pos hk4, HV.out, HVE.out])
    clear hk1 hk2 hk3 hk4
    have HNS := Lib.hid (nums_cells [ovip, over] _ (w1.alloc (.cells #[.int .i64 (ovip : Int), .int .i64 (over : Int)] 3)) (by simp) (Blk.new w1 3 #[.int .i64 (ovip : Int), .int .i64 (over : Int)]) (by simp; omega))
    have ln0 : (numsT [ovip, over]).length ≤ 42 := numsT_len _ (by simp; omega)
    go_wp2_with fail
    refine HNS.out.mono ?_
    rintro e w2 ⟨z, rfl, hz, hk⟩
    have HZ := Lib.hid hz
    have hzz : ¬ (9223372036854775807 < 6 + z.size) := by rw [Lib.size_eq, hz]; omega
    have HKE := Lib.hid ((HK1.out.alloc _).trans hk)
    clear hz hk HNS
    go_wp2_with fail
    go_ret
    exact ⟨_, rfl, by rw [cat_data, HZ.out, HWR.out]; first | rfl | simp [numsT, joinC, backendT, vipT, retireT, releaseT, evictT, admitT, udpT, tcpT, membersT], HKE.out⟩
  by_cases hk5 : o.kind = 5
  · skip
    have q1 : (o.kind == 1) = false := by rw [hk5]; rfl
    have q2 : (o.kind == 2) = false := by rw [hk5]; rfl
    have q3 : (o.kind == 3) = false := by rw [hk5]; rfl
    have q4 : (o.kind == 4) = false := by rw [hk5]; rfl
    have q5 : (o.kind == 5) = true := by rw [hk5]; rfl
    have HWR := Lib.hid (show joinC 32 (opG adrT proR o) = joinC 32 [releaseT, numT (ovip : Int), numT (over : Int)] by unfold opG; rw [if_neg (by omega), if_neg (by omega), if_neg (by omega), if_neg (by omega), if_pos hk5, HV.out, HVE.out])
    clear hk1 hk2 hk3 hk4 hk5
    have HNS := Lib.hid (nums_cells [ovip, over] _ (w1.alloc (.cells #[.int .i64 (ovip : Int), .int .i64 (over : Int)] 3)) (by simp) (Blk.new w1 3 #[.int .i64 (ovip : Int), .int .i64 (over : Int)]) (by simp; omega))
    have ln0 : (numsT [ovip, over]).length ≤ 42 := numsT_len _ (by simp; omega)
    go_wp2_with fail
    refine HNS.out.mono ?_
    rintro e w2 ⟨z, rfl, hz, hk⟩
    have HZ := Lib.hid hz
    have hzz : ¬ (9223372036854775807 < 7 + z.size) := by rw [Lib.size_eq, hz]; omega
    have HKE := Lib.hid ((HK1.out.alloc _).trans hk)
    clear hz hk HNS
    go_wp2_with fail
    go_ret
    exact ⟨_, rfl, by rw [cat_data, HZ.out, HWR.out]; first | rfl | simp [numsT, joinC, backendT, vipT, retireT, releaseT, evictT, admitT, udpT, tcpT, membersT], HKE.out⟩
  by_cases hk6 : o.kind = 6
  · skip
    have q1 : (o.kind == 1) = false := by rw [hk6]; rfl
    have q2 : (o.kind == 2) = false := by rw [hk6]; rfl
    have q3 : (o.kind == 3) = false := by rw [hk6]; rfl
    have q4 : (o.kind == 4) = false := by rw [hk6]; rfl
    have q5 : (o.kind == 5) = false := by rw [hk6]; rfl
    have q6 : (o.kind == 6) = true := by rw [hk6]; rfl
    have HWR := Lib.hid (show joinC 32 (opG adrT proR o) = joinC 32 [evictT, numT (oback : Int)] by unfold opG; rw [if_neg (by omega), if_neg (by omega), if_neg (by omega), if_neg (by omega), if_neg (by omega), if_pos hk6, HB.out])
    clear hk1 hk2 hk3 hk4 hk5 hk6
    have HNS := Lib.hid (nums_cells [oback] _ (w1.alloc (.cells #[.int .i64 (oback : Int)] 3)) (by simp) (Blk.new w1 3 #[.int .i64 (oback : Int)]) (by simp; omega))
    have ln0 : (numsT [oback]).length ≤ 21 := numsT_len _ (by simp; omega)
    go_wp2_with fail
    refine HNS.out.mono ?_
    rintro e w2 ⟨z, rfl, hz, hk⟩
    have HZ := Lib.hid hz
    have hzz : ¬ (9223372036854775807 < 5 + z.size) := by rw [Lib.size_eq, hz]; omega
    have HKE := Lib.hid ((HK1.out.alloc _).trans hk)
    clear hz hk HNS
    go_wp2_with fail
    go_ret
    exact ⟨_, rfl, by rw [cat_data, HZ.out, HWR.out]; first | rfl | simp [numsT, joinC, backendT, vipT, retireT, releaseT, evictT, admitT, udpT, tcpT, membersT], HKE.out⟩
  by_cases hk7 : o.kind = 7
  · skip
    have q1 : (o.kind == 1) = false := by rw [hk7]; rfl
    have q2 : (o.kind == 2) = false := by rw [hk7]; rfl
    have q3 : (o.kind == 3) = false := by rw [hk7]; rfl
    have q4 : (o.kind == 4) = false := by rw [hk7]; rfl
    have q5 : (o.kind == 5) = false := by rw [hk7]; rfl
    have q6 : (o.kind == 6) = false := by rw [hk7]; rfl
    have q7 : (o.kind == 7) = true := by rw [hk7]; rfl
    have HWR := Lib.hid (show joinC 32 (opG adrT proR o) = joinC 32 [admitT, numT (oback : Int)] by unfold opG; rw [if_neg (by omega), if_neg (by omega), if_neg (by omega), if_neg (by omega), if_neg (by omega), if_neg (by omega), if_pos hk7, HB.out])
    clear hk1 hk2 hk3 hk4 hk5 hk6 hk7
    have HNS := Lib.hid (nums_cells [oback] _ (w1.alloc (.cells #[.int .i64 (oback : Int)] 3)) (by simp) (Blk.new w1 3 #[.int .i64 (oback : Int)]) (by simp; omega))
    have ln0 : (numsT [oback]).length ≤ 21 := numsT_len _ (by simp; omega)
    go_wp2_with fail
    refine HNS.out.mono ?_
    rintro e w2 ⟨z, rfl, hz, hk⟩
    have HZ := Lib.hid hz
    have hzz : ¬ (9223372036854775807 < 5 + z.size) := by rw [Lib.size_eq, hz]; omega
    have HKE := Lib.hid ((HK1.out.alloc _).trans hk)
    clear hz hk HNS
    go_wp2_with fail
    go_ret
    exact ⟨_, rfl, by rw [cat_data, HZ.out, HWR.out]; first | rfl | simp [numsT, joinC, backendT, vipT, retireT, releaseT, evictT, admitT, udpT, tcpT, membersT], HKE.out⟩
  have HWR := Lib.hid (show joinC 32 (opG adrT proR o) = rotateT by unfold opG; rw [if_neg hk1, if_neg hk2, if_neg hk3, if_neg hk4, if_neg hk5, if_neg hk6, if_neg hk7]; rfl)
  have q1 : (o.kind == 1) = false := beq_eq_false_iff_ne.2 hk1
  have q2 : (o.kind == 2) = false := beq_eq_false_iff_ne.2 hk2
  have q3 : (o.kind == 3) = false := beq_eq_false_iff_ne.2 hk3
  have q4 : (o.kind == 4) = false := beq_eq_false_iff_ne.2 hk4
  have q5 : (o.kind == 5) = false := beq_eq_false_iff_ne.2 hk5
  have q6 : (o.kind == 6) = false := beq_eq_false_iff_ne.2 hk6
  have q7 : (o.kind == 7) = false := beq_eq_false_iff_ne.2 hk7
  clear hk1 hk2 hk3 hk4 hk5 hk6 hk7
  go_wp2_with fail
  go_ret
  exact ⟨_, rfl, by rw [HWR.out]; rfl, HK1.out⟩
end Go.Proofs.YthfdhggcnkgjfaaGreatDoor
