/- A new fleet: Shim, Replica, node; the controller's Len, Told; follow.Offer; offer, act, Do of 'offer 0'. -/
import Derived.Test.YtdnbhmfofphblaaGreatDoorVJ
namespace Go.Proofs.YtdnbhmfofphblaaGreatDoor
open Go.RowKit
set_option maxRecDepth 100000
set_option linter.unusedVariables false
set_option linter.unusedSimpArgs false
theorem pickS (B : Nat) (TA : Option Addr) (tc sb : Nat) (w : World) (hR : Row w B 40 (.slice TA 1 tc) [.pointer (some ⟨sb, 0, none⟩)]) :
    Calls Tryz.prog 22 #[.slice TA 1 tc, .int .i64 0] w fun e w' => e = .returned (.pointer (some ⟨sb, 0, none⟩)) ∧ w = w' := by
  obtain ⟨g, c, hve, -, -, hc⟩ := hR.at (i := 0) (by simp)
  injection hve with ea en ec
  subst ea ec
  clear en
  have c0 : w.cell? ⟨g, 0, none⟩ = some (.pointer (some ⟨sb, 0, none⟩)) := hc 0 (by simp)
  clear hc hR
  go_enter Tryz.func22, Tryz.ntmps22
  go_wp2
  go_ret
  exact ⟨rfl, rfl⟩
theorem pickR (B : Nat) (RA : Option Addr) (rc ra : Nat) (w : World) (hR : Row w B 78 (.slice RA 1 rc) [.pointer (some ⟨ra, 0, none⟩)]) :
    Calls Tryz.prog 269 #[.slice RA 1 rc, .int .i64 0] w fun e w' => e = .returned (.pointer (some ⟨ra, 0, none⟩)) ∧ w = w' := by
  obtain ⟨g, c, hve, -, -, hc⟩ := hR.at (i := 0) (by simp)
  injection hve with ea en ec
  subst ea ec
  clear en
  have c0 : w.cell? ⟨g, 0, none⟩ = some (.pointer (some ⟨ra, 0, none⟩)) := hc 0 (by simp)
  clear hc hR
  go_enter Tryz.func269, Tryz.ntmps269
  go_wp2
  go_ret
  exact ⟨rfl, rfl⟩
theorem shimOf (k : Nat → Int) (xb db cl mb B : Nat) (RA TA : Option Addr) (rc tc sb : Nat) (w : World) (hX : Blk w xb 73 #[.int .u8 (k 0), .int .u8 (k 1), .int .u8 (k 2), .int .u8 (k 3), .int .u8 (k 4), .int .u8 (k 5), .int .u8 (k 6), .int .u8 (k 7), .int .u8 (k 8), .int .u8 (k 9), .int .u8 (k 10), .int .u8 (k 11), .int .u8 (k 12), .int .u8 (k 13), .int .u8 (k 14), .int .u8 (k 15), .int .u32 0, .pointer (some ⟨db, 0, none⟩), .pointer (some ⟨cl, 0, none⟩), .slice RA 1 rc, .slice TA 1 tc, .slice none 0 0, .pointer (some ⟨mb, 0, none⟩)]) (hR : Row w B 40 (.slice TA 1 tc) [.pointer (some ⟨sb, 0, none⟩)]) :
    Calls Tryz.prog 6 #[.pointer (some ⟨xb, 0, none⟩), .int .i64 0] w fun e w' => e = .returned (.pointer (some ⟨sb, 0, none⟩)) ∧ w = w' := by
  have HP := Lib.hid (pickS B TA tc sb w hR)
  have cX := hX.cell
  have lX := hX.lt
  have fX := hX.frozen
  clear hX hR
  go_enter Tryz.func6, Tryz.ntmps6
  go_wp2_with fail
  refine HP.out.mono ?_
  rintro e w' ⟨rfl, rfl⟩
  go_wp2_with fail
  go_ret
  exact ⟨rfl, rfl⟩
theorem repOf (k : Nat → Int) (xb db cl mb B : Nat) (RA TA : Option Addr) (rc tc ra : Nat) (w : World) (hX : Blk w xb 73 #[.int .u8 (k 0), .int .u8 (k 1), .int .u8 (k 2), .int .u8 (k 3), .int .u8 (k 4), .int .u8 (k 5), .int .u8 (k 6), .int .u8 (k 7), .int .u8 (k 8), .int .u8 (k 9), .int .u8 (k 10), .int .u8 (k 11), .int .u8 (k 12), .int .u8 (k 13), .int .u8 (k 14), .int .u8 (k 15), .int .u32 0, .pointer (some ⟨db, 0, none⟩), .pointer (some ⟨cl, 0, none⟩), .slice RA 1 rc, .slice TA 1 tc, .slice none 0 0, .pointer (some ⟨mb, 0, none⟩)]) (hR : Row w B 78 (.slice RA 1 rc) [.pointer (some ⟨ra, 0, none⟩)]) :
    Calls Tryz.prog 209 #[.pointer (some ⟨xb, 0, none⟩), .int .i64 0] w fun e w' => e = .returned (.pointer (some ⟨ra, 0, none⟩)) ∧ w = w' := by
  have HP := Lib.hid (pickR B RA rc ra w hR)
  have cX := hX.cell
  have lX := hX.lt
  have fX := hX.frozen
  clear hX hR
  go_enter Tryz.func209, Tryz.ntmps209
  go_wp2_with fail
  refine HP.out.mono ?_
  rintro e w' ⟨rfl, rfl⟩
  go_wp2_with fail
  go_ret
  exact ⟨rfl, rfl⟩
theorem nodeOf (k : Nat → Int) (xb db cl mb B : Nat) (RA TA : Option Addr) (rc tc ra : Nat) (w : World) (hX : Blk w xb 73 #[.int .u8 (k 0), .int .u8 (k 1), .int .u8 (k 2), .int .u8 (k 3), .int .u8 (k 4), .int .u8 (k 5), .int .u8 (k 6), .int .u8 (k 7), .int .u8 (k 8), .int .u8 (k 9), .int .u8 (k 10), .int .u8 (k 11), .int .u8 (k 12), .int .u8 (k 13), .int .u8 (k 14), .int .u8 (k 15), .int .u32 0, .pointer (some ⟨db, 0, none⟩), .pointer (some ⟨cl, 0, none⟩), .slice RA 1 rc, .slice TA 1 tc, .slice none 0 0, .pointer (some ⟨mb, 0, none⟩)]) (hR : Row w B 78 (.slice RA 1 rc) [.pointer (some ⟨ra, 0, none⟩)]) :
    Calls Tryz.prog 197 #[.pointer (some ⟨xb, 0, none⟩), .int .i64 0] w fun e w' => e = .returned (.pointer (some ⟨ra, 0, none⟩)) ∧ w = w' := by
  have HP := Lib.hid (repOf k xb db cl mb B RA TA rc tc ra w hX hR)
  clear hX hR
  go_enter Tryz.func197, Tryz.ntmps197
  go_wp2_with fail
  refine HP.out.mono ?_
  rintro e w' ⟨rfl, rfl⟩
  go_wp2_with fail
  go_ret
  exact ⟨rfl, rfl⟩
set_option maxRecDepth 100000 in
set_option maxHeartbeats 2000000 in
theorem clen (cl jb nb db st su rm : Nat) (w : World) (hC : Ctl w cl jb nb db st su rm) : Calls Tryz.prog 258 #[.pointer (some ⟨cl, 0, none⟩)] w fun e w' => e = .returned (.tuple #[.int .i64 0, .int .i64 0]) ∧ Kept (fun _ => False) w w' := by
  have HC := Lib.hid hC
  clear hC
  go_enter Tryz.func258, Tryz.ntmps258
  go_upto_region 3 with fail
  refine wp_region_kept 11 [(8, fun v u => v = .int .i64 0)] ?st ?ne rfl (by kernel_rfl) (by kernel_rfl) ?_
  case st =>
    intro p hp
    simp only [List.mem_cons, List.not_mem_nil, or_false] at hp
    subst hp
    · intro v u u' h hk; exact h
  case ne =>
    intro p hp
    simp only [List.mem_cons, List.not_mem_nil, or_false] at hp
    subst hp
    · exact ⟨_, _, Kept.refl _ _, rfl⟩
  simp only [List.take_succ_cons, List.take_zero, List.drop_succ_cons, List.drop_zero]
  intro G pick hR hp1 hp2
  have sC : ∀ u i, (pick u).cell? ⟨cl, i, none⟩ = (#[.pointer (some ⟨jb, 0, none⟩), .int .i64 0, .pointer (some ⟨st, 0, none⟩), .pointer (some ⟨su, 0, none⟩), .map (some rm), .slice (some ⟨nb, 0, none⟩) 2 2] : Array Value)[i]? := fun u i => ((hp1 u).cell HC.out.c.lt (fun h => h) _).trans (HC.out.c.cell i)
  repeat (first | (refine wpR_det hp2 rfl ((hR.rel _).trans rfl) rfl ?_; intro K hK; go_big_quiet_op; go_big_quiet_on) | (refine wpR_ptr hp2 rfl ((hR.rel _).trans rfl) rfl rfl ?_; intro K hK; go_big_quiet_op; go_big_quiet_on) | (refine wpR_skip pick rfl ?_; intro K hK; go_big_quiet_op; go_big_quiet_on))
  refine wpR_rel pick rfl ((hR.rel _).trans rfl) ((hR.turns _).trans rfl) ?_ ?_
  · intro u hu
    have hk := hR.since hu.1
    have hks := hk.size
    unfold relAt
    go_simp
    refine (jouLen db jb u (HC.out.j.kept hk (fun h => h))).mono ?_
    rintro e' w' ⟨rfl, rfl⟩
    exact ⟨_, rfl, hR.same, hR.put 0 rfl rfl rfl⟩
  intro v hv
  obtain ⟨u, _, hu⟩ := hv
  obtain rfl := hR.get 0 rfl hu
  clear hu
  intro K hK
  go_big_quiet_op
  go_big_quiet_on
  repeat (first | (refine wpR_det hp2 rfl ((hR.rel _).trans rfl) rfl ?_; intro K hK; go_big_quiet_op; go_big_quiet_on) | (refine wpR_ptr hp2 rfl ((hR.rel _).trans rfl) rfl rfl ?_; intro K hK; go_big_quiet_op; go_big_quiet_on) | (refine wpR_skip pick rfl ?_; intro K hK; go_big_quiet_op; go_big_quiet_on))
  refine wpR_nil ?_
  intro w2 hk2 hF hM
  clear hF hM hp1 hp2 hR sC
  go_wp2_with fail
  go_ret2
  exact ⟨rfl, hk2⟩
set_option maxRecDepth 100000 in
set_option maxHeartbeats 2000000 in
theorem catT (cl jb nb db st su rm : Nat) (w : World) (hC : Ctl w cl jb nb db st su rm) : Calls Tryz.prog 262 #[.pointer (some ⟨cl, 0, none⟩), .int .i64 0] w fun e w' => e = .returned (.agg #[.int .u64 0, .int .u64 0]) ∧ Kept (fun _ => False) w w' := by
  have HC := Lib.hid hC
  clear hC
  go_enter Tryz.func262, Tryz.ntmps262
  go_upto_region 1 with fail
  obtain ⟨w1, hw1⟩ : ∃ w1 : World, w1 = (w.alloc (.cells #[.int .u64 0, .int .u64 0] 399)) := ⟨_, rfl⟩
  have HRB1 := Lib.hid (show Blk w1 w.heap.size 399 #[.int .u64 0, .int .u64 0] by rw [hw1]; exact Blk.new _ _ _)
  have HK1 := Lib.hid (show Kept (fun _ => False) w w1 by rw [hw1]; exact (Kept.refl _ _).alloc _)
  rw [← hw1]
  clear hw1
  obtain ⟨rb, hrb⟩ : ∃ rb, w.heap.size = rb := ⟨_, rfl⟩
  rw [hrb] at HRB1
  (try rw [hrb])
  have HNE := Lib.hid (show rb = w.heap.size + 0 ∧ True from ⟨by omega, trivial⟩)
  clear hrb
  have cRB := HRB1.out.cell
  have lRB := HRB1.out.lt
  have fRB := HRB1.out.frozen
  have HC1 := Lib.hid (HC.out.kept HK1.out (fun h => h) (fun h => h) (fun h => h))
  have cC := HC1.out.c.cell
  have lC := HC1.out.c.lt
  have fC := HC1.out.c.frozen
  have cN := HC1.out.n.cell
  have lN := HC1.out.n.lt
  have fN := HC1.out.n.frozen
  go_wp2_with (first | (show wpList _ _ _ ((⟨_, .load 399 (.tmp 26), _, _, _, none⟩ : Oper) :: _) _ _; refine wpList_load_mid rfl 399 (.tmp 26) rfl nb 0 rfl [.int .u64 0, .int .u64 0] _ (HC1.out.n.rangePre [.int .u64 0, .int .u64 0] [.int .u64 0, .int .u64 0] rfl) Tryz.underlying399 rfl (by kernel_rfl) ?_) | (show wpList _ _ _ ((⟨none, .store 399 (.tmp 4) _, _, _, _, none⟩ : Oper) :: _) _ _; refine wpList_store_mid rfl 399 (.tmp 4) _ rfl rb 0 #[.int .u64 0, .int .u64 0] rfl rfl (HRB1.out.there rfl) (by kernel_rfl) (by simp [Value.oneCell']) ?_))
  generalize hwq : World.setCells _ _ _ _ = w2
  have HX2 := Lib.hid (show Kept (fun i => i = rb) w1 w2 by rw [← hwq]; exact Kept.setCells (S := fun i => i = rb) rfl _ _ (Kept.refl _ _))
  have HRB2 := Lib.hid (show Blk w2 rb 399 #[.int .u64 0, .int .u64 0] by rw [← hwq]; exact HRB1.out.setAll #[.int .u64 0, .int .u64 0] rfl)
  have HK2 := Lib.hid (HK1.out.then HX2.out (fun i hi e => by have := HNE.out; omega))
  clear cRB lRB fRB
  clear hwq
  have cRB := HRB2.out.cell
  have lRB := HRB2.out.lt
  have fRB := HRB2.out.frozen
  exact bodyPost_ret (results_blk1 (P := Tryz.prog) (show Tryz.f262.results = _ from rfl) _ _ rb 399 #[.int .u64 0, .int .u64 0] _ rfl HRB2.out Tryz.underlying399 rfl (by kernel_rfl)) rfl ⟨rfl, HK2.out⟩
set_option maxRecDepth 100000 in
set_option maxHeartbeats 2000000 in
theorem toldT (cl jb nb db st su rm : Nat) (w : World) (hC : Ctl w cl jb nb db st su rm) : Calls Tryz.prog 199 #[.pointer (some ⟨cl, 0, none⟩), .int .i64 0] w fun e w' => e = .returned (.int .u64 0) ∧ Kept (fun _ => False) w w' := by
  have HA := Lib.hid (catT cl jb nb db st su rm w hC)
  have hfd : ∀ W : World, (Instr.field 399 (.agg #[.int .u64 0, .int .u64 0]) 1).run Tryz.prog W = .ok (.int .u64 0) W := fun W => by kernel_rfl
  clear hC
  go_enter Tryz.func199, Tryz.ntmps199
  go_wp2_with fail
  refine HA.out.mono ?_
  rintro e w2 ⟨rfl, hk⟩
  go_wp2_with fail
  go_ret
  exact ⟨rfl, hk⟩
set_option maxRecDepth 100000 in
set_option maxHeartbeats 2000000 in
theorem offerNo (cl jb nb db st su rm : Nat) (w : World) (hC : Ctl w cl jb nb db st su rm) : Calls Tryz.prog 198 #[.pointer (some ⟨cl, 0, none⟩), .int .u64 0] w fun e w' => e = .returned (.tuple #[.agg #[.int .i64 0, .int .u64 0, .slice none 0 0], .bool false]) ∧ Kept (fun _ => False) w w' := by
  have HC := Lib.hid hC
  clear hC
  go_enter Tryz.func198, Tryz.ntmps198
  go_upto_region 1 with fail
  obtain ⟨w1, hw1⟩ : ∃ w1 : World, w1 = (w.alloc (.cells #[.int .i64 0, .int .u64 0, .slice none 0 0] 347)) := ⟨_, rfl⟩
  have HRB1 := Lib.hid (show Blk w1 w.heap.size 347 #[.int .i64 0, .int .u64 0, .slice none 0 0] by rw [hw1]; exact Blk.new _ _ _)
  have HK1 := Lib.hid (show Kept (fun _ => False) w w1 by rw [hw1]; exact (Kept.refl _ _).alloc _)
  rw [← hw1]
  clear hw1
  obtain ⟨rb, hrb⟩ : ∃ rb, w.heap.size = rb := ⟨_, rfl⟩
  rw [hrb] at HRB1
  (try rw [hrb])
  have HNE := Lib.hid (show rb = w.heap.size + 0 ∧ True from ⟨by omega, trivial⟩)
  clear hrb
  have cRB := HRB1.out.cell
  have lRB := HRB1.out.lt
  have fRB := HRB1.out.frozen
  go_wp2_with fail
  refine (clen cl jb nb db st su rm w1 (HC.out.kept HK1.out (fun h => h) (fun h => h) (fun h => h))).mono ?_
  rintro e w2 ⟨rfl, hk⟩
  have HRB2 := Lib.hid (HRB1.out.kept hk (fun h => h))
  have HK2 := Lib.hid (HK1.out.trans hk)
  clear hk cRB lRB fRB
  go_wp2_with (show wpList _ _ _ ((⟨none, .store 347 (.tmp 4) _, _, _, _, none⟩ : Oper) :: _) _ _; refine wpList_store_mid rfl 347 (.tmp 4) _ rfl rb 0 #[.int .i64 0, .int .u64 0, .slice none 0 0] rfl rfl (HRB2.out.there rfl) (by kernel_rfl) (by simp [Value.oneCell']) ?_)
  generalize hwq : (World.setCells _ _ _ _) = w3
  have HX3 := Lib.hid (show Kept (fun i => i = rb) w2 w3 by rw [← hwq]; exact Kept.setCells (S := fun i => i = rb) rfl _ _ (Kept.refl _ _))
  have HRB3 := Lib.hid (show Blk w3 rb 347 #[.int .i64 0, .int .u64 0, .slice none 0 0] by rw [← hwq]; exact HRB2.out.setAll #[.int .i64 0, .int .u64 0, .slice none 0 0] rfl)
  clear hwq
  exact bodyPost_ret (results_blk_tmp (P := Tryz.prog) (show Tryz.f198.results = _ from rfl) _ _ rb 347 #[.int .i64 0, .int .u64 0, .slice none 0 0] _ rfl HRB3.out Tryz.underlying347 rfl (by kernel_rfl)) rfl ⟨rfl, HK2.out.then HX3.out (fun i hi e => by have := HNE.out; omega)⟩
set_option maxRecDepth 100000 in
set_option maxHeartbeats 2000000 in
theorem fltOffer (k : Nat → Int) (xb cl jb nb db mb st su rm B : Nat) (RA TA : Option Addr) (rc ra tc : Nat) (w : World) (hX : Blk w xb 73 #[.int .u8 (k 0), .int .u8 (k 1), .int .u8 (k 2), .int .u8 (k 3), .int .u8 (k 4), .int .u8 (k 5), .int .u8 (k 6), .int .u8 (k 7), .int .u8 (k 8), .int .u8 (k 9), .int .u8 (k 10), .int .u8 (k 11), .int .u8 (k 12), .int .u8 (k 13), .int .u8 (k 14), .int .u8 (k 15), .int .u32 0, .pointer (some ⟨db, 0, none⟩), .pointer (some ⟨cl, 0, none⟩), .slice RA 1 rc, .slice TA 1 tc, .slice none 0 0, .pointer (some ⟨mb, 0, none⟩)]) (hC : Ctl w cl jb nb db st su rm) (hR : Row w B 78 (.slice RA 1 rc) [.pointer (some ⟨ra, 0, none⟩)]) :
    Calls Tryz.prog 155 #[.pointer (some ⟨xb, 0, none⟩), .int .i64 0] w fun e w' => e = .returned (.int .i64 6) ∧ Kept (fun _ => False) w w' := by
  have HP := Lib.hid (nodeOf k xb db cl mb B RA TA rc tc ra w hX hR)
  have HX := Lib.hid hX
  have HC := Lib.hid hC
  clear hX hC hR
  go_enter Tryz.func155, Tryz.ntmps155
  go_wp2_with fail
  refine HP.out.mono ?_
  rintro e w' ⟨rfl, rfl⟩
  go_upto_region 3 with fail
  refine wp_region_add 17 (fun i => w.heap.size ≤ i) [14, 15] [14] [(9, fun v u => v = .int .u64 0), (10, fun v u => v = .tuple #[.agg #[.int .i64 0, .int .u64 0, .slice none 0 0], .bool false]), (14, fun v u => ∃ g, v = .pointer (some ⟨g, 0, none⟩) ∧ w.heap.size ≤ g ∧ Blk u g 347 #[.int .i64 0, .int .u64 0, .slice none 0 0]), (15, fun v u => True)] ?st ?ne rfl (by kernel_rfl) (by kernel_rfl) (by kernel_rfl) ?_
  case st =>
    intro p hp
    simp only [List.mem_cons, List.not_mem_nil, or_false] at hp
    rcases hp with rfl | rfl | rfl | rfl
    · intro v u u' h hk; exact h
    · intro v u u' h hk; exact h
    · rintro v u u' ⟨g, h1, h2, h3⟩ hk; exact ⟨g, h1, h2, h3.kept hk (fun h => h)⟩
    · intro v u u' h hk; trivial
  case ne =>
    intro p hp
    simp only [List.mem_cons, List.not_mem_nil, or_false] at hp
    rcases hp with rfl | rfl | rfl | rfl
    · exact ⟨_, _, Kept.refl _ _, rfl⟩
    · exact ⟨_, _, Kept.refl _ _, rfl⟩
    · exact ⟨_, _, (Kept.refl _ _).alloc _, w.heap.size, rfl, Nat.le_refl _, Blk.new _ _ _⟩
    · exact ⟨undef, w, Kept.refl _ _, trivial⟩
  simp only [List.take_succ_cons, List.take_zero, List.drop_succ_cons, List.drop_zero]
  intro G pick hR hp1 hp2
  have sX : ∀ u i, (pick u).cell? ⟨xb, i, none⟩ = (#[.int .u8 (k 0), .int .u8 (k 1), .int .u8 (k 2), .int .u8 (k 3), .int .u8 (k 4), .int .u8 (k 5), .int .u8 (k 6), .int .u8 (k 7), .int .u8 (k 8), .int .u8 (k 9), .int .u8 (k 10), .int .u8 (k 11), .int .u8 (k 12), .int .u8 (k 13), .int .u8 (k 14), .int .u8 (k 15), .int .u32 0, .pointer (some ⟨db, 0, none⟩), .pointer (some ⟨cl, 0, none⟩), .slice RA 1 rc, .slice TA 1 tc, .slice none 0 0, .pointer (some ⟨mb, 0, none⟩)] : Array Value)[i]? := fun u i => ((hp1 u).cell HX.out.lt (fun h => by have := HX.out.lt; omega) _).trans (HX.out.cell i)
  repeat (first | (refine wpR_det hp2 rfl ((hR.rel _).trans rfl) rfl ?_; intro K hK; go_big_quiet_op; go_big_quiet_on) | (refine wpR_ptr hp2 rfl ((hR.rel _).trans rfl) rfl rfl ?_; intro K hK; go_big_quiet_op; go_big_quiet_on) | (refine wpR_skip pick rfl ?_; intro K hK; go_big_quiet_op; go_big_quiet_on))
  refine wpR_rel pick rfl ((hR.rel _).trans rfl) ((hR.turns _).trans rfl) ?_ ?_
  · intro u hu
    have hk := hR.since hu.1
    have hks := hk.size
    unfold relAt
    go_simp
    refine (toldT cl jb nb db st su rm u (HC.out.kept hk (fun h => by have := HC.out.c.lt; omega) (fun h => by have := HC.out.j.lt; omega) (fun h => by have := HC.out.n.lt; omega))).mono ?_
    rintro e' w' ⟨rfl, hk'⟩
    exact ⟨_, rfl, hR.into0 hk', hR.put 0 rfl rfl rfl⟩
  intro v hv
  obtain ⟨u, _, hu⟩ := hv
  obtain rfl := hR.get 0 rfl hu
  clear hu
  intro K hK
  go_big_quiet_op
  go_big_quiet_on
  repeat (first | (refine wpR_det hp2 rfl ((hR.rel _).trans rfl) rfl ?_; intro K hK; go_big_quiet_op; go_big_quiet_on) | (refine wpR_ptr hp2 rfl ((hR.rel _).trans rfl) rfl rfl ?_; intro K hK; go_big_quiet_op; go_big_quiet_on) | (refine wpR_skip pick rfl ?_; intro K hK; go_big_quiet_op; go_big_quiet_on))
  refine wpR_rel pick rfl ((hR.rel _).trans rfl) ((hR.turns _).trans rfl) ?_ ?_
  · intro u hu
    have hk := hR.since hu.1
    have hks := hk.size
    unfold relAt
    go_simp
    refine (offerNo cl jb nb db st su rm u (HC.out.kept hk (fun h => by have := HC.out.c.lt; omega) (fun h => by have := HC.out.j.lt; omega) (fun h => by have := HC.out.n.lt; omega))).mono ?_
    rintro e' w' ⟨rfl, hk'⟩
    exact ⟨_, rfl, hR.into0 hk', hR.put 1 rfl rfl rfl⟩
  intro v hv
  obtain ⟨u, _, hu⟩ := hv
  obtain rfl := hR.get 1 rfl hu
  clear hu
  intro K hK
  go_big_quiet_op
  go_big_quiet_on
  repeat (first | (refine wpR_det hp2 rfl ((hR.rel _).trans rfl) rfl ?_; intro K hK; go_big_quiet_op; go_big_quiet_on) | (refine wpR_ptr hp2 rfl ((hR.rel _).trans rfl) rfl rfl ?_; intro K hK; go_big_quiet_op; go_big_quiet_on) | (refine wpR_skip pick rfl ?_; intro K hK; go_big_quiet_op; go_big_quiet_on))
  refine wpR_add pick rfl ((hR.rel _).trans rfl) ((hR.turns _).trans rfl) ((hR.adds _).trans rfl) ?_ ?_
  · intro u hu hM
    have hk := hR.since hu.1
    have hks := hk.size
    unfold relAt
    go_simp
    exact ⟨hR.into0 ((Kept.refl _ _).alloc _), hR.put 2 rfl rfl ⟨_, rfl, hks, Blk.new _ _ _⟩⟩
  intro v hv
  obtain ⟨u, _, hu⟩ := hv
  obtain ⟨g, rfl, hg, -⟩ := hR.get 2 rfl hu
  clear hu
  intro K hK
  go_big_quiet_op
  go_big_quiet_on
  repeat (first | (refine wpR_det hp2 rfl ((hR.rel _).trans rfl) rfl ?_; intro K hK; go_big_quiet_op; go_big_quiet_on) | (refine wpR_ptr hp2 rfl ((hR.rel _).trans rfl) rfl rfl ?_; intro K hK; go_big_quiet_op; go_big_quiet_on) | (refine wpR_skip pick rfl ?_; intro K hK; go_big_quiet_op; go_big_quiet_on))
  refine wpR_turn pick rfl ((hR.rel _).trans rfl) ((hR.turns _).trans rfl) ((hR.adds _).trans rfl) ?_ ?_
  · intro u hu hM
    have hk := hR.since hu.1
    have hks := hk.size
    obtain ⟨g', e', -, hb⟩ := hR.get 2 rfl hM.2
    obtain rfl : g = g' := by injection e' with e'; injection e' with e'; injection e'
    refine relAt_store_mid 347 (.tmp 5) (.tmp 23) rfl g 0 #[.int .i64 0, .int .u64 0, .slice none 0 0] rfl rfl (hb.there rfl) (by kernel_rfl) (by simp [Value.oneCell']) ?_
    exact ⟨hR.into (Kept.setCells (S := fun i => w.heap.size ≤ i) hg _ _ (Kept.refl _ _)), hR.put 3 rfl rfl trivial⟩
  intro v hv
  obtain ⟨u, _, hu⟩ := hv
  obtain - := hR.get 3 rfl hu
  clear hu
  intro K hK
  go_big_quiet_op
  go_big_quiet_on
  repeat (first | (refine wpR_det hp2 rfl ((hR.rel _).trans rfl) rfl ?_; intro K hK; go_big_quiet_op; go_big_quiet_on) | (refine wpR_ptr hp2 rfl ((hR.rel _).trans rfl) rfl rfl ?_; intro K hK; go_big_quiet_op; go_big_quiet_on) | (refine wpR_skip pick rfl ?_; intro K hK; go_big_quiet_op; go_big_quiet_on))
  refine wpR_nil ?_
  intro w2 hk2 hF hM
  have HK2 := Lib.hid (show Kept (fun _ => False) w w2 from hk2.mono (fun i hi h => by omega))
  clear hF hM hp1 hp2 hR hk2 sX
  go_wp2_with fail
  go_ret
  exact ⟨rfl, HK2.out⟩
set_option maxRecDepth 100000 in
set_option maxHeartbeats 2000000 in
theorem fltAct (k : Nat → Int) (xb cl jb nb db mb st su rm B : Nat) (RA TA : Option Addr) (rc ra tc : Nat) (w : World) (hX : Blk w xb 73 #[.int .u8 (k 0), .int .u8 (k 1), .int .u8 (k 2), .int .u8 (k 3), .int .u8 (k 4), .int .u8 (k 5), .int .u8 (k 6), .int .u8 (k 7), .int .u8 (k 8), .int .u8 (k 9), .int .u8 (k 10), .int .u8 (k 11), .int .u8 (k 12), .int .u8 (k 13), .int .u8 (k 14), .int .u8 (k 15), .int .u32 0, .pointer (some ⟨db, 0, none⟩), .pointer (some ⟨cl, 0, none⟩), .slice RA 1 rc, .slice TA 1 tc, .slice none 0 0, .pointer (some ⟨mb, 0, none⟩)]) (hC : Ctl w cl jb nb db st su rm) (hR : Row w B 78 (.slice RA 1 rc) [.pointer (some ⟨ra, 0, none⟩)]) :
    Calls Tryz.prog 161 #[.pointer (some ⟨xb, 0, none⟩), .agg #[.int .i64 3, .int .i64 0, .int .i64 0, .int .i64 0, .int .i64 0, .bool false, .int .u64 0, .int .u64 0, .int .u16 0, .int .u8 0, .int .i64 0, .slice none 0 0, .int .i64 0, .int .i64 0, .int .u8 0, .slice none 0 0, .int .u32 0, .int .u32 0, .int .u32 0, .bool false, .int .u64 0, .int .u64 0, .int .u16 0]] w fun e w' => e = .returned (.int .i64 6) ∧ Kept (fun _ => False) w w' := by
  have HX := Lib.hid hX
  have HC := Lib.hid hC
  have HR := Lib.hid hR
  clear hX hC hR
  go_enter Tryz.func161, Tryz.ntmps161
  go_upto_region 1 with fail
  obtain ⟨w1, hw1⟩ : ∃ w1 : World, w1 = (w.alloc (.cells #[.int .i64 3, .int .i64 0, .int .i64 0, .int .i64 0, .int .i64 0, .bool false, .int .u64 0, .int .u64 0, .int .u16 0, .int .u8 0, .int .i64 0, .slice none 0 0, .int .i64 0, .int .i64 0, .int .u8 0, .slice none 0 0, .int .u32 0, .int .u32 0, .int .u32 0, .bool false, .int .u64 0, .int .u64 0, .int .u16 0] 227)) := ⟨_, rfl⟩
  have HQB1 := Lib.hid (show Blk w1 w.heap.size 227 #[.int .i64 3, .int .i64 0, .int .i64 0, .int .i64 0, .int .i64 0, .bool false, .int .u64 0, .int .u64 0, .int .u16 0, .int .u8 0, .int .i64 0, .slice none 0 0, .int .i64 0, .int .i64 0, .int .u8 0, .slice none 0 0, .int .u32 0, .int .u32 0, .int .u32 0, .bool false, .int .u64 0, .int .u64 0, .int .u16 0] by rw [hw1]; exact Blk.new _ _ _)
  have HK1 := Lib.hid (show Kept (fun _ => False) w w1 by rw [hw1]; exact (Kept.refl _ _).alloc _)
  rw [← hw1]
  clear hw1
  obtain ⟨qb, hqb⟩ : ∃ qb, w.heap.size = qb := ⟨_, rfl⟩
  rw [hqb] at HQB1
  (try rw [hqb])
  have HNE := Lib.hid (show qb = w.heap.size + 0 ∧ True from ⟨by omega, trivial⟩)
  clear hqb
  have cQB := HQB1.out.cell
  have lQB := HQB1.out.lt
  have fQB := HQB1.out.frozen
  go_wp2_with fail
  refine (fltOffer k xb cl jb nb db mb st su rm B RA TA rc ra tc w1 (HX.out.kept HK1.out (fun h => h)) (HC.out.kept HK1.out (fun h => h) (fun h => h) (fun h => h)) (Row.kept HR.out HK1.out (fun _ _ h => h))).mono ?_
  rintro e w2 ⟨rfl, hk⟩
  go_wp2_with fail
  go_ret
  exact ⟨rfl, HK1.out.trans hk⟩
set_option maxRecDepth 100000 in
set_option maxHeartbeats 2000000 in
theorem fltDo (k : Nat → Int) (xb cl jb nb db mb st su rm B : Nat) (RA TA : Option Addr) (rc ra tc : Nat) (w : World) (hX : Blk w xb 73 #[.int .u8 (k 0), .int .u8 (k 1), .int .u8 (k 2), .int .u8 (k 3), .int .u8 (k 4), .int .u8 (k 5), .int .u8 (k 6), .int .u8 (k 7), .int .u8 (k 8), .int .u8 (k 9), .int .u8 (k 10), .int .u8 (k 11), .int .u8 (k 12), .int .u8 (k 13), .int .u8 (k 14), .int .u8 (k 15), .int .u32 0, .pointer (some ⟨db, 0, none⟩), .pointer (some ⟨cl, 0, none⟩), .slice RA 1 rc, .slice TA 1 tc, .slice none 0 0, .pointer (some ⟨mb, 0, none⟩)]) (hC : Ctl w cl jb nb db st su rm) (hR : Row w B 78 (.slice RA 1 rc) [.pointer (some ⟨ra, 0, none⟩)]) :
    Calls Tryz.prog 98 #[.pointer (some ⟨xb, 0, none⟩), .agg #[.int .i64 3, .int .i64 0, .int .i64 0, .int .i64 0, .int .i64 0, .bool false, .int .u64 0, .int .u64 0, .int .u16 0, .int .u8 0, .int .i64 0, .slice none 0 0, .int .i64 0, .int .i64 0, .int .u8 0, .slice none 0 0, .int .u32 0, .int .u32 0, .int .u32 0, .bool false, .int .u64 0, .int .u64 0, .int .u16 0]] w fun e w' => e = .returned (.agg #[.int .i64 6, .int .i64 0, .int .i64 0, .int .i64 0, .slice none 0 0]) ∧ Kept (fun _ => False) w w' := by
  have HX := Lib.hid hX
  have HC := Lib.hid hC
  have HR := Lib.hid hR
  clear hX hC hR
  go_enter Tryz.func98, Tryz.ntmps98
  go_upto_region 1 with fail
  obtain ⟨w1, hw1⟩ : ∃ w1 : World, w1 = ((w.alloc (.cells #[.int .i64 3, .int .i64 0, .int .i64 0, .int .i64 0, .int .i64 0, .bool false, .int .u64 0, .int .u64 0, .int .u16 0, .int .u8 0, .int .i64 0, .slice none 0 0, .int .i64 0, .int .i64 0, .int .u8 0, .slice none 0 0, .int .u32 0, .int .u32 0, .int .u32 0, .bool false, .int .u64 0, .int .u64 0, .int .u16 0] 227)).alloc (.cells #[.int .i64 0, .int .i64 0, .int .i64 0, .int .i64 0, .slice none 0 0] 232)) := ⟨_, rfl⟩
  have HQB1 := Lib.hid (show Blk w1 w.heap.size 227 #[.int .i64 3, .int .i64 0, .int .i64 0, .int .i64 0, .int .i64 0, .bool false, .int .u64 0, .int .u64 0, .int .u16 0, .int .u8 0, .int .i64 0, .slice none 0 0, .int .i64 0, .int .i64 0, .int .u8 0, .slice none 0 0, .int .u32 0, .int .u32 0, .int .u32 0, .bool false, .int .u64 0, .int .u64 0, .int .u16 0] by rw [hw1]; exact (Blk.new _ _ _).alloc _)
  have HRB1 := Lib.hid (show Blk w1 (w.heap.size + 1) 232 #[.int .i64 0, .int .i64 0, .int .i64 0, .int .i64 0, .slice none 0 0] by rw [hw1]; exact Blk.new_ (by simp) _ _)
  have HK1 := Lib.hid (show Kept (fun _ => False) w w1 by rw [hw1]; exact ((Kept.refl _ _).alloc _).alloc _)
  rw [← hw1]
  clear hw1
  obtain ⟨rb, hrb⟩ : ∃ rb, w.heap.size + 1 = rb := ⟨_, rfl⟩
  rw [hrb] at HRB1
  (try rw [hrb])
  obtain ⟨qb, hqb⟩ : ∃ qb, w.heap.size = qb := ⟨_, rfl⟩
  rw [hqb] at HQB1
  (try rw [hqb])
  have HNE := Lib.hid (show qb = w.heap.size + 0 ∧ rb = w.heap.size + 1 ∧ True from ⟨by omega, by omega, trivial⟩)
  clear hqb hrb
  have cQB := HQB1.out.cell
  have lQB := HQB1.out.lt
  have fQB := HQB1.out.frozen
  have cRB := HRB1.out.cell
  have lRB := HRB1.out.lt
  have fRB := HRB1.out.frozen
  go_wp2_with (show wpList _ _ _ ((⟨_, .load 227 (.tmp 3), _, _, _, none⟩ : Oper) :: _) _ _; refine wpList_load_mid rfl 227 (.tmp 3) rfl qb 0 rfl [.int .i64 3, .int .i64 0, .int .i64 0, .int .i64 0, .int .i64 0, .bool false, .int .u64 0, .int .u64 0, .int .u16 0, .int .u8 0, .int .i64 0, .slice none 0 0, .int .i64 0, .int .i64 0, .int .u8 0, .slice none 0 0, .int .u32 0, .int .u32 0, .int .u32 0, .bool false, .int .u64 0, .int .u64 0, .int .u16 0] _ HQB1.out.range Tryz.underlying227 rfl (by kernel_rfl) ?_)
  refine (fltAct k xb cl jb nb db mb st su rm B RA TA rc ra tc w1 (HX.out.kept HK1.out (fun h => h)) (HC.out.kept HK1.out (fun h => h) (fun h => h) (fun h => h)) (Row.kept HR.out HK1.out (fun _ _ h => h))).mono ?_
  rintro e w2 ⟨rfl, hk⟩
  have HK2 := Lib.hid (HK1.out.trans hk)
  have HS2 := Lib.hid (show Kept (fun _ => False) w1 w2 from hk)
  have HQB2 := Lib.hid (HQB1.out.kept hk (fun h => h))
  have HRB2 := Lib.hid (HRB1.out.kept hk (fun h => h))
  clear cQB lQB fQB cRB lRB fRB
  have cQB := HQB2.out.cell
  have lQB := HQB2.out.lt
  have fQB := HQB2.out.frozen
  have cRB := HRB2.out.cell
  have lRB := HRB2.out.lt
  have fRB := HRB2.out.frozen
  clear hk
  go_wp2_with (show wpList _ _ _ ((⟨none, .store 232 (.tmp 4) _, _, _, _, none⟩ : Oper) :: _) _ _; refine wpList_store_mid rfl 232 (.tmp 4) _ rfl rb 0 #[.int .i64 6, .int .i64 0, .int .i64 0, .int .i64 0, .slice none 0 0] rfl rfl (HRB2.out.there rfl) (by kernel_rfl) (by simp [Value.oneCell']) ?_)
  generalize hwq : World.setCells _ _ _ _ = w3
  have HX3 := Lib.hid (show Kept (fun i => i = rb) w2 w3 by rw [← hwq]; exact Kept.setCells (S := fun i => i = rb) rfl _ _ (Kept.refl _ _))
  have HQB3 := Lib.hid (HQB2.out.kept HX3.out (fun h => by have := HNE.out; omega))
  have HRB3 := Lib.hid (show Blk w3 rb 232 #[.int .i64 6, .int .i64 0, .int .i64 0, .int .i64 0, .slice none 0 0] by rw [← hwq]; exact HRB2.out.setAll #[.int .i64 6, .int .i64 0, .int .i64 0, .int .i64 0, .slice none 0 0] rfl)
  have HK3 := Lib.hid (HK2.out.then HX3.out (fun i hi e => by have := HNE.out; omega))
  clear cQB lQB fQB cRB lRB fRB
  clear hwq
  have cQB := HQB3.out.cell
  have lQB := HQB3.out.lt
  have fQB := HQB3.out.frozen
  have cRB := HRB3.out.cell
  have lRB := HRB3.out.lt
  have fRB := HRB3.out.frozen
  exact bodyPost_ret (results_blk1 (P := Tryz.prog) (show Tryz.f98.results = _ from rfl) _ _ rb 232 #[.int .i64 6, .int .i64 0, .int .i64 0, .int .i64 0, .slice none 0 0] _ rfl HRB3.out Tryz.underlying232 rfl (by kernel_rfl)) rfl ⟨rfl, HK3.out⟩
end Go.Proofs.YtdnbhmfofphblaaGreatDoor
