/- The document's Of. -/
import Derived.Test.YthfdhggcnkgjfaaGreatDoorXB
import Derived.Test.YthfdhggcnkgjfaaGreatDoorWD
import Derived.Test.YthfdhggcnkgjfaaGreatDoorRefNum
import Derived.Test.YthfdhggcnkgjfaaGreatDoorRefBytes
import Derived.Test.YthfdhggcnkgjfaaGreatDoorBase
namespace Go.Proofs.YthfdhggcnkgjfaaGreatDoor
open Go.RowKit
set_option linter.unusedVariables false
set_option linter.unusedSimpArgs false
theorem bel1 {w : World} {o : Obj} : Below w.heap.size w (w.alloc o) := (Below.refl _ _).alloc (Nat.le_refl _) _
set_option maxHeartbeats 2000000 in
theorem refOf4 (A : Option Addr) (c : Nat) (l : List UInt8) (w : World) (hl : l.length = 4) (hB : BS w w.heap.size A l) : Calls Tryz.prog 62 #[.slice A 4 c] w fun e w' => e = .returned (.tuple #[.agg #[.bool false, .int .u64 0, .int .u64 (num l)], .bool true]) ∧ Below w.heap.size w w' := by
  have HN := Lib.hid (fun w' (h : Below w.heap.size w w') => refNum_any A c l w' (by omega) (hB.onB h (Nat.le_refl _)))
  rw [hl] at HN
  clear hB
  go_enter Tryz.func62, Tryz.ntmps62
  go_wp2_with fail
  refine (HN.out _ bel1).mono ?_
  rintro e w1 ⟨rfl, rfl⟩
  go_wp2_with fail
  refine bodyPost_ret (results_blk_tmp (P := Tryz.prog) (show Tryz.f62.results = _ from rfl) _ _ w.heap.size 25 #[.bool false, .int .u64 0, .int .u64 (num l)] _ rfl ?_ Tryz.underlying25 rfl (by kernel_rfl)) rfl ⟨rfl, ?_⟩
  · go_light
    exact Blk.new _ _ _
  · go_light
    exact bel1
set_option maxHeartbeats 2000000 in
theorem refOf16 (A : Option Addr) (c : Nat) (l : List UInt8) (w : World) (hl : l.length = 16) (hc : 16 ≤ c) (hcm : c ≤ maxLen) (hB : BS w w.heap.size A l) : Calls Tryz.prog 62 #[.slice A 16 c] w fun e w' => e = .returned (.tuple #[.agg #[.bool true, .int .u64 (num (l.take 8)), .int .u64 (num (l.drop 8))], .bool true]) ∧ Below w.heap.size w w' := by
  obtain ⟨b, o, hb, rfl, hat⟩ := hB.at (k := 0) (by omega)
  have hT := hat.take 8
  have hD := hat.drop 8
  have HT := Lib.hid (fun w' (h : Below w.heap.size w w') => refNum_any (some ⟨b, o, none⟩) c (l.take 8) w' (by simp; omega) ((BS.of_at (B := w.heap.size) hT hb).onB h (Nat.le_refl _)))
  have HD := Lib.hid (fun w' (h : Below w.heap.size w w') => refNum_any (some ⟨b, o + 8, none⟩) (c - 8) (l.drop 8) w' (by simp; omega) ((BS.of_at (B := w.heap.size) hD hb).onB h (Nat.le_refl _)))
  rw [show (l.take 8).length = 8 by simp; omega] at HT
  rw [show (l.drop 8).length = 8 by simp; omega] at HD
  unfold maxLen at hcm
  clear hB hat hT hD hl
  go_enter Tryz.func62, Tryz.ntmps62
  go_upto_region 5 with fail
  obtain ⟨w1, hw1⟩ : ∃ w1 : World, w1 = w.alloc (.cells #[.bool false, .int .u64 0, .int .u64 0] 25) := ⟨_, rfl⟩
  have HX1 := Lib.hid (show Blk w1 w.heap.size 25 #[.bool false, .int .u64 0, .int .u64 0] by rw [hw1]; exact Blk.new _ _ _)
  have HB1 := Lib.hid (show Below w.heap.size w w1 by rw [hw1]; exact bel1)
  rw [← hw1]
  clear hw1
  have hc8 : (8 : Int) ≤ (c : Int) := by omega
  have hc16 : (16 : Int) ≤ (c : Int) := by omega
  have hne : ¬ c = 8 := by omega
  refine wp_region_kept 7 [(2, fun v u => v = .int .u64 (num (l.take 8))), (5, fun v u => v = .int .u64 (num (l.drop 8)))] ?st ?ne rfl (by kernel_rfl) (by kernel_rfl) ?_
  case st =>
    intro p hp
    simp only [List.mem_cons, List.not_mem_nil, or_false] at hp
    rcases hp with rfl | rfl
    · intro v u u' h hk; exact h
    · intro v u u' h hk; exact h
  case ne =>
    intro p hp
    simp only [List.mem_cons, List.not_mem_nil, or_false] at hp
    rcases hp with rfl | rfl
    · exact ⟨_, _, Kept.refl _ _, rfl⟩
    · exact ⟨_, _, Kept.refl _ _, rfl⟩
  simp only [List.take_succ_cons, List.take_zero, List.drop_succ_cons, List.drop_zero]
  intro G pick hR hp1 hp2
  repeat (first | (refine wpR_det hp2 rfl ((hR.rel _).trans rfl) rfl ?_; intro K hK; go_big_quiet_op; go_big_quiet_on) | (refine wpR_ptr hp2 rfl ((hR.rel _).trans rfl) rfl rfl ?_; intro K hK; go_big_quiet_op; go_big_quiet_on) | (refine wpR_skip pick rfl ?_; intro K hK; go_big_quiet_op; go_big_quiet_on))
  refine wpR_rel pick rfl ((hR.rel _).trans rfl) ((hR.turns _).trans rfl) ?_ ?_
  · intro u hu
    have hk := hR.since hu.1
    have hks := hk.size
    unfold relAt
    go_simp
    refine (HT.out u (HB1.out.trans (hk.below HB1.out.size (fun _ h => h.elim)))).mono ?_
    rintro e w' ⟨rfl, rfl⟩
    exact ⟨_, rfl, hR.intoB (Below.refl _ _), hR.put 0 rfl rfl rfl⟩
  intro v hv
  obtain ⟨u, _, hu⟩ := hv
  obtain rfl := hR.get 0 rfl hu
  clear hu
  intro K hK
  go_big_quiet_op
  go_big_quiet_on
  repeat (first | (refine wpR_det hp2 rfl ((hR.rel _).trans rfl) rfl ?_; intro K hK; go_big_quiet_op; go_big_quiet_on) | (refine wpR_ptr hp2 rfl ((hR.rel _).trans rfl) rfl rfl ?_; intro K hK; go_big_quiet_op; go_big_quiet_on) | (refine wpR_skip pick rfl ?_; intro K hK; go_big_quiet_op; go_big_quiet_on))
  refine wpR_rel pick rfl ((hR.rel _).trans rfl) ((hR.turns _).trans rfl) ?_ ?_
  · intro u hu
    have hk := hR.since hu.1
    have hks := hk.size
    unfold relAt
    go_simp
    refine (HD.out u (HB1.out.trans (hk.below HB1.out.size (fun _ h => h.elim)))).mono ?_
    rintro e w' ⟨rfl, rfl⟩
    exact ⟨_, rfl, hR.intoB (Below.refl _ _), hR.put 1 rfl rfl rfl⟩
  intro v hv
  obtain ⟨u, _, hu⟩ := hv
  obtain rfl := hR.get 1 rfl hu
  clear hu
  intro K hK
  go_big_quiet_op
  go_big_quiet_on
  repeat (first | (refine wpR_det hp2 rfl ((hR.rel _).trans rfl) rfl ?_; intro K hK; go_big_quiet_op; go_big_quiet_on) | (refine wpR_ptr hp2 rfl ((hR.rel _).trans rfl) rfl rfl ?_; intro K hK; go_big_quiet_op; go_big_quiet_on) | (refine wpR_skip pick rfl ?_; intro K hK; go_big_quiet_op; go_big_quiet_on))
  refine wpR_nil ?_
  intro w2 hk2 hF hM
  have HX2 := Lib.hid (HX1.out.kept hk2 (fun h => h))
  have HK2 := Lib.hid hk2
  have x2 := HX2.out.cell
  have xf := HX2.out.frozen
  have xlt := HX2.out.lt
  clear hF hM hk2 hp1 hp2 hR
  go_wp2_with fail
  refine bodyPost_ret (results_blk_tmp (P := Tryz.prog) (show Tryz.f62.results = _ from rfl) _ _ w.heap.size 25 #[.bool true, .int .u64 (num (l.take 8)), .int .u64 (num (l.drop 8))] _ rfl ?_ Tryz.underlying25 rfl (by kernel_rfl)) rfl ⟨rfl, ?_⟩
  · go_light
    repeat (first | (with_reducible apply Blk.set_to) | ((with_reducible apply Blk.far'); omega))
    exact HX2.out
    all_goals rfl
  · go_light
    refine Kept.below (S := fun i => w.heap.size ≤ i) ?_ (Nat.le_refl _) (fun i h => h)
    repeat (first | ((with_reducible apply Kept.setNew); omega))
    exact (Kept.of_below HB1.out (fun i _ h => h)).then HK2.out (fun i _ h => h.elim)
end Go.Proofs.YthfdhggcnkgjfaaGreatDoor
