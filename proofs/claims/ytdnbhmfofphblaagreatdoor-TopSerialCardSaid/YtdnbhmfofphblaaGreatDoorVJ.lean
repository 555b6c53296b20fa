/- fleet.Right and fleet.New with one replica, one backend, no flows. -/
import Derived.Test.YtdnbhmfofphblaaGreatDoorVH
import Derived.Test.YtdnbhmfofphblaaGreatDoorVF
import Derived.Test.YtdnbhmfofphblaaGreatDoorTV
import Derived.Test.YtdnbhmfofphblaaGreatDoorTR
namespace Go.Proofs.YtdnbhmfofphblaaGreatDoor
open Go.RowKit
set_option maxRecDepth 100000
set_option linter.unusedVariables false
set_option linter.unusedSimpArgs false
theorem Ctl.kept {S : Nat → Prop} {w w' : World} {xb jb nb db st su rm : Nat} (h : Ctl w xb jb nb db st su rm) (hk : Kept S w w') (h1 : ¬ S xb) (h2 : ¬ S jb) (h3 : ¬ S nb) : Ctl w' xb jb nb db st su rm := ⟨h.c.kept hk h1, h.j.kept hk h2, h.n.kept hk h3⟩
theorem flIs1 (k : Nat → Int) (db xb mb : Nat) (w : World) (hX : Blk w xb 73 #[.int .u8 (k 0), .int .u8 (k 1), .int .u8 (k 2), .int .u8 (k 3), .int .u8 (k 4), .int .u8 (k 5), .int .u8 (k 6), .int .u8 (k 7), .int .u8 (k 8), .int .u8 (k 9), .int .u8 (k 10), .int .u8 (k 11), .int .u8 (k 12), .int .u8 (k 13), .int .u8 (k 14), .int .u8 (k 15), .int .u32 0, .pointer (some ⟨db, 0, none⟩), .pointer none, .slice none 0 0, .slice none 0 0, .slice none 0 0, .pointer (some ⟨mb, 0, none⟩)]) : ∃ (v : Value) (u : World), Kept (fun i => i = db ∨ i = xb) w u ∧ ∃ cl jb nb st su rm, v = .tuple #[.pointer (some ⟨cl, 0, none⟩), .int .i64 0] ∧ w.heap.size ≤ cl ∧ Ctl u cl jb nb db st su rm ∧ Blk u xb 73 #[.int .u8 (k 0), .int .u8 (k 1), .int .u8 (k 2), .int .u8 (k 3), .int .u8 (k 4), .int .u8 (k 5), .int .u8 (k 6), .int .u8 (k 7), .int .u8 (k 8), .int .u8 (k 9), .int .u8 (k 10), .int .u8 (k 11), .int .u8 (k 12), .int .u8 (k 13), .int .u8 (k 14), .int .u8 (k 15), .int .u32 0, .pointer (some ⟨db, 0, none⟩), .pointer none, .slice none 0 0, .slice none 0 0, .slice none 0 0, .pointer (some ⟨mb, 0, none⟩)] := by
  have h3 := ((hX.alloc (.cells #[.pointer (some ⟨db, 0, none⟩), .slice none 0 0] 241)).alloc (.cells #[.int .u64 0, .int .u64 0, .int .u64 0, .int .u64 0] 399)).alloc (.cells #[.pointer (some ⟨w.heap.size, 0, none⟩), .int .i64 0, .pointer (some ⟨0, 0, none⟩), .pointer (some ⟨0, 0, none⟩), .map (some 0), .slice (some ⟨w.heap.size + 1, 0, none⟩) 2 2] 150)
  exact ⟨_, _, ((((Kept.refl _ _).alloc _).alloc _).alloc _), w.heap.size + 2, w.heap.size, w.heap.size + 1, 0, 0, 0, rfl, by omega, ⟨Blk.new_ (by simp) _ _, ((Blk.new _ _ _).alloc _).alloc _, (Blk.new_ (by simp) _ _).alloc _⟩, h3⟩
theorem flIs2 (k : Nat → Int) (db xb mb : Nat) (w : World) (hX : Blk w xb 73 #[.int .u8 (k 0), .int .u8 (k 1), .int .u8 (k 2), .int .u8 (k 3), .int .u8 (k 4), .int .u8 (k 5), .int .u8 (k 6), .int .u8 (k 7), .int .u8 (k 8), .int .u8 (k 9), .int .u8 (k 10), .int .u8 (k 11), .int .u8 (k 12), .int .u8 (k 13), .int .u8 (k 14), .int .u8 (k 15), .int .u32 0, .pointer (some ⟨db, 0, none⟩), .pointer none, .slice none 0 0, .slice none 0 0, .slice none 0 0, .pointer (some ⟨mb, 0, none⟩)]) : ∃ (v : Value) (u : World), Kept (fun i => i = db ∨ i = xb) w u ∧ ∃ cl jb nb st su rm, w.heap.size ≤ cl ∧ Ctl u cl jb nb db st su rm ∧ Blk u xb 73 #[.int .u8 (k 0), .int .u8 (k 1), .int .u8 (k 2), .int .u8 (k 3), .int .u8 (k 4), .int .u8 (k 5), .int .u8 (k 6), .int .u8 (k 7), .int .u8 (k 8), .int .u8 (k 9), .int .u8 (k 10), .int .u8 (k 11), .int .u8 (k 12), .int .u8 (k 13), .int .u8 (k 14), .int .u8 (k 15), .int .u32 0, .pointer (some ⟨db, 0, none⟩), .pointer (some ⟨cl, 0, none⟩), .slice none 0 0, .slice none 0 0, .slice none 0 0, .pointer (some ⟨mb, 0, none⟩)] := by
  have h3 := ((hX.alloc (.cells #[.pointer (some ⟨db, 0, none⟩), .slice none 0 0] 241)).alloc (.cells #[.int .u64 0, .int .u64 0, .int .u64 0, .int .u64 0] 399)).alloc (.cells #[.pointer (some ⟨w.heap.size, 0, none⟩), .int .i64 0, .pointer (some ⟨0, 0, none⟩), .pointer (some ⟨0, 0, none⟩), .map (some 0), .slice (some ⟨w.heap.size + 1, 0, none⟩) 2 2] 150)
  have hc : Ctl (((w.alloc (.cells #[.pointer (some ⟨db, 0, none⟩), .slice none 0 0] 241)).alloc (.cells #[.int .u64 0, .int .u64 0, .int .u64 0, .int .u64 0] 399)).alloc (.cells #[.pointer (some ⟨w.heap.size, 0, none⟩), .int .i64 0, .pointer (some ⟨0, 0, none⟩), .pointer (some ⟨0, 0, none⟩), .map (some 0), .slice (some ⟨w.heap.size + 1, 0, none⟩) 2 2] 150)) (w.heap.size + 2) w.heap.size (w.heap.size + 1) db 0 0 0 := ⟨Blk.new_ (by simp) _ _, ((Blk.new _ _ _).alloc _).alloc _, (Blk.new_ (by simp) _ _).alloc _⟩
  have hl := hX.lt
  have hx : Kept (fun i => i = xb) (((w.alloc (.cells #[.pointer (some ⟨db, 0, none⟩), .slice none 0 0] 241)).alloc (.cells #[.int .u64 0, .int .u64 0, .int .u64 0, .int .u64 0] 399)).alloc (.cells #[.pointer (some ⟨w.heap.size, 0, none⟩), .int .i64 0, .pointer (some ⟨0, 0, none⟩), .pointer (some ⟨0, 0, none⟩), .map (some 0), .slice (some ⟨w.heap.size + 1, 0, none⟩) 2 2] 150)) ((((w.alloc (.cells #[.pointer (some ⟨db, 0, none⟩), .slice none 0 0] 241)).alloc (.cells #[.int .u64 0, .int .u64 0, .int .u64 0, .int .u64 0] 399)).alloc (.cells #[.pointer (some ⟨w.heap.size, 0, none⟩), .int .i64 0, .pointer (some ⟨0, 0, none⟩), .pointer (some ⟨0, 0, none⟩), .map (some 0), .slice (some ⟨w.heap.size + 1, 0, none⟩) 2 2] 150)).setCell ⟨xb, 18, none⟩ (.pointer (some ⟨w.heap.size + 2, 0, none⟩))) := Kept.setIn (S := fun i => i = xb) rfl (Kept.refl _ _)
  exact ⟨undef, _, ((((Kept.refl _ _).alloc _).alloc _).alloc _).trans (hx.mono (fun _ _ h => .inr h)), w.heap.size + 2, w.heap.size, w.heap.size + 1, 0, 0, 0, by omega, hc.kept hx (fun h => by omega) (fun h => by omega) (fun h => by omega), h3.set_to rfl⟩
set_option maxRecDepth 100000 in
set_option maxHeartbeats 2000000 in
theorem fltRight (k : Nat → Int) (cn dm ml : Int) (c0 : 1 ≤ cn) (c1 : cn ≤ 1024) (w : World) :
    Calls Tryz.prog 13 #[.agg #[.int .u8 (k 0), .int .u8 (k 1), .int .u8 (k 2), .int .u8 (k 3), .int .u8 (k 4), .int .u8 (k 5), .int .u8 (k 6), .int .u8 (k 7), .int .u8 (k 8), .int .u8 (k 9), .int .u8 (k 10), .int .u8 (k 11), .int .u8 (k 12), .int .u8 (k 13), .int .u8 (k 14), .int .u8 (k 15), .int .i64 1, .int .i64 1, .slice none 0 0, .int .i64 1500, .int .i64 cn, .int .i64 dm, .int .i64 ml]] w fun e w' => e = .returned (.bool true) ∧ Kept (fun _ => False) w w' := by
  have g1 : decide (cn < 1) = false := decide_eq_false (by omega)
  have g2 : decide (1024 < cn) = false := decide_eq_false (by omega)
  go_enter Tryz.func13, Tryz.ntmps13
  go_upto_region 1 with fail
  obtain ⟨w1, hw1⟩ : ∃ w1 : World, w1 = (w.alloc (.cells #[.int .u8 (k 0), .int .u8 (k 1), .int .u8 (k 2), .int .u8 (k 3), .int .u8 (k 4), .int .u8 (k 5), .int .u8 (k 6), .int .u8 (k 7), .int .u8 (k 8), .int .u8 (k 9), .int .u8 (k 10), .int .u8 (k 11), .int .u8 (k 12), .int .u8 (k 13), .int .u8 (k 14), .int .u8 (k 15), .int .i64 1, .int .i64 1, .slice none 0 0, .int .i64 1500, .int .i64 cn, .int .i64 dm, .int .i64 ml] 39)) := ⟨_, rfl⟩
  have HQB1 := Lib.hid (show Blk w1 w.heap.size 39 #[.int .u8 (k 0), .int .u8 (k 1), .int .u8 (k 2), .int .u8 (k 3), .int .u8 (k 4), .int .u8 (k 5), .int .u8 (k 6), .int .u8 (k 7), .int .u8 (k 8), .int .u8 (k 9), .int .u8 (k 10), .int .u8 (k 11), .int .u8 (k 12), .int .u8 (k 13), .int .u8 (k 14), .int .u8 (k 15), .int .i64 1, .int .i64 1, .slice none 0 0, .int .i64 1500, .int .i64 cn, .int .i64 dm, .int .i64 ml] by rw [hw1]; exact Blk.new _ _ _)
  have HK1 := Lib.hid (show Kept (fun _ => False) w w1 by rw [hw1]; exact (Kept.refl _ _).alloc _)
  rw [← hw1]
  clear hw1
  obtain ⟨qb, hqb⟩ : ∃ qb, w.heap.size = qb := ⟨_, rfl⟩
  rw [hqb] at HQB1
  (try rw [hqb])
  have HNE := Lib.hid (show qb = w.heap.size + 0 ∧ True from ⟨by omega, trivial⟩)
  clear hqb
  have cQB := HQB1.out.cell
  have lQB := HQB1.out.lt
  have fQB := HQB1.out.frozen
  go_wp2
  refine wp_loop_rounds 1 ?_
  rw [rounds_succ]
  go_wp2
  go_ret
  exact ⟨rfl, HK1.out⟩
set_option maxRecDepth 100000 in
set_option maxHeartbeats 2000000 in
theorem fltNew (k : Nat → Int) (cn dm ml : Int) (c0 : 1 ≤ cn) (c1 : cn ≤ 1024) (d0 : 0 ≤ dm) (d1 : dm ≤ 1000000) (l0 : 0 ≤ ml) (l1 : ml ≤ 1000000) (w : World) :
    Calls Tryz.prog 5 #[.agg #[.int .u8 (k 0), .int .u8 (k 1), .int .u8 (k 2), .int .u8 (k 3), .int .u8 (k 4), .int .u8 (k 5), .int .u8 (k 6), .int .u8 (k 7), .int .u8 (k 8), .int .u8 (k 9), .int .u8 (k 10), .int .u8 (k 11), .int .u8 (k 12), .int .u8 (k 13), .int .u8 (k 14), .int .u8 (k 15), .int .i64 1, .int .i64 1, .slice none 0 0, .int .i64 1500, .int .i64 cn, .int .i64 dm, .int .i64 ml]] w fun e w' => ∃ xb cl jb nb db mb st su rm RA rc ra TA tc sb cb mg, e = .returned (.tuple #[.pointer (some ⟨xb, 0, none⟩), .int .i64 0]) ∧ w.heap.size ≤ xb ∧ w.heap.size ≤ cl ∧ w.heap.size ≤ sb ∧ w.heap.size ≤ cb ∧ w.heap.size ≤ mg ∧ Blk w' xb 73 #[.int .u8 (k 0), .int .u8 (k 1), .int .u8 (k 2), .int .u8 (k 3), .int .u8 (k 4), .int .u8 (k 5), .int .u8 (k 6), .int .u8 (k 7), .int .u8 (k 8), .int .u8 (k 9), .int .u8 (k 10), .int .u8 (k 11), .int .u8 (k 12), .int .u8 (k 13), .int .u8 (k 14), .int .u8 (k 15), .int .u32 0, .pointer (some ⟨db, 0, none⟩), .pointer (some ⟨cl, 0, none⟩), .slice RA 1 rc, .slice TA 1 tc, .slice none 0 0, .pointer (some ⟨mb, 0, none⟩)] ∧ Ctl w' cl jb nb db st su rm ∧ Row w' w.heap.size 78 (.slice RA 1 rc) [.pointer (some ⟨ra, 0, none⟩)] ∧ Row w' w.heap.size 40 (.slice TA 1 tc) [.pointer (some ⟨sb, 0, none⟩)] ∧ Blk w' sb 95 #[.pointer none, .int .i64 1, .pointer (some ⟨cb, 0, none⟩), .int .u64 0, .int .u64 1048576, .int .u64 0] ∧ Blk w' cb 272 #[.int .i64 cn, .map (some mg), .pointer none, .pointer none] ∧ MapB w' mg #[] 0 ∧ Kept (fun _ => False) w w' := by
  have HI78 := Lib.hid (show (Tryz.prog.info? 78).map (fun i => (i.zero, i.size, i.bytes)) = some (some (.pointer none), 1, 8) by kernel_rfl)
  have HI40 := Lib.hid (show (Tryz.prog.info? 40).map (fun i => (i.zero, i.size, i.bytes)) = some (some (.pointer none), 1, 8) by kernel_rfl)
  go_enter Tryz.func5, Tryz.ntmps5
  go_upto_region 1 with fail
  obtain ⟨w1, hw1⟩ : ∃ w1 : World, w1 = (w.alloc (.cells #[.int .u8 (k 0), .int .u8 (k 1), .int .u8 (k 2), .int .u8 (k 3), .int .u8 (k 4), .int .u8 (k 5), .int .u8 (k 6), .int .u8 (k 7), .int .u8 (k 8), .int .u8 (k 9), .int .u8 (k 10), .int .u8 (k 11), .int .u8 (k 12), .int .u8 (k 13), .int .u8 (k 14), .int .u8 (k 15), .int .i64 1, .int .i64 1, .slice none 0 0, .int .i64 1500, .int .i64 cn, .int .i64 dm, .int .i64 ml] 39)) := ⟨_, rfl⟩
  have HQB1 := Lib.hid (show Blk w1 w.heap.size 39 #[.int .u8 (k 0), .int .u8 (k 1), .int .u8 (k 2), .int .u8 (k 3), .int .u8 (k 4), .int .u8 (k 5), .int .u8 (k 6), .int .u8 (k 7), .int .u8 (k 8), .int .u8 (k 9), .int .u8 (k 10), .int .u8 (k 11), .int .u8 (k 12), .int .u8 (k 13), .int .u8 (k 14), .int .u8 (k 15), .int .i64 1, .int .i64 1, .slice none 0 0, .int .i64 1500, .int .i64 cn, .int .i64 dm, .int .i64 ml] by rw [hw1]; exact Blk.new _ _ _)
  have HK1 := Lib.hid (show Kept (fun _ => False) w w1 by rw [hw1]; exact (Kept.refl _ _).alloc _)
  rw [← hw1]
  clear hw1
  obtain ⟨qb, hqb⟩ : ∃ qb, w.heap.size = qb := ⟨_, rfl⟩
  rw [hqb] at HQB1
  (try rw [hqb])
  have HNE := Lib.hid (show qb = w.heap.size + 0 ∧ True from ⟨by omega, trivial⟩)
  clear hqb
  have cQB := HQB1.out.cell
  have lQB := HQB1.out.lt
  have fQB := HQB1.out.frozen
  go_wp2_with (show wpList _ _ _ ((⟨_, .load 39 (.tmp 1), _, _, _, none⟩ : Oper) :: _) _ _; refine wpList_load_mid rfl 39 (.tmp 1) rfl qb 0 rfl [.int .u8 (k 0), .int .u8 (k 1), .int .u8 (k 2), .int .u8 (k 3), .int .u8 (k 4), .int .u8 (k 5), .int .u8 (k 6), .int .u8 (k 7), .int .u8 (k 8), .int .u8 (k 9), .int .u8 (k 10), .int .u8 (k 11), .int .u8 (k 12), .int .u8 (k 13), .int .u8 (k 14), .int .u8 (k 15), .int .i64 1, .int .i64 1, .slice none 0 0, .int .i64 1500, .int .i64 cn, .int .i64 dm, .int .i64 ml] _ HQB1.out.range Tryz.underlying39 rfl (by kernel_rfl) ?_)
  refine (fltRight k cn dm ml c0 c1 w1).mono ?_
  rintro e w2 ⟨rfl, hk⟩
  have HK2 := Lib.hid (HK1.out.trans hk)
  have HS2 := Lib.hid (show Kept (fun _ => False) w1 w2 from hk)
  have HQB2 := Lib.hid (HQB1.out.kept hk (fun h => h))
  clear cQB lQB fQB
  have cQB := HQB2.out.cell
  have lQB := HQB2.out.lt
  have fQB := HQB2.out.frozen
  clear hk cQB lQB fQB
  go_upto_region 3 with fail
  refine wp_region_kept 11 [(1, fun v u => v = .agg #[.int .u8 (k 0), .int .u8 (k 1), .int .u8 (k 2), .int .u8 (k 3), .int .u8 (k 4), .int .u8 (k 5), .int .u8 (k 6), .int .u8 (k 7), .int .u8 (k 8), .int .u8 (k 9), .int .u8 (k 10), .int .u8 (k 11), .int .u8 (k 12), .int .u8 (k 13), .int .u8 (k 14), .int .u8 (k 15)]), (4, fun v u => ∃ db, v = .pointer (some ⟨db, 0, none⟩) ∧ w2.heap.size ≤ db ∧ Blk u db 138 #[.int .i64 dm, .slice none 0 0, .int .i64 0, .int .i64 0]), (7, fun v u => ∃ mb, v = .pointer (some ⟨mb, 0, none⟩)), (9, fun v u => ∃ xb db mb, v = .pointer (some ⟨xb, 0, none⟩) ∧ w2.heap.size ≤ xb ∧ Blk u xb 73 #[.int .u8 (k 0), .int .u8 (k 1), .int .u8 (k 2), .int .u8 (k 3), .int .u8 (k 4), .int .u8 (k 5), .int .u8 (k 6), .int .u8 (k 7), .int .u8 (k 8), .int .u8 (k 9), .int .u8 (k 10), .int .u8 (k 11), .int .u8 (k 12), .int .u8 (k 13), .int .u8 (k 14), .int .u8 (k 15), .int .u32 0, .pointer (some ⟨db, 0, none⟩), .pointer none, .slice none 0 0, .slice none 0 0, .slice none 0 0, .pointer (some ⟨mb, 0, none⟩)] ∧ w2.heap.size ≤ db ∧ Blk u db 138 #[.int .i64 dm, .slice none 0 0, .int .i64 0, .int .i64 0])] ?st ?ne rfl (by kernel_rfl) (by kernel_rfl) ?_
  case st =>
    intro p hp
    simp only [List.mem_cons, List.not_mem_nil, or_false] at hp
    rcases hp with rfl | rfl | rfl | rfl
    · intro v u u' h hk; exact h
    · rintro v u u' ⟨db, h1, h2, h3⟩ hk; exact ⟨db, h1, h2, h3.kept hk (fun h => h)⟩
    · intro v u u' h hk; exact h
    · rintro v u u' ⟨xb, db, mb, h1, h2, h3, h4, h5⟩ hk; exact ⟨xb, db, mb, h1, h2, h3.kept hk (fun h => h), h4, h5.kept hk (fun h => h)⟩
  case ne =>
    intro p hp
    simp only [List.mem_cons, List.not_mem_nil, or_false] at hp
    rcases hp with rfl | rfl | rfl | rfl
    · exact ⟨_, _, Kept.refl _ _, rfl⟩
    · exact ⟨_, _, (Kept.refl _ _).alloc _, w2.heap.size, rfl, Nat.le_refl _, Blk.new _ _ _⟩
    · exact ⟨_, _, Kept.refl _ _, 0, rfl⟩
    · exact ⟨_, _, ((Kept.refl _ _).alloc (.cells #[.int .i64 dm, .slice none 0 0, .int .i64 0, .int .i64 0] 138)).alloc (.cells #[.int .u8 (k 0), .int .u8 (k 1), .int .u8 (k 2), .int .u8 (k 3), .int .u8 (k 4), .int .u8 (k 5), .int .u8 (k 6), .int .u8 (k 7), .int .u8 (k 8), .int .u8 (k 9), .int .u8 (k 10), .int .u8 (k 11), .int .u8 (k 12), .int .u8 (k 13), .int .u8 (k 14), .int .u8 (k 15), .int .u32 0, .pointer (some ⟨w2.heap.size, 0, none⟩), .pointer none, .slice none 0 0, .slice none 0 0, .slice none 0 0, .pointer (some ⟨0, 0, none⟩)] 73), w2.heap.size + 1, w2.heap.size, 0, rfl, by omega, Blk.new_ (by simp) _ _, Nat.le_refl _, (Blk.new _ _ _).alloc _⟩
  simp only [List.take_succ_cons, List.take_zero, List.drop_succ_cons, List.drop_zero]
  intro G pick hR hp1 hp2
  have sQ : ∀ u i, (pick u).cell? ⟨qb, i, none⟩ = (#[.int .u8 (k 0), .int .u8 (k 1), .int .u8 (k 2), .int .u8 (k 3), .int .u8 (k 4), .int .u8 (k 5), .int .u8 (k 6), .int .u8 (k 7), .int .u8 (k 8), .int .u8 (k 9), .int .u8 (k 10), .int .u8 (k 11), .int .u8 (k 12), .int .u8 (k 13), .int .u8 (k 14), .int .u8 (k 15), .int .i64 1, .int .i64 1, .slice none 0 0, .int .i64 1500, .int .i64 cn, .int .i64 dm, .int .i64 ml] : Array Value)[i]? := fun u i => ((hp1 u).cell HQB2.out.lt (fun h => h) _).trans (HQB2.out.cell i)
  repeat (first | (refine wpR_det hp2 rfl ((hR.rel _).trans rfl) rfl ?_; intro K hK; go_big_quiet_op; go_big_quiet_on) | (refine wpR_ptr hp2 rfl ((hR.rel _).trans rfl) rfl rfl ?_; intro K hK; go_big_quiet_op; go_big_quiet_on) | (refine wpR_skip pick rfl ?_; intro K hK; go_big_quiet_op; go_big_quiet_on))
  refine wpR_rel pick rfl ((hR.rel _).trans rfl) ((hR.turns _).trans rfl) ?_ ?_
  · intro u hu
    have hk := hR.since hu.1
    have hks := hk.size
    refine relAt_load_mid 36 (.tmp 20) rfl qb 0 rfl [.int .u8 (k 0), .int .u8 (k 1), .int .u8 (k 2), .int .u8 (k 3), .int .u8 (k 4), .int .u8 (k 5), .int .u8 (k 6), .int .u8 (k 7), .int .u8 (k 8), .int .u8 (k 9), .int .u8 (k 10), .int .u8 (k 11), .int .u8 (k 12), .int .u8 (k 13), .int .u8 (k 14), .int .u8 (k 15)] _ ((HQB2.out.kept hk (fun h => h)).rangePre [.int .u8 (k 0), .int .u8 (k 1), .int .u8 (k 2), .int .u8 (k 3), .int .u8 (k 4), .int .u8 (k 5), .int .u8 (k 6), .int .u8 (k 7), .int .u8 (k 8), .int .u8 (k 9), .int .u8 (k 10), .int .u8 (k 11), .int .u8 (k 12), .int .u8 (k 13), .int .u8 (k 14), .int .u8 (k 15)] [.int .i64 1, .int .i64 1, .slice none 0 0, .int .i64 1500, .int .i64 cn, .int .i64 dm, .int .i64 ml] rfl) Tryz.underlying36 rfl (by kernel_rfl) ?_
    exact ⟨hR.into0 (Kept.refl _ _), hR.put 0 rfl rfl rfl⟩
  intro v hv
  obtain ⟨u, _, hu⟩ := hv
  obtain rfl := hR.get 0 rfl hu
  clear hu
  intro K hK
  go_big_quiet_op
  go_big_quiet_on
  repeat (first | (refine wpR_det hp2 rfl ((hR.rel _).trans rfl) rfl ?_; intro K hK; go_big_quiet_op; go_big_quiet_on) | (refine wpR_ptr hp2 rfl ((hR.rel _).trans rfl) rfl rfl ?_; intro K hK; go_big_quiet_op; go_big_quiet_on) | (refine wpR_skip pick rfl ?_; intro K hK; go_big_quiet_op; go_big_quiet_on))
  refine wpR_rel pick rfl ((hR.rel _).trans rfl) ((hR.turns _).trans rfl) ?_ ?_
  · intro u hu
    have hk := hR.since hu.1
    have hks := hk.size
    unfold relAt
    go_simp
    refine (diskNew dm d0 d1 u).mono ?_
    rintro e' w' ⟨rfl, h1, hk'⟩
    exact ⟨_, rfl, hR.into0 hk', hR.put 1 rfl rfl ⟨_, rfl, hks, h1⟩⟩
  intro v hv
  obtain ⟨u, _, hu⟩ := hv
  obtain ⟨dbA, rfl, -⟩ := hR.get 1 rfl hu
  clear hu
  intro K hK
  go_big_quiet_op
  go_big_quiet_on
  repeat (first | (refine wpR_det hp2 rfl ((hR.rel _).trans rfl) rfl ?_; intro K hK; go_big_quiet_op; go_big_quiet_on) | (refine wpR_ptr hp2 rfl ((hR.rel _).trans rfl) rfl rfl ?_; intro K hK; go_big_quiet_op; go_big_quiet_on) | (refine wpR_skip pick rfl ?_; intro K hK; go_big_quiet_op; go_big_quiet_on))
  refine wpR_rel pick rfl ((hR.rel _).trans rfl) ((hR.turns _).trans rfl) ?_ ?_
  · intro u hu
    have hk := hR.since hu.1
    have hks := hk.size
    unfold relAt
    go_simp
    refine (mailNew ml l0 l1 u).mono ?_
    rintro e' w' ⟨mb, rfl, -, hk'⟩
    exact ⟨_, rfl, hR.into0 hk', hR.put 2 rfl rfl ⟨mb, rfl⟩⟩
  intro v hv
  obtain ⟨u, _, hu⟩ := hv
  obtain ⟨mbA, rfl⟩ := hR.get 2 rfl hu
  clear hu
  intro K hK
  go_big_quiet_op
  go_big_quiet_on
  repeat (first | (refine wpR_det hp2 rfl ((hR.rel _).trans rfl) rfl ?_; intro K hK; go_big_quiet_op; go_big_quiet_on) | (refine wpR_ptr hp2 rfl ((hR.rel _).trans rfl) rfl rfl ?_; intro K hK; go_big_quiet_op; go_big_quiet_on) | (refine wpR_skip pick rfl ?_; intro K hK; go_big_quiet_op; go_big_quiet_on))
  refine wpR_rel pick rfl ((hR.rel _).trans rfl) ((hR.turns _).trans rfl) ?_ ?_
  · intro u hu
    have hk := hR.since hu.1
    have hks := hk.size
    obtain ⟨db', e', h1, h2⟩ := (hR.get 1 rfl (hu.2 _ _ (Got.upd_old (Got.upd_self _ _ _) rfl) (by kernel_rfl)))
    obtain rfl : dbA = db' := by injection e' with e'; injection e' with e'; injection e'
    unfold relAt
    go_simp
    exact ⟨hR.into0 ((Kept.refl _ _).alloc _), hR.put 3 rfl rfl ⟨_, dbA, mbA, rfl, hks, Blk.new _ _ _, h1, h2.alloc _⟩⟩
  intro v hv
  obtain ⟨u, _, hu⟩ := hv
  obtain ⟨xb, db2, mb2, rfl, -⟩ := hR.get 3 rfl hu
  clear hu
  intro K hK
  go_big_quiet_op
  go_big_quiet_on
  repeat (first | (refine wpR_det hp2 rfl ((hR.rel _).trans rfl) rfl ?_; intro K hK; go_big_quiet_op; go_big_quiet_on) | (refine wpR_ptr hp2 rfl ((hR.rel _).trans rfl) rfl rfl ?_; intro K hK; go_big_quiet_op; go_big_quiet_on) | (refine wpR_skip pick rfl ?_; intro K hK; go_big_quiet_op; go_big_quiet_on))
  refine wpR_nil ?_
  intro w3 hk2 hF hM
  obtain ⟨xb', db, mb, e', h1, h2, h3, h4⟩ := (hR.get 3 rfl (hF _ _ (Got.upd_self _ _ _)))
  obtain rfl : xb = xb' := by injection e' with e'; injection e' with e'; injection e'
  have HX3 := Lib.hid h2
  have HXL := Lib.hid h1
  have HDL := Lib.hid h3
  have HD3 := Lib.hid h4
  have HXD := Lib.hid (show xb ≠ db from h2.ne_ h4 (by decide))
  have HQB3 := Lib.hid (HQB2.out.kept hk2 (fun h => h))
  have HQX := Lib.hid (show qb < xb ∧ qb < db by have := HQB2.out.lt; omega)
  have HK3 := Lib.hid (HK2.out.trans hk2)
  clear hF hM hp1 hp2 hR hk2 h1 h2 h3 h4 e' sQ
  clear db2 mb2
  go_upto_region 5 with fail
  refine wp_region_peek 20 (fun i => i = db ∨ i = xb) [12, 18] [] [4] [(6, fun v u => v = .agg #[.int .u8 (k 0), .int .u8 (k 1), .int .u8 (k 2), .int .u8 (k 3), .int .u8 (k 4), .int .u8 (k 5), .int .u8 (k 6), .int .u8 (k 7), .int .u8 (k 8), .int .u8 (k 9), .int .u8 (k 10), .int .u8 (k 11), .int .u8 (k 12), .int .u8 (k 13), .int .u8 (k 14), .int .u8 (k 15)]), (12, fun v u => ∃ cl jb nb st su rm, v = .tuple #[.pointer (some ⟨cl, 0, none⟩), .int .i64 0] ∧ w3.heap.size ≤ cl ∧ Ctl u cl jb nb db st su rm ∧ Blk u xb 73 #[.int .u8 (k 0), .int .u8 (k 1), .int .u8 (k 2), .int .u8 (k 3), .int .u8 (k 4), .int .u8 (k 5), .int .u8 (k 6), .int .u8 (k 7), .int .u8 (k 8), .int .u8 (k 9), .int .u8 (k 10), .int .u8 (k 11), .int .u8 (k 12), .int .u8 (k 13), .int .u8 (k 14), .int .u8 (k 15), .int .u32 0, .pointer (some ⟨db, 0, none⟩), .pointer none, .slice none 0 0, .slice none 0 0, .slice none 0 0, .pointer (some ⟨mb, 0, none⟩)]), (18, fun v u => ∃ cl jb nb st su rm, w3.heap.size ≤ cl ∧ Ctl u cl jb nb db st su rm ∧ Blk u xb 73 #[.int .u8 (k 0), .int .u8 (k 1), .int .u8 (k 2), .int .u8 (k 3), .int .u8 (k 4), .int .u8 (k 5), .int .u8 (k 6), .int .u8 (k 7), .int .u8 (k 8), .int .u8 (k 9), .int .u8 (k 10), .int .u8 (k 11), .int .u8 (k 12), .int .u8 (k 13), .int .u8 (k 14), .int .u8 (k 15), .int .u32 0, .pointer (some ⟨db, 0, none⟩), .pointer (some ⟨cl, 0, none⟩), .slice none 0 0, .slice none 0 0, .slice none 0 0, .pointer (some ⟨mb, 0, none⟩)])] ?st ?ne rfl (by kernel_rfl) (by kernel_rfl) (by kernel_rfl) (by kernel_rfl) ?_
  case st =>
    intro p hp
    simp only [List.mem_cons, List.not_mem_nil, or_false] at hp
    rcases hp with rfl | rfl | rfl
    · intro v u u' h hk; exact h
    · rintro v u u' ⟨cl, jb, nb, st, su, rm, h1, h2, h3, h4⟩ hk; exact ⟨cl, jb, nb, st, su, rm, h1, h2, h3.kept hk (fun h => h) (fun h => h) (fun h => h), h4.kept hk (fun h => h)⟩
    · rintro v u u' ⟨cl, jb, nb, st, su, rm, h2, h3, h4⟩ hk; exact ⟨cl, jb, nb, st, su, rm, h2, h3.kept hk (fun h => h) (fun h => h) (fun h => h), h4.kept hk (fun h => h)⟩
  case ne =>
    intro p hp
    simp only [List.mem_cons, List.not_mem_nil, or_false] at hp
    rcases hp with rfl | rfl | rfl
    · exact ⟨_, _, Kept.refl _ _, rfl⟩
    · exact flIs1 k db xb mb w3 HX3.out
    · exact flIs2 k db xb mb w3 HX3.out
  simp only [List.take_succ_cons, List.take_zero, List.drop_succ_cons, List.drop_zero]
  intro G pick pick0 hR hp1 hp2 hpk hq1 hq2
  have sX : ∀ u i, (pick0 u).cell? ⟨xb, i, none⟩ = (#[.int .u8 (k 0), .int .u8 (k 1), .int .u8 (k 2), .int .u8 (k 3), .int .u8 (k 4), .int .u8 (k 5), .int .u8 (k 6), .int .u8 (k 7), .int .u8 (k 8), .int .u8 (k 9), .int .u8 (k 10), .int .u8 (k 11), .int .u8 (k 12), .int .u8 (k 13), .int .u8 (k 14), .int .u8 (k 15), .int .u32 0, .pointer (some ⟨db, 0, none⟩), .pointer none, .slice none 0 0, .slice none 0 0, .slice none 0 0, .pointer (some ⟨mb, 0, none⟩)] : Array Value)[i]? := fun u i => ((hq1 u).cell HX3.out.lt (fun h => h) _).trans (HX3.out.cell i)
  have sQ : ∀ u i, (pick u).cell? ⟨qb, i, none⟩ = (#[.int .u8 (k 0), .int .u8 (k 1), .int .u8 (k 2), .int .u8 (k 3), .int .u8 (k 4), .int .u8 (k 5), .int .u8 (k 6), .int .u8 (k 7), .int .u8 (k 8), .int .u8 (k 9), .int .u8 (k 10), .int .u8 (k 11), .int .u8 (k 12), .int .u8 (k 13), .int .u8 (k 14), .int .u8 (k 15), .int .i64 1, .int .i64 1, .slice none 0 0, .int .i64 1500, .int .i64 cn, .int .i64 dm, .int .i64 ml] : Array Value)[i]? := fun u i => ((hp1 u).cell HQB3.out.lt (fun h => by have := HQX.out; omega) _).trans (HQB3.out.cell i)
  repeat (first | (refine wpR_peek hq2 rfl ((hR.rel _).trans rfl) ((hpk _).trans rfl) rfl ?_; intro K hK; go_big_quiet_op; go_big_quiet_on) | (refine wpR_det hp2 rfl ((hR.rel _).trans rfl) rfl ?_; intro K hK; go_big_quiet_op; go_big_quiet_on) | (refine wpR_ptr hp2 rfl ((hR.rel _).trans rfl) rfl rfl ?_; intro K hK; go_big_quiet_op; go_big_quiet_on) | (refine wpR_skip pick rfl ?_; intro K hK; go_big_quiet_op; go_big_quiet_on))
  refine wpR_rel pick rfl ((hR.rel _).trans rfl) ((hR.turns _).trans rfl) ?_ ?_
  · intro u hu
    have hk := hR.since hu.1
    have hks := hk.size
    refine relAt_load_mid 36 (.tmp 36) rfl qb 0 rfl [.int .u8 (k 0), .int .u8 (k 1), .int .u8 (k 2), .int .u8 (k 3), .int .u8 (k 4), .int .u8 (k 5), .int .u8 (k 6), .int .u8 (k 7), .int .u8 (k 8), .int .u8 (k 9), .int .u8 (k 10), .int .u8 (k 11), .int .u8 (k 12), .int .u8 (k 13), .int .u8 (k 14), .int .u8 (k 15)] _ ((HQB3.out.kept hk (fun h => by have := HQX.out; omega)).rangePre [.int .u8 (k 0), .int .u8 (k 1), .int .u8 (k 2), .int .u8 (k 3), .int .u8 (k 4), .int .u8 (k 5), .int .u8 (k 6), .int .u8 (k 7), .int .u8 (k 8), .int .u8 (k 9), .int .u8 (k 10), .int .u8 (k 11), .int .u8 (k 12), .int .u8 (k 13), .int .u8 (k 14), .int .u8 (k 15)] [.int .i64 1, .int .i64 1, .slice none 0 0, .int .i64 1500, .int .i64 cn, .int .i64 dm, .int .i64 ml] rfl) Tryz.underlying36 rfl (by kernel_rfl) ?_
    exact ⟨hR.into0 (Kept.refl _ _), hR.put 0 rfl rfl rfl⟩
  intro v hv
  obtain ⟨u, _, hu⟩ := hv
  obtain rfl := hR.get 0 rfl hu
  clear hu
  intro K hK
  go_big_quiet_op
  go_big_quiet_on
  repeat (first | (refine wpR_peek hq2 rfl ((hR.rel _).trans rfl) ((hpk _).trans rfl) rfl ?_; intro K hK; go_big_quiet_op; go_big_quiet_on) | (refine wpR_det hp2 rfl ((hR.rel _).trans rfl) rfl ?_; intro K hK; go_big_quiet_op; go_big_quiet_on) | (refine wpR_ptr hp2 rfl ((hR.rel _).trans rfl) rfl rfl ?_; intro K hK; go_big_quiet_op; go_big_quiet_on) | (refine wpR_skip pick rfl ?_; intro K hK; go_big_quiet_op; go_big_quiet_on))
  refine wpR_turn pick rfl ((hR.rel _).trans rfl) ((hR.turns _).trans rfl) ((hR.adds _).trans rfl) ?_ ?_
  · intro u hu hM
    have hk := hR.since hu.1
    have hks := hk.size
    have hK0 := hR.first hM
    unfold relAt
    go_simp
    refine (ctlOpen dm k db u (HD3.out.kept hK0 (fun h => h))).mono ?_
    rintro e' w' ⟨cl, jb, nb, st, su, rm, rfl, h1, h2, hk'⟩
    exact ⟨_, rfl, hR.into (hk'.mono (fun i _ h => .inl h)), hR.put 1 rfl rfl ⟨cl, jb, nb, st, su, rm, rfl, Nat.le_trans hks h1, h2, (HX3.out.kept hK0 (fun h => h)).kept hk' (fun h => HXD.out h)⟩⟩
  intro v hv
  obtain ⟨u, _, hu⟩ := hv
  obtain ⟨clA, jb0, nb0, st0, su0, rm0, rfl, hcl, -⟩ := hR.get 1 rfl hu
  clear hu
  clear hcl
  intro K hK
  go_big_quiet_op
  go_big_quiet_on
  repeat (first | (refine wpR_peek hq2 rfl ((hR.rel _).trans rfl) ((hpk _).trans rfl) rfl ?_; intro K hK; go_big_quiet_op; go_big_quiet_on) | (refine wpR_det hp2 rfl ((hR.rel _).trans rfl) rfl ?_; intro K hK; go_big_quiet_op; go_big_quiet_on) | (refine wpR_ptr hp2 rfl ((hR.rel _).trans rfl) rfl rfl ?_; intro K hK; go_big_quiet_op; go_big_quiet_on) | (refine wpR_skip pick rfl ?_; intro K hK; go_big_quiet_op; go_big_quiet_on))
  refine wpR_turn pick rfl ((hR.rel _).trans rfl) ((hR.turns _).trans rfl) ((hR.adds _).trans rfl) ?_ ?_
  · intro u hu hM
    have hk := hR.since hu.1
    have hks := hk.size
    obtain ⟨cl', jb, nb, st, su, rm, e', h1, h2, h3⟩ := hR.get 1 rfl hM
    obtain rfl : clA = cl' := by injection e' with e'; injection e' with e'; injection e' with e' _; injection e' with e'; injection e' with e'; injection e'
    have cc := h3.cell
    have ff := h3.frozen
    have ll := h3.lt
    unfold relAt
    go_simp
    have hx : Kept (fun i => i = xb) u (u.setCell ⟨xb, 18, none⟩ (.pointer (some ⟨clA, 0, none⟩))) := Kept.setIn (S := fun i => i = xb) rfl (Kept.refl _ _)
    exact ⟨hR.into (Kept.setIn (S := fun i => i = db ∨ i = xb) (b := xb) (.inr rfl) (Kept.refl _ _)), hR.put 2 rfl rfl ⟨clA, jb, nb, st, su, rm, h1, h2.kept hx (fun h => by have := HX3.out.lt; omega) (fun h => h2.j.ne_ h3 (by decide) h) (fun h => h2.n.ne_ h3 (by decide) h), h3.set_to rfl⟩⟩
  intro v hv
  obtain ⟨u, _, hu⟩ := hv
  obtain hT := hR.get 2 rfl hu
  clear hu
  intro K hK
  go_big_quiet_op
  go_big_quiet_on
  repeat (first | (refine wpR_peek hq2 rfl ((hR.rel _).trans rfl) ((hpk _).trans rfl) rfl ?_; intro K hK; go_big_quiet_op; go_big_quiet_on) | (refine wpR_det hp2 rfl ((hR.rel _).trans rfl) rfl ?_; intro K hK; go_big_quiet_op; go_big_quiet_on) | (refine wpR_ptr hp2 rfl ((hR.rel _).trans rfl) rfl rfl ?_; intro K hK; go_big_quiet_op; go_big_quiet_on) | (refine wpR_skip pick rfl ?_; intro K hK; go_big_quiet_op; go_big_quiet_on))
  refine wpR_nil ?_
  intro w4 hk2 hF hM
  obtain ⟨cl, jb, nb, st, su, rm, h1, h2, h3⟩ := hR.get 2 rfl hM
  have HX4 := Lib.hid h3
  have HCL := Lib.hid h1
  have HCT4 := Lib.hid h2
  have HQB4 := Lib.hid (HQB3.out.kept hk2 (fun h => by have := HQX.out; omega))
  have HWX := Lib.hid (show w.heap.size ≤ xb ∧ w.heap.size ≤ db ∧ w.heap.size ≤ cl by have := HXL.out; have := HDL.out; have := HK2.out.size; have := HK3.out.size; have := HCL.out; omega)
  have HK4 := Lib.hid (HK3.out.then hk2 (fun i hi h => by have := HWX.out; omega))
  clear hF hM hR hk2 h1 h2 h3
  (try clear hp1 hp2 hpk hq1 hq2 sQ sX)
  have cQ := HQB4.out.cell
  have lQ := HQB4.out.lt
  have fQ := HQB4.out.frozen
  go_wp2_with fail
  refine wp_loop_rounds 2 ?_
  rw [rounds_succ]
  go_wp2_with fail
  refine (v4T w4).mono ?_
  rintro e w5 ⟨rfl, hk⟩
  have HX5 := Lib.hid (HX4.out.kept hk (fun h => h))
  have HCT5 := Lib.hid (HCT4.out.kept hk (fun h => h) (fun h => h) (fun h => h))
  have HQB5 := Lib.hid (HQB4.out.kept hk (fun h => h))
  have HK5 := Lib.hid (HK4.out.trans hk)
  clear hk cQ lQ fQ
  go_wp2_with fail
  refine (v6T 0 1 w5).mono ?_
  rintro e w6 ⟨rfl, hk⟩
  have HX6 := Lib.hid (HX5.out.kept hk (fun h => h))
  have HCT6 := Lib.hid (HCT5.out.kept hk (fun h => h) (fun h => h) (fun h => h))
  have HQB6 := Lib.hid (HQB5.out.kept hk (fun h => h))
  have HK6 := Lib.hid (HK5.out.trans hk)
  clear hk
  go_upto_region 12 with fail
  obtain ⟨w7, hw7⟩ : ∃ w7 : World, w7 = (w6.alloc (.cells #[.bool false, .int .u64 0, .int .u64 167772417] 26)).alloc (.cells #[.bool true, .int .u64 0, .int .u64 1] 26) := ⟨_, rfl⟩
  have HA7 := Lib.hid (show Blk w7 w6.heap.size 26 #[.bool false, .int .u64 0, .int .u64 167772417] by rw [hw7]; exact (Blk.new _ _ _).alloc _)
  have HB7 := Lib.hid (show Blk w7 (w6.heap.size + 1) 26 #[.bool true, .int .u64 0, .int .u64 1] by rw [hw7]; exact Blk.new_ (by simp) _ _)
  have hk : Kept (fun _ => False) w6 w7 := by rw [hw7]; exact ((Kept.refl _ _).alloc _).alloc _
  have HX7 := Lib.hid (HX6.out.kept hk (fun h => h))
  have HCT7 := Lib.hid (HCT6.out.kept hk (fun h => h) (fun h => h) (fun h => h))
  have HQB7 := Lib.hid (HQB6.out.kept hk (fun h => h))
  have HK7 := Lib.hid (HK6.out.trans hk)
  rw [← hw7]
  clear hw7 hk
  have cQ := HQB7.out.cell
  have lQ := HQB7.out.lt
  have fQ := HQB7.out.frozen
  go_wp2_with (first | (show wpList _ _ _ ((⟨_, .load 26 (.tmp 7), _, _, _, none⟩ : Oper) :: _) _ _; refine wpList_load_mid rfl 26 (.tmp 7) rfl w6.heap.size 0 rfl [.bool false, .int .u64 0, .int .u64 167772417] _ HA7.out.range Tryz.underlying26 rfl (by kernel_rfl) ?_) | (show wpList _ _ _ ((⟨_, .load 26 (.tmp 8), _, _, _, none⟩ : Oper) :: _) _ _; refine wpList_load_mid rfl 26 (.tmp 8) rfl (w6.heap.size + 1) 0 rfl [.bool true, .int .u64 0, .int .u64 1] _ HB7.out.range Tryz.underlying26 rfl (by kernel_rfl) ?_))
  refine (planeNew 167772417 1 1500 (by omega) (by omega) (by omega) w7).mono ?_
  rintro e w8 ⟨ra, rfl, hk⟩
  have HX8 := Lib.hid (HX7.out.kept hk (fun h => h))
  have HCT8 := Lib.hid (HCT7.out.kept hk (fun h => h) (fun h => h) (fun h => h))
  have HQB8 := Lib.hid (HQB7.out.kept hk (fun h => h))
  have HK8 := Lib.hid (HK7.out.trans hk)
  clear hk cQ lQ fQ
  have cX := HX8.out.cell
  have lX := HX8.out.lt
  have fX := HX8.out.frozen
  go_wp2_with (at_builtin; refine wpList_append_row rfl (.tmp 80) (.tmp 82) 69 rfl w8.heap.size 78 (.pointer none) 8 Tryz.underlying69 HI78.out rfl (.slice none 0 0) [] rfl (some ⟨w8.heap.size, 0, none⟩) 1 1 [.pointer (some ⟨ra, 0, none⟩)] rfl rfl (Row.nil _ _ _) (Src.new _ _ _ rfl) ?a2 ?a3 ?a4 ?a5 ?_)
  case a2 => intro u hu; rw [List.mem_singleton.1 hu]; rfl
  case a3 => show 0 + 1 ≤ maxLen; decide
  case a4 => show (0 + 1) * 8 ≤ _; decide
  case a5 => simp
  intro v9 w9 hrow hgr _
  have hrow : Row w9 w8.heap.size 78 v9 [.pointer (some ⟨ra, 0, none⟩)] := hrow
  obtain ⟨RA, rc, hve, -, -⟩ := hrow.shape
  have hve : v9 = .slice RA 1 rc := hve
  subst hve
  have HRX := Lib.hid (show ∀ g, (Value.slice RA 1 rc).ownBlock = some g → xb < g from fun g hg => by have := (hrow.lt g hg).1; have := HX8.out.lt; omega)
  have hk : Kept (fun _ => False) w8 w9 := ((Kept.refl _ _).alloc _).trans (kept_grown (S := fun _ => False) hgr (fun i e _ => by cases e))
  have HR9 := Lib.hid (hrow.more (show w.heap.size ≤ w8.heap.size from HK8.out.size))
  have HX9 := Lib.hid (HX8.out.kept hk (fun h => h))
  have HCT9 := Lib.hid (HCT8.out.kept hk (fun h => h) (fun h => h) (fun h => h))
  have HQB9 := Lib.hid (HQB8.out.kept hk (fun h => h))
  have HK9 := Lib.hid (HK8.out.trans hk)
  clear hk hgr hrow cX lX fX
  have cX := HX9.out.cell
  have lX := HX9.out.lt
  have fX := HX9.out.frozen
  go_wp2_with fail
  generalize hwq : World.setCell _ _ _ = w10
  have hx : Kept (fun i => i = xb) w9 w10 := by rw [← hwq]; exact Kept.setIn (S := fun i => i = xb) rfl (Kept.refl _ _)
  have HX10 := Lib.hid (show Blk w10 xb 73 #[.int .u8 (k 0), .int .u8 (k 1), .int .u8 (k 2), .int .u8 (k 3), .int .u8 (k 4), .int .u8 (k 5), .int .u8 (k 6), .int .u8 (k 7), .int .u8 (k 8), .int .u8 (k 9), .int .u8 (k 10), .int .u8 (k 11), .int .u8 (k 12), .int .u8 (k 13), .int .u8 (k 14), .int .u8 (k 15), .int .u32 0, .pointer (some ⟨db, 0, none⟩), .pointer (some ⟨cl, 0, none⟩), .slice RA 1 rc, .slice none 0 0, .slice none 0 0, .pointer (some ⟨mb, 0, none⟩)] by rw [← hwq]; exact HX9.out.set_to rfl)
  have HCT10 := Lib.hid (HCT9.out.kept hx (fun h => HCT9.out.c.ne_ HX9.out (by decide) h) (fun h => HCT9.out.j.ne_ HX9.out (by decide) h) (fun h => HCT9.out.n.ne_ HX9.out (by decide) h))
  have HQB10 := Lib.hid (HQB9.out.kept hx (fun h => by have := HQX.out; omega))
  have HK10 := Lib.hid (HK9.out.then hx (fun i hi h => by have := HWX.out; omega))
  have HR10 := Lib.hid (Row.kept HR9.out hx (fun g hg h => by have := HRX.out g hg; omega))
  clear hwq hx cX lX fX
  have cX := HX10.out.cell
  have lX := HX10.out.lt
  have fX := HX10.out.frozen
  have cQ := HQB10.out.cell
  have lQ := HQB10.out.lt
  have fQ := HQB10.out.frozen
  rw [rounds_succ]
  go_wp2_with fail
  refine wp_loop_rounds 2 ?_
  rw [rounds_succ]
  go_upto_region 21 with fail
  obtain ⟨w11, hw11⟩ : ∃ w11 : World, w11 = w10.alloc (.cells #[.int .u64 0, .int .u64 1048576] 84) := ⟨_, rfl⟩
  have HL11 := Lib.hid (show Blk w11 w10.heap.size 84 #[.int .u64 0, .int .u64 1048576] by rw [hw11]; exact Blk.new _ _ _)
  have hk : Kept (fun _ => False) w10 w11 := by rw [hw11]; exact (Kept.refl _ _).alloc _
  have HX11 := Lib.hid (HX10.out.kept hk (fun h => h))
  have HCT11 := Lib.hid (HCT10.out.kept hk (fun h => h) (fun h => h) (fun h => h))
  have HQB11 := Lib.hid (HQB10.out.kept hk (fun h => h))
  have HK11 := Lib.hid (HK10.out.trans hk)
  have HR11 := Lib.hid (Row.kept HR10.out hk (fun _ _ h => h))
  rw [← hw11]
  clear hw11 hk cX lX fX cQ lQ fQ
  have cX := HX11.out.cell
  have lX := HX11.out.lt
  have fX := HX11.out.frozen
  have cQ := HQB11.out.cell
  have lQ := HQB11.out.lt
  have fQ := HQB11.out.frozen
  go_wp2_with (show wpList _ _ _ ((⟨_, .load 84 (.tmp 12), _, _, _, none⟩ : Oper) :: _) _ _; refine wpList_load_mid rfl 84 (.tmp 12) rfl w10.heap.size 0 rfl [.int .u64 0, .int .u64 1048576] _ HL11.out.range Tryz.underlying84 rfl (by kernel_rfl) ?_)
  refine (newS 1 cn 0 1048576 (by omega) (by omega) c0 c1 w11).mono ?_
  rintro e w12 ⟨sb, cb, mg, rfl, h1, h2, h3, h4, h5, h6, hk⟩
  have HSB := Lib.hid (And.intro h1 (And.intro h2 h3))
  have HS12 := Lib.hid h4
  have HC12 := Lib.hid h5
  have HM12 := Lib.hid h6
  have HX12 := Lib.hid (HX11.out.kept hk (fun h => h))
  have HCT12 := Lib.hid (HCT11.out.kept hk (fun h => h) (fun h => h) (fun h => h))
  have HQB12 := Lib.hid (HQB11.out.kept hk (fun h => h))
  have HK12 := Lib.hid (HK11.out.trans hk)
  have HR12 := Lib.hid (Row.kept HR11.out hk (fun _ _ h => h))
  clear hk h1 h2 h3 h4 h5 h6 cX lX fX cQ lQ fQ
  have cX := HX12.out.cell
  have lX := HX12.out.lt
  have fX := HX12.out.frozen
  have cQ := HQB12.out.cell
  have lQ := HQB12.out.lt
  have fQ := HQB12.out.frozen
  go_wp2_with (at_builtin; refine wpList_append_row rfl (.tmp 116) (.tmp 118) 70 rfl w12.heap.size 40 (.pointer none) 8 Tryz.underlying70 HI40.out rfl (.slice none 0 0) [] rfl (some ⟨w12.heap.size, 0, none⟩) 1 1 [.pointer (some ⟨sb, 0, none⟩)] rfl rfl (Row.nil _ _ _) (Src.new _ _ _ rfl) ?b2 ?b3 ?b4 ?b5 ?_)
  case b2 => intro u hu; rw [List.mem_singleton.1 hu]; rfl
  case b3 => show 0 + 1 ≤ maxLen; decide
  case b4 => show (0 + 1) * 8 ≤ _; decide
  case b5 => simp
  intro v13 w13 hrow hgr _
  have hrow : Row w13 w12.heap.size 40 v13 [.pointer (some ⟨sb, 0, none⟩)] := hrow
  obtain ⟨TA, tc, hve, -, -⟩ := hrow.shape
  have hve : v13 = .slice TA 1 tc := hve
  subst hve
  have hk : Kept (fun _ => False) w12 w13 := ((Kept.refl _ _).alloc _).trans (kept_grown (S := fun _ => False) hgr (fun i e _ => by cases e))
  have HT13 := Lib.hid (hrow.more (show w.heap.size ≤ w12.heap.size from HK12.out.size))
  have HTX := Lib.hid (show ∀ g, (Value.slice TA 1 tc).ownBlock = some g → xb < g from fun g hg => by have := (hrow.lt g hg).1; have := HX12.out.lt; omega)
  have HS13 := Lib.hid (HS12.out.kept hk (fun h => h))
  have HC13 := Lib.hid (HC12.out.kept hk (fun h => h))
  have HM13 := Lib.hid (HM12.out.kept hk (fun h => h))
  have HX13 := Lib.hid (HX12.out.kept hk (fun h => h))
  have HCT13 := Lib.hid (HCT12.out.kept hk (fun h => h) (fun h => h) (fun h => h))
  have HQB13 := Lib.hid (HQB12.out.kept hk (fun h => h))
  have HK13 := Lib.hid (HK12.out.trans hk)
  have HR13 := Lib.hid (Row.kept HR12.out hk (fun _ _ h => h))
  clear hk hgr hrow cX lX fX cQ lQ fQ
  have cX := HX13.out.cell
  have lX := HX13.out.lt
  have fX := HX13.out.frozen
  have cQ := HQB13.out.cell
  have lQ := HQB13.out.lt
  have fQ := HQB13.out.frozen
  go_wp2_with fail
  generalize hwq : World.setCell _ _ _ = w14
  have hx : Kept (fun i => i = xb) w13 w14 := by rw [← hwq]; exact Kept.setIn (S := fun i => i = xb) rfl (Kept.refl _ _)
  have HX14 := Lib.hid (show Blk w14 xb 73 #[.int .u8 (k 0), .int .u8 (k 1), .int .u8 (k 2), .int .u8 (k 3), .int .u8 (k 4), .int .u8 (k 5), .int .u8 (k 6), .int .u8 (k 7), .int .u8 (k 8), .int .u8 (k 9), .int .u8 (k 10), .int .u8 (k 11), .int .u8 (k 12), .int .u8 (k 13), .int .u8 (k 14), .int .u8 (k 15), .int .u32 0, .pointer (some ⟨db, 0, none⟩), .pointer (some ⟨cl, 0, none⟩), .slice RA 1 rc, .slice TA 1 tc, .slice none 0 0, .pointer (some ⟨mb, 0, none⟩)] by rw [← hwq]; exact HX13.out.set_to rfl)
  have HCT14 := Lib.hid (HCT13.out.kept hx (fun h => HCT13.out.c.ne_ HX13.out (by decide) h) (fun h => HCT13.out.j.ne_ HX13.out (by decide) h) (fun h => HCT13.out.n.ne_ HX13.out (by decide) h))
  have HQB14 := Lib.hid (HQB13.out.kept hx (fun h => by have := HQX.out; omega))
  have HK14 := Lib.hid (HK13.out.then hx (fun i hi h => by have := HWX.out; omega))
  have HR14 := Lib.hid (Row.kept HR13.out hx (fun g hg h => by have := HRX.out g hg; omega))
  have HT14 := Lib.hid (Row.kept HT13.out hx (fun g hg h => by have := HTX.out g hg; omega))
  have HS14 := Lib.hid (HS13.out.kept hx (fun h => HS13.out.ne_ HX13.out (by decide) h))
  have HC14 := Lib.hid (HC13.out.kept hx (fun h => HC13.out.ne_ HX13.out (by decide) h))
  have HM14 := Lib.hid (HM13.out.kept hx (fun h => HM13.out.ne HX13.out h))
  clear hwq hx cX lX fX cQ lQ fQ
  have cX := HX14.out.cell
  have lX := HX14.out.lt
  have fX := HX14.out.frozen
  have cQ := HQB14.out.cell
  have lQ := HQB14.out.lt
  have fQ := HQB14.out.frozen
  rw [rounds_succ]
  go_wp2_with fail
  refine wp_loop_rounds 1 ?_
  rw [rounds_succ]
  go_wp2_with fail
  go_ret2
  have hz := HK11.out.size
  have hq := HSB.out
  have hw := HWX.out
  exact ⟨xb, cl, jb, nb, db, mb, st, su, rm, RA, rc, ra, TA, tc, sb, cb, mg, rfl, hw.1, hw.2.2, by omega, by omega, by omega, HX14.out, HCT14.out, HR14.out, HT14.out, HS14.out, HC14.out, HM14.out, HK14.out⟩
