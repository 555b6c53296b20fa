/- ring.New, config.New, State.Copy (of a state that New made). -/
import Derived.Test.YtdnbhmfofphblaaGreatDoorTP
namespace Go.Proofs.YtdnbhmfofphblaaGreatDoor
open Go.RowKit
set_option maxRecDepth 100000
set_option linter.unusedVariables false
set_option linter.unusedSimpArgs false
/-- What is known of an empty state's cells. -/
structure StZ (Z : Array Value) : Prop where
  size : Z.size = 279
  vips : Z[278]? = some (.slice none 0 0)
  one : Z.all (·.oneCell') = true
theorem stZ250 (k : Nat → Int) : StZ ((((((((((((((((((Tryz.zeroCells250.setIfInBounds 1 (.int .u8 (k 0))).setIfInBounds 2 (.int .u8 (k 1))).setIfInBounds 3 (.int .u8 (k 2))).setIfInBounds 4 (.int .u8 (k 3))).setIfInBounds 5 (.int .u8 (k 4))).setIfInBounds 6 (.int .u8 (k 5))).setIfInBounds 7 (.int .u8 (k 6))).setIfInBounds 8 (.int .u8 (k 7))).setIfInBounds 9 (.int .u8 (k 8))).setIfInBounds 10 (.int .u8 (k 9))).setIfInBounds 11 (.int .u8 (k 10))).setIfInBounds 12 (.int .u8 (k 11))).setIfInBounds 13 (.int .u8 (k 12))).setIfInBounds 14 (.int .u8 (k 13))).setIfInBounds 15 (.int .u8 (k 14))).setIfInBounds 16 (.int .u8 (k 15))).setIfInBounds 17 (.int .u64 0))) := ⟨by kernel_rfl, by kernel_rfl, by kernel_rfl⟩
theorem zc250 : Tryz.zeroCells250.size = 279 := by kernel_rfl
theorem info250 : (Tryz.prog.info? 250).map (·.size) = some 279 := by kernel_rfl
set_option maxRecDepth 100000 in
set_option maxHeartbeats 2000000 in
theorem ringNew (k : Nat → Int) (w : World) :
    Calls Tryz.prog 103 #[.agg #[.int .u8 (k 0), .int .u8 (k 1), .int .u8 (k 2), .int .u8 (k 3), .int .u8 (k 4), .int .u8 (k 5), .int .u8 (k 6), .int .u8 (k 7), .int .u8 (k 8), .int .u8 (k 9), .int .u8 (k 10), .int .u8 (k 11), .int .u8 (k 12), .int .u8 (k 13), .int .u8 (k 14), .int .u8 (k 15)], .int .u64 0] w fun e w' => e = .returned (.agg #[.int .u8 (k 0), .int .u8 (k 1), .int .u8 (k 2), .int .u8 (k 3), .int .u8 (k 4), .int .u8 (k 5), .int .u8 (k 6), .int .u8 (k 7), .int .u8 (k 8), .int .u8 (k 9), .int .u8 (k 10), .int .u8 (k 11), .int .u8 (k 12), .int .u8 (k 13), .int .u8 (k 14), .int .u8 (k 15), .int .u64 0]) ∧ Kept (fun _ => False) w w' := by
  go_enter Tryz.func103, Tryz.ntmps103
  go_upto_region 1 with fail
  obtain ⟨w1, hw1⟩ : ∃ w1 : World, w1 = ((w.alloc (.cells #[.int .u8 (k 0), .int .u8 (k 1), .int .u8 (k 2), .int .u8 (k 3), .int .u8 (k 4), .int .u8 (k 5), .int .u8 (k 6), .int .u8 (k 7), .int .u8 (k 8), .int .u8 (k 9), .int .u8 (k 10), .int .u8 (k 11), .int .u8 (k 12), .int .u8 (k 13), .int .u8 (k 14), .int .u8 (k 15)] 36)).alloc (.cells #[.int .u8 0, .int .u8 0, .int .u8 0, .int .u8 0, .int .u8 0, .int .u8 0, .int .u8 0, .int .u8 0, .int .u8 0, .int .u8 0, .int .u8 0, .int .u8 0, .int .u8 0, .int .u8 0, .int .u8 0, .int .u8 0, .int .u64 0] 243)) := ⟨_, rfl⟩
  have HKB1 := Lib.hid (show Blk w1 w.heap.size 36 #[.int .u8 (k 0), .int .u8 (k 1), .int .u8 (k 2), .int .u8 (k 3), .int .u8 (k 4), .int .u8 (k 5), .int .u8 (k 6), .int .u8 (k 7), .int .u8 (k 8), .int .u8 (k 9), .int .u8 (k 10), .int .u8 (k 11), .int .u8 (k 12), .int .u8 (k 13), .int .u8 (k 14), .int .u8 (k 15)] by rw [hw1]; exact (Blk.new _ _ _).alloc _)
  have HRB1 := Lib.hid (show Blk w1 (w.heap.size + 1) 243 #[.int .u8 0, .int .u8 0, .int .u8 0, .int .u8 0, .int .u8 0, .int .u8 0, .int .u8 0, .int .u8 0, .int .u8 0, .int .u8 0, .int .u8 0, .int .u8 0, .int .u8 0, .int .u8 0, .int .u8 0, .int .u8 0, .int .u64 0] by rw [hw1]; exact Blk.new_ (by simp) _ _)
  have HK1 := Lib.hid (show Kept (fun _ => False) w w1 by rw [hw1]; exact ((Kept.refl _ _).alloc _).alloc _)
  rw [← hw1]
  clear hw1
  obtain ⟨rb, hrb⟩ : ∃ rb, w.heap.size + 1 = rb := ⟨_, rfl⟩
  rw [hrb] at HRB1
  (try rw [hrb])
  obtain ⟨kb, hkb⟩ : ∃ kb, w.heap.size = kb := ⟨_, rfl⟩
  rw [hkb] at HKB1
  (try rw [hkb])
  have HNE := Lib.hid (show kb = w.heap.size + 0 ∧ rb = w.heap.size + 1 ∧ True from ⟨by omega, by omega, trivial⟩)
  clear hkb hrb
  have cKB := HKB1.out.cell
  have lKB := HKB1.out.lt
  have fKB := HKB1.out.frozen
  have cRB := HRB1.out.cell
  have lRB := HRB1.out.lt
  have fRB := HRB1.out.frozen
  go_wp2_with (first | (show wpList _ _ _ ((⟨_, .load 36 (.tmp 2), _, _, _, none⟩ : Oper) :: _) _ _; refine wpList_load_mid rfl 36 (.tmp 2) rfl kb 0 rfl [.int .u8 (k 0), .int .u8 (k 1), .int .u8 (k 2), .int .u8 (k 3), .int .u8 (k 4), .int .u8 (k 5), .int .u8 (k 6), .int .u8 (k 7), .int .u8 (k 8), .int .u8 (k 9), .int .u8 (k 10), .int .u8 (k 11), .int .u8 (k 12), .int .u8 (k 13), .int .u8 (k 14), .int .u8 (k 15)] _ HKB1.out.range Tryz.underlying36 rfl (by kernel_rfl) ?_) | (show wpList _ _ _ ((⟨none, .store 243 (.tmp 4) _, _, _, _, none⟩ : Oper) :: _) _ _; refine wpList_store_mid rfl 243 (.tmp 4) _ rfl rb 0 #[.int .u8 (k 0), .int .u8 (k 1), .int .u8 (k 2), .int .u8 (k 3), .int .u8 (k 4), .int .u8 (k 5), .int .u8 (k 6), .int .u8 (k 7), .int .u8 (k 8), .int .u8 (k 9), .int .u8 (k 10), .int .u8 (k 11), .int .u8 (k 12), .int .u8 (k 13), .int .u8 (k 14), .int .u8 (k 15), .int .u64 0] rfl rfl (HRB1.out.there rfl) (by kernel_rfl) (by simp [Value.oneCell']) ?_))
  generalize hwq : World.setCells _ _ _ _ = w2
  have HX2 := Lib.hid (show Kept (fun i => i = rb) w1 w2 by rw [← hwq]; exact Kept.setCells (S := fun i => i = rb) rfl _ _ (Kept.refl _ _))
  have HKB2 := Lib.hid (HKB1.out.kept HX2.out (fun h => by have := HNE.out; omega))
  have HRB2 := Lib.hid (show Blk w2 rb 243 #[.int .u8 (k 0), .int .u8 (k 1), .int .u8 (k 2), .int .u8 (k 3), .int .u8 (k 4), .int .u8 (k 5), .int .u8 (k 6), .int .u8 (k 7), .int .u8 (k 8), .int .u8 (k 9), .int .u8 (k 10), .int .u8 (k 11), .int .u8 (k 12), .int .u8 (k 13), .int .u8 (k 14), .int .u8 (k 15), .int .u64 0] by rw [← hwq]; exact HRB1.out.setAll #[.int .u8 (k 0), .int .u8 (k 1), .int .u8 (k 2), .int .u8 (k 3), .int .u8 (k 4), .int .u8 (k 5), .int .u8 (k 6), .int .u8 (k 7), .int .u8 (k 8), .int .u8 (k 9), .int .u8 (k 10), .int .u8 (k 11), .int .u8 (k 12), .int .u8 (k 13), .int .u8 (k 14), .int .u8 (k 15), .int .u64 0] rfl)
  have HK2 := Lib.hid (HK1.out.then HX2.out (fun i hi e => by have := HNE.out; omega))
  clear cKB lKB fKB cRB lRB fRB
  clear hwq
  have cKB := HKB2.out.cell
  have lKB := HKB2.out.lt
  have fKB := HKB2.out.frozen
  have cRB := HRB2.out.cell
  have lRB := HRB2.out.lt
  have fRB := HRB2.out.frozen
  exact bodyPost_ret (results_blk1 (P := Tryz.prog) (show Tryz.f103.results = _ from rfl) _ _ rb 243 #[.int .u8 (k 0), .int .u8 (k 1), .int .u8 (k 2), .int .u8 (k 3), .int .u8 (k 4), .int .u8 (k 5), .int .u8 (k 6), .int .u8 (k 7), .int .u8 (k 8), .int .u8 (k 9), .int .u8 (k 10), .int .u8 (k 11), .int .u8 (k 12), .int .u8 (k 13), .int .u8 (k 14), .int .u8 (k 15), .int .u64 0] _ rfl HRB2.out Tryz.underlying243 rfl (by kernel_rfl)) rfl ⟨rfl, HK2.out⟩
set_option maxRecDepth 100000 in
set_option maxHeartbeats 2000000 in
theorem cfgNew (k : Nat → Int) (w : World) :
    Calls Tryz.prog 49 #[.agg #[.int .u8 (k 0), .int .u8 (k 1), .int .u8 (k 2), .int .u8 (k 3), .int .u8 (k 4), .int .u8 (k 5), .int .u8 (k 6), .int .u8 (k 7), .int .u8 (k 8), .int .u8 (k 9), .int .u8 (k 10), .int .u8 (k 11), .int .u8 (k 12), .int .u8 (k 13), .int .u8 (k 14), .int .u8 (k 15)]] w fun e w' => ∃ b Z, e = .returned (.pointer (some ⟨b, 0, none⟩)) ∧ w.heap.size ≤ b ∧ Blk w' b 250 Z ∧ StZ Z ∧ Kept (fun _ => False) w w' := by
  go_enter Tryz.func49, Tryz.ntmps49
  go_upto_region 1 with fail
  obtain ⟨w1, hw1⟩ : ∃ w1 : World, w1 = (w.alloc (.cells #[.int .u8 (k 0), .int .u8 (k 1), .int .u8 (k 2), .int .u8 (k 3), .int .u8 (k 4), .int .u8 (k 5), .int .u8 (k 6), .int .u8 (k 7), .int .u8 (k 8), .int .u8 (k 9), .int .u8 (k 10), .int .u8 (k 11), .int .u8 (k 12), .int .u8 (k 13), .int .u8 (k 14), .int .u8 (k 15)] 36)) := ⟨_, rfl⟩
  have HKB1 := Lib.hid (show Blk w1 w.heap.size 36 #[.int .u8 (k 0), .int .u8 (k 1), .int .u8 (k 2), .int .u8 (k 3), .int .u8 (k 4), .int .u8 (k 5), .int .u8 (k 6), .int .u8 (k 7), .int .u8 (k 8), .int .u8 (k 9), .int .u8 (k 10), .int .u8 (k 11), .int .u8 (k 12), .int .u8 (k 13), .int .u8 (k 14), .int .u8 (k 15)] by rw [hw1]; exact Blk.new _ _ _)
  have HK1 := Lib.hid (show Kept (fun _ => False) w w1 by rw [hw1]; exact (Kept.refl _ _).alloc _)
  rw [← hw1]
  clear hw1
  obtain ⟨kb, hkb⟩ : ∃ kb, w.heap.size = kb := ⟨_, rfl⟩
  rw [hkb] at HKB1
  (try rw [hkb])
  have HNE := Lib.hid (show kb = w.heap.size + 0 ∧ True from ⟨by omega, trivial⟩)
  clear hkb
  have cKB := HKB1.out.cell
  have lKB := HKB1.out.lt
  have fKB := HKB1.out.frozen
  go_wp2_with (show wpList _ _ _ ((⟨_, .load 36 (.tmp 1), _, _, _, none⟩ : Oper) :: _) _ _; refine wpList_load_mid rfl 36 (.tmp 1) rfl kb 0 rfl [.int .u8 (k 0), .int .u8 (k 1), .int .u8 (k 2), .int .u8 (k 3), .int .u8 (k 4), .int .u8 (k 5), .int .u8 (k 6), .int .u8 (k 7), .int .u8 (k 8), .int .u8 (k 9), .int .u8 (k 10), .int .u8 (k 11), .int .u8 (k 12), .int .u8 (k 13), .int .u8 (k 14), .int .u8 (k 15)] _ HKB1.out.range Tryz.underlying36 rfl (by kernel_rfl) ?_)
  refine (ringNew k w1).mono ?_
  rintro e w2 ⟨rfl, hk⟩
  have HK2 := Lib.hid (HK1.out.trans hk)
  have HS2 := Lib.hid (show Kept (fun _ => False) w1 w2 from hk)
  have HKB2 := Lib.hid (HKB1.out.kept hk (fun h => h))
  clear cKB lKB fKB
  have cKB := HKB2.out.cell
  have lKB := HKB2.out.lt
  have fKB := HKB2.out.frozen
  clear hk cKB lKB fKB
  go_wp2_with fail
  go_ret
  exact ⟨w2.heap.size, (((((((((((((((((Tryz.zeroCells250.setIfInBounds 1 (.int .u8 (k 0))).setIfInBounds 2 (.int .u8 (k 1))).setIfInBounds 3 (.int .u8 (k 2))).setIfInBounds 4 (.int .u8 (k 3))).setIfInBounds 5 (.int .u8 (k 4))).setIfInBounds 6 (.int .u8 (k 5))).setIfInBounds 7 (.int .u8 (k 6))).setIfInBounds 8 (.int .u8 (k 7))).setIfInBounds 9 (.int .u8 (k 8))).setIfInBounds 10 (.int .u8 (k 9))).setIfInBounds 11 (.int .u8 (k 10))).setIfInBounds 12 (.int .u8 (k 11))).setIfInBounds 13 (.int .u8 (k 12))).setIfInBounds 14 (.int .u8 (k 13))).setIfInBounds 15 (.int .u8 (k 14))).setIfInBounds 16 (.int .u8 (k 15))).setIfInBounds 17 (.int .u64 0)), rfl, HK2.out.size, Blk.new _ _ _, stZ250 k, HK2.out.alloc _⟩
theorem cloneVips (w : World) : Calls Tryz.prog 110 #[.slice none 0 0] w fun e w' => e = .returned (.slice none 0 0) ∧ w = w' := by
  have hq := fun W => Lib.run_eql_slice_nil (P := Tryz.prog) W 248 262 none 0 0 0 0 Tryz.underlying248
  go_enter Tryz.func110, Tryz.ntmps110
  go_wp2
  go_ret
  exact ⟨rfl, rfl⟩
set_option maxRecDepth 100000 in
set_option maxHeartbeats 2000000 in
theorem cfgCopy (Z : Array Value) (hZ : StZ Z) (b : Nat) (w : World) (hB : Blk w b 250 Z) :
    Calls Tryz.prog 54 #[.pointer (some ⟨b, 0, none⟩)] w fun e w' => ∃ c, e = .returned (.pointer (some ⟨c, 0, none⟩)) ∧ w.heap.size ≤ c ∧ Kept (fun _ => False) w w' := by
  have HB := Lib.hid hB
  have HZ := Lib.hid hZ
  have HI := Lib.hid (show (Tryz.prog.info? 250).map (·.size) = some Z.size by rw [hZ.size]; exact info250)
  have HL := Lib.hid (show (Tryz.prog.info? 250).map (·.size) = some Z.toList.length by rw [Array.length_toList, hZ.size]; exact info250)
  have HLT := Lib.hid hB.lt
  clear hB hZ
  go_enter Tryz.func54, Tryz.ntmps54
  go_upto_region 4 with (first | (show wpList _ _ _ ((⟨_, .load 250 (.tmp 8), _, _, _, none⟩ : Oper) :: _) _ _; refine wpList_load_mid rfl 250 (.tmp 8) rfl b 0 rfl Z.toList _ HB.out.range Tryz.underlying250 rfl HL.out ?_) | (show wpList _ _ _ ((⟨none, .store 250 (.tmp 3) _, _, _, _, none⟩ : Oper) :: _) _ _; refine wpList_store_mid rfl 250 (.tmp 3) _ rfl w.heap.size 0 Z rfl rfl ((Blk.new w 250 Tryz.zeroCells250).there (by rw [zc250, HZ.out.size])) HI.out HZ.out.one ?_))
  generalize hwq : (World.setCells _ _ _ _) = w2
  have HX2 := Lib.hid (show Kept (fun _ => False) w w2 by rw [← hwq]; exact ((Kept.refl _ _).alloc _).then (Kept.setCells (S := fun i => i = w.heap.size) rfl _ _ (Kept.refl _ _)) (fun i hi e => by omega))
  have HC2 := Lib.hid (show Blk w2 w.heap.size 250 Z by rw [← hwq]; exact (Blk.new w 250 Tryz.zeroCells250).setAll Z (by rw [zc250, HZ.out.size]))
  clear hwq
  have HB2 := Lib.hid (HB.out.kept HX2.out (fun h => h))
  have c278 : w2.cell? ⟨b, 278, none⟩ = some (.slice none 0 0) := (HB2.out.cell 278).trans HZ.out.vips
  obtain ⟨c, hc⟩ : ∃ c, w.heap.size = c := ⟨_, rfl⟩
  rw [hc] at HC2 ⊢
  have HCC := Lib.hid hc
  clear hc
  have d278 : w2.cell? ⟨c, 278, none⟩ = some (.slice none 0 0) := (HC2.out.cell 278).trans HZ.out.vips
  have f278 : w2.frozen? ⟨c, 278, none⟩ = false := HC2.out.frozen 278
  have lC := HC2.out.lt
  go_wp2_with fail
  refine (cloneVips w2).mono ?_
  rintro e w' ⟨rfl, rfl⟩
  go_wp2_with fail
  refine wp_loop_rounds 1 ?_
  rw [rounds_succ]
  go_wp2_with fail
  go_ret
  exact ⟨c, rfl, by rw [HCC.out]; exact Nat.le_refl _, HX2.out.then (Kept.setIn (S := fun i => i = c) rfl (Kept.refl _ _)) (fun i hi e => by have := HCC.out; omega)⟩
end Go.Proofs.YtdnbhmfofphblaaGreatDoor
