/- A Builder written once; desk.Parse, desk.Do, desk.Run, works at 'offer 0'. -/
import Derived.Test.YtdnbhmfofphblaaGreatDoorVM
namespace Go.Proofs.YtdnbhmfofphblaaGreatDoor
open Go.RowKit
set_option maxRecDepth 100000
set_option linter.unusedVariables false
set_option linter.unusedSimpArgs false
set_option maxRecDepth 100000 in
set_option maxHeartbeats 2000000 in
theorem copyChk (bb : Nat) (w : World) (hB : Blk w bb 129 #[.pointer none, .slice none 0 0]) : Calls Tryz.prog 95 #[.pointer (some ⟨bb, 0, none⟩)] w fun e w' => e = .returned (.tuple #[]) ∧ Blk w' bb 129 #[.pointer (some ⟨bb, 0, none⟩), .slice none 0 0] ∧ Kept (fun i => i = bb) w w' := by
  obtain ⟨j, hj, hjs⟩ := Option.map_eq_some_iff.1 (show (Tryz.prog.info? 129).map (·.size) = some 2 by kernel_rfl)
  have hl : liesAt Tryz.prog Tryz.prog.depth 129 (2 / Tryz.prog.cellsOf 129) 0 129 1 = true := by kernel_rfl
  have hsh : w.shape? bb = some (129, 2) := by unfold Blk at hB; simp [World.shape?, hB]
  have cB := hB.cell
  have fB := hB.frozen
  have lB := hB.lt
  go_enter Tryz.func95, Tryz.ntmps95
  go_wp2
  rw [Lib.run_to_unsafe w ⟨bb, 0, none⟩ Tryz.underlying127 Tryz.underlying306 hj (by rw [hjs]; decide) hsh (Nat.zero_lt_succ 1)]
  simp only [Result.andThen]
  rw [Oper.upon_value]
  go_wp2
  rw [run_callFunc_extern Tryz.func149 (by kernel_rfl) (by kernel_rfl) (by kernel_rfl) (e := Extern.AbiNoEscape.same) (by kernel_rfl)]
  rw [Lib.run_noEscape]
  simp only [Result.andThen]
  rw [Oper.upon_value]
  go_wp2
  rw [Lib.run_from_unsafe w ⟨bb, 0, none⟩ Tryz.underlying306 Tryz.underlying127 hj hsh hl]
  simp only [Result.andThen]
  rw [Oper.upon_value]
  go_wp2
  refine bodyPost_end (results_none rfl _ _ _) rfl ?_
  exact ⟨rfl, hB.set_to rfl, Kept.setIn (S := fun i => i = bb) rfl (Kept.refl _ _)⟩
set_option maxRecDepth 100000 in
set_option maxHeartbeats 2000000 in
theorem writeT (bb : Nat) (s : ByteArray) (hs : s.size ≤ 1000) (w : World) (hB : Blk w bb 129 #[.pointer none, .slice none 0 0]) :
    Calls Tryz.prog 43 #[.pointer (some ⟨bb, 0, none⟩), .string s] w fun e w' => e = .returned (.tuple #[.int .i64 s.size, .nilIface]) ∧ Lib.BuilderAt 129 5 bb bb (.pointer (some ⟨bb, 0, none⟩)) (Lib.strCells s) w' ∧ Kept (fun i => i = bb) w w' := by
  obtain ⟨i0, hi, hz0, hz1, hz2⟩ := info_parts (show (Tryz.prog.info? 5).map (fun i => (i.zero, i.size, i.bytes)) = some (some (.int .u8 0), 1, 1) by kernel_rfl)
  have HB := Lib.hid hB
  have HS := Lib.hid hs
  clear hB hs
  go_enter Tryz.func43, Tryz.ntmps43
  go_wp2_with fail
  refine (copyChk bb w HB.out).mono ?_
  rintro e w1 ⟨rfl, hb, hk⟩
  have HB1 := Lib.hid hb
  have HK1 := Lib.hid hk
  clear hb hk
  have cB := HB1.out.cell
  have fB := HB1.out.frozen
  have lB := HB1.out.lt
  go_wp2_with (at_builtin; refine Lib.wpList_append_own_string _ rfl _ _ 44 9 rfl bb 5 i0 Tryz.underlying44 Tryz.underlying9 hi hz0 hz1 hz2 _ _ _ rfl (World.ownsRow_nil w1 bb 5 1) s rfl ?c3 ?c4 ?c5 ?_)
  case c3 => unfold maxLen; have := HS.out; simp; omega
  case c4 => have := HS.out; simp; omega
  case c5 => exact Nat.le_of_lt HB1.out.lt
  intro v2 w2 hown hgrow _
  have hb2 := Blk.grown HB1.out hgrow (by intro h; cases h)
  obtain ⟨ao, n', cap, rfl⟩ : ∃ ao n' cap, v2 = .slice ao n' cap := by
    rcases hown.2 with ⟨hv, _⟩ | ⟨g, cap, cur, hv, _⟩
    · exact ⟨_, _, _, hv⟩
    · exact ⟨_, _, _, hv⟩
  have HB2 := Lib.hid hb2
  have HOW := Lib.hid hown
  have HX2 := Lib.hid (kept_grown (S := fun i => i = bb) hgrow (fun i e _ => by cases e))
  clear cB fB lB hb2 hown hgrow
  have cB := HB2.out.cell
  have fB := HB2.out.frozen
  have lB := HB2.out.lt
  go_wp2_with fail
  go_ret2
  refine ⟨rfl, ?_, Kept.setIn (S := fun i => i = bb) rfl (HK1.out.trans HX2.out)⟩
  exact Lib.BuilderAt.put (T := 129) (e := 5) (Nat.le_refl _) HB2.out (bs' := Lib.strCells s) (by simpa [Lib.strCells_length] using HOW.out) (by decide)
set_option maxRecDepth 100000 in
set_option maxHeartbeats 2000000 in
theorem deskParse (w : World) : Calls Tryz.prog 40 #[.string ⟨#[111, 102, 102, 101, 114, 32, 48]⟩] w fun e w' => ∃ b, e = .returned (.tuple #[.agg #[.int .u8 (kOne 0), .int .u8 (kOne 1), .int .u8 (kOne 2), .int .u8 (kOne 3), .int .u8 (kOne 4), .int .u8 (kOne 5), .int .u8 (kOne 6), .int .u8 (kOne 7), .int .u8 (kOne 8), .int .u8 (kOne 9), .int .u8 (kOne 10), .int .u8 (kOne 11), .int .u8 (kOne 12), .int .u8 (kOne 13), .int .u8 (kOne 14), .int .u8 (kOne 15), .int .i64 1, .int .i64 1, .slice none 0 0, .int .i64 1500, .int .i64 16, .int .i64 65536, .int .i64 64, .slice (some ⟨b, 0, none⟩) 1 1], .int .i64 0]) ∧ Blk w' b 9 #[.string ⟨#[111, 102, 102, 101, 114, 32, 48]⟩] ∧ Kept (fun _ => False) w w' := by
  go_enter Tryz.func40, Tryz.ntmps40
  go_upto_region 1 with fail
  obtain ⟨w1, hw1⟩ : ∃ w1 : World, w1 = (w.alloc (.cells #[.int .u8 0, .int .u8 0, .int .u8 0, .int .u8 0, .int .u8 0, .int .u8 0, .int .u8 0, .int .u8 0, .int .u8 0, .int .u8 0, .int .u8 0, .int .u8 0, .int .u8 0, .int .u8 0, .int .u8 0, .int .u8 0, .int .i64 0, .int .i64 0, .slice none 0 0, .int .i64 0, .int .i64 0, .int .i64 0, .int .i64 0, .slice none 0 0] 122)) := ⟨_, rfl⟩
  have HRB1 := Lib.hid (show Blk w1 w.heap.size 122 #[.int .u8 0, .int .u8 0, .int .u8 0, .int .u8 0, .int .u8 0, .int .u8 0, .int .u8 0, .int .u8 0, .int .u8 0, .int .u8 0, .int .u8 0, .int .u8 0, .int .u8 0, .int .u8 0, .int .u8 0, .int .u8 0, .int .i64 0, .int .i64 0, .slice none 0 0, .int .i64 0, .int .i64 0, .int .i64 0, .int .i64 0, .slice none 0 0] by rw [hw1]; exact Blk.new _ _ _)
  have HK1 := Lib.hid (show Kept (fun _ => False) w w1 by rw [hw1]; exact (Kept.refl _ _).alloc _)
  rw [← hw1]
  clear hw1
  obtain ⟨rb, hrb⟩ : ∃ rb, w.heap.size = rb := ⟨_, rfl⟩
  rw [hrb] at HRB1
  (try rw [hrb])
  have HNE := Lib.hid (show rb = w.heap.size + 0 ∧ True from ⟨by omega, trivial⟩)
  clear hrb
  have cRB := HRB1.out.cell
  have lRB := HRB1.out.lt
  have fRB := HRB1.out.frozen
  go_wp2_with fail
  refine (defaultsT w1).mono ?_
  rintro e w2 ⟨rfl, hk⟩
  have HK2 := Lib.hid (HK1.out.trans hk)
  have HS2 := Lib.hid (show Kept (fun _ => False) w1 w2 from hk)
  have HRB2 := Lib.hid (HRB1.out.kept hk (fun h => h))
  clear cRB lRB fRB
  have cRB := HRB2.out.cell
  have lRB := HRB2.out.lt
  have fRB := HRB2.out.frozen
  clear hk cRB lRB fRB
  go_upto_region 2 with (show wpList _ _ _ ((⟨none, .store 122 (.tmp 4) _, _, _, _, none⟩ : Oper) :: _) _ _; refine wpList_store_mid rfl 122 (.tmp 4) _ rfl w2.heap.size 0 #[.int .u8 (kOne 0), .int .u8 (kOne 1), .int .u8 (kOne 2), .int .u8 (kOne 3), .int .u8 (kOne 4), .int .u8 (kOne 5), .int .u8 (kOne 6), .int .u8 (kOne 7), .int .u8 (kOne 8), .int .u8 (kOne 9), .int .u8 (kOne 10), .int .u8 (kOne 11), .int .u8 (kOne 12), .int .u8 (kOne 13), .int .u8 (kOne 14), .int .u8 (kOne 15), .int .i64 1, .int .i64 1, .slice none 0 0, .int .i64 1500, .int .i64 16, .int .i64 65536, .int .i64 64, .slice none 0 0] rfl rfl ((Blk.new w2 122 #[.int .u8 0, .int .u8 0, .int .u8 0, .int .u8 0, .int .u8 0, .int .u8 0, .int .u8 0, .int .u8 0, .int .u8 0, .int .u8 0, .int .u8 0, .int .u8 0, .int .u8 0, .int .u8 0, .int .u8 0, .int .u8 0, .int .i64 0, .int .i64 0, .slice none 0 0, .int .i64 0, .int .i64 0, .int .i64 0, .int .i64 0, .slice none 0 0]).there rfl) (by kernel_rfl) (by simp [Value.oneCell']) ?_)
  generalize hwq : (World.setCells _ _ _ _) = w3
  have HX3 := Lib.hid (show Kept (fun _ => False) w2 w3 by rw [← hwq]; exact ((Kept.refl _ _).alloc _).then (Kept.setCells (S := fun i => i = w2.heap.size) rfl _ _ (Kept.refl _ _)) (fun i hi e => by omega))
  have T1 : Blk (w2.alloc (.cells #[.int .u8 0, .int .u8 0, .int .u8 0, .int .u8 0, .int .u8 0, .int .u8 0, .int .u8 0, .int .u8 0, .int .u8 0, .int .u8 0, .int .u8 0, .int .u8 0, .int .u8 0, .int .u8 0, .int .u8 0, .int .u8 0, .int .i64 0, .int .i64 0, .slice none 0 0, .int .i64 0, .int .i64 0, .int .i64 0, .int .i64 0, .slice none 0 0] 122)) w2.heap.size 122 #[.int .u8 0, .int .u8 0, .int .u8 0, .int .u8 0, .int .u8 0, .int .u8 0, .int .u8 0, .int .u8 0, .int .u8 0, .int .u8 0, .int .u8 0, .int .u8 0, .int .u8 0, .int .u8 0, .int .u8 0, .int .u8 0, .int .i64 0, .int .i64 0, .slice none 0 0, .int .i64 0, .int .i64 0, .int .i64 0, .int .i64 0, .slice none 0 0] := Blk.new w2 122 #[.int .u8 0, .int .u8 0, .int .u8 0, .int .u8 0, .int .u8 0, .int .u8 0, .int .u8 0, .int .u8 0, .int .u8 0, .int .u8 0, .int .u8 0, .int .u8 0, .int .u8 0, .int .u8 0, .int .u8 0, .int .u8 0, .int .i64 0, .int .i64 0, .slice none 0 0, .int .i64 0, .int .i64 0, .int .i64 0, .int .i64 0, .slice none 0 0]
  have T2 : Blk (World.setCells (w2.alloc (.cells #[.int .u8 0, .int .u8 0, .int .u8 0, .int .u8 0, .int .u8 0, .int .u8 0, .int .u8 0, .int .u8 0, .int .u8 0, .int .u8 0, .int .u8 0, .int .u8 0, .int .u8 0, .int .u8 0, .int .u8 0, .int .u8 0, .int .i64 0, .int .i64 0, .slice none 0 0, .int .i64 0, .int .i64 0, .int .i64 0, .int .i64 0, .slice none 0 0] 122)) w2.heap.size 0 [.int .u8 (kOne 0), .int .u8 (kOne 1), .int .u8 (kOne 2), .int .u8 (kOne 3), .int .u8 (kOne 4), .int .u8 (kOne 5), .int .u8 (kOne 6), .int .u8 (kOne 7), .int .u8 (kOne 8), .int .u8 (kOne 9), .int .u8 (kOne 10), .int .u8 (kOne 11), .int .u8 (kOne 12), .int .u8 (kOne 13), .int .u8 (kOne 14), .int .u8 (kOne 15), .int .i64 1, .int .i64 1, .slice none 0 0, .int .i64 1500, .int .i64 16, .int .i64 65536, .int .i64 64, .slice none 0 0]) w2.heap.size 122 #[.int .u8 (kOne 0), .int .u8 (kOne 1), .int .u8 (kOne 2), .int .u8 (kOne 3), .int .u8 (kOne 4), .int .u8 (kOne 5), .int .u8 (kOne 6), .int .u8 (kOne 7), .int .u8 (kOne 8), .int .u8 (kOne 9), .int .u8 (kOne 10), .int .u8 (kOne 11), .int .u8 (kOne 12), .int .u8 (kOne 13), .int .u8 (kOne 14), .int .u8 (kOne 15), .int .i64 1, .int .i64 1, .slice none 0 0, .int .i64 1500, .int .i64 16, .int .i64 65536, .int .i64 64, .slice none 0 0] := T1.setMid 0 _ _ (by simp) rfl
  have HSB3 := Lib.hid (show Blk w3 w2.heap.size 122 #[.int .u8 (kOne 0), .int .u8 (kOne 1), .int .u8 (kOne 2), .int .u8 (kOne 3), .int .u8 (kOne 4), .int .u8 (kOne 5), .int .u8 (kOne 6), .int .u8 (kOne 7), .int .u8 (kOne 8), .int .u8 (kOne 9), .int .u8 (kOne 10), .int .u8 (kOne 11), .int .u8 (kOne 12), .int .u8 (kOne 13), .int .u8 (kOne 14), .int .u8 (kOne 15), .int .i64 1, .int .i64 1, .slice none 0 0, .int .i64 1500, .int .i64 16, .int .i64 65536, .int .i64 64, .slice none 0 0] by rw [← hwq]; exact T2)
  have HK3 := Lib.hid (HK2.out.trans HX3.out)
  have HRB3 := Lib.hid (HRB2.out.kept HX3.out (fun h => h))
  obtain ⟨sb, hsb⟩ : ∃ sb, w2.heap.size = sb := ⟨_, rfl⟩
  rw [hsb] at HSB3 ⊢
  have HRS := Lib.hid (show rb < sb by have := HRB2.out.lt; omega)
  have HSW := Lib.hid (show w.heap.size ≤ sb by have := HK2.out.size; omega)
  clear hwq hsb T1 T2
  go_wp2_with fail
  refine (deskSplit w3).mono ?_
  rintro e w4 ⟨b, rfl, hb, hk⟩
  have HB4 := Lib.hid hb
  have HRB4 := Lib.hid (HRB3.out.kept hk (fun h => h))
  have HSB4 := Lib.hid (HSB3.out.kept hk (fun h => h))
  have HK4 := Lib.hid (HK3.out.trans hk)
  have HBS := Lib.hid (show b ≠ sb from hb.ne_ (HSB3.out.kept hk (fun h => h)) (by decide))
  have HBR := Lib.hid (show b ≠ rb from hb.ne_ (HRB3.out.kept hk (fun h => h)) (by decide))
  clear hb hk
  have cB := HB4.out.cell
  have lB := HB4.out.lt
  have fB := HB4.out.frozen
  have cS := HSB4.out.cell
  have lS := HSB4.out.lt
  have fS := HSB4.out.frozen
  go_wp2_with fail
  refine wp_loop_rounds 1 ?_
  rw [rounds_succ]
  go_wp2_with fail
  refine (cutPre w4).mono ?_
  rintro e w' ⟨rfl, rfl⟩
  go_upto_region 13 with fail
  generalize hwq : World.setCell _ _ _ = w5
  have HX5 := Lib.hid (show Kept (fun i => i = sb) w4 w5 by rw [← hwq]; exact Kept.setIn (S := fun i => i = sb) rfl (Kept.refl _ _))
  have HSB5 := Lib.hid (show Blk w5 sb 122 #[.int .u8 (kOne 0), .int .u8 (kOne 1), .int .u8 (kOne 2), .int .u8 (kOne 3), .int .u8 (kOne 4), .int .u8 (kOne 5), .int .u8 (kOne 6), .int .u8 (kOne 7), .int .u8 (kOne 8), .int .u8 (kOne 9), .int .u8 (kOne 10), .int .u8 (kOne 11), .int .u8 (kOne 12), .int .u8 (kOne 13), .int .u8 (kOne 14), .int .u8 (kOne 15), .int .i64 1, .int .i64 1, .slice none 0 0, .int .i64 1500, .int .i64 16, .int .i64 65536, .int .i64 64, .slice (some ⟨b, 0, none⟩) 1 1] by rw [← hwq]; exact HSB4.out.set_to rfl)
  have HRB5 := Lib.hid (HRB4.out.kept HX5.out (fun h => by have := HRS.out; omega))
  have HB5 := Lib.hid (HB4.out.kept HX5.out HBS.out)
  have HK5 := Lib.hid (HK4.out.then HX5.out (fun i hi h => by have := HSW.out; omega))
  clear hwq cB lB fB cS lS fS
  go_wp2_with (first | (show wpList _ _ _ ((⟨_, .load 122 (.tmp 4), _, _, _, none⟩ : Oper) :: _) _ _; refine wpList_load_mid rfl 122 (.tmp 4) rfl sb 0 rfl [.int .u8 (kOne 0), .int .u8 (kOne 1), .int .u8 (kOne 2), .int .u8 (kOne 3), .int .u8 (kOne 4), .int .u8 (kOne 5), .int .u8 (kOne 6), .int .u8 (kOne 7), .int .u8 (kOne 8), .int .u8 (kOne 9), .int .u8 (kOne 10), .int .u8 (kOne 11), .int .u8 (kOne 12), .int .u8 (kOne 13), .int .u8 (kOne 14), .int .u8 (kOne 15), .int .i64 1, .int .i64 1, .slice none 0 0, .int .i64 1500, .int .i64 16, .int .i64 65536, .int .i64 64, .slice (some ⟨b, 0, none⟩) 1 1] _ HSB5.out.range Tryz.underlying122 rfl (by kernel_rfl) ?_) | (show wpList _ _ _ ((⟨none, .store 122 (.tmp 2) _, _, _, _, none⟩ : Oper) :: _) _ _; refine wpList_store_mid rfl 122 (.tmp 2) _ rfl rb 0 #[.int .u8 (kOne 0), .int .u8 (kOne 1), .int .u8 (kOne 2), .int .u8 (kOne 3), .int .u8 (kOne 4), .int .u8 (kOne 5), .int .u8 (kOne 6), .int .u8 (kOne 7), .int .u8 (kOne 8), .int .u8 (kOne 9), .int .u8 (kOne 10), .int .u8 (kOne 11), .int .u8 (kOne 12), .int .u8 (kOne 13), .int .u8 (kOne 14), .int .u8 (kOne 15), .int .i64 1, .int .i64 1, .slice none 0 0, .int .i64 1500, .int .i64 16, .int .i64 65536, .int .i64 64, .slice (some ⟨b, 0, none⟩) 1 1] rfl rfl (HRB5.out.there rfl) (by kernel_rfl) (by simp [Value.oneCell']) ?_))
  generalize hwq : (World.setCells _ _ _ _) = w6
  have HX6 := Lib.hid (show Kept (fun i => i = rb) w5 w6 by rw [← hwq]; exact Kept.setCells (S := fun i => i = rb) rfl _ _ (Kept.refl _ _))
  have HRB6 := Lib.hid (show Blk w6 rb 122 #[.int .u8 (kOne 0), .int .u8 (kOne 1), .int .u8 (kOne 2), .int .u8 (kOne 3), .int .u8 (kOne 4), .int .u8 (kOne 5), .int .u8 (kOne 6), .int .u8 (kOne 7), .int .u8 (kOne 8), .int .u8 (kOne 9), .int .u8 (kOne 10), .int .u8 (kOne 11), .int .u8 (kOne 12), .int .u8 (kOne 13), .int .u8 (kOne 14), .int .u8 (kOne 15), .int .i64 1, .int .i64 1, .slice none 0 0, .int .i64 1500, .int .i64 16, .int .i64 65536, .int .i64 64, .slice (some ⟨b, 0, none⟩) 1 1] by rw [← hwq]; have T1 := HRB5.out; exact T1.setMid 0 _ _ (by simp) rfl)
  clear hwq
  exact bodyPost_ret (results_blk_tmp (P := Tryz.prog) (show Tryz.f40.results = _ from rfl) _ _ rb 122 #[.int .u8 (kOne 0), .int .u8 (kOne 1), .int .u8 (kOne 2), .int .u8 (kOne 3), .int .u8 (kOne 4), .int .u8 (kOne 5), .int .u8 (kOne 6), .int .u8 (kOne 7), .int .u8 (kOne 8), .int .u8 (kOne 9), .int .u8 (kOne 10), .int .u8 (kOne 11), .int .u8 (kOne 12), .int .u8 (kOne 13), .int .u8 (kOne 14), .int .u8 (kOne 15), .int .i64 1, .int .i64 1, .slice none 0 0, .int .i64 1500, .int .i64 16, .int .i64 65536, .int .i64 64, .slice (some ⟨b, 0, none⟩) 1 1] _ rfl HRB6.out Tryz.underlying122 rfl (by kernel_rfl)) rfl ⟨b, rfl, HB5.out.kept HX6.out HBR.out, HK5.out.then HX6.out (fun i hi h => by have := HNE.out; omega)⟩
set_option maxRecDepth 100000 in
set_option maxHeartbeats 2000000 in
theorem deskDo (k : Nat → Int) (xb cl jb nb db mb st su rm B : Nat) (RA TA : Option Addr) (rc ra tc : Nat) (w : World) (hX : Blk w xb 73 #[.int .u8 (k 0), .int .u8 (k 1), .int .u8 (k 2), .int .u8 (k 3), .int .u8 (k 4), .int .u8 (k 5), .int .u8 (k 6), .int .u8 (k 7), .int .u8 (k 8), .int .u8 (k 9), .int .u8 (k 10), .int .u8 (k 11), .int .u8 (k 12), .int .u8 (k 13), .int .u8 (k 14), .int .u8 (k 15), .int .u32 0, .pointer (some ⟨db, 0, none⟩), .pointer (some ⟨cl, 0, none⟩), .slice RA 1 rc, .slice TA 1 tc, .slice none 0 0, .pointer (some ⟨mb, 0, none⟩)]) (hC : Ctl w cl jb nb db st su rm) (hR : Row w B 78 (.slice RA 1 rc) [.pointer (some ⟨ra, 0, none⟩)]) : Calls Tryz.prog 44 #[.pointer (some ⟨xb, 0, none⟩), .string ⟨#[111, 102, 102, 101, 114, 32, 48]⟩] w fun e w' => e = .returned (.string ⟨#[101, 114, 114, 111, 114, 32, 54]⟩) ∧ Kept (fun _ => False) w w' := by
  have HX := Lib.hid hX
  have HC := Lib.hid hC
  have HR := Lib.hid hR
  clear hX hC hR
  go_enter Tryz.func44, Tryz.ntmps44
  go_wp2_with fail
  refine (parse_0 w).mono ?_
  rintro e w2 ⟨rfl, hbw⟩
  have HK2 := Lib.hid (show Kept (fun _ => False) w w2 from Kept.ofB hbw)
  clear hbw
  go_upto_region 2 with (show wpList _ _ _ ((⟨none, .store 227 (.tmp 5) _, _, _, _, none⟩ : Oper) :: _) _ _; refine wpList_store_mid rfl 227 (.tmp 5) _ rfl w2.heap.size 0 #[.int .i64 3, .int .i64 0, .int .i64 0, .int .i64 0, .int .i64 0, .bool false, .int .u64 0, .int .u64 0, .int .u16 0, .int .u8 0, .int .i64 0, .slice none 0 0, .int .i64 0, .int .i64 0, .int .u8 0, .slice none 0 0, .int .u32 0, .int .u32 0, .int .u32 0, .bool false, .int .u64 0, .int .u64 0, .int .u16 0] rfl rfl ((Blk.new w2 227 #[.int .i64 0, .int .i64 0, .int .i64 0, .int .i64 0, .int .i64 0, .bool false, .int .u64 0, .int .u64 0, .int .u16 0, .int .u8 0, .int .i64 0, .slice none 0 0, .int .i64 0, .int .i64 0, .int .u8 0, .slice none 0 0, .int .u32 0, .int .u32 0, .int .u32 0, .bool false, .int .u64 0, .int .u64 0, .int .u16 0]).there rfl) (by kernel_rfl) (by simp [Value.oneCell']) ?_)
  generalize hwq : (World.setCells _ _ _ _) = w3
  have HX3 := Lib.hid (show Kept (fun _ => False) w2 w3 by rw [← hwq]; exact ((Kept.refl _ _).alloc _).then (Kept.setCells (S := fun i => i = w2.heap.size) rfl _ _ (Kept.refl _ _)) (fun i hi e => by omega))
  have T1 : Blk (w2.alloc (.cells #[.int .i64 0, .int .i64 0, .int .i64 0, .int .i64 0, .int .i64 0, .bool false, .int .u64 0, .int .u64 0, .int .u16 0, .int .u8 0, .int .i64 0, .slice none 0 0, .int .i64 0, .int .i64 0, .int .u8 0, .slice none 0 0, .int .u32 0, .int .u32 0, .int .u32 0, .bool false, .int .u64 0, .int .u64 0, .int .u16 0] 227)) w2.heap.size 227 #[.int .i64 0, .int .i64 0, .int .i64 0, .int .i64 0, .int .i64 0, .bool false, .int .u64 0, .int .u64 0, .int .u16 0, .int .u8 0, .int .i64 0, .slice none 0 0, .int .i64 0, .int .i64 0, .int .u8 0, .slice none 0 0, .int .u32 0, .int .u32 0, .int .u32 0, .bool false, .int .u64 0, .int .u64 0, .int .u16 0] := Blk.new w2 227 #[.int .i64 0, .int .i64 0, .int .i64 0, .int .i64 0, .int .i64 0, .bool false, .int .u64 0, .int .u64 0, .int .u16 0, .int .u8 0, .int .i64 0, .slice none 0 0, .int .i64 0, .int .i64 0, .int .u8 0, .slice none 0 0, .int .u32 0, .int .u32 0, .int .u32 0, .bool false, .int .u64 0, .int .u64 0, .int .u16 0]
  have T2 : Blk (World.setCells (w2.alloc (.cells #[.int .i64 0, .int .i64 0, .int .i64 0, .int .i64 0, .int .i64 0, .bool false, .int .u64 0, .int .u64 0, .int .u16 0, .int .u8 0, .int .i64 0, .slice none 0 0, .int .i64 0, .int .i64 0, .int .u8 0, .slice none 0 0, .int .u32 0, .int .u32 0, .int .u32 0, .bool false, .int .u64 0, .int .u64 0, .int .u16 0] 227)) w2.heap.size 0 [.int .i64 3, .int .i64 0, .int .i64 0, .int .i64 0, .int .i64 0, .bool false, .int .u64 0, .int .u64 0, .int .u16 0, .int .u8 0, .int .i64 0, .slice none 0 0, .int .i64 0, .int .i64 0, .int .u8 0, .slice none 0 0, .int .u32 0, .int .u32 0, .int .u32 0, .bool false, .int .u64 0, .int .u64 0, .int .u16 0]) w2.heap.size 227 #[.int .i64 3, .int .i64 0, .int .i64 0, .int .i64 0, .int .i64 0, .bool false, .int .u64 0, .int .u64 0, .int .u16 0, .int .u8 0, .int .i64 0, .slice none 0 0, .int .i64 0, .int .i64 0, .int .u8 0, .slice none 0 0, .int .u32 0, .int .u32 0, .int .u32 0, .bool false, .int .u64 0, .int .u64 0, .int .u16 0] := T1.setMid 0 _ _ (by simp) rfl
  have HSB3 := Lib.hid (show Blk w3 w2.heap.size 227 #[.int .i64 3, .int .i64 0, .int .i64 0, .int .i64 0, .int .i64 0, .bool false, .int .u64 0, .int .u64 0, .int .u16 0, .int .u8 0, .int .i64 0, .slice none 0 0, .int .i64 0, .int .i64 0, .int .u8 0, .slice none 0 0, .int .u32 0, .int .u32 0, .int .u32 0, .bool false, .int .u64 0, .int .u64 0, .int .u16 0] by rw [← hwq]; exact T2)
  have HK3 := Lib.hid (HK2.out.trans HX3.out)
  obtain ⟨sb, hsb⟩ : ∃ sb, w2.heap.size = sb := ⟨_, rfl⟩
  rw [hsb] at HSB3 ⊢
  clear hwq hsb T1 T2
  have cS := HSB3.out.cell
  have lS := HSB3.out.lt
  have fS := HSB3.out.frozen
  go_wp2_with (show wpList _ _ _ ((⟨_, .load 227 (.tmp 5), _, _, _, none⟩ : Oper) :: _) _ _; refine wpList_load_mid rfl 227 (.tmp 5) rfl sb 0 rfl [.int .i64 3, .int .i64 0, .int .i64 0, .int .i64 0, .int .i64 0, .bool false, .int .u64 0, .int .u64 0, .int .u16 0, .int .u8 0, .int .i64 0, .slice none 0 0, .int .i64 0, .int .i64 0, .int .u8 0, .slice none 0 0, .int .u32 0, .int .u32 0, .int .u32 0, .bool false, .int .u64 0, .int .u64 0, .int .u16 0] _ HSB3.out.range Tryz.underlying227 rfl (by kernel_rfl) ?_)
  refine (fltDo k xb cl jb nb db mb st su rm B RA TA rc ra tc w3 (HX.out.kept HK3.out (fun h => h)) (HC.out.kept HK3.out (fun h => h) (fun h => h) (fun h => h)) (Row.kept HR.out HK3.out (fun _ _ h => h))).mono ?_
  rintro e w4 ⟨rfl, hk⟩
  have HK4 := Lib.hid (HK3.out.trans hk)
  clear hk cS lS fS
  go_upto_region 8 with (show wpList _ _ _ ((⟨none, .store 232 (.tmp 7) _, _, _, _, none⟩ : Oper) :: _) _ _; refine wpList_store_mid rfl 232 (.tmp 7) _ rfl w4.heap.size 0 #[.int .i64 6, .int .i64 0, .int .i64 0, .int .i64 0, .slice none 0 0] rfl rfl ((Blk.new w4 232 #[.int .i64 0, .int .i64 0, .int .i64 0, .int .i64 0, .slice none 0 0]).there rfl) (by kernel_rfl) (by simp [Value.oneCell']) ?_)
  generalize hwq : (World.setCells _ _ _ _) = w5
  have HX5 := Lib.hid (show Kept (fun _ => False) w4 w5 by rw [← hwq]; exact ((Kept.refl _ _).alloc _).then (Kept.setCells (S := fun i => i = w4.heap.size) rfl _ _ (Kept.refl _ _)) (fun i hi e => by omega))
  have T1 : Blk (w4.alloc (.cells #[.int .i64 0, .int .i64 0, .int .i64 0, .int .i64 0, .slice none 0 0] 232)) w4.heap.size 232 #[.int .i64 0, .int .i64 0, .int .i64 0, .int .i64 0, .slice none 0 0] := Blk.new w4 232 #[.int .i64 0, .int .i64 0, .int .i64 0, .int .i64 0, .slice none 0 0]
  have T2 : Blk (World.setCells (w4.alloc (.cells #[.int .i64 0, .int .i64 0, .int .i64 0, .int .i64 0, .slice none 0 0] 232)) w4.heap.size 0 [.int .i64 6, .int .i64 0, .int .i64 0, .int .i64 0, .slice none 0 0]) w4.heap.size 232 #[.int .i64 6, .int .i64 0, .int .i64 0, .int .i64 0, .slice none 0 0] := T1.setMid 0 _ _ (by simp) rfl
  have HVB5 := Lib.hid (show Blk w5 w4.heap.size 232 #[.int .i64 6, .int .i64 0, .int .i64 0, .int .i64 0, .slice none 0 0] by rw [← hwq]; exact T2)
  have HK5 := Lib.hid (HK4.out.trans HX5.out)
  obtain ⟨vb, hvb⟩ : ∃ vb, w4.heap.size = vb := ⟨_, rfl⟩
  rw [hvb] at HVB5 ⊢
  clear hwq hvb T1 T2
  have cV := HVB5.out.cell
  have lV := HVB5.out.lt
  have fV := HVB5.out.frozen
  go_wp2_with fail
  refine (fault6 w5).mono ?_
  rintro e w' ⟨rfl, rfl⟩
  go_wp2_with fail
  go_ret
  exact ⟨rfl, HK5.out⟩
end Go.Proofs.YtdnbhmfofphblaaGreatDoor
