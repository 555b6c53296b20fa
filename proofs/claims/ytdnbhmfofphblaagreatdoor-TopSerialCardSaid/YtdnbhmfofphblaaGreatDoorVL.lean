/- desk's key, defaults, fault, split at 'offer 0'. -/
import Derived.Test.YtdnbhmfofphblaaGreatDoorVK
import Derived.Test.YtdnbhmfofphblaaGreatDoorShelf
namespace Go.Proofs.YtdnbhmfofphblaaGreatDoor
open Go.RowKit
set_option maxRecDepth 100000
set_option linter.unusedVariables false
set_option linter.unusedSimpArgs false
/-- The key of the word 1. -/
def kOne : Nat → Int := fun i => if i = 15 then 1 else 0
theorem bcsOne : bcs (digs 8 0 ++ digs 8 1) = [.int .u8 (kOne 0), .int .u8 (kOne 1), .int .u8 (kOne 2), .int .u8 (kOne 3), .int .u8 (kOne 4), .int .u8 (kOne 5), .int .u8 (kOne 6), .int .u8 (kOne 7), .int .u8 (kOne 8), .int .u8 (kOne 9), .int .u8 (kOne 10), .int .u8 (kOne 11), .int .u8 (kOne 12), .int .u8 (kOne 13), .int .u8 (kOne 14), .int .u8 (kOne 15)] := by kernel_rfl
set_option maxRecDepth 100000 in
set_option maxHeartbeats 2000000 in
theorem sipOf (w : World) : Calls Tryz.prog 141 #[.int .u64 0, .int .u64 1] w fun e w' => e = .returned (.agg #[.int .u8 (kOne 0), .int .u8 (kOne 1), .int .u8 (kOne 2), .int .u8 (kOne 3), .int .u8 (kOne 4), .int .u8 (kOne 5), .int .u8 (kOne 6), .int .u8 (kOne 7), .int .u8 (kOne 8), .int .u8 (kOne 9), .int .u8 (kOne 10), .int .u8 (kOne 11), .int .u8 (kOne 12), .int .u8 (kOne 13), .int .u8 (kOne 14), .int .u8 (kOne 15)]) ∧ Kept (fun _ => False) w w' := by
  have hat : ∀ (W : World) (ad : Addr) (c : Nat), (Instr.arrayAt 36 (.slice (some ad) 16 c)).run Tryz.prog W = .ok (.pointer (some ad)) W := fun W ad c => by kernel_rfl
  go_enter Tryz.func141, Tryz.ntmps141
  go_upto_region 1 with fail
  obtain ⟨w1, hw1⟩ : ∃ w1 : World, w1 = (w.alloc (.cells #[.int .u8 0, .int .u8 0, .int .u8 0, .int .u8 0, .int .u8 0, .int .u8 0, .int .u8 0, .int .u8 0, .int .u8 0, .int .u8 0, .int .u8 0, .int .u8 0, .int .u8 0, .int .u8 0, .int .u8 0, .int .u8 0] 36)) := ⟨_, rfl⟩
  have HRB1 := Lib.hid (show Blk w1 w.heap.size 36 #[.int .u8 0, .int .u8 0, .int .u8 0, .int .u8 0, .int .u8 0, .int .u8 0, .int .u8 0, .int .u8 0, .int .u8 0, .int .u8 0, .int .u8 0, .int .u8 0, .int .u8 0, .int .u8 0, .int .u8 0, .int .u8 0] by rw [hw1]; exact Blk.new _ _ _)
  have HK1 := Lib.hid (show Kept (fun _ => False) w w1 by rw [hw1]; exact (Kept.refl _ _).alloc _)
  rw [← hw1]
  clear hw1
  obtain ⟨rb, hrb⟩ : ∃ rb, w.heap.size = rb := ⟨_, rfl⟩
  rw [hrb] at HRB1
  (try rw [hrb])
  have HNE := Lib.hid (show rb = w.heap.size + 0 ∧ True from ⟨by omega, trivial⟩)
  clear hrb
  have cRB := HRB1.out.cell
  have lRB := HRB1.out.lt
  have fRB := HRB1.out.frozen
  go_wp2_with fail
  refine (put_len none 0 8 [] 0 w1 0 8 rfl rfl .nil (by omega) (by omega) (by omega) (by omega)).mono ?_
  rintro e w2 ⟨g2, L, rfl, hL, hN, hO, -, hbw⟩
  rw [List.nil_append] at hL
  subst hL
  have HO2 := Lib.hid hO
  have HN2 := Lib.hid hN
  have hk := Kept.ofB (S := fun _ => False) hbw
  have HK2 := Lib.hid (HK1.out.trans hk)
  have HS2 := Lib.hid (show Kept (fun _ => False) w1 w2 from hk)
  have HRB2 := Lib.hid (HRB1.out.kept hk (fun h => h))
  clear cRB lRB fRB
  have cRB := HRB2.out.cell
  have lRB := HRB2.out.lt
  have fRB := HRB2.out.frozen
  clear hk hbw hO hN
  go_wp2_with fail
  refine (put_len (some ⟨g2, 0, none⟩) 8 8 (digs 8 0) 1 w2 8 16 HN2.out rfl HO2.out.bs (by omega) (by omega) (by omega) (by omega)).mono ?_
  rintro e w3 ⟨g3, L, rfl, hL, -, hO, -, hbw⟩
  subst hL
  have HR3 := Lib.hid (show w3.rangeAt g3 0 [.int .u8 (kOne 0), .int .u8 (kOne 1), .int .u8 (kOne 2), .int .u8 (kOne 3), .int .u8 (kOne 4), .int .u8 (kOne 5), .int .u8 (kOne 6), .int .u8 (kOne 7), .int .u8 (kOne 8), .int .u8 (kOne 9), .int .u8 (kOne 10), .int .u8 (kOne 11), .int .u8 (kOne 12), .int .u8 (kOne 13), .int .u8 (kOne 14), .int .u8 (kOne 15)] by
    intro j v hj
    rw [← bcsOne] at hj
    have hj2 : j < (digs 8 0 ++ digs 8 1).length := by
      rcases Nat.lt_or_ge j (bcs (digs 8 0 ++ digs 8 1)).length with h | h
      · rwa [bcs_length] at h
      · rw [List.getElem?_eq_none h] at hj; cases hj
    have := hO.bytes j hj2
    rw [this, ← hj]
    unfold bcs
    rw [List.getElem?_map, List.getElem?_eq_getElem hj2]
    rfl)
  have hk := Kept.ofB (S := fun _ => False) hbw
  have HK3 := Lib.hid (HK2.out.trans hk)
  have HS3 := Lib.hid (show Kept (fun _ => False) w2 w3 from hk)
  have HRB3 := Lib.hid (HRB2.out.kept hk (fun h => h))
  clear cRB lRB fRB
  have cRB := HRB3.out.cell
  have lRB := HRB3.out.lt
  have fRB := HRB3.out.frozen
  clear hk hbw hO
  go_wp2_with (first | (show wpList _ _ _ ((⟨_, .load 36 (.tmp 9), _, _, _, none⟩ : Oper) :: _) _ _; refine wpList_load_mid rfl 36 (.tmp 9) rfl g3 0 rfl [.int .u8 (kOne 0), .int .u8 (kOne 1), .int .u8 (kOne 2), .int .u8 (kOne 3), .int .u8 (kOne 4), .int .u8 (kOne 5), .int .u8 (kOne 6), .int .u8 (kOne 7), .int .u8 (kOne 8), .int .u8 (kOne 9), .int .u8 (kOne 10), .int .u8 (kOne 11), .int .u8 (kOne 12), .int .u8 (kOne 13), .int .u8 (kOne 14), .int .u8 (kOne 15)] _ HR3.out Tryz.underlying36 rfl (by kernel_rfl) ?_) | (show wpList _ _ _ ((⟨none, .store 36 (.tmp 4) _, _, _, _, none⟩ : Oper) :: _) _ _; refine wpList_store_mid rfl 36 (.tmp 4) _ rfl rb 0 #[.int .u8 (kOne 0), .int .u8 (kOne 1), .int .u8 (kOne 2), .int .u8 (kOne 3), .int .u8 (kOne 4), .int .u8 (kOne 5), .int .u8 (kOne 6), .int .u8 (kOne 7), .int .u8 (kOne 8), .int .u8 (kOne 9), .int .u8 (kOne 10), .int .u8 (kOne 11), .int .u8 (kOne 12), .int .u8 (kOne 13), .int .u8 (kOne 14), .int .u8 (kOne 15)] rfl rfl (HRB3.out.there rfl) (by kernel_rfl) (by simp [Value.oneCell']) ?_))
  generalize hwq : World.setCells _ _ _ _ = w4
  have HX4 := Lib.hid (show Kept (fun i => i = rb) w3 w4 by rw [← hwq]; exact Kept.setCells (S := fun i => i = rb) rfl _ _ (Kept.refl _ _))
  have HRB4 := Lib.hid (show Blk w4 rb 36 #[.int .u8 (kOne 0), .int .u8 (kOne 1), .int .u8 (kOne 2), .int .u8 (kOne 3), .int .u8 (kOne 4), .int .u8 (kOne 5), .int .u8 (kOne 6), .int .u8 (kOne 7), .int .u8 (kOne 8), .int .u8 (kOne 9), .int .u8 (kOne 10), .int .u8 (kOne 11), .int .u8 (kOne 12), .int .u8 (kOne 13), .int .u8 (kOne 14), .int .u8 (kOne 15)] by rw [← hwq]; exact HRB3.out.setAll #[.int .u8 (kOne 0), .int .u8 (kOne 1), .int .u8 (kOne 2), .int .u8 (kOne 3), .int .u8 (kOne 4), .int .u8 (kOne 5), .int .u8 (kOne 6), .int .u8 (kOne 7), .int .u8 (kOne 8), .int .u8 (kOne 9), .int .u8 (kOne 10), .int .u8 (kOne 11), .int .u8 (kOne 12), .int .u8 (kOne 13), .int .u8 (kOne 14), .int .u8 (kOne 15)] rfl)
  have HK4 := Lib.hid (HK3.out.then HX4.out (fun i hi e => by have := HNE.out; omega))
  clear cRB lRB fRB
  clear hwq
  have cRB := HRB4.out.cell
  have lRB := HRB4.out.lt
  have fRB := HRB4.out.frozen
  exact bodyPost_ret (results_blk1 (P := Tryz.prog) (show Tryz.f141.results = _ from rfl) _ _ rb 36 #[.int .u8 (kOne 0), .int .u8 (kOne 1), .int .u8 (kOne 2), .int .u8 (kOne 3), .int .u8 (kOne 4), .int .u8 (kOne 5), .int .u8 (kOne 6), .int .u8 (kOne 7), .int .u8 (kOne 8), .int .u8 (kOne 9), .int .u8 (kOne 10), .int .u8 (kOne 11), .int .u8 (kOne 12), .int .u8 (kOne 13), .int .u8 (kOne 14), .int .u8 (kOne 15)] _ rfl HRB4.out Tryz.underlying36 rfl (by kernel_rfl)) rfl ⟨rfl, HK4.out⟩
set_option maxRecDepth 100000 in
set_option maxHeartbeats 2000000 in
theorem defaultsT (w : World) : Calls Tryz.prog 89 #[] w fun e w' => e = .returned (.agg #[.int .u8 (kOne 0), .int .u8 (kOne 1), .int .u8 (kOne 2), .int .u8 (kOne 3), .int .u8 (kOne 4), .int .u8 (kOne 5), .int .u8 (kOne 6), .int .u8 (kOne 7), .int .u8 (kOne 8), .int .u8 (kOne 9), .int .u8 (kOne 10), .int .u8 (kOne 11), .int .u8 (kOne 12), .int .u8 (kOne 13), .int .u8 (kOne 14), .int .u8 (kOne 15), .int .i64 1, .int .i64 1, .slice none 0 0, .int .i64 1500, .int .i64 16, .int .i64 65536, .int .i64 64]) ∧ Kept (fun _ => False) w w' := by
  go_enter Tryz.func89, Tryz.ntmps89
  go_upto_region 1 with fail
  obtain ⟨w1, hw1⟩ : ∃ w1 : World, w1 = (w.alloc (.cells #[.int .u8 0, .int .u8 0, .int .u8 0, .int .u8 0, .int .u8 0, .int .u8 0, .int .u8 0, .int .u8 0, .int .u8 0, .int .u8 0, .int .u8 0, .int .u8 0, .int .u8 0, .int .u8 0, .int .u8 0, .int .u8 0, .int .i64 0, .int .i64 0, .slice none 0 0, .int .i64 0, .int .i64 0, .int .i64 0, .int .i64 0] 39)) := ⟨_, rfl⟩
  have HRB1 := Lib.hid (show Blk w1 w.heap.size 39 #[.int .u8 0, .int .u8 0, .int .u8 0, .int .u8 0, .int .u8 0, .int .u8 0, .int .u8 0, .int .u8 0, .int .u8 0, .int .u8 0, .int .u8 0, .int .u8 0, .int .u8 0, .int .u8 0, .int .u8 0, .int .u8 0, .int .i64 0, .int .i64 0, .slice none 0 0, .int .i64 0, .int .i64 0, .int .i64 0, .int .i64 0] by rw [hw1]; exact Blk.new _ _ _)
  have HK1 := Lib.hid (show Kept (fun _ => False) w w1 by rw [hw1]; exact (Kept.refl _ _).alloc _)
  rw [← hw1]
  clear hw1
  obtain ⟨rb, hrb⟩ : ∃ rb, w.heap.size = rb := ⟨_, rfl⟩
  rw [hrb] at HRB1
  (try rw [hrb])
  have HNE := Lib.hid (show rb = w.heap.size + 0 ∧ True from ⟨by omega, trivial⟩)
  clear hrb
  have cRB := HRB1.out.cell
  have lRB := HRB1.out.lt
  have fRB := HRB1.out.frozen
  go_wp2_with fail
  refine (sipOf w1).mono ?_
  rintro e w2 ⟨rfl, hk⟩
  have HK2 := Lib.hid (HK1.out.trans hk)
  have HS2 := Lib.hid (show Kept (fun _ => False) w1 w2 from hk)
  have HRB2 := Lib.hid (HRB1.out.kept hk (fun h => h))
  clear cRB lRB fRB
  have cRB := HRB2.out.cell
  have lRB := HRB2.out.lt
  have fRB := HRB2.out.frozen
  clear hk
  go_wp2_with (show wpList _ _ _ ((⟨none, .store 39 (.tmp 0) _, _, _, _, none⟩ : Oper) :: _) _ _; refine wpList_store_mid rfl 39 (.tmp 0) _ rfl rb 0 #[.int .u8 (kOne 0), .int .u8 (kOne 1), .int .u8 (kOne 2), .int .u8 (kOne 3), .int .u8 (kOne 4), .int .u8 (kOne 5), .int .u8 (kOne 6), .int .u8 (kOne 7), .int .u8 (kOne 8), .int .u8 (kOne 9), .int .u8 (kOne 10), .int .u8 (kOne 11), .int .u8 (kOne 12), .int .u8 (kOne 13), .int .u8 (kOne 14), .int .u8 (kOne 15), .int .i64 1, .int .i64 1, .slice none 0 0, .int .i64 1500, .int .i64 16, .int .i64 65536, .int .i64 64] rfl rfl (HRB2.out.there rfl) (by kernel_rfl) (by simp [Value.oneCell']) ?_)
  generalize hwq : World.setCells _ _ _ _ = w3
  have HX3 := Lib.hid (show Kept (fun i => i = rb) w2 w3 by rw [← hwq]; exact Kept.setCells (S := fun i => i = rb) rfl _ _ (Kept.refl _ _))
  have HRB3 := Lib.hid (show Blk w3 rb 39 #[.int .u8 (kOne 0), .int .u8 (kOne 1), .int .u8 (kOne 2), .int .u8 (kOne 3), .int .u8 (kOne 4), .int .u8 (kOne 5), .int .u8 (kOne 6), .int .u8 (kOne 7), .int .u8 (kOne 8), .int .u8 (kOne 9), .int .u8 (kOne 10), .int .u8 (kOne 11), .int .u8 (kOne 12), .int .u8 (kOne 13), .int .u8 (kOne 14), .int .u8 (kOne 15), .int .i64 1, .int .i64 1, .slice none 0 0, .int .i64 1500, .int .i64 16, .int .i64 65536, .int .i64 64] by rw [← hwq]; exact HRB2.out.setAll #[.int .u8 (kOne 0), .int .u8 (kOne 1), .int .u8 (kOne 2), .int .u8 (kOne 3), .int .u8 (kOne 4), .int .u8 (kOne 5), .int .u8 (kOne 6), .int .u8 (kOne 7), .int .u8 (kOne 8), .int .u8 (kOne 9), .int .u8 (kOne 10), .int .u8 (kOne 11), .int .u8 (kOne 12), .int .u8 (kOne 13), .int .u8 (kOne 14), .int .u8 (kOne 15), .int .i64 1, .int .i64 1, .slice none 0 0, .int .i64 1500, .int .i64 16, .int .i64 65536, .int .i64 64] rfl)
  have HK3 := Lib.hid (HK2.out.then HX3.out (fun i hi e => by have := HNE.out; omega))
  clear cRB lRB fRB
  clear hwq
  have cRB := HRB3.out.cell
  have lRB := HRB3.out.lt
  have fRB := HRB3.out.frozen
  exact bodyPost_ret (results_blk1 (P := Tryz.prog) (show Tryz.f89.results = _ from rfl) _ _ rb 39 #[.int .u8 (kOne 0), .int .u8 (kOne 1), .int .u8 (kOne 2), .int .u8 (kOne 3), .int .u8 (kOne 4), .int .u8 (kOne 5), .int .u8 (kOne 6), .int .u8 (kOne 7), .int .u8 (kOne 8), .int .u8 (kOne 9), .int .u8 (kOne 10), .int .u8 (kOne 11), .int .u8 (kOne 12), .int .u8 (kOne 13), .int .u8 (kOne 14), .int .u8 (kOne 15), .int .i64 1, .int .i64 1, .slice none 0 0, .int .i64 1500, .int .i64 16, .int .i64 65536, .int .i64 64] _ rfl HRB3.out Tryz.underlying39 rfl (by kernel_rfl)) rfl ⟨rfl, HK3.out⟩
theorem decimal6 (w : World) : Calls Tryz.prog 41 #[.int .i64 6] w fun e w' => e = .returned (.string ⟨#[54]⟩) ∧ w = w' := by
  have HI := Lib.hid ((Tryz.strconv_Itoa_small 6 (by omega) w).mono (R' := fun e w' => e = .returned (.string ⟨#[54]⟩) ∧ w = w') (fun e w' h => ⟨h.1.trans (by kernel_rfl), h.2.symm⟩))
  go_enter Tryz.func41, Tryz.ntmps41
  go_wp2_with fail
  refine HI.out.mono ?_
  rintro e w' ⟨rfl, rfl⟩
  go_wp2_with fail
  go_ret
  exact ⟨rfl, rfl⟩
theorem fault6 (w : World) : Calls Tryz.prog 42 #[.int .i64 6] w fun e w' => e = .returned (.string ⟨#[101, 114, 114, 111, 114, 32, 54]⟩) ∧ w = w' := by
  go_enter Tryz.func42, Tryz.ntmps42
  go_wp2_with fail
  refine (decimal6 w).mono ?_
  rintro e w' ⟨rfl, rfl⟩
  go_wp2_with fail
  go_ret
  exact ⟨by kernel_rfl, rfl⟩
set_option maxRecDepth 100000 in
set_option maxHeartbeats 2000000 in
theorem splitS (w : World) : Calls Tryz.prog 142 #[.string ⟨#[111, 102, 102, 101, 114, 32, 48]⟩, .string ⟨#[10]⟩] w fun e w' => e = .returned (.slice (some ⟨w.heap.size, 0, none⟩) 1 1) ∧ Blk w' w.heap.size 9 #[.string ⟨#[111, 102, 102, 101, 114, 32, 48]⟩] ∧ Kept (fun _ => False) w w' := by
  have c0 := Any.strings_genSplit_core Tryz.lays221 (by kernel_rfl) ⟨#[111, 102, 102, 101, 114, 32, 48]⟩ ⟨#[10]⟩ 0 (-1) 1 w (by decide) (Nat.le_refl 1) (Nat.zero_le _)
    (fun x cs _ => (Tryz.strings_Index_one x 10 _).mono fun e w' ⟨he, hw⟩ => ⟨by rw [he, ← Lib.index_one], hw⟩)
    ((Tryz.strings_Count_one ⟨#[111, 102, 102, 101, 114, 32, 48]⟩ 10 w).mono fun e w' ⟨he, hw⟩ => ⟨by rw [he]; kernel_rfl, hw⟩)
    (by omega) (by omega) (by kernel_rfl)
  have HC := Lib.hid (c0.mono (R' := fun e w' => e = .returned (.slice (some ⟨w.heap.size, 0, none⟩) 1 1) ∧ w' = w.alloc (.cells #[.string ⟨#[111, 102, 102, 101, 114, 32, 48]⟩] 9)) (fun e w' h => ⟨h.1.trans (by kernel_rfl), h.2.trans (by kernel_rfl)⟩))
  clear c0
  go_enter Tryz.func142, Tryz.ntmps142
  go_wp2_with fail
  refine HC.out.mono ?_
  rintro e w1 ⟨rfl, rfl⟩
  go_wp2_with fail
  go_ret
  exact ⟨rfl, Blk.new _ _ _, (Kept.refl _ _).alloc _⟩
set_option maxRecDepth 100000 in
set_option maxHeartbeats 2000000 in
theorem deskSplit (w : World) : Calls Tryz.prog 90 #[.string ⟨#[111, 102, 102, 101, 114, 32, 48]⟩] w fun e w' => ∃ b, e = .returned (.slice (some ⟨b, 0, none⟩) 1 1) ∧ Blk w' b 9 #[.string ⟨#[111, 102, 102, 101, 114, 32, 48]⟩] ∧ Kept (fun _ => False) w w' := by
  have HT := Lib.hid ((Tryz.strings_TrimSuffix ⟨#[111, 102, 102, 101, 114, 32, 48]⟩ ⟨#[10]⟩ w (by decide)).mono (R' := fun e w' => e = .returned (.string ⟨#[111, 102, 102, 101, 114, 32, 48]⟩) ∧ w = w') (fun e w' h => ⟨h.1.trans (by kernel_rfl), h.2.symm⟩))
  go_enter Tryz.func90, Tryz.ntmps90
  go_wp2_with fail
  refine HT.out.mono ?_
  rintro e w' ⟨rfl, rfl⟩
  go_wp2_with fail
  refine (splitS w).mono ?_
  rintro e w' ⟨rfl, hb, hk⟩
  go_wp2_with fail
  go_ret
  exact ⟨_, rfl, hb, hk⟩
theorem cutPre (w : World) : Calls Tryz.prog 91 #[.string ⟨#[111, 102, 102, 101, 114, 32, 48]⟩, .string ⟨#[35, 32]⟩] w fun e w' => e = .returned (.tuple #[.string ⟨#[111, 102, 102, 101, 114, 32, 48]⟩, .bool false]) ∧ w = w' :=
  (Tryz.strings_CutPrefix ⟨#[111, 102, 102, 101, 114, 32, 48]⟩ ⟨#[35, 32]⟩ w).mono (fun e w' h => ⟨h.1.trans (by kernel_rfl), h.2.symm⟩)
end Go.Proofs.YtdnbhmfofphblaaGreatDoor
