/- addr.Parse at any text; the line's addresses. -/
import Derived.Test.YthfdhggcnkgjfaaGreatDoorWC
import Derived.Test.YthfdhggcnkgjfaaGreatDoorF
namespace Go.Proofs.YthfdhggcnkgjfaaGreatDoor
open Go.RowKit
set_option linter.unusedVariables false
set_option linter.unusedSimpArgs false
set_option maxRecDepth 20000 in
set_option maxHeartbeats 2000000 in
theorem v6_any (h l : Int) (w : World) : Calls Tryz.prog 85 #[.int .u64 h, .int .u64 l] w fun e w' => e = .returned (.agg #[.bool true, .int .u64 h, .int .u64 l]) ∧ Below w.heap.size w w' := by
  go_enter Tryz.func85, Tryz.ntmps85
  go_upto_region 1 with fail
  obtain ⟨w1, hw1⟩ : ∃ w1 : World, w1 = w.alloc (.cells #[.bool false, .int .u64 0, .int .u64 0] 25) := ⟨_, rfl⟩
  have HR1 := Lib.hid (show Blk w1 w.heap.size 25 #[.bool false, .int .u64 0, .int .u64 0] by rw [hw1]; exact Blk.new _ _ _)
  have HK1 := Lib.hid (show Kept (fun _ => False) w w1 by rw [hw1]; exact (Kept.refl _ _).alloc _)
  rw [← hw1]
  clear hw1
  obtain ⟨rb, hrb⟩ : ∃ rb, w.heap.size = rb := ⟨_, rfl⟩
  have HRB := Lib.hid hrb
  rw [hrb] at HR1 ⊢
  clear hrb
  go_wp2_with (show wpList _ _ _ ((⟨none, .store 25 (.tmp 4) _, _, _, _, none⟩ : Oper) :: _) _ _; refine wpList_store_mid rfl 25 (.tmp 4) _ rfl rb 0 #[.bool true, .int .u64 h, .int .u64 l] rfl rfl (HR1.out.there rfl) (by kernel_rfl) (by simp [Value.oneCell']) ?_)
  generalize hw9 : (World.setCells _ _ _ _) = w9
  have HK9 := Lib.hid (show Kept (fun i => i = rb) w1 w9 by rw [← hw9]; exact Kept.setCells (S := fun i => i = rb) rfl _ _ (Kept.refl _ _))
  have HR9 := Lib.hid (show Blk w9 rb 25 #[.bool true, .int .u64 h, .int .u64 l] by rw [← hw9]; exact HR1.out.setAll #[.bool true, .int .u64 h, .int .u64 l] rfl)
  clear hw9
  refine bodyPost_ret (results_blk1 (P := Tryz.prog) (show Tryz.f85.results = _ from rfl) _ _ rb 25 #[.bool true, .int .u64 h, .int .u64 l] _ rfl HR9.out Tryz.underlying25 rfl (by kernel_rfl)) rfl ⟨?_, ?_⟩
  · rfl
  · exact (HK1.out.below (Nat.le_refl _) (fun i h => h.elim)).trans (HK9.out.below HK1.out.size (fun i e => by have := HRB.out; omega))

def adrV (o : Option Adr) : Value := match o with
  | some a => .agg #[.bool a.six, .int .u64 (a.hi : Int), .int .u64 (a.lo : Int)]
  | none => .agg #[.bool false, .int .u64 0, .int .u64 0]
def adrE (o : Option Adr) : Int := if o.isSome = true then 0 else 21
set_option maxRecDepth 20000 in
set_option maxHeartbeats 8000000 in
theorem parseA (s : ByteArray) (hz : s.size ≤ 4000) (w : World) : Calls Tryz.prog 71 #[.string s] w fun e w' => e = .returned (.tuple #[adrV (addrP s.data.toList), .int .i64 (adrE (addrP s.data.toList))]) ∧ Below w.heap.size w w' := by
  have HG6 := Lib.hid (fun W => groups6 s hz W)
  have HG4 := Lib.hid (fun W => groups4 s hz W)
  have H6 := Lib.hid (show (gr6 s.data.toList = .tuple #[.int .u64 0, .int .u64 0, .bool false] ∧ p6 s.data.toList = none) ∨ ∃ hi lo : Nat, gr6 s.data.toList = .tuple #[.int .u64 (hi : Int), .int .u64 (lo : Int), .bool true] ∧ p6 s.data.toList = some ⟨true, hi, lo⟩ by
    unfold gr6 p6
    by_cases h : (parts 58 s.data.toList).length = 8
    · rw [if_pos h, if_pos h]
      cases numAll 16 65535 (parts 58 s.data.toList) with
      | none => exact .inl ⟨rfl, rfl⟩
      | some ns => exact .inr ⟨_, _, rfl, rfl⟩
    · rw [if_neg h, if_neg h]; exact .inl ⟨rfl, rfl⟩)
  have H4 := Lib.hid (show (gr4 s.data.toList = .tuple #[.int .u64 0, .int .u64 0, .bool false] ∧ p4 s.data.toList = none) ∨ ∃ hi lo : Nat, gr4 s.data.toList = .tuple #[.int .u64 (hi : Int), .int .u64 (lo : Int), .bool true] ∧ p4 s.data.toList = some ⟨false, 0, lo⟩ by
    unfold gr4 p4
    by_cases h : (parts 46 s.data.toList).length = 4
    · rw [if_pos h, if_pos h]
      cases hn : numAll 10 255 (parts 46 s.data.toList) with
      | none => exact .inl ⟨rfl, rfl⟩
      | some ns =>
        obtain ⟨e1, e2⟩ := numAll_le hn
        have hv := val_lt (b := 256) (ns := ns) (fun n hn => by have := e2 n hn; omega)
        rw [e1, h] at hv
        refine .inr ⟨_, _, rfl, ?_⟩
        rw [Nat.mod_eq_of_lt (by omega)]
        rfl
    · rw [if_neg h, if_neg h]; exact .inl ⟨rfl, rfl⟩)
  go_enter Tryz.func71, Tryz.ntmps71
  go_upto_region 1 with fail
  obtain ⟨w1, hw1⟩ : ∃ w1 : World, w1 = w.alloc (.cells #[.bool false, .int .u64 0, .int .u64 0] 25) := ⟨_, rfl⟩
  have HR1 := Lib.hid (show Blk w1 w.heap.size 25 #[.bool false, .int .u64 0, .int .u64 0] by rw [hw1]; exact Blk.new _ _ _)
  have HK1 := Lib.hid (show Kept (fun _ => False) w w1 by rw [hw1]; exact (Kept.refl _ _).alloc _)
  rw [← hw1]
  clear hw1
  obtain ⟨rb, hrb⟩ : ∃ rb, w.heap.size = rb := ⟨_, rfl⟩
  have HRB := Lib.hid hrb
  rw [hrb] at HR1 ⊢
  clear hrb
  go_wp2_with fail
  refine (HG6.out w1).mono ?_
  rintro e w2 ⟨rfl, hb2⟩
  have HK2 := Lib.hid (HK1.out.trans (Kept.ofB (S := fun _ => False) hb2))
  have HR2 := Lib.hid (HR1.out.below hb2 HR1.out.lt)
  clear hb2
  rcases H6.out with ⟨e6, f6⟩ | ⟨hi, lo, e6, f6⟩
  · rw [e6]
    have HF6 := Lib.hid f6
    clear e6 f6
    go_wp2_with fail
    refine (HG4.out w2).mono ?_
    rintro e w3 ⟨rfl, hb3⟩
    have HK3 := Lib.hid (HK2.out.trans (Kept.ofB (S := fun _ => False) hb3))
    have HR3 := Lib.hid (HR2.out.below hb3 HR2.out.lt)
    clear hb3
    rcases H4.out with ⟨e4, f4⟩ | ⟨hi, lo, e4, f4⟩
    · rw [e4]
      have HA := Lib.hid (show addrP s.data.toList = none by unfold addrP; rw [HF6.out]; exact f4)
      clear e4 f4
      go_wp2_with (show wpList _ _ _ ((⟨none, .store 25 (.tmp 2) _, _, _, _, none⟩ : Oper) :: _) _ _; refine wpList_store_mid rfl 25 (.tmp 2) _ rfl rb 0 #[.bool false, .int .u64 0, .int .u64 0] rfl rfl (HR3.out.there rfl) (by kernel_rfl) (by simp [Value.oneCell']) ?_)
      generalize hw9 : (World.setCells _ _ _ _) = w9
      have HK9 := Lib.hid (show Kept (fun i => i = rb) w3 w9 by rw [← hw9]; exact Kept.setCells (S := fun i => i = rb) rfl _ _ (Kept.refl _ _))
      have HR9 := Lib.hid (show Blk w9 rb 25 #[.bool false, .int .u64 0, .int .u64 0] by rw [← hw9]; exact HR3.out.setAll #[.bool false, .int .u64 0, .int .u64 0] rfl)
      clear hw9
      refine bodyPost_ret (results_blk_tmp (P := Tryz.prog) (show Tryz.f71.results = _ from rfl) _ _ rb 25 #[.bool false, .int .u64 0, .int .u64 0] _ rfl HR9.out Tryz.underlying25 rfl (by kernel_rfl)) rfl ⟨?_, ?_⟩
      · rw [HA.out]; rfl
      · exact (HK3.out.below (Nat.le_refl _) (fun i h => h.elim)).trans (HK9.out.below HK3.out.size (fun i e => by have := HRB.out; omega))
    · rw [e4]
      have HA := Lib.hid (show addrP s.data.toList = some ⟨false, 0, lo⟩ by unfold addrP; rw [HF6.out]; exact f4)
      clear e4 f4
      go_wp2_with (show wpList _ _ _ ((⟨none, .store 25 (.tmp 2) _, _, _, _, none⟩ : Oper) :: _) _ _; refine wpList_store_mid rfl 25 (.tmp 2) _ rfl rb 0 #[.bool false, .int .u64 0, .int .u64 (lo : Int)] rfl rfl (HR3.out.there rfl) (by kernel_rfl) (by simp [Value.oneCell']) ?_)
      generalize hw9 : (World.setCells _ _ _ _) = w9
      have HK9 := Lib.hid (show Kept (fun i => i = rb) w3 w9 by rw [← hw9]; exact Kept.setCells (S := fun i => i = rb) rfl _ _ (Kept.refl _ _))
      have HR9 := Lib.hid (show Blk w9 rb 25 #[.bool false, .int .u64 0, .int .u64 (lo : Int)] by rw [← hw9]; exact HR3.out.setAll #[.bool false, .int .u64 0, .int .u64 (lo : Int)] rfl)
      clear hw9
      refine bodyPost_ret (results_blk_tmp (P := Tryz.prog) (show Tryz.f71.results = _ from rfl) _ _ rb 25 #[.bool false, .int .u64 0, .int .u64 (lo : Int)] _ rfl HR9.out Tryz.underlying25 rfl (by kernel_rfl)) rfl ⟨?_, ?_⟩
      · rw [HA.out]; rfl
      · exact (HK3.out.below (Nat.le_refl _) (fun i h => h.elim)).trans (HK9.out.below HK3.out.size (fun i e => by have := HRB.out; omega))
  · rw [e6]
    have HA := Lib.hid (show addrP s.data.toList = some ⟨true, hi, lo⟩ by unfold addrP; rw [f6])
    clear e6 f6
    go_wp2_with fail
    refine (v6_any (hi : Int) (lo : Int) w2).mono ?_
    rintro e w3 ⟨rfl, hb3⟩
    have HK3 := Lib.hid (HK2.out.trans (Kept.ofB (S := fun _ => False) hb3))
    have HR3 := Lib.hid (HR2.out.below hb3 HR2.out.lt)
    clear hb3
    go_wp2_with (show wpList _ _ _ ((⟨none, .store 25 (.tmp 2) _, _, _, _, none⟩ : Oper) :: _) _ _; refine wpList_store_mid rfl 25 (.tmp 2) _ rfl rb 0 #[.bool true, .int .u64 (hi : Int), .int .u64 (lo : Int)] rfl rfl (HR3.out.there rfl) (by kernel_rfl) (by simp [Value.oneCell']) ?_)
    generalize hw9 : (World.setCells _ _ _ _) = w9
    have HK9 := Lib.hid (show Kept (fun i => i = rb) w3 w9 by rw [← hw9]; exact Kept.setCells (S := fun i => i = rb) rfl _ _ (Kept.refl _ _))
    have HR9 := Lib.hid (show Blk w9 rb 25 #[.bool true, .int .u64 (hi : Int), .int .u64 (lo : Int)] by rw [← hw9]; exact HR3.out.setAll #[.bool true, .int .u64 (hi : Int), .int .u64 (lo : Int)] rfl)
    clear hw9
    refine bodyPost_ret (results_blk_tmp (P := Tryz.prog) (show Tryz.f71.results = _ from rfl) _ _ rb 25 #[.bool true, .int .u64 (hi : Int), .int .u64 (lo : Int)] _ rfl HR9.out Tryz.underlying25 rfl (by kernel_rfl)) rfl ⟨?_, ?_⟩
    · rw [HA.out]; rfl
    · exact (HK3.out.below (Nat.le_refl _) (fun i h => h.elim)).trans (HK9.out.below HK3.out.size (fun i e => by have := HRB.out; omega))
end Go.Proofs.YthfdhggcnkgjfaaGreatDoor
