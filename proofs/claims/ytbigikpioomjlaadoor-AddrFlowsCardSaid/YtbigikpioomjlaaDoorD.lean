/- groups and Parse at what awake meets. -/
import Derived.Test.YtbigikpioomjlaaDoorC
import Derived.Test.YtbigikpioomjlaaDoorShelf
namespace Go.Proofs.YtbigikpioomjlaaDoor
open Go.RowKit
set_option linter.unusedVariables false
set_option maxHeartbeats 1000000 in
/-- strings.SplitN at a separator of one byte: no variable of the library's is asked. -/
theorem splitN1 (s : ByteArray) (c : UInt8) (n : Nat) (w : World) (hs : s.size < 4294967281) (hn : 1 ≤ n) (hn63 : n ≤ 9223372036854775807) :
    Calls Tryd.prog 29 #[.string s, .string ⟨#[c]⟩, .int .i64 n] w fun e w' =>
      e = .returned (.slice (some ⟨w.heap.size, 0, none⟩) (Lib.splitB ⟨#[c]⟩ 0 (min n (s.size + 1) - 1) s).length (min n (s.size + 1))) ∧ w' = w.alloc (.cells (Lib.cellsOf (Lib.splitB ⟨#[c]⟩ 0 (min n (s.size + 1) - 1) s) (min n (s.size + 1))) 9) := by
  have c0 := Any.strings_genSplit_core Tryd.lays221 (by kernel_rfl) s ⟨#[c]⟩ 0 (n : Int) (min n (s.size + 1)) w hs (Nat.le_refl 1) (Nat.zero_le _)
    (fun x cs _ => (Tryd.strings_Index_one x c _).mono fun e w' ⟨he, hw⟩ => ⟨by rw [he, ← Lib.index_one], hw⟩)
    ((Tryd.strings_Count_one s c w).mono fun e w' ⟨he, hw⟩ => ⟨by rw [he]; show _ = Ending.returned (Value.int .i64 ((Lib.count s.data.toList [c] : Nat) : Int)); rw [Lib.count_one]; rfl, hw⟩)
    (by omega) (by omega) (by rw [if_neg (by omega)]; omega)
  have HC := Lib.hid (show Calls Tryd.prog 36 #[.string s, .string ⟨#[c]⟩, .int .i64 0, .int .i64 n] w _ from c0)
  clear c0
  go_enter Tryd.func29, Tryd.ntmps29
  go_wp2_with fail
  refine HC.out.mono ?_
  rintro e w1 ⟨rfl, rfl⟩
  go_wp2_with fail
  go_ret
  exact ⟨rfl, rfl⟩
set_option maxHeartbeats 2000000 in
theorem gr6_any (w : World) : Calls Tryd.prog 22 #[.string ⟨#[49, 48, 46, 48, 46, 48, 46, 48, 49]⟩, .string ⟨#[58]⟩, .int .i64 8, .int .i64 16, .int .i64 16] w fun e w' => e = .returned (.tuple #[.int .u64 0, .int .u64 0, .bool false]) ∧ Below w.heap.size w w' := by
  have h0 := splitN1 ⟨#[49, 48, 46, 48, 46, 48, 46, 48, 49]⟩ 58 9 w (by decide) (by omega) (by omega)
  have e1 : (Lib.splitB ⟨#[58]⟩ 0 (min 9 ((⟨#[49, 48, 46, 48, 46, 48, 46, 48, 49]⟩ : ByteArray).size + 1) - 1) ⟨#[49, 48, 46, 48, 46, 48, 46, 48, 49]⟩).length = 1 := by kernel_rfl
  have e2 : min 9 ((⟨#[49, 48, 46, 48, 46, 48, 46, 48, 49]⟩ : ByteArray).size + 1) = 9 := by kernel_rfl
  rw [e1] at h0
  rw [e2] at h0
  have HS := Lib.hid h0
  clear h0 e1 e2
  go_enter Tryd.func22, Tryd.ntmps22
  go_wp2_with fail
  refine HS.out.mono ?_
  rintro e w1 ⟨rfl, rfl⟩
  go_wp2_with fail
  go_ret3
  exact ⟨rfl, (Below.refl _ _).alloc (Nat.le_refl _) _⟩
set_option maxHeartbeats 4000000 in
theorem gr4_any (w : World) : Calls Tryd.prog 22 #[.string ⟨#[49, 48, 46, 48, 46, 48, 46, 48, 49]⟩, .string ⟨#[46]⟩, .int .i64 4, .int .i64 10, .int .i64 8] w fun e w' => e = .returned (.tuple #[.int .u64 0, .int .u64 0, .bool false]) ∧ Below w.heap.size w w' := by
  have h0 := splitN1 ⟨#[49, 48, 46, 48, 46, 48, 46, 48, 49]⟩ 46 5 w (by decide) (by omega) (by omega)
  have e1 : (Lib.splitB ⟨#[46]⟩ 0 (min 5 ((⟨#[49, 48, 46, 48, 46, 48, 46, 48, 49]⟩ : ByteArray).size + 1) - 1) ⟨#[49, 48, 46, 48, 46, 48, 46, 48, 49]⟩) = [⟨#[49, 48]⟩, ⟨#[48]⟩, ⟨#[48]⟩, ⟨#[48, 49]⟩] := by kernel_rfl
  have e2 : min 5 ((⟨#[49, 48, 46, 48, 46, 48, 46, 48, 49]⟩ : ByteArray).size + 1) = 5 := by kernel_rfl
  rw [e1] at h0
  rw [e2] at h0
  have HS := Lib.hid h0
  have HB := Lib.hid (show Below w.heap.size w (w.alloc (.cells (Lib.cellsOf [⟨#[49, 48]⟩, ⟨#[48]⟩, ⟨#[48]⟩, ⟨#[48, 49]⟩] 5) 9)) from (Below.refl _ _).alloc (Nat.le_refl _) _)
  have HN := Lib.hid (Blk.new w 9 (Lib.cellsOf [⟨#[49, 48]⟩, ⟨#[48]⟩, ⟨#[48]⟩, ⟨#[48, 49]⟩] 5))
  have HC := Lib.hid (show ∀ W : World, Blk W w.heap.size 9 (Lib.cellsOf [⟨#[49, 48]⟩, ⟨#[48]⟩, ⟨#[48]⟩, ⟨#[48, 49]⟩] 5) → W.cell? ⟨w.heap.size, 0, none⟩ = some (.string ⟨#[49, 48]⟩) ∧ W.cell? ⟨w.heap.size, 1, none⟩ = some (.string ⟨#[48]⟩) ∧ W.cell? ⟨w.heap.size, 2, none⟩ = some (.string ⟨#[48]⟩) ∧ W.cell? ⟨w.heap.size, 3, none⟩ = some (.string ⟨#[48, 49]⟩) from fun W h => ⟨(h.cell 0).trans rfl, (h.cell 1).trans rfl, (h.cell 2).trans rfl, (h.cell 3).trans rfl⟩)
  clear h0 e1 e2
  go_enter Tryd.func22, Tryd.ntmps22
  go_wp2_with fail
  refine HS.out.mono ?_
  rintro e w1 ⟨rfl, rfl⟩
  go_wp2_with fail
  go_loopw [10, 11, 29] (fun hi lo i wr => Hid (Blk wr w.heap.size 9 (Lib.cellsOf [⟨#[49, 48]⟩, ⟨#[48]⟩, ⟨#[48]⟩, ⟨#[48, 49]⟩] 5) ∧ Below w.heap.size w wr) ∧ ((i = .int .i64 0 ∧ hi = .int .u64 0 ∧ lo = .int .u64 0) ∨ (i = .int .i64 1 ∧ hi = .int .u64 0 ∧ lo = .int .u64 10) ∨ (i = .int .i64 2 ∧ hi = .int .u64 0 ∧ lo = .int .u64 2560) ∨ (i = .int .i64 3 ∧ hi = .int .u64 0 ∧ lo = .int .u64 655360))) (fun _ _ i _ => (4 - intOf i).toNat)
  case atStart => exact ⟨Lib.hid ⟨HN.out, HB.out⟩, .inl ⟨rfl, rfl, rfl⟩⟩
  case round =>
    obtain ⟨HW, hrel⟩ := hrel
    obtain ⟨c0, c1, c2, c3⟩ := HC.out _ HW.out.1
    rcases hrel with ⟨rfl, rfl, rfl⟩ | ⟨rfl, rfl, rfl⟩ | ⟨rfl, rfl, rfl⟩ | ⟨rfl, rfl, rfl⟩
    · go_wp2_with fail
      refine (num10_any wr).mono ?_
      rintro e w1 ⟨rfl, rfl⟩
      go_wp2_with fail
      go_region
      go_wp2_with fail
      go_roundw
      case rel => exact ⟨Lib.hid ⟨HW.out.1.drewN _, belowN HW.out.2 _⟩, .inr (.inl ⟨rfl, by kernel_rfl, by kernel_rfl⟩)⟩
      case measure => simp [intOf]
    · go_wp2_with fail
      refine (num0_any wr).mono ?_
      rintro e w1 ⟨rfl, rfl⟩
      go_wp2_with fail
      go_region
      go_wp2_with fail
      go_roundw
      case rel => exact ⟨Lib.hid ⟨HW.out.1.drewN _, belowN HW.out.2 _⟩, .inr (.inr (.inl ⟨rfl, by kernel_rfl, by kernel_rfl⟩))⟩
      case measure => simp [intOf]
    · go_wp2_with fail
      refine (num0_any wr).mono ?_
      rintro e w1 ⟨rfl, rfl⟩
      go_wp2_with fail
      go_region
      go_wp2_with fail
      go_roundw
      case rel => exact ⟨Lib.hid ⟨HW.out.1.drewN _, belowN HW.out.2 _⟩, .inr (.inr (.inr ⟨rfl, by kernel_rfl, by kernel_rfl⟩))⟩
      case measure => simp [intOf]
    · go_wp2_with fail
      refine (num01_any wr).mono ?_
      rintro e w1 ⟨rfl, rfl⟩
      go_wp2_with fail
      go_ret3
      exact ⟨rfl, HW.out.2⟩
end Go.Proofs.YtbigikpioomjlaaDoor
