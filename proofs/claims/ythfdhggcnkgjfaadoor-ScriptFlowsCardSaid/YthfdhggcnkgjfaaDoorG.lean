/- The line's words: what awake meets. -/
import Derived.Test.YthfdhggcnkgjfaaDoorF
import Derived.Test.YthfdhggcnkgjfaaDoorShelf
namespace Go.Proofs.YthfdhggcnkgjfaaDoor
open Go.RowKit
set_option linter.unusedVariables false
theorem digit_any (c : Int) (h0 : 48 ≤ c) (h1 : c ≤ 57) (b : Int) (w : World) : Calls Tryd.prog 51 #[.int .u8 c, .int .i64 b] w fun e w' => e = .returned (.int .i64 (c - 48)) ∧ w' = w := by
  go_enter Tryd.func51, Tryd.ntmps51
  go_wp2_with fail
  go_ret
  refine ⟨?_, rfl⟩
  go_num
set_option maxHeartbeats 2000000 in
theorem num3_any (w : World) : Calls Tryd.prog 40 #[.string ⟨#[51]⟩, .int .i64 10, .int .i64 1073741824] w fun e w' => e = .returned (.tuple #[.int .i64 3, .bool true]) ∧ w' = w := by
  go_enter Tryd.func40, Tryd.ntmps40
  go_wp2_with fail
  go_loop [8, 34] (fun n i => (i = .int .i64 0 ∧ n = .int .i64 0) ∨ (i = .int .i64 1 ∧ n = .int .i64 3)) (fun _ i => (2 - intOf i).toNat)
  case atStart => exact .inl ⟨rfl, rfl⟩
  case round =>
    rcases hrel with ⟨rfl, rfl⟩ | ⟨rfl, rfl⟩
    · go_wp2_with fail
      refine (digit_any 51 (by omega) (by omega) 10 w).mono ?_
      rintro e w1 ⟨rfl, rfl⟩
      go_wp2_with fail
      go_round
      case rel => exact .inr ⟨rfl, rfl⟩
      case measure => simp [intOf]
    · go_wp2_with fail
      go_ret2
      exact ⟨rfl, rfl⟩
set_option maxHeartbeats 2000000 in
theorem num03_any (w : World) : Calls Tryd.prog 40 #[.string ⟨#[48, 51]⟩, .int .i64 10, .int .i64 1073741824] w fun e w' => e = .returned (.tuple #[.int .i64 0, .bool false]) ∧ w' = w := by
  go_enter Tryd.func40, Tryd.ntmps40
  go_wp2_with fail
  go_ret2
  exact ⟨rfl, rfl⟩
set_option maxHeartbeats 2000000 in
theorem cut_a (w : World) : Calls Tryd.prog 36 #[.string ⟨#[111, 102, 102, 101, 114, 32, 51]⟩, .string ⟨#[32]⟩] w fun e w' => e = .returned (.tuple #[.string ⟨#[111, 102, 102, 101, 114]⟩, .string ⟨#[51]⟩, .bool true]) ∧ Below w.heap.size w w' := by
  have HI := Lib.hid ((Tryd.stringslite_Index_one ⟨#[111, 102, 102, 101, 114, 32, 51]⟩ 32 w).mono (R' := fun e w' => e = .returned (.int .i64 (5)) ∧ w' = w) (fun e w' h => ⟨h.1.trans (by kernel_rfl), h.2⟩))
  have HC : Calls Tryd.prog 48 #[.string ⟨#[111, 102, 102, 101, 114, 32, 51]⟩, .string ⟨#[32]⟩] w fun e w' => e = .returned (.tuple #[.string ⟨#[111, 102, 102, 101, 114]⟩, .string ⟨#[51]⟩, .bool true]) ∧ Below w.heap.size w w' := by
    go_enter Tryd.func48, Tryd.ntmps48
    go_wp2_with fail
    refine HI.out.mono ?_
    rintro e w1 ⟨rfl, rfl⟩
    go_wp2_with fail
    go_region
    go_wp2_with fail
    go_ret3
    exact ⟨by kernel_rfl, belowN (Below.refl _ _) 1⟩
  have HC := Lib.hid HC
  go_enter Tryd.func36, Tryd.ntmps36
  go_wp2_with fail
  refine HC.out.mono ?_
  rintro e w1 ⟨rfl, hb1⟩
  go_wp2_with fail
  go_ret3
  exact ⟨rfl, hb1⟩
set_option maxHeartbeats 2000000 in
theorem cut_b (w : World) : Calls Tryd.prog 36 #[.string ⟨#[111, 102, 102, 101, 114, 32, 48, 51]⟩, .string ⟨#[32]⟩] w fun e w' => e = .returned (.tuple #[.string ⟨#[111, 102, 102, 101, 114]⟩, .string ⟨#[48, 51]⟩, .bool true]) ∧ Below w.heap.size w w' := by
  have HI := Lib.hid ((Tryd.stringslite_Index_one ⟨#[111, 102, 102, 101, 114, 32, 48, 51]⟩ 32 w).mono (R' := fun e w' => e = .returned (.int .i64 (5)) ∧ w' = w) (fun e w' h => ⟨h.1.trans (by kernel_rfl), h.2⟩))
  have HC : Calls Tryd.prog 48 #[.string ⟨#[111, 102, 102, 101, 114, 32, 48, 51]⟩, .string ⟨#[32]⟩] w fun e w' => e = .returned (.tuple #[.string ⟨#[111, 102, 102, 101, 114]⟩, .string ⟨#[48, 51]⟩, .bool true]) ∧ Below w.heap.size w w' := by
    go_enter Tryd.func48, Tryd.ntmps48
    go_wp2_with fail
    refine HI.out.mono ?_
    rintro e w1 ⟨rfl, rfl⟩
    go_wp2_with fail
    go_region
    go_wp2_with fail
    go_ret3
    exact ⟨by kernel_rfl, belowN (Below.refl _ _) 1⟩
  have HC := Lib.hid HC
  go_enter Tryd.func36, Tryd.ntmps36
  go_wp2_with fail
  refine HC.out.mono ?_
  rintro e w1 ⟨rfl, hb1⟩
  go_wp2_with fail
  go_ret3
  exact ⟨rfl, hb1⟩
set_option maxHeartbeats 2000000 in
theorem cut_c (w : World) : Calls Tryd.prog 36 #[.string ⟨#[51]⟩, .string ⟨#[32]⟩] w fun e w' => e = .returned (.tuple #[.string ⟨#[51]⟩, .string ⟨#[]⟩, .bool false]) ∧ Below w.heap.size w w' := by
  have HI := Lib.hid ((Tryd.stringslite_Index_one ⟨#[51]⟩ 32 w).mono (R' := fun e w' => e = .returned (.int .i64 (-1)) ∧ w' = w) (fun e w' h => ⟨h.1.trans (by kernel_rfl), h.2⟩))
  have HC : Calls Tryd.prog 48 #[.string ⟨#[51]⟩, .string ⟨#[32]⟩] w fun e w' => e = .returned (.tuple #[.string ⟨#[51]⟩, .string ⟨#[]⟩, .bool false]) ∧ Below w.heap.size w w' := by
    go_enter Tryd.func48, Tryd.ntmps48
    go_wp2_with fail
    refine HI.out.mono ?_
    rintro e w1 ⟨rfl, rfl⟩
    go_wp2_with fail
    skip
    skip
    go_ret3
    exact ⟨by kernel_rfl, Below.refl _ _⟩
  have HC := Lib.hid HC
  go_enter Tryd.func36, Tryd.ntmps36
  go_wp2_with fail
  refine HC.out.mono ?_
  rintro e w1 ⟨rfl, hb1⟩
  go_wp2_with fail
  go_ret3
  exact ⟨rfl, hb1⟩
set_option maxHeartbeats 2000000 in
theorem cut_d (w : World) : Calls Tryd.prog 36 #[.string ⟨#[48, 51]⟩, .string ⟨#[32]⟩] w fun e w' => e = .returned (.tuple #[.string ⟨#[48, 51]⟩, .string ⟨#[]⟩, .bool false]) ∧ Below w.heap.size w w' := by
  have HI := Lib.hid ((Tryd.stringslite_Index_one ⟨#[48, 51]⟩ 32 w).mono (R' := fun e w' => e = .returned (.int .i64 (-1)) ∧ w' = w) (fun e w' h => ⟨h.1.trans (by kernel_rfl), h.2⟩))
  have HC : Calls Tryd.prog 48 #[.string ⟨#[48, 51]⟩, .string ⟨#[32]⟩] w fun e w' => e = .returned (.tuple #[.string ⟨#[48, 51]⟩, .string ⟨#[]⟩, .bool false]) ∧ Below w.heap.size w w' := by
    go_enter Tryd.func48, Tryd.ntmps48
    go_wp2_with fail
    refine HI.out.mono ?_
    rintro e w1 ⟨rfl, rfl⟩
    go_wp2_with fail
    skip
    skip
    go_ret3
    exact ⟨by kernel_rfl, Below.refl _ _⟩
  have HC := Lib.hid HC
  go_enter Tryd.func36, Tryd.ntmps36
  go_wp2_with fail
  refine HC.out.mono ?_
  rintro e w1 ⟨rfl, hb1⟩
  go_wp2_with fail
  go_ret3
  exact ⟨rfl, hb1⟩

/-- One word is taken off. -/
theorem word_at (s word tail : ByteArray) (more bad : Bool) (wb : Nat) (w : World) (hB : Blk w wb 72 #[.string s, .bool false, .bool bad])
    (hc : Calls Tryd.prog 36 #[.string s, .string ⟨#[32]⟩] w fun e w' => e = .returned (.tuple #[.string word, .string tail, .bool more]) ∧ Below w.heap.size w w') :
    Calls Tryd.prog 22 #[.pointer (some ⟨wb, 0, none⟩)] w fun e w' => e = .returned (.string word) ∧ Blk w' wb 72 #[.string tail, .bool (!more), .bool bad] ∧ Kept (fun i => i = wb) w w' := by
  have HB := Lib.hid hB
  have HC := Lib.hid hc
  have c0 := hB.cell
  have f0 := hB.frozen
  have lt0 := hB.lt
  clear hB hc
  go_enter Tryd.func22, Tryd.ntmps22
  go_wp2_with fail
  refine HC.out.mono ?_
  rintro e w1 ⟨rfl, hb1⟩
  have HK := Lib.hid (Kept.ofB (S := fun i => i = wb) hb1)
  have HB1 := Lib.hid (HB.out.below hb1 HB.out.lt)
  clear hb1 c0 f0 lt0
  have c0 := HB1.out.cell
  have f0 := HB1.out.frozen
  have lt0 := HB1.out.lt
  go_wp2_with fail
  go_ret
  refine ⟨rfl, ?_, ?_⟩
  · exact (HB1.out.set_to (cs' := #[.string tail, .bool false, .bool bad]) rfl).set_to rfl
  · exact Kept.setIn (S := fun i => i = wb) (b := wb) rfl (Kept.setIn (S := fun i => i = wb) (b := wb) rfl HK.out)
theorem num_ok (s : ByteArray) (n most : Int) (b0 : ByteArray) (en bad : Bool) (wb : Nat) (w : World) (hB : Blk w wb 72 #[.string b0, .bool en, .bool bad])
    (hc : ∀ u, Calls Tryd.prog 40 #[.string s, .int .i64 10, .int .i64 most] u fun e w' => e = .returned (.tuple #[.int .i64 n, .bool true]) ∧ w' = u) :
    Calls Tryd.prog 25 #[.pointer (some ⟨wb, 0, none⟩), .string s, .int .i64 most] w fun e w' => e = .returned (.int .i64 n) ∧ Blk w' wb 72 #[.string b0, .bool en, .bool bad] ∧ Kept (fun i => i = wb) w w' := by
  have HB := Lib.hid hB
  have HC := Lib.hid (hc w)
  clear hB hc
  go_enter Tryd.func25, Tryd.ntmps25
  go_wp2_with fail
  refine HC.out.mono ?_
  rintro e w1 ⟨rfl, rfl⟩
  go_wp2_with fail
  go_ret
  exact ⟨rfl, HB.out, Kept.refl _ _⟩
theorem num_no (s : ByteArray) (n most : Int) (b0 : ByteArray) (en bad : Bool) (wb : Nat) (w : World) (hB : Blk w wb 72 #[.string b0, .bool en, .bool bad])
    (hc : ∀ u, Calls Tryd.prog 40 #[.string s, .int .i64 10, .int .i64 most] u fun e w' => e = .returned (.tuple #[.int .i64 n, .bool false]) ∧ w' = u) :
    Calls Tryd.prog 25 #[.pointer (some ⟨wb, 0, none⟩), .string s, .int .i64 most] w fun e w' => e = .returned (.int .i64 n) ∧ Blk w' wb 72 #[.string b0, .bool en, .bool true] ∧ Kept (fun i => i = wb) w w' := by
  have HB := Lib.hid hB
  have HC := Lib.hid (hc w)
  have c0 := hB.cell
  have f0 := hB.frozen
  have lt0 := hB.lt
  clear hB hc
  go_enter Tryd.func25, Tryd.ntmps25
  go_wp2_with fail
  refine HC.out.mono ?_
  rintro e w1 ⟨rfl, rfl⟩
  go_wp2_with fail
  go_ret
  exact ⟨rfl, HB.out.set_to rfl, Kept.setIn (S := fun i => i = wb) (b := wb) rfl (Kept.refl _ _)⟩
end Go.Proofs.YthfdhggcnkgjfaaDoor
