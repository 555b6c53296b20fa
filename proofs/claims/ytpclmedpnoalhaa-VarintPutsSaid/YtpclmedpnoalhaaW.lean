/- Contracts of varint.Size, mark, Put; the reference's Size and Bytes. -/
import Derived.Test.YtpclmedpnoalhaaPlainP
import Derived.Test.YtpclmedpnoalhaaOctPut
import Derived.Test.YtpclmedpnoalhaaRefBytes
namespace Go.Proofs.Ytpclmedpnoalhaa
open Go.RowKit
set_option linter.unusedVariables false

theorem size_1 (n : Int) (w : World) (h0 : 0 ≤ n) (h1 : n < 64) : Calls Try.prog 16 #[.int .u64 n] w fun e w' => e = .returned (.int .i64 1) ∧ w = w' := by
  go_enter Try.func16, Try.ntmps16
  go_wp2_with fail
  go_ret
  exact ⟨rfl, rfl⟩
theorem mark_1 (w : World) : Calls Try.prog 23 #[.int .i64 1] w fun e w' => e = .returned (.int .u64 0) ∧ w = w' := by
  go_enter Try.func23, Try.ntmps23
  go_wp2_with fail
  go_ret
  exact ⟨rfl, rfl⟩
theorem refSize_1 (n : Int) (w : World) (h0 : 0 ≤ n) (h1 : n < 64) : Calls Try.prog 17 #[.int .u64 n] w fun e w' => e = .returned (.int .i64 1) ∧ w = w' := by
  go_enter Try.func17, Try.ntmps17
  go_wp2_with fail
  refine wp_loop_rounds 1 ?_; rw [rounds_succ]
  go_wp2_with fail
  refine (power_any 0 w (by omega)).mono ?_
  rintro e w1 ⟨rfl, rfl⟩
  rw [show ((2 ^ 0 : Nat) : Int) = 1 from rfl]
  go_wp2_with fail
  refine (power_any 6 w (by omega)).mono ?_
  rintro e w1 ⟨rfl, rfl⟩
  rw [show ((2 ^ 6 : Nat) : Int) = 64 from rfl]
  go_wp2_with fail
  go_ret
  exact ⟨rfl, rfl⟩
theorem put_1 (A : Option Addr) (c : Nat) (l : List UInt8) (n : Int) (w : World) (h0 : 0 ≤ n) (h1 : n < 64) (hl : l.length ≤ 1000000) (hB : BS w w.heap.size A l) :
    Calls Try.prog 15 #[.slice A l.length c, .int .u64 n] w fun e w' => e = .returned (.tuple #[.slice (some ⟨w.heap.size, 0, none⟩) (l.length + 1) (l.length + 1), .int .i64 0]) ∧ Own w' 5 w.heap.size (l.length + 1) (l ++ digs 1 n) ∧ Below w.heap.size w w' := by
  have HB := Lib.hid hB
  clear hB
  have hor : bits .or .u64 n 0 = n := by
    have := or_marks n 0 6 (by omega) (by omega) (by simp; omega) (by omega) (by omega)
    simpa using this
  go_enter Try.func15, Try.ntmps15
  go_wp2_with fail
  refine (size_1 n w h0 h1).mono ?_
  rintro e w1 ⟨rfl, rfl⟩
  go_wp2_with fail
  refine (mark_1 w).mono ?_
  rintro e w1 ⟨rfl, rfl⟩
  go_wp2_with fail
  refine (put_any A c 1 l n 1 w hl HB.out (by omega) (by omega) (by omega)).mono ?_
  rintro e w1 ⟨rfl, hO, hb⟩
  have HO := Lib.hid hO
  have HB1 := Lib.hid hb
  clear hO hb
  go_wp2_with fail
  go_ret2
  exact ⟨rfl, HO.out, HB1.out⟩
theorem refBytes_1 (n : Int) (w : World) (h0 : 0 ≤ n) (h1 : n < 64) :
    Calls Try.prog 18 #[.int .u64 n] w fun e w' => e = .returned (.slice (some ⟨w.heap.size, 0, none⟩) 1 1) ∧ Own w' 5 w.heap.size 1 (digs 1 n) ∧ Below w.heap.size w w' := by
  obtain ⟨x, y, t, hx, hy, hx64, hxy, ht⟩ := digs_marks 0 n 0 (by omega) (by simp; omega) (by omega) (by omega)
  have HX := Lib.hid hx
  have HY : Hid (digs 1 n = y :: t) := Lib.hid (by simpa using hy)
  have HXY := Lib.hid hxy
  have HT := Lib.hid ht
  clear hx hy hxy ht
  go_enter Try.func18, Try.ntmps18
  go_wp2_with fail
  refine (refSize_1 n w h0 h1).mono ?_
  rintro e w1 ⟨rfl, rfl⟩
  go_wp2_with fail
  refine (refBytes_any 1 n 1 w (by omega) (by omega) (by omega)).mono ?_
  rintro e w1 ⟨rfl, hO, hb⟩
  rw [HX.out] at hO
  have c0 := hO.cell (i := 0) (by simp)
  have f0 := hO.frozen 0
  have hlt := hO.lt
  simp only [List.getElem_cons_zero] at c0
  have HO := Lib.hid hO
  have HB1 := Lib.hid hb
  clear hO hb
  go_wp2_with fail
  refine wp_loop_rounds 1 ?_; rw [rounds_succ]
  go_wp2_with fail
  refine (power_any 0 _ (by omega)).mono ?_
  rintro e w2 ⟨rfl, rfl⟩
  rw [show ((2 ^ 0 : Nat) : Int) = 1 from rfl]
  go_wp2_with fail
  go_ret
  have h := HO.out.set 0 y
  rw [HXY.out] at h
  refine ⟨rfl, ?_, HB1.out.setCell (Nat.le_refl _) _⟩
  rw [HY.out]
  simpa using h
theorem size_2 (n : Int) (w : World) (h0 : 64 ≤ n) (h1 : n < 16384) : Calls Try.prog 16 #[.int .u64 n] w fun e w' => e = .returned (.int .i64 2) ∧ w = w' := by
  go_enter Try.func16, Try.ntmps16
  go_wp2_with fail
  go_ret
  exact ⟨rfl, rfl⟩
theorem mark_2 (w : World) : Calls Try.prog 23 #[.int .i64 2] w fun e w' => e = .returned (.int .u64 1) ∧ w = w' := by
  go_enter Try.func23, Try.ntmps23
  go_wp2_with fail
  go_ret
  exact ⟨rfl, rfl⟩
theorem refSize_2 (n : Int) (w : World) (h0 : 64 ≤ n) (h1 : n < 16384) : Calls Try.prog 17 #[.int .u64 n] w fun e w' => e = .returned (.int .i64 2) ∧ w = w' := by
  go_enter Try.func17, Try.ntmps17
  go_wp2_with fail
  refine wp_loop_rounds 2 ?_; rw [rounds_succ]
  go_wp2_with fail
  refine (power_any 0 w (by omega)).mono ?_
  rintro e w1 ⟨rfl, rfl⟩
  rw [show ((2 ^ 0 : Nat) : Int) = 1 from rfl]
  go_wp2_with fail
  refine (power_any 6 w (by omega)).mono ?_
  rintro e w1 ⟨rfl, rfl⟩
  rw [show ((2 ^ 6 : Nat) : Int) = 64 from rfl]
  go_wp2_with fail
  rw [rounds_succ]
  go_wp2_with fail
  refine (power_any 1 w (by omega)).mono ?_
  rintro e w1 ⟨rfl, rfl⟩
  rw [show ((2 ^ 1 : Nat) : Int) = 2 from rfl]
  go_wp2_with fail
  refine (power_any 14 w (by omega)).mono ?_
  rintro e w1 ⟨rfl, rfl⟩
  rw [show ((2 ^ 14 : Nat) : Int) = 16384 from rfl]
  go_wp2_with fail
  go_ret
  exact ⟨rfl, rfl⟩
theorem put_2 (A : Option Addr) (c : Nat) (l : List UInt8) (n : Int) (w : World) (h0 : 64 ≤ n) (h1 : n < 16384) (hl : l.length ≤ 1000000) (hB : BS w w.heap.size A l) :
    Calls Try.prog 15 #[.slice A l.length c, .int .u64 n] w fun e w' => e = .returned (.tuple #[.slice (some ⟨w.heap.size, 0, none⟩) (l.length + 2) (l.length + 2), .int .i64 0]) ∧ Own w' 5 w.heap.size (l.length + 2) (l ++ digs 2 (n + 16384)) ∧ Below w.heap.size w w' := by
  have HB := Lib.hid hB
  clear hB
  have hor : bits .or .u64 n 16384 = (n + 16384) := by
    have := or_marks n 1 14 (by omega) (by omega) (by simp; omega) (by omega) (by omega)
    simpa using this
  go_enter Try.func15, Try.ntmps15
  go_wp2_with fail
  refine (size_2 n w h0 h1).mono ?_
  rintro e w1 ⟨rfl, rfl⟩
  go_wp2_with fail
  refine (mark_2 w).mono ?_
  rintro e w1 ⟨rfl, rfl⟩
  go_wp2_with fail
  refine (put_any A c 2 l (n + 16384) 2 w hl HB.out (by omega) (by omega) (by omega)).mono ?_
  rintro e w1 ⟨rfl, hO, hb⟩
  have HO := Lib.hid hO
  have HB1 := Lib.hid hb
  clear hO hb
  go_wp2_with fail
  go_ret2
  exact ⟨rfl, HO.out, HB1.out⟩
theorem refBytes_2 (n : Int) (w : World) (h0 : 64 ≤ n) (h1 : n < 16384) :
    Calls Try.prog 18 #[.int .u64 n] w fun e w' => e = .returned (.slice (some ⟨w.heap.size, 0, none⟩) 2 2) ∧ Own w' 5 w.heap.size 2 (digs 2 (n + 16384)) ∧ Below w.heap.size w w' := by
  obtain ⟨x, y, t, hx, hy, hx64, hxy, ht⟩ := digs_marks 1 n 1 (by omega) (by simp; omega) (by omega) (by omega)
  have HX := Lib.hid hx
  have HY : Hid (digs 2 (n + 16384) = y :: t) := Lib.hid (by simpa using hy)
  have HXY := Lib.hid hxy
  have HT := Lib.hid ht
  clear hx hy hxy ht
  go_enter Try.func18, Try.ntmps18
  go_wp2_with fail
  refine (refSize_2 n w h0 h1).mono ?_
  rintro e w1 ⟨rfl, rfl⟩
  go_wp2_with fail
  refine (refBytes_any 2 n 2 w (by omega) (by omega) (by omega)).mono ?_
  rintro e w1 ⟨rfl, hO, hb⟩
  rw [HX.out] at hO
  have c0 := hO.cell (i := 0) (by simp)
  have f0 := hO.frozen 0
  have hlt := hO.lt
  simp only [List.getElem_cons_zero] at c0
  have HO := Lib.hid hO
  have HB1 := Lib.hid hb
  clear hO hb
  go_wp2_with fail
  refine wp_loop_rounds 2 ?_; rw [rounds_succ]
  go_wp2_with fail
  refine (power_any 0 _ (by omega)).mono ?_
  rintro e w2 ⟨rfl, rfl⟩
  rw [show ((2 ^ 0 : Nat) : Int) = 1 from rfl]
  go_wp2_with fail
  rw [rounds_succ]
  go_wp2_with fail
  refine (power_any 1 _ (by omega)).mono ?_
  rintro e w2 ⟨rfl, rfl⟩
  rw [show ((2 ^ 1 : Nat) : Int) = 2 from rfl]
  go_wp2_with fail
  go_ret
  have h := HO.out.set 0 y
  rw [HXY.out] at h
  refine ⟨rfl, ?_, HB1.out.setCell (Nat.le_refl _) _⟩
  rw [HY.out]
  simpa using h
theorem size_4 (n : Int) (w : World) (h0 : 16384 ≤ n) (h1 : n < 1073741824) : Calls Try.prog 16 #[.int .u64 n] w fun e w' => e = .returned (.int .i64 4) ∧ w = w' := by
  go_enter Try.func16, Try.ntmps16
  go_wp2_with fail
  go_ret
  exact ⟨rfl, rfl⟩
theorem mark_4 (w : World) : Calls Try.prog 23 #[.int .i64 4] w fun e w' => e = .returned (.int .u64 2) ∧ w = w' := by
  go_enter Try.func23, Try.ntmps23
  go_wp2_with fail
  go_ret
  exact ⟨rfl, rfl⟩
theorem refSize_4 (n : Int) (w : World) (h0 : 16384 ≤ n) (h1 : n < 1073741824) : Calls Try.prog 17 #[.int .u64 n] w fun e w' => e = .returned (.int .i64 4) ∧ w = w' := by
  go_enter Try.func17, Try.ntmps17
  go_wp2_with fail
  refine wp_loop_rounds 3 ?_; rw [rounds_succ]
  go_wp2_with fail
  refine (power_any 0 w (by omega)).mono ?_
  rintro e w1 ⟨rfl, rfl⟩
  rw [show ((2 ^ 0 : Nat) : Int) = 1 from rfl]
  go_wp2_with fail
  refine (power_any 6 w (by omega)).mono ?_
  rintro e w1 ⟨rfl, rfl⟩
  rw [show ((2 ^ 6 : Nat) : Int) = 64 from rfl]
  go_wp2_with fail
  rw [rounds_succ]
  go_wp2_with fail
  refine (power_any 1 w (by omega)).mono ?_
  rintro e w1 ⟨rfl, rfl⟩
  rw [show ((2 ^ 1 : Nat) : Int) = 2 from rfl]
  go_wp2_with fail
  refine (power_any 14 w (by omega)).mono ?_
  rintro e w1 ⟨rfl, rfl⟩
  rw [show ((2 ^ 14 : Nat) : Int) = 16384 from rfl]
  go_wp2_with fail
  rw [rounds_succ]
  go_wp2_with fail
  refine (power_any 2 w (by omega)).mono ?_
  rintro e w1 ⟨rfl, rfl⟩
  rw [show ((2 ^ 2 : Nat) : Int) = 4 from rfl]
  go_wp2_with fail
  refine (power_any 30 w (by omega)).mono ?_
  rintro e w1 ⟨rfl, rfl⟩
  rw [show ((2 ^ 30 : Nat) : Int) = 1073741824 from rfl]
  go_wp2_with fail
  go_ret
  exact ⟨rfl, rfl⟩
theorem put_4 (A : Option Addr) (c : Nat) (l : List UInt8) (n : Int) (w : World) (h0 : 16384 ≤ n) (h1 : n < 1073741824) (hl : l.length ≤ 1000000) (hB : BS w w.heap.size A l) :
    Calls Try.prog 15 #[.slice A l.length c, .int .u64 n] w fun e w' => e = .returned (.tuple #[.slice (some ⟨w.heap.size, 0, none⟩) (l.length + 4) (l.length + 4), .int .i64 0]) ∧ Own w' 5 w.heap.size (l.length + 4) (l ++ digs 4 (n + 2147483648)) ∧ Below w.heap.size w w' := by
  have HB := Lib.hid hB
  clear hB
  have hor : bits .or .u64 n 2147483648 = (n + 2147483648) := by
    have := or_marks n 2 30 (by omega) (by omega) (by simp; omega) (by omega) (by omega)
    simpa using this
  go_enter Try.func15, Try.ntmps15
  go_wp2_with fail
  refine (size_4 n w h0 h1).mono ?_
  rintro e w1 ⟨rfl, rfl⟩
  go_wp2_with fail
  refine (mark_4 w).mono ?_
  rintro e w1 ⟨rfl, rfl⟩
  go_wp2_with fail
  refine (put_any A c 4 l (n + 2147483648) 4 w hl HB.out (by omega) (by omega) (by omega)).mono ?_
  rintro e w1 ⟨rfl, hO, hb⟩
  have HO := Lib.hid hO
  have HB1 := Lib.hid hb
  clear hO hb
  go_wp2_with fail
  go_ret2
  exact ⟨rfl, HO.out, HB1.out⟩
theorem refBytes_4 (n : Int) (w : World) (h0 : 16384 ≤ n) (h1 : n < 1073741824) :
    Calls Try.prog 18 #[.int .u64 n] w fun e w' => e = .returned (.slice (some ⟨w.heap.size, 0, none⟩) 4 4) ∧ Own w' 5 w.heap.size 4 (digs 4 (n + 2147483648)) ∧ Below w.heap.size w w' := by
  obtain ⟨x, y, t, hx, hy, hx64, hxy, ht⟩ := digs_marks 3 n 2 (by omega) (by simp; omega) (by omega) (by omega)
  have HX := Lib.hid hx
  have HY : Hid (digs 4 (n + 2147483648) = y :: t) := Lib.hid (by simpa using hy)
  have HXY := Lib.hid hxy
  have HT := Lib.hid ht
  clear hx hy hxy ht
  go_enter Try.func18, Try.ntmps18
  go_wp2_with fail
  refine (refSize_4 n w h0 h1).mono ?_
  rintro e w1 ⟨rfl, rfl⟩
  go_wp2_with fail
  refine (refBytes_any 4 n 4 w (by omega) (by omega) (by omega)).mono ?_
  rintro e w1 ⟨rfl, hO, hb⟩
  rw [HX.out] at hO
  have c0 := hO.cell (i := 0) (by simp)
  have f0 := hO.frozen 0
  have hlt := hO.lt
  simp only [List.getElem_cons_zero] at c0
  have HO := Lib.hid hO
  have HB1 := Lib.hid hb
  clear hO hb
  go_wp2_with fail
  refine wp_loop_rounds 3 ?_; rw [rounds_succ]
  go_wp2_with fail
  refine (power_any 0 _ (by omega)).mono ?_
  rintro e w2 ⟨rfl, rfl⟩
  rw [show ((2 ^ 0 : Nat) : Int) = 1 from rfl]
  go_wp2_with fail
  rw [rounds_succ]
  go_wp2_with fail
  refine (power_any 1 _ (by omega)).mono ?_
  rintro e w2 ⟨rfl, rfl⟩
  rw [show ((2 ^ 1 : Nat) : Int) = 2 from rfl]
  go_wp2_with fail
  rw [rounds_succ]
  go_wp2_with fail
  refine (power_any 2 _ (by omega)).mono ?_
  rintro e w2 ⟨rfl, rfl⟩
  rw [show ((2 ^ 2 : Nat) : Int) = 4 from rfl]
  go_wp2_with fail
  go_ret
  have h := HO.out.set 0 y
  rw [HXY.out] at h
  refine ⟨rfl, ?_, HB1.out.setCell (Nat.le_refl _) _⟩
  rw [HY.out]
  simpa using h
theorem size_8 (n : Int) (w : World) (h0 : 1073741824 ≤ n) (h1 : n < 4611686018427387904) : Calls Try.prog 16 #[.int .u64 n] w fun e w' => e = .returned (.int .i64 8) ∧ w = w' := by
  go_enter Try.func16, Try.ntmps16
  go_wp2_with fail
  go_ret
  exact ⟨rfl, rfl⟩
theorem mark_8 (w : World) : Calls Try.prog 23 #[.int .i64 8] w fun e w' => e = .returned (.int .u64 3) ∧ w = w' := by
  go_enter Try.func23, Try.ntmps23
  go_wp2_with fail
  go_ret
  exact ⟨rfl, rfl⟩
theorem refSize_8 (n : Int) (w : World) (h0 : 1073741824 ≤ n) (h1 : n < 4611686018427387904) : Calls Try.prog 17 #[.int .u64 n] w fun e w' => e = .returned (.int .i64 8) ∧ w = w' := by
  go_enter Try.func17, Try.ntmps17
  go_wp2_with fail
  refine wp_loop_rounds 4 ?_; rw [rounds_succ]
  go_wp2_with fail
  refine (power_any 0 w (by omega)).mono ?_
  rintro e w1 ⟨rfl, rfl⟩
  rw [show ((2 ^ 0 : Nat) : Int) = 1 from rfl]
  go_wp2_with fail
  refine (power_any 6 w (by omega)).mono ?_
  rintro e w1 ⟨rfl, rfl⟩
  rw [show ((2 ^ 6 : Nat) : Int) = 64 from rfl]
  go_wp2_with fail
  rw [rounds_succ]
  go_wp2_with fail
  refine (power_any 1 w (by omega)).mono ?_
  rintro e w1 ⟨rfl, rfl⟩
  rw [show ((2 ^ 1 : Nat) : Int) = 2 from rfl]
  go_wp2_with fail
  refine (power_any 14 w (by omega)).mono ?_
  rintro e w1 ⟨rfl, rfl⟩
  rw [show ((2 ^ 14 : Nat) : Int) = 16384 from rfl]
  go_wp2_with fail
  rw [rounds_succ]
  go_wp2_with fail
  refine (power_any 2 w (by omega)).mono ?_
  rintro e w1 ⟨rfl, rfl⟩
  rw [show ((2 ^ 2 : Nat) : Int) = 4 from rfl]
  go_wp2_with fail
  refine (power_any 30 w (by omega)).mono ?_
  rintro e w1 ⟨rfl, rfl⟩
  rw [show ((2 ^ 30 : Nat) : Int) = 1073741824 from rfl]
  go_wp2_with fail
  rw [rounds_succ]
  go_wp2_with fail
  refine (power_any 3 w (by omega)).mono ?_
  rintro e w1 ⟨rfl, rfl⟩
  rw [show ((2 ^ 3 : Nat) : Int) = 8 from rfl]
  go_wp2_with fail
  refine (power_any 62 w (by omega)).mono ?_
  rintro e w1 ⟨rfl, rfl⟩
  rw [show ((2 ^ 62 : Nat) : Int) = 4611686018427387904 from rfl]
  go_wp2_with fail
  go_ret
  exact ⟨rfl, rfl⟩
theorem put_8 (A : Option Addr) (c : Nat) (l : List UInt8) (n : Int) (w : World) (h0 : 1073741824 ≤ n) (h1 : n < 4611686018427387904) (hl : l.length ≤ 1000000) (hB : BS w w.heap.size A l) :
    Calls Try.prog 15 #[.slice A l.length c, .int .u64 n] w fun e w' => e = .returned (.tuple #[.slice (some ⟨w.heap.size, 0, none⟩) (l.length + 8) (l.length + 8), .int .i64 0]) ∧ Own w' 5 w.heap.size (l.length + 8) (l ++ digs 8 (n + 13835058055282163712)) ∧ Below w.heap.size w w' := by
  have HB := Lib.hid hB
  clear hB
  have hor : bits .or .u64 n 13835058055282163712 = (n + 13835058055282163712) := by
    have := or_marks n 3 62 (by omega) (by omega) (by simp; omega) (by omega) (by omega)
    simpa using this
  go_enter Try.func15, Try.ntmps15
  go_wp2_with fail
  refine (size_8 n w h0 h1).mono ?_
  rintro e w1 ⟨rfl, rfl⟩
  go_wp2_with fail
  refine (mark_8 w).mono ?_
  rintro e w1 ⟨rfl, rfl⟩
  go_wp2_with fail
  refine (put_any A c 8 l (n + 13835058055282163712) 8 w hl HB.out (by omega) (by omega) (by omega)).mono ?_
  rintro e w1 ⟨rfl, hO, hb⟩
  have HO := Lib.hid hO
  have HB1 := Lib.hid hb
  clear hO hb
  go_wp2_with fail
  go_ret2
  exact ⟨rfl, HO.out, HB1.out⟩
theorem refBytes_8 (n : Int) (w : World) (h0 : 1073741824 ≤ n) (h1 : n < 4611686018427387904) :
    Calls Try.prog 18 #[.int .u64 n] w fun e w' => e = .returned (.slice (some ⟨w.heap.size, 0, none⟩) 8 8) ∧ Own w' 5 w.heap.size 8 (digs 8 (n + 13835058055282163712)) ∧ Below w.heap.size w w' := by
  obtain ⟨x, y, t, hx, hy, hx64, hxy, ht⟩ := digs_marks 7 n 3 (by omega) (by simp; omega) (by omega) (by omega)
  have HX := Lib.hid hx
  have HY : Hid (digs 8 (n + 13835058055282163712) = y :: t) := Lib.hid (by simpa using hy)
  have HXY := Lib.hid hxy
  have HT := Lib.hid ht
  clear hx hy hxy ht
  go_enter Try.func18, Try.ntmps18
  go_wp2_with fail
  refine (refSize_8 n w h0 h1).mono ?_
  rintro e w1 ⟨rfl, rfl⟩
  go_wp2_with fail
  refine (refBytes_any 8 n 8 w (by omega) (by omega) (by omega)).mono ?_
  rintro e w1 ⟨rfl, hO, hb⟩
  rw [HX.out] at hO
  have c0 := hO.cell (i := 0) (by simp)
  have f0 := hO.frozen 0
  have hlt := hO.lt
  simp only [List.getElem_cons_zero] at c0
  have HO := Lib.hid hO
  have HB1 := Lib.hid hb
  clear hO hb
  go_wp2_with fail
  refine wp_loop_rounds 4 ?_; rw [rounds_succ]
  go_wp2_with fail
  refine (power_any 0 _ (by omega)).mono ?_
  rintro e w2 ⟨rfl, rfl⟩
  rw [show ((2 ^ 0 : Nat) : Int) = 1 from rfl]
  go_wp2_with fail
  rw [rounds_succ]
  go_wp2_with fail
  refine (power_any 1 _ (by omega)).mono ?_
  rintro e w2 ⟨rfl, rfl⟩
  rw [show ((2 ^ 1 : Nat) : Int) = 2 from rfl]
  go_wp2_with fail
  rw [rounds_succ]
  go_wp2_with fail
  refine (power_any 2 _ (by omega)).mono ?_
  rintro e w2 ⟨rfl, rfl⟩
  rw [show ((2 ^ 2 : Nat) : Int) = 4 from rfl]
  go_wp2_with fail
  rw [rounds_succ]
  go_wp2_with fail
  refine (power_any 3 _ (by omega)).mono ?_
  rintro e w2 ⟨rfl, rfl⟩
  rw [show ((2 ^ 3 : Nat) : Int) = 8 from rfl]
  go_wp2_with fail
  go_ret
  have h := HO.out.set 0 y
  rw [HXY.out] at h
  refine ⟨rfl, ?_, HB1.out.setCell (Nat.le_refl _) _⟩
  rw [HY.out]
  simpa using h
end Go.Proofs.Ytpclmedpnoalhaa
