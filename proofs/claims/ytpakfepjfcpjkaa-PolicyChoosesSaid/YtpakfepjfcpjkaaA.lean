/- awake; the law PolicyNames, walked. -/
import Derived.Test.YtpakfepjfcpjkaaRows
import Derived.Test.YtpakfepjfcpjkaaLeast
namespace Go.Proofs.Ytpakfepjfcpjkaa
open Go.RowKit
set_option linter.unusedVariables false

def pair : List Cd := [⟨0, 0, 0, 5⟩, ⟨1, 0, 0, 2⟩]
def pairCs : Array Value := #[.int .i64 0, .int .i64 0, .int .i64 0, .int .u32 5, .int .i64 1, .int .i64 0, .int .i64 0, .int .u32 2]
theorem pair_lb : pair[lbTo pair pair.length]? = some ⟨1, 0, 0, 2⟩ := by rfl
theorem pair_rise : Rising pair := by
  intro i j hj hij
  have hj2 : j < 2 := hj
  obtain ⟨rfl, rfl⟩ : i = 0 ∧ j = 1 := by omega
  show (0 : Int) < 1
  omega
theorem choose_loads (cb : Nat) (A : Option Addr) (c : Nat) (l : List Cd) (x y : Int) (w : World) (h0 : 0 < l.length) (hl : l.length ≤ 100) (hc : l.length ≤ c) (hcm : c ≤ maxLen) (hs : Rising l) (hE : ES w w.heap.size A 4 (l.map Cd.cs)) :
    Calls Try.prog 12 #[.pointer (some ⟨cb, 0, none⟩), .int .i64 3, .slice A l.length c, .int .u32 x, .int .u32 y] w (LPost l w) := by
  have HE := Lib.hid hE
  clear hE
  go_enter Try.func12, Try.ntmps12
  go_wp2_with fail
  refine (lpick_any A c l _ h0 hl hc hcm hs ((HE.out.alloc (Nat.le_refl _) _).more (by simp))).mono ?_
  rintro e w1 ⟨z, hz, rfl, hb1⟩
  have HZ := Lib.hid hz
  have hs1 : w.heap.size + 1 ≤ w1.heap.size := by have := hb1.size; simpa using this
  have HR := Lib.hid (show Blk w1 w.heap.size 45 #[.int .i64 0, .int .i64 0, .int .i64 0, .int .u32 0] from (Blk.new _ _ _).below hb1 (by simp))
  have HB1 := Lib.hid hb1
  have cR := HR.out.cell
  have fR := HR.out.frozen
  have lR := HR.out.lt
  clear hz hb1
  go_wp2_with fail
  refine bodyPost_ret (results_blk_tmp (P := Try.prog) Try.results12 _ _ w.heap.size 45 #[.int .i64 z.slot, .int .i64 z.backend, .int .i64 z.weight, .int .u32 z.load] _ rfl ?_ Try.underlying45 rfl (by kernel_rfl)) rfl ⟨z, HZ.out, rfl, ?_⟩
  · go_light
    repeat (first | (with_reducible apply Blk.set_to) | ((with_reducible apply Blk.far'); omega) | (with_reducible apply Blk.alloc))
    exact HR.out
    all_goals rfl
  · go_light
    refine Kept.below (S := fun i => w.heap.size ≤ i) ?_ (Nat.le_refl _) (fun i h => h)
    repeat (first | ((with_reducible apply Kept.setNew); omega) | (with_reducible apply Kept.alloc))
    exact ((Kept.refl _ _).alloc _).then (Kept.ofB (S := fun _ => False) HB1.out) (fun _ _ h => h.elim)
set_option maxRecDepth 100000 in
theorem awake_any (w : World) : Calls Try.prog 6 #[] w fun e w' => e = .returned (.bool true) ∧ Below w.heap.size w w' := by
  go_enter Try.func6, Try.ntmps6
  go_wp2_with fail
  obtain ⟨w1, hw1⟩ : ∃ w1 : World, w1 = (w.alloc (.cells #[.int .i64 0, .slice none 0 0] 35)).alloc (.cells pairCs 45) := ⟨_, rfl⟩
  have HP1 := Lib.hid (show Blk w1 (w.heap.size + 1) 45 pairCs by rw [hw1]; exact Blk.new_ (by simp) _ _)
  have HB1 := Lib.hid (show Below w.heap.size w w1 by rw [hw1]; exact ((Below.refl _ _).alloc (Nat.le_refl _) _).alloc (by simp) _)
  have hs1 : w.heap.size ≤ w1.heap.size := HB1.out.size
  unfold pairCs at hw1
  rw [← hw1]
  clear hw1
  have HC := Lib.hid (show Calls Try.prog 12 #[.pointer (some ⟨w.heap.size, 0, none⟩), .int .i64 3, .slice (some ⟨w.heap.size + 1, 0, none⟩) 2 2, .int .u32 0, .int .u32 0] w1 _ from
    choose_loads w.heap.size (some ⟨w.heap.size + 1, 0, none⟩) 2 pair 0 0 w1 (by decide) (by decide) (by decide) (by decide) pair_rise (.inr ⟨w.heap.size + 1, 0, HP1.out.lt, rfl, ElAt.of_blk HP1.out (sz_map Cd.cs_len pair) rfl⟩))
  refine HC.out.mono ?_
  rintro e w2 ⟨z, hz, rfl, hb2⟩
  obtain rfl : z = ⟨1, 0, 0, 2⟩ := by rw [pair_lb] at hz; injection hz with hz; exact hz.symm
  have HB2 := Lib.hid (HB1.out.trans (hb2.mono hs1))
  have hs2 := hb2.size
  clear hz hb2 HC
  go_wp2_with fail
  go_ret
  exact ⟨rfl, HB2.out.alloc (by omega) _⟩
def nm1 : ByteArray := ⟨#[116, 117, 114, 110, 115]⟩
def nm2 : ByteArray := ⟨#[119, 101, 105, 103, 104, 116, 115]⟩
def nm3 : ByteArray := ⟨#[108, 111, 97, 100, 115]⟩
def nm4 : ByteArray := ⟨#[100, 114, 97, 119, 115]⟩
theorem name_1 (w : World) : Calls Try.prog 9 #[.int .i64 1] w fun e w' => e = .returned (.string nm1) ∧ w = w' := by
  go_enter Try.func9, Try.ntmps9
  go_wp2_with fail
  go_ret
  exact ⟨rfl, rfl⟩
theorem refName_1 (w : World) : Calls Try.prog 7 #[.int .i64 1] w fun e w' => e = .returned (.string nm1) ∧ Below w.heap.size w w' := by
  go_enter Try.func7, Try.ntmps7
  go_wp2_with fail
  go_ret
  exact ⟨rfl, (Below.refl _ _).alloc (Nat.le_refl _) _⟩
theorem name_2 (w : World) : Calls Try.prog 9 #[.int .i64 2] w fun e w' => e = .returned (.string nm2) ∧ w = w' := by
  go_enter Try.func9, Try.ntmps9
  go_wp2_with fail
  go_ret
  exact ⟨rfl, rfl⟩
theorem refName_2 (w : World) : Calls Try.prog 7 #[.int .i64 2] w fun e w' => e = .returned (.string nm2) ∧ Below w.heap.size w w' := by
  go_enter Try.func7, Try.ntmps7
  go_wp2_with fail
  go_ret
  exact ⟨rfl, (Below.refl _ _).alloc (Nat.le_refl _) _⟩
theorem name_3 (w : World) : Calls Try.prog 9 #[.int .i64 3] w fun e w' => e = .returned (.string nm3) ∧ w = w' := by
  go_enter Try.func9, Try.ntmps9
  go_wp2_with fail
  go_ret
  exact ⟨rfl, rfl⟩
theorem refName_3 (w : World) : Calls Try.prog 7 #[.int .i64 3] w fun e w' => e = .returned (.string nm3) ∧ Below w.heap.size w w' := by
  go_enter Try.func7, Try.ntmps7
  go_wp2_with fail
  go_ret
  exact ⟨rfl, (Below.refl _ _).alloc (Nat.le_refl _) _⟩
theorem name_4 (w : World) : Calls Try.prog 9 #[.int .i64 4] w fun e w' => e = .returned (.string nm4) ∧ w = w' := by
  go_enter Try.func9, Try.ntmps9
  go_wp2_with fail
  go_ret
  exact ⟨rfl, rfl⟩
theorem refName_4 (w : World) : Calls Try.prog 7 #[.int .i64 4] w fun e w' => e = .returned (.string nm4) ∧ Below w.heap.size w w' := by
  go_enter Try.func7, Try.ntmps7
  go_wp2_with fail
  go_ret
  exact ⟨rfl, (Below.refl _ _).alloc (Nat.le_refl _) _⟩
theorem name_no (k : Int) (w : World) (h : k < 1 ∨ 4 < k) : Calls Try.prog 9 #[.int .i64 k] w fun e w' => e = .returned (.string ⟨#[]⟩) ∧ w = w' := by
  have h1 : (k == 1) = false := by simp; omega
  have h2 : (k == 2) = false := by simp; omega
  have h3 : (k == 3) = false := by simp; omega
  have h4 : (k == 4) = false := by simp; omega
  go_enter Try.func9, Try.ntmps9
  go_wp2_with fail
  go_ret
  exact ⟨rfl, rfl⟩
theorem refName_no (k : Int) (w : World) (h : k < 1 ∨ 4 < k) : Calls Try.prog 7 #[.int .i64 k] w fun e w' => e = .returned (.string ⟨#[]⟩) ∧ Below w.heap.size w w' := by
  have h' : k < 1 ∨ (¬ k < 1 ∧ 4 < k) := by omega
  rcases h' with h1 | ⟨h1, h2⟩
  all_goals
    go_enter Try.func7, Try.ntmps7
    go_wp2_with fail
    go_ret
    exact ⟨rfl, (Below.refl _ _).alloc (Nat.le_refl _) _⟩
theorem right_yes (k : Int) (w : World) (h1 : 1 ≤ k) (h2 : k ≤ 4) : Calls Try.prog 8 #[.int .i64 k] w fun e w' => e = .returned (.bool true) ∧ w = w' := by
  go_enter Try.func8, Try.ntmps8
  go_wp2_with fail
  go_ret
  exact ⟨rfl, rfl⟩
theorem right_no (k : Int) (w : World) (h : k < 1 ∨ 4 < k) : Calls Try.prog 8 #[.int .i64 k] w fun e w' => e = .returned (.bool false) ∧ w = w' := by
  have h' : k < 1 ∨ (1 ≤ k ∧ 4 < k) := by omega
  have hd : decide (k ≤ 4) = false ∨ k < 1 := by simp; omega
  rcases h' with h1 | ⟨h1, h2⟩
  all_goals
    try (have hd' : decide (k ≤ 4) = false := by simp; omega)
    clear hd
    go_enter Try.func8, Try.ntmps8
    go_wp2_with fail
    go_ret
    exact ⟨rfl, rfl⟩
set_option maxRecDepth 10000 in
theorem of_0 (s : ByteArray) (w : World) (e1 : (nm1.toList == s.toList) = false) (e2 : (nm2.toList == s.toList) = false) (e3 : (nm3.toList == s.toList) = false) (e4 : (nm4.toList == s.toList) = false) : Calls Try.prog 10 #[.string s] w fun e w' => e = .returned (.int .i64 0) ∧ w = w' := by
  go_enter Try.func10, Try.ntmps10
  go_wp2_with fail
  refine wp_loop_rounds 5 ?_; rw [rounds_succ]
  go_wp2_with fail
  refine (name_1 w).mono ?_
  rintro e w1 ⟨rfl, rfl⟩
  go_wp2_with fail
  rw [rounds_succ]
  go_wp2_with fail
  refine (name_2 w).mono ?_
  rintro e w1 ⟨rfl, rfl⟩
  go_wp2_with fail
  rw [rounds_succ]
  go_wp2_with fail
  refine (name_3 w).mono ?_
  rintro e w1 ⟨rfl, rfl⟩
  go_wp2_with fail
  rw [rounds_succ]
  go_wp2_with fail
  refine (name_4 w).mono ?_
  rintro e w1 ⟨rfl, rfl⟩
  go_wp2_with fail
  rw [rounds_succ]
  go_wp2_with fail
  go_ret
  exact ⟨rfl, rfl⟩
set_option maxRecDepth 10000 in
theorem of_1 (s : ByteArray) (w : World) (e1 : (nm1.toList == s.toList) = true) (e2 : (nm2.toList == s.toList) = false) (e3 : (nm3.toList == s.toList) = false) (e4 : (nm4.toList == s.toList) = false) : Calls Try.prog 10 #[.string s] w fun e w' => e = .returned (.int .i64 1) ∧ w = w' := by
  go_enter Try.func10, Try.ntmps10
  go_wp2_with fail
  refine wp_loop_rounds 1 ?_; rw [rounds_succ]
  go_wp2_with fail
  refine (name_1 w).mono ?_
  rintro e w1 ⟨rfl, rfl⟩
  go_wp2_with fail
  go_ret
  exact ⟨rfl, rfl⟩
set_option maxRecDepth 10000 in
theorem of_2 (s : ByteArray) (w : World) (e1 : (nm1.toList == s.toList) = false) (e2 : (nm2.toList == s.toList) = true) (e3 : (nm3.toList == s.toList) = false) (e4 : (nm4.toList == s.toList) = false) : Calls Try.prog 10 #[.string s] w fun e w' => e = .returned (.int .i64 2) ∧ w = w' := by
  go_enter Try.func10, Try.ntmps10
  go_wp2_with fail
  refine wp_loop_rounds 2 ?_; rw [rounds_succ]
  go_wp2_with fail
  refine (name_1 w).mono ?_
  rintro e w1 ⟨rfl, rfl⟩
  go_wp2_with fail
  rw [rounds_succ]
  go_wp2_with fail
  refine (name_2 w).mono ?_
  rintro e w1 ⟨rfl, rfl⟩
  go_wp2_with fail
  go_ret
  exact ⟨rfl, rfl⟩
set_option maxRecDepth 10000 in
theorem of_3 (s : ByteArray) (w : World) (e1 : (nm1.toList == s.toList) = false) (e2 : (nm2.toList == s.toList) = false) (e3 : (nm3.toList == s.toList) = true) (e4 : (nm4.toList == s.toList) = false) : Calls Try.prog 10 #[.string s] w fun e w' => e = .returned (.int .i64 3) ∧ w = w' := by
  go_enter Try.func10, Try.ntmps10
  go_wp2_with fail
  refine wp_loop_rounds 3 ?_; rw [rounds_succ]
  go_wp2_with fail
  refine (name_1 w).mono ?_
  rintro e w1 ⟨rfl, rfl⟩
  go_wp2_with fail
  rw [rounds_succ]
  go_wp2_with fail
  refine (name_2 w).mono ?_
  rintro e w1 ⟨rfl, rfl⟩
  go_wp2_with fail
  rw [rounds_succ]
  go_wp2_with fail
  refine (name_3 w).mono ?_
  rintro e w1 ⟨rfl, rfl⟩
  go_wp2_with fail
  go_ret
  exact ⟨rfl, rfl⟩
set_option maxRecDepth 10000 in
theorem of_4 (s : ByteArray) (w : World) (e1 : (nm1.toList == s.toList) = false) (e2 : (nm2.toList == s.toList) = false) (e3 : (nm3.toList == s.toList) = false) (e4 : (nm4.toList == s.toList) = true) : Calls Try.prog 10 #[.string s] w fun e w' => e = .returned (.int .i64 4) ∧ w = w' := by
  go_enter Try.func10, Try.ntmps10
  go_wp2_with fail
  refine wp_loop_rounds 4 ?_; rw [rounds_succ]
  go_wp2_with fail
  refine (name_1 w).mono ?_
  rintro e w1 ⟨rfl, rfl⟩
  go_wp2_with fail
  rw [rounds_succ]
  go_wp2_with fail
  refine (name_2 w).mono ?_
  rintro e w1 ⟨rfl, rfl⟩
  go_wp2_with fail
  rw [rounds_succ]
  go_wp2_with fail
  refine (name_3 w).mono ?_
  rintro e w1 ⟨rfl, rfl⟩
  go_wp2_with fail
  rw [rounds_succ]
  go_wp2_with fail
  refine (name_4 w).mono ?_
  rintro e w1 ⟨rfl, rfl⟩
  go_wp2_with fail
  go_ret
  exact ⟨rfl, rfl⟩
end Go.Proofs.Ytpakfepjfcpjkaa
