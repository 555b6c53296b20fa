/- The reference's Choose in the ways 3 and 4, from nothing known. -/
import Derived.Test.YtpakfepjfcpjkaaG
namespace Go.Proofs.Ytpakfepjfcpjkaa
open Go.RowKit
set_option linter.unusedVariables false
def chK (way : Int) (l : List Cd) (x y : Int) : Int := if l = [] then -1 else if way = 3 then (lbTo l l.length : Int) else (qOf l x y : Int)
def ChPost (k : Int) (w : World) (e : Ending) (w' : World) : Prop := e = .returned (.tuple #[.agg #[.int .i64 0, .slice none 0 0], .int .i64 k]) ∧ Below w.heap.size w w'
set_option maxRecDepth 100000 in
set_option maxHeartbeats 2000000 in
theorem refCh3 (A : Option Addr) (c : Nat) (l : List Cd) (x y : Int) (w : World) (h0 : 0 < l.length) (hl : l.length ≤ 30) (hx : 0 ≤ x) (hx' : x ≤ 4294967295) (hy : 0 ≤ y) (hy' : y ≤ 4294967295) (hE : ES w w.heap.size A 4 (l.map Cd.cs)) :
    Calls Try.prog 14 #[.agg #[.int .i64 0, .slice none 0 0], .int .i64 3, .slice A l.length c, .int .u32 x, .int .u32 y] w (ChPost (lbTo l l.length : Int) w) := by
  have HE := Lib.hid hE
  clear hE
  go_enter Try.func14, Try.ntmps14
  go_upto_region 2 with fail
  obtain ⟨w1, hw1⟩ : ∃ w1 : World, w1 = (w.alloc (.cells #[.int .i64 0, .slice none 0 0] 38)).alloc (.cells #[.int .i64 0, .slice none 0 0] 38) := ⟨_, rfl⟩
  have HA := Lib.hid (show Blk w1 w.heap.size 38 #[.int .i64 0, .slice none 0 0] by rw [hw1]; exact (Blk.new _ _ _).alloc _)
  have HR := Lib.hid (show Blk w1 (w.heap.size + 1) 38 #[.int .i64 0, .slice none 0 0] by rw [hw1]; exact Blk.new_ (by simp) _ _)
  have HB := Lib.hid (show Below w.heap.size w w1 by rw [hw1]; exact ((Below.refl _ _).alloc (Nat.le_refl _) _).alloc (by simp) _)
  have hs1 : w.heap.size + 2 ≤ w1.heap.size := by rw [hw1]; simp
  rw [← hw1]
  clear hw1
  have HE1 := Lib.hid (HE.out.onB HB.out (Nat.le_refl _))
  have HC := Lib.hid (refLp_any A c l w1 h0 (by omega) HE1.out)
  go_wp2_with fail
  refine HC.out.mono ?_
  rintro e w2 ⟨rfl, hb2⟩
  have hs2 := hb2.size
  have HA2 := Lib.hid (HA.out.below hb2 HA.out.lt)
  have HR2 := Lib.hid (HR.out.below hb2 HR.out.lt)
  have HB2 := Lib.hid (HB.out.trans (Kept.below (S := fun _ => False) (Kept.ofB hb2) (by omega) (fun i h => h.elim)))
  have cA := HA2.out.cell
  have cR := HR2.out.cell
  have fR := HR2.out.frozen
  clear hb2 HC HE1 HE
  have lA : w.heap.size < w2.heap.size := by omega
  have lR : w.heap.size + 1 < w2.heap.size := by omega
  go_wp2_with fail
  refine bodyPost_ret (results_blk_tmp (P := Try.prog) Try.results14 _ _ (w.heap.size + 1) 38 #[.int .i64 0, .slice none 0 0] _ rfl ?_ Try.underlying38 rfl (by kernel_rfl)) rfl ⟨rfl, ?_⟩
  · go_light
    repeat (first | (with_reducible apply Blk.set_to) | ((with_reducible apply Blk.far'); omega) | (with_reducible apply Blk.alloc))
    exact HR2.out
    all_goals rfl
  · go_light
    refine Kept.below (S := fun i => w.heap.size ≤ i) ?_ (Nat.le_refl _) (fun i h => h)
    repeat (first | ((with_reducible apply Kept.setNew); omega) | (with_reducible apply Kept.alloc))
    exact Kept.of_below HB2.out (fun i _ h => h)
set_option maxRecDepth 100000 in
set_option maxHeartbeats 2000000 in
theorem refCh3n (A : Option Addr) (c : Nat) (x y : Int) (w : World) : Calls Try.prog 14 #[.agg #[.int .i64 0, .slice none 0 0], .int .i64 3, .slice A 0 c, .int .u32 x, .int .u32 y] w (ChPost (-1) w) := by
  go_enter Try.func14, Try.ntmps14
  go_upto_region 2 with fail
  obtain ⟨w1, hw1⟩ : ∃ w1 : World, w1 = (w.alloc (.cells #[.int .i64 0, .slice none 0 0] 38)).alloc (.cells #[.int .i64 0, .slice none 0 0] 38) := ⟨_, rfl⟩
  have HA := Lib.hid (show Blk w1 w.heap.size 38 #[.int .i64 0, .slice none 0 0] by rw [hw1]; exact (Blk.new _ _ _).alloc _)
  have HR := Lib.hid (show Blk w1 (w.heap.size + 1) 38 #[.int .i64 0, .slice none 0 0] by rw [hw1]; exact Blk.new_ (by simp) _ _)
  have HB := Lib.hid (show Below w.heap.size w w1 by rw [hw1]; exact ((Below.refl _ _).alloc (Nat.le_refl _) _).alloc (by simp) _)
  have hs1 : w.heap.size + 2 ≤ w1.heap.size := by rw [hw1]; simp
  rw [← hw1]
  clear hw1
  go_wp2_with fail
  refine (refLp_nil A c w1).mono ?_
  rintro e w2 ⟨rfl, rfl⟩
  have cA := HA.out.cell
  have cR := HR.out.cell
  have fR := HR.out.frozen
  have lA : w.heap.size < w1.heap.size := by omega
  have lR : w.heap.size + 1 < w1.heap.size := by omega
  go_wp2_with fail
  refine bodyPost_ret (results_blk_tmp (P := Try.prog) Try.results14 _ _ (w.heap.size + 1) 38 #[.int .i64 0, .slice none 0 0] _ rfl ?_ Try.underlying38 rfl (by kernel_rfl)) rfl ⟨rfl, ?_⟩
  · go_light
    repeat (first | (with_reducible apply Blk.set_to) | ((with_reducible apply Blk.far'); omega) | (with_reducible apply Blk.alloc))
    exact HR.out
    all_goals rfl
  · go_light
    refine Kept.below (S := fun i => w.heap.size ≤ i) ?_ (Nat.le_refl _) (fun i h => h)
    repeat (first | ((with_reducible apply Kept.setNew); omega) | (with_reducible apply Kept.alloc))
    exact Kept.of_below HB.out (fun i _ h => h)
set_option maxRecDepth 100000 in
set_option maxHeartbeats 2000000 in
theorem refCh4 (A : Option Addr) (c : Nat) (l : List Cd) (x y : Int) (w : World) (h0 : 0 < l.length) (hl : l.length ≤ 30) (hx : 0 ≤ x) (hx' : x ≤ 4294967295) (hy : 0 ≤ y) (hy' : y ≤ 4294967295) (hE : ES w w.heap.size A 4 (l.map Cd.cs)) :
    Calls Try.prog 14 #[.agg #[.int .i64 0, .slice none 0 0], .int .i64 4, .slice A l.length c, .int .u32 x, .int .u32 y] w (ChPost (qOf l x y : Int) w) := by
  have HE := Lib.hid hE
  clear hE
  go_enter Try.func14, Try.ntmps14
  go_upto_region 2 with fail
  obtain ⟨w1, hw1⟩ : ∃ w1 : World, w1 = (w.alloc (.cells #[.int .i64 0, .slice none 0 0] 38)).alloc (.cells #[.int .i64 0, .slice none 0 0] 38) := ⟨_, rfl⟩
  have HA := Lib.hid (show Blk w1 w.heap.size 38 #[.int .i64 0, .slice none 0 0] by rw [hw1]; exact (Blk.new _ _ _).alloc _)
  have HR := Lib.hid (show Blk w1 (w.heap.size + 1) 38 #[.int .i64 0, .slice none 0 0] by rw [hw1]; exact Blk.new_ (by simp) _ _)
  have HB := Lib.hid (show Below w.heap.size w w1 by rw [hw1]; exact ((Below.refl _ _).alloc (Nat.le_refl _) _).alloc (by simp) _)
  have hs1 : w.heap.size + 2 ≤ w1.heap.size := by rw [hw1]; simp
  rw [← hw1]
  clear hw1
  have HE1 := Lib.hid (HE.out.onB HB.out (Nat.le_refl _))
  obtain ⟨b, o, hb, rfl, hel⟩ := HE1.out.at (k := 0) (by simpa using h0)
  have HC := Lib.hid (refTwo_q b o c l x y (qI l x) (qI l y) (qOf l x y) w1 (by omega) (fun k hk => cd_cells hel hk) hx hx' hy hy' (qI_lt l x h0) (qI_lt l y h0) (qI_eq l x h0) (qI_eq l y h0) (by unfold qOf; rw [dif_pos h0]))
  have hlI : (0 : Int) < (l.length : Int) := by omega
  clear hel
  go_wp2_with fail
  refine HC.out.mono ?_
  rintro e w2 ⟨rfl, n, hn⟩
  have hb2 : Below w1.heap.size w1 w2 := by rw [hn]; exact belowN (Below.refl _ _) n
  clear hn
  have hs2 := hb2.size
  have HA2 := Lib.hid (HA.out.below hb2 HA.out.lt)
  have HR2 := Lib.hid (HR.out.below hb2 HR.out.lt)
  have HB2 := Lib.hid (HB.out.trans (Kept.below (S := fun _ => False) (Kept.ofB hb2) (by omega) (fun i h => h.elim)))
  have cA := HA2.out.cell
  have cR := HR2.out.cell
  have fR := HR2.out.frozen
  clear hb2 HC HE1 HE
  have lA : w.heap.size < w2.heap.size := by omega
  have lR : w.heap.size + 1 < w2.heap.size := by omega
  go_wp2_with fail
  refine bodyPost_ret (results_blk_tmp (P := Try.prog) Try.results14 _ _ (w.heap.size + 1) 38 #[.int .i64 0, .slice none 0 0] _ rfl ?_ Try.underlying38 rfl (by kernel_rfl)) rfl ⟨rfl, ?_⟩
  · go_light
    repeat (first | (with_reducible apply Blk.set_to) | ((with_reducible apply Blk.far'); omega) | (with_reducible apply Blk.alloc))
    exact HR2.out
    all_goals rfl
  · go_light
    refine Kept.below (S := fun i => w.heap.size ≤ i) ?_ (Nat.le_refl _) (fun i h => h)
    repeat (first | ((with_reducible apply Kept.setNew); omega) | (with_reducible apply Kept.alloc))
    exact Kept.of_below HB2.out (fun i _ h => h)
set_option maxRecDepth 100000 in
set_option maxHeartbeats 2000000 in
theorem refCh4n (A : Option Addr) (c : Nat) (x y : Int) (w : World) : Calls Try.prog 14 #[.agg #[.int .i64 0, .slice none 0 0], .int .i64 4, .slice A 0 c, .int .u32 x, .int .u32 y] w (ChPost (-1) w) := by
  go_enter Try.func14, Try.ntmps14
  go_upto_region 2 with fail
  obtain ⟨w1, hw1⟩ : ∃ w1 : World, w1 = (w.alloc (.cells #[.int .i64 0, .slice none 0 0] 38)).alloc (.cells #[.int .i64 0, .slice none 0 0] 38) := ⟨_, rfl⟩
  have HA := Lib.hid (show Blk w1 w.heap.size 38 #[.int .i64 0, .slice none 0 0] by rw [hw1]; exact (Blk.new _ _ _).alloc _)
  have HR := Lib.hid (show Blk w1 (w.heap.size + 1) 38 #[.int .i64 0, .slice none 0 0] by rw [hw1]; exact Blk.new_ (by simp) _ _)
  have HB := Lib.hid (show Below w.heap.size w w1 by rw [hw1]; exact ((Below.refl _ _).alloc (Nat.le_refl _) _).alloc (by simp) _)
  have hs1 : w.heap.size + 2 ≤ w1.heap.size := by rw [hw1]; simp
  rw [← hw1]
  clear hw1
  have cA := HA.out.cell
  have cR := HR.out.cell
  have fR := HR.out.frozen
  have lA : w.heap.size < w1.heap.size := by omega
  have lR : w.heap.size + 1 < w1.heap.size := by omega
  go_wp2_with fail
  refine bodyPost_ret (results_blk_tmp (P := Try.prog) Try.results14 _ _ (w.heap.size + 1) 38 #[.int .i64 0, .slice none 0 0] _ rfl ?_ Try.underlying38 rfl (by kernel_rfl)) rfl ⟨rfl, ?_⟩
  · go_light
    repeat (first | (with_reducible apply Blk.set_to) | ((with_reducible apply Blk.far'); omega) | (with_reducible apply Blk.alloc))
    exact HR.out
    all_goals rfl
  · go_light
    refine Kept.below (S := fun i => w.heap.size ≤ i) ?_ (Nat.le_refl _) (fun i h => h)
    repeat (first | ((with_reducible apply Kept.setNew); omega) | (with_reducible apply Kept.alloc))
    exact Kept.of_below HB.out (fun i _ h => h)
end Go.Proofs.Ytpakfepjfcpjkaa
