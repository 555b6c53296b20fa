/- The reference's Choose in every way, from any state. -/
import Derived.Test.YtpakfepjfcpjkaaM
import Derived.Deep.LoopGhost
import Derived.Deep.DeepCutAuto
import Derived.Outline
namespace Go.Proofs.Ytpakfepjfcpjkaa
open Go.RowKit
set_option linter.unusedVariables false
def KOf (l : List Cd) (o : Option Cd) (k : Int) : Prop := (o = none ∧ k = -1) ∨ ∃ (j : Nat) (z : Cd), o = some z ∧ k = (j : Int) ∧ l[j]? = some z
def RcQ (l : List Cd) (o : Option Cd) (n' : Int) (R' : List ShR) (base : Nat) (w : World) (e : Ending) (w' : World) : Prop :=
  ∃ rv' k, e = .returned (.tuple #[.agg #[.int .i64 n', rv'], .int .i64 k]) ∧ KOf l o k ∧ RowN w' base 63 5 rv' (R'.map ShR.cs) ∧ Below w.heap.size w w'
set_option maxRecDepth 100000 in
set_option maxHeartbeats 2000000 in
theorem rc1n (base : Nat) (n x y : Int) (rv : Value) (R : List ShR) (w : World) (A : Option Addr) (c : Nat) (hR : RowN w base 63 5 rv (R.map ShR.cs)) (hbase : base ≤ w.heap.size)  :
    Calls Try.prog 14 #[.agg #[.int .i64 n, rv], .int .i64 1, .slice A 0 c, .int .u32 x, .int .u32 y] w (RcQ [] none n R base w) := by
  obtain ⟨VA, vcp, hv, -, -⟩ := hR.shape
  rw [List.length_map] at hv
  subst hv
  have HROW := Lib.hid hR
  clear hR
  go_enter Try.func14, Try.ntmps14
  go_upto_region 2 with fail
  obtain ⟨w1, hw1⟩ : ∃ w1 : World, w1 = (w.alloc (.cells #[.int .i64 n, (.slice VA R.length vcp)] 38)).alloc (.cells #[.int .i64 0, .slice none 0 0] 38) := ⟨_, rfl⟩
  have HA := Lib.hid (show Blk w1 w.heap.size 38 #[.int .i64 n, (.slice VA R.length vcp)] by rw [hw1]; exact (Blk.new _ _ _).alloc _)
  have HRS := Lib.hid (show Blk w1 (w.heap.size + 1) 38 #[.int .i64 0, .slice none 0 0] by rw [hw1]; exact Blk.new_ (by simp) _ _)
  have HB := Lib.hid (show Below w.heap.size w w1 by rw [hw1]; exact ((Below.refl _ _).alloc (Nat.le_refl _) _).alloc (by simp) _)
  have HRW := Lib.hid (HROW.out.below HB.out (fun g hg => (HROW.out.lt g hg).2))
  have hs1 : w.heap.size + 2 ≤ w1.heap.size := by rw [hw1]; simp
  rw [← hw1]
  clear hw1
  have cA0 := HA.out.cell
  go_wp2_with fail
  clear cA0
  refine (refPick_nil A c n w1).mono ?_
  rintro e w2 ⟨rfl, rfl⟩
  have cA := HA.out.cell
  have fA := HA.out.frozen
  have cR := HRS.out.cell
  have fR := HRS.out.frozen
  have lA : w.heap.size < w1.heap.size := by omega
  have lR : w.heap.size + 1 < w1.heap.size := by omega
  go_wp2_with fail
  refine bodyPost_ret (results_blk_tmp (P := Try.prog) Try.results14 _ _ (w.heap.size + 1) 38 #[.int .i64 n, (.slice VA R.length vcp)] _ rfl ?_ Try.underlying38 rfl (by kernel_rfl)) rfl ⟨(.slice VA R.length vcp), _, rfl, .inl ⟨rfl, rfl⟩, ?_, ?_⟩
  · go_light
    repeat (first | (with_reducible apply Blk.set_to) | ((with_reducible apply Blk.far'); omega) | (with_reducible apply Blk.alloc))
    exact HRS.out
    all_goals rfl
  · go_light
    have hn1 := HRW.out.ne HA.out (by decide)
    have hn2 := HRW.out.ne HRS.out (by decide)
    repeat (first | (with_reducible refine RowN.far ?_ hn2) | (with_reducible refine RowN.far ?_ hn1))
    exact HRW.out
  · go_light
    refine Kept.below (S := fun i => w.heap.size ≤ i) ?_ (Nat.le_refl _) (fun i h => h)
    repeat (first | ((with_reducible apply Kept.setNew); omega) | (with_reducible apply Kept.alloc))
    exact Kept.of_below HB.out (fun i _ h => h)
set_option maxRecDepth 100000 in
set_option maxHeartbeats 2000000 in
theorem rc1 (base : Nat) (n x y : Int) (rv : Value) (R : List ShR) (w : World) (b off c : Nat) (l : List Cd) (z : Cd) (hR : RowN w base 63 5 rv (R.map ShR.cs)) (hbase : base ≤ w.heap.size) (h0 : 0 < l.length) (hl : l.length ≤ 30) (hr : rightFrom (-1) l = true) (hc : CellsAt w b off l) (hb : b < w.heap.size) (hz : l[pickI l n]? = some z) :
    Calls Try.prog 14 #[.agg #[.int .i64 n, rv], .int .i64 1, .slice (some ⟨b, off, none⟩) l.length c, .int .u32 x, .int .u32 y] w (RcQ l (some z) (z.slot + 1) R base w) := by
  obtain ⟨VA, vcp, hv, -, -⟩ := hR.shape
  rw [List.length_map] at hv
  subst hv
  have HROW := Lib.hid hR
  clear hR
  have HZ := Lib.hid hz
  have HZS := Lib.hid (rf_mem hr z (List.mem_of_getElem? hz))
  have HC := Lib.hid hc
  clear hz hr hc
  go_enter Try.func14, Try.ntmps14
  go_upto_region 2 with fail
  obtain ⟨w1, hw1⟩ : ∃ w1 : World, w1 = (w.alloc (.cells #[.int .i64 n, (.slice VA R.length vcp)] 38)).alloc (.cells #[.int .i64 0, .slice none 0 0] 38) := ⟨_, rfl⟩
  have HA := Lib.hid (show Blk w1 w.heap.size 38 #[.int .i64 n, (.slice VA R.length vcp)] by rw [hw1]; exact (Blk.new _ _ _).alloc _)
  have HRS := Lib.hid (show Blk w1 (w.heap.size + 1) 38 #[.int .i64 0, .slice none 0 0] by rw [hw1]; exact Blk.new_ (by simp) _ _)
  have HB := Lib.hid (show Below w.heap.size w w1 by rw [hw1]; exact ((Below.refl _ _).alloc (Nat.le_refl _) _).alloc (by simp) _)
  have HRW := Lib.hid (HROW.out.below HB.out (fun g hg => (HROW.out.lt g hg).2))
  have hs1 : w.heap.size + 2 ≤ w1.heap.size := by rw [hw1]; simp
  rw [← hw1]
  clear hw1
  have HC1 := Lib.hid (show CellsAt w1 b off l from fun k hk => by have := HC.out k hk; exact ⟨(HB.out.cell (p := ⟨b, _, none⟩) hb).trans this.1, (HB.out.cell (p := ⟨b, _, none⟩) hb).trans this.2.1, (HB.out.cell (p := ⟨b, _, none⟩) hb).trans this.2.2.1, (HB.out.cell (p := ⟨b, _, none⟩) hb).trans this.2.2.2⟩)
  have HP := Lib.hid (refPick_any b off c l n w1 h0 (by omega) HC1.out)
  obtain ⟨j, hj⟩ : ∃ j, pickI l n = j := ⟨_, rfl⟩
  rw [hj] at HP HZ
  have hjl : j < l.length := by rw [← hj]; exact pickI_lt l n h0
  clear hj
  have hjI : (j : Int) < (l.length : Int) := by omega
  have hj0 : (0 : Int) ≤ (j : Int) := by omega
  obtain ⟨c0, -, -, -⟩ := HC1.out j hjl
  have e1 : l[j] = z := by have := HZ.out; rw [List.getElem?_eq_getElem hjl] at this; injection this
  rw [e1] at c0
  obtain ⟨zs, hzs⟩ : ∃ zs, z.slot = zs := ⟨_, rfl⟩
  have hz1 := HZS.out.1
  have hz2 := HZS.out.2
  rw [hzs] at c0 hz1 hz2
  have HZQ := Lib.hid hzs
  have bl1 : b < w1.heap.size := by omega
  have cA0 := HA.out.cell
  clear hzs e1 HC HC1
  go_wp2_with fail
  refine HP.out.mono ?_
  rintro e w2 ⟨rfl, rfl⟩
  clear HP cA0
  have cA := HA.out.cell
  have fA := HA.out.frozen
  have cR := HRS.out.cell
  have fR := HRS.out.frozen
  have lA : w.heap.size < w1.heap.size := by omega
  have lR : w.heap.size + 1 < w1.heap.size := by omega
  go_wp2_with fail
  refine bodyPost_ret (results_blk_tmp (P := Try.prog) Try.results14 _ _ (w.heap.size + 1) 38 #[.int .i64 (zs + 1), (.slice VA R.length vcp)] _ rfl ?_ Try.underlying38 rfl (by kernel_rfl)) rfl ⟨(.slice VA R.length vcp), _, (by rw [HZQ.out]; rfl), .inr ⟨j, z, rfl, rfl, HZ.out⟩, ?_, ?_⟩
  · go_light
    repeat (first | (with_reducible apply Blk.set_to) | ((with_reducible apply Blk.far'); omega) | (with_reducible apply Blk.alloc))
    exact HRS.out
    all_goals rfl
  · go_light
    have hn1 := HRW.out.ne HA.out (by decide)
    have hn2 := HRW.out.ne HRS.out (by decide)
    repeat (first | (with_reducible refine RowN.far ?_ hn2) | (with_reducible refine RowN.far ?_ hn1))
    exact HRW.out
  · go_light
    refine Kept.below (S := fun i => w.heap.size ≤ i) ?_ (Nat.le_refl _) (fun i h => h)
    repeat (first | ((with_reducible apply Kept.setNew); omega) | (with_reducible apply Kept.alloc))
    exact Kept.of_below HB.out (fun i _ h => h)
set_option maxRecDepth 100000 in
set_option maxHeartbeats 2000000 in
theorem rc3n (base : Nat) (n x y : Int) (rv : Value) (R : List ShR) (w : World) (A : Option Addr) (c : Nat) (hR : RowN w base 63 5 rv (R.map ShR.cs)) (hbase : base ≤ w.heap.size)  :
    Calls Try.prog 14 #[.agg #[.int .i64 n, rv], .int .i64 3, .slice A 0 c, .int .u32 x, .int .u32 y] w (RcQ [] none n R base w) := by
  obtain ⟨VA, vcp, hv, -, -⟩ := hR.shape
  rw [List.length_map] at hv
  subst hv
  have HROW := Lib.hid hR
  clear hR
  go_enter Try.func14, Try.ntmps14
  go_upto_region 2 with fail
  obtain ⟨w1, hw1⟩ : ∃ w1 : World, w1 = (w.alloc (.cells #[.int .i64 n, (.slice VA R.length vcp)] 38)).alloc (.cells #[.int .i64 0, .slice none 0 0] 38) := ⟨_, rfl⟩
  have HA := Lib.hid (show Blk w1 w.heap.size 38 #[.int .i64 n, (.slice VA R.length vcp)] by rw [hw1]; exact (Blk.new _ _ _).alloc _)
  have HRS := Lib.hid (show Blk w1 (w.heap.size + 1) 38 #[.int .i64 0, .slice none 0 0] by rw [hw1]; exact Blk.new_ (by simp) _ _)
  have HB := Lib.hid (show Below w.heap.size w w1 by rw [hw1]; exact ((Below.refl _ _).alloc (Nat.le_refl _) _).alloc (by simp) _)
  have HRW := Lib.hid (HROW.out.below HB.out (fun g hg => (HROW.out.lt g hg).2))
  have hs1 : w.heap.size + 2 ≤ w1.heap.size := by rw [hw1]; simp
  rw [← hw1]
  clear hw1
  go_wp2_with fail
  refine (refLp_nil A c w1).mono ?_
  rintro e w2 ⟨rfl, rfl⟩
  have cA := HA.out.cell
  have fA := HA.out.frozen
  have cR := HRS.out.cell
  have fR := HRS.out.frozen
  have lA : w.heap.size < w1.heap.size := by omega
  have lR : w.heap.size + 1 < w1.heap.size := by omega
  go_wp2_with fail
  refine bodyPost_ret (results_blk_tmp (P := Try.prog) Try.results14 _ _ (w.heap.size + 1) 38 #[.int .i64 n, (.slice VA R.length vcp)] _ rfl ?_ Try.underlying38 rfl (by kernel_rfl)) rfl ⟨(.slice VA R.length vcp), _, rfl, .inl ⟨rfl, rfl⟩, ?_, ?_⟩
  · go_light
    repeat (first | (with_reducible apply Blk.set_to) | ((with_reducible apply Blk.far'); omega) | (with_reducible apply Blk.alloc))
    exact HRS.out
    all_goals rfl
  · go_light
    have hn1 := HRW.out.ne HA.out (by decide)
    have hn2 := HRW.out.ne HRS.out (by decide)
    repeat (first | (with_reducible refine RowN.far ?_ hn2) | (with_reducible refine RowN.far ?_ hn1))
    exact HRW.out
  · go_light
    refine Kept.below (S := fun i => w.heap.size ≤ i) ?_ (Nat.le_refl _) (fun i h => h)
    repeat (first | ((with_reducible apply Kept.setNew); omega) | (with_reducible apply Kept.alloc))
    exact Kept.of_below HB.out (fun i _ h => h)
set_option maxRecDepth 100000 in
set_option maxHeartbeats 2000000 in
theorem rc4n (base : Nat) (n x y : Int) (rv : Value) (R : List ShR) (w : World) (A : Option Addr) (c : Nat) (hR : RowN w base 63 5 rv (R.map ShR.cs)) (hbase : base ≤ w.heap.size)  :
    Calls Try.prog 14 #[.agg #[.int .i64 n, rv], .int .i64 4, .slice A 0 c, .int .u32 x, .int .u32 y] w (RcQ [] none n R base w) := by
  obtain ⟨VA, vcp, hv, -, -⟩ := hR.shape
  rw [List.length_map] at hv
  subst hv
  have HROW := Lib.hid hR
  clear hR
  go_enter Try.func14, Try.ntmps14
  go_upto_region 2 with fail
  obtain ⟨w1, hw1⟩ : ∃ w1 : World, w1 = (w.alloc (.cells #[.int .i64 n, (.slice VA R.length vcp)] 38)).alloc (.cells #[.int .i64 0, .slice none 0 0] 38) := ⟨_, rfl⟩
  have HA := Lib.hid (show Blk w1 w.heap.size 38 #[.int .i64 n, (.slice VA R.length vcp)] by rw [hw1]; exact (Blk.new _ _ _).alloc _)
  have HRS := Lib.hid (show Blk w1 (w.heap.size + 1) 38 #[.int .i64 0, .slice none 0 0] by rw [hw1]; exact Blk.new_ (by simp) _ _)
  have HB := Lib.hid (show Below w.heap.size w w1 by rw [hw1]; exact ((Below.refl _ _).alloc (Nat.le_refl _) _).alloc (by simp) _)
  have HRW := Lib.hid (HROW.out.below HB.out (fun g hg => (HROW.out.lt g hg).2))
  have hs1 : w.heap.size + 2 ≤ w1.heap.size := by rw [hw1]; simp
  rw [← hw1]
  clear hw1
  have cA := HA.out.cell
  have fA := HA.out.frozen
  have cR := HRS.out.cell
  have fR := HRS.out.frozen
  have lA : w.heap.size < w1.heap.size := by omega
  have lR : w.heap.size + 1 < w1.heap.size := by omega
  go_wp2_with fail
  refine bodyPost_ret (results_blk_tmp (P := Try.prog) Try.results14 _ _ (w.heap.size + 1) 38 #[.int .i64 n, (.slice VA R.length vcp)] _ rfl ?_ Try.underlying38 rfl (by kernel_rfl)) rfl ⟨(.slice VA R.length vcp), _, rfl, .inl ⟨rfl, rfl⟩, ?_, ?_⟩
  · go_light
    repeat (first | (with_reducible apply Blk.set_to) | ((with_reducible apply Blk.far'); omega) | (with_reducible apply Blk.alloc))
    exact HRS.out
    all_goals rfl
  · go_light
    have hn1 := HRW.out.ne HA.out (by decide)
    have hn2 := HRW.out.ne HRS.out (by decide)
    repeat (first | (with_reducible refine RowN.far ?_ hn2) | (with_reducible refine RowN.far ?_ hn1))
    exact HRW.out
  · go_light
    refine Kept.below (S := fun i => w.heap.size ≤ i) ?_ (Nat.le_refl _) (fun i h => h)
    repeat (first | ((with_reducible apply Kept.setNew); omega) | (with_reducible apply Kept.alloc))
    exact Kept.of_below HB.out (fun i _ h => h)
set_option maxRecDepth 100000 in
set_option maxHeartbeats 2000000 in
theorem rc3 (base : Nat) (n x y : Int) (rv : Value) (R : List ShR) (w : World) (A : Option Addr) (c : Nat) (l : List Cd) (z : Cd) (hR : RowN w base 63 5 rv (R.map ShR.cs)) (hbase : base ≤ w.heap.size) (h0 : 0 < l.length) (hl : l.length ≤ 30) (hx : 0 ≤ x) (hx' : x ≤ 4294967295) (hy : 0 ≤ y) (hy' : y ≤ 4294967295) (hE : ES w w.heap.size A 4 (l.map Cd.cs)) (hz : l[lbTo l l.length]? = some z) :
    Calls Try.prog 14 #[.agg #[.int .i64 n, rv], .int .i64 3, .slice A l.length c, .int .u32 x, .int .u32 y] w (RcQ l (some z) n R base w) := by
  obtain ⟨VA, vcp, hv, -, -⟩ := hR.shape
  rw [List.length_map] at hv
  subst hv
  have HROW := Lib.hid hR
  clear hR
  have HE := Lib.hid hE
  have HZ := Lib.hid hz
  clear hE hz
  go_enter Try.func14, Try.ntmps14
  go_upto_region 2 with fail
  obtain ⟨w1, hw1⟩ : ∃ w1 : World, w1 = (w.alloc (.cells #[.int .i64 n, (.slice VA R.length vcp)] 38)).alloc (.cells #[.int .i64 0, .slice none 0 0] 38) := ⟨_, rfl⟩
  have HA := Lib.hid (show Blk w1 w.heap.size 38 #[.int .i64 n, (.slice VA R.length vcp)] by rw [hw1]; exact (Blk.new _ _ _).alloc _)
  have HRS := Lib.hid (show Blk w1 (w.heap.size + 1) 38 #[.int .i64 0, .slice none 0 0] by rw [hw1]; exact Blk.new_ (by simp) _ _)
  have HB := Lib.hid (show Below w.heap.size w w1 by rw [hw1]; exact ((Below.refl _ _).alloc (Nat.le_refl _) _).alloc (by simp) _)
  have HRW := Lib.hid (HROW.out.below HB.out (fun g hg => (HROW.out.lt g hg).2))
  have hs1 : w.heap.size + 2 ≤ w1.heap.size := by rw [hw1]; simp
  rw [← hw1]
  clear hw1
  have HC := Lib.hid (refLp_any A c l w1 h0 (by omega) (HE.out.onB HB.out (Nat.le_refl _)))
  go_wp2_with fail
  refine HC.out.mono ?_
  rintro e w2 ⟨rfl, hb2⟩
  clear HC HE
  have hs2 := hb2.size
  have HA2 := Lib.hid (HA.out.below hb2 HA.out.lt)
  have HRS2 := Lib.hid (HRS.out.below hb2 HRS.out.lt)
  have HRW2 := Lib.hid (HRW.out.belowAll hb2)
  have HB2 := Lib.hid (HB.out.trans (Kept.below (S := fun _ => False) (Kept.ofB hb2) (by omega) (fun i h => h.elim)))
  clear hb2
  have cA := HA2.out.cell
  have fA := HA2.out.frozen
  have cR := HRS2.out.cell
  have fR := HRS2.out.frozen
  have lA : w.heap.size < w2.heap.size := by omega
  have lR : w.heap.size + 1 < w2.heap.size := by omega
  go_wp2_with fail
  refine bodyPost_ret (results_blk_tmp (P := Try.prog) Try.results14 _ _ (w.heap.size + 1) 38 #[.int .i64 n, (.slice VA R.length vcp)] _ rfl ?_ Try.underlying38 rfl (by kernel_rfl)) rfl ⟨(.slice VA R.length vcp), _, rfl, .inr ⟨_, z, rfl, rfl, HZ.out⟩, ?_, ?_⟩
  · go_light
    repeat (first | (with_reducible apply Blk.set_to) | ((with_reducible apply Blk.far'); omega) | (with_reducible apply Blk.alloc))
    exact HRS2.out
    all_goals rfl
  · go_light
    have hn1 := HRW2.out.ne HA2.out (by decide)
    have hn2 := HRW2.out.ne HRS2.out (by decide)
    repeat (first | (with_reducible refine RowN.far ?_ hn2) | (with_reducible refine RowN.far ?_ hn1))
    exact HRW2.out
  · go_light
    refine Kept.below (S := fun i => w.heap.size ≤ i) ?_ (Nat.le_refl _) (fun i h => h)
    repeat (first | ((with_reducible apply Kept.setNew); omega) | (with_reducible apply Kept.alloc))
    exact Kept.of_below HB2.out (fun i _ h => h)
set_option maxRecDepth 100000 in
set_option maxHeartbeats 2000000 in
theorem rc4 (base : Nat) (n x y : Int) (rv : Value) (R : List ShR) (w : World) (A : Option Addr) (c : Nat) (l : List Cd) (z : Cd) (hR : RowN w base 63 5 rv (R.map ShR.cs)) (hbase : base ≤ w.heap.size) (h0 : 0 < l.length) (hl : l.length ≤ 30) (hx : 0 ≤ x) (hx' : x ≤ 4294967295) (hy : 0 ≤ y) (hy' : y ≤ 4294967295) (hE : ES w w.heap.size A 4 (l.map Cd.cs)) (hz : l[qOf l x y]? = some z) :
    Calls Try.prog 14 #[.agg #[.int .i64 n, rv], .int .i64 4, .slice A l.length c, .int .u32 x, .int .u32 y] w (RcQ l (some z) n R base w) := by
  obtain ⟨VA, vcp, hv, -, -⟩ := hR.shape
  rw [List.length_map] at hv
  subst hv
  have HROW := Lib.hid hR
  clear hR
  have HE := Lib.hid hE
  have HZ := Lib.hid hz
  clear hE hz
  go_enter Try.func14, Try.ntmps14
  go_upto_region 2 with fail
  obtain ⟨w1, hw1⟩ : ∃ w1 : World, w1 = (w.alloc (.cells #[.int .i64 n, (.slice VA R.length vcp)] 38)).alloc (.cells #[.int .i64 0, .slice none 0 0] 38) := ⟨_, rfl⟩
  have HA := Lib.hid (show Blk w1 w.heap.size 38 #[.int .i64 n, (.slice VA R.length vcp)] by rw [hw1]; exact (Blk.new _ _ _).alloc _)
  have HRS := Lib.hid (show Blk w1 (w.heap.size + 1) 38 #[.int .i64 0, .slice none 0 0] by rw [hw1]; exact Blk.new_ (by simp) _ _)
  have HB := Lib.hid (show Below w.heap.size w w1 by rw [hw1]; exact ((Below.refl _ _).alloc (Nat.le_refl _) _).alloc (by simp) _)
  have HRW := Lib.hid (HROW.out.below HB.out (fun g hg => (HROW.out.lt g hg).2))
  have hs1 : w.heap.size + 2 ≤ w1.heap.size := by rw [hw1]; simp
  rw [← hw1]
  clear hw1
  obtain ⟨b, o, hb, rfl, hel⟩ := (HE.out.onB HB.out (Nat.le_refl _)).at (k := 0) (by simpa using h0)
  have HC := Lib.hid (refTwo_q b o c l x y (qI l x) (qI l y) (qOf l x y) w1 (by omega) (fun k hk => cd_cells hel hk) hx hx' hy hy' (qI_lt l x h0) (qI_lt l y h0) (qI_eq l x h0) (qI_eq l y h0) (by unfold qOf; rw [dif_pos h0]))
  have hlI : (0 : Int) < (l.length : Int) := by omega
  clear hel
  go_wp2_with fail
  refine HC.out.mono ?_
  rintro e w2 ⟨rfl, nn, hn⟩
  have hb2 : Below w1.heap.size w1 w2 := by rw [hn]; exact belowN (Below.refl _ _) nn
  clear HC HE hn
  have hs2 := hb2.size
  have HA2 := Lib.hid (HA.out.below hb2 HA.out.lt)
  have HRS2 := Lib.hid (HRS.out.below hb2 HRS.out.lt)
  have HRW2 := Lib.hid (HRW.out.belowAll hb2)
  have HB2 := Lib.hid (HB.out.trans (Kept.below (S := fun _ => False) (Kept.ofB hb2) (by omega) (fun i h => h.elim)))
  clear hb2
  have cA := HA2.out.cell
  have fA := HA2.out.frozen
  have cR := HRS2.out.cell
  have fR := HRS2.out.frozen
  have lA : w.heap.size < w2.heap.size := by omega
  have lR : w.heap.size + 1 < w2.heap.size := by omega
  go_wp2_with fail
  refine bodyPost_ret (results_blk_tmp (P := Try.prog) Try.results14 _ _ (w.heap.size + 1) 38 #[.int .i64 n, (.slice VA R.length vcp)] _ rfl ?_ Try.underlying38 rfl (by kernel_rfl)) rfl ⟨(.slice VA R.length vcp), _, rfl, .inr ⟨_, z, rfl, rfl, HZ.out⟩, ?_, ?_⟩
  · go_light
    repeat (first | (with_reducible apply Blk.set_to) | ((with_reducible apply Blk.far'); omega) | (with_reducible apply Blk.alloc))
    exact HRS2.out
    all_goals rfl
  · go_light
    have hn1 := HRW2.out.ne HA2.out (by decide)
    have hn2 := HRW2.out.ne HRS2.out (by decide)
    repeat (first | (with_reducible refine RowN.far ?_ hn2) | (with_reducible refine RowN.far ?_ hn1))
    exact HRW2.out
  · go_light
    refine Kept.below (S := fun i => w.heap.size ≤ i) ?_ (Nat.le_refl _) (fun i h => h)
    repeat (first | ((with_reducible apply Kept.setNew); omega) | (with_reducible apply Kept.alloc))
    exact Kept.of_below HB2.out (fun i _ h => h)
set_option maxRecDepth 100000 in
set_option maxHeartbeats 2000000 in
theorem rc0 (base : Nat) (n x y : Int) (rv : Value) (R : List ShR) (w : World) (way : Int) (A : Option Addr) (c : Nat) (l : List Cd) (hR : RowN w base 63 5 rv (R.map ShR.cs)) (hbase : base ≤ w.heap.size) (h1 : ¬ way = 1) (h2 : ¬ way = 2) (h3 : ¬ way = 3) (h4 : ¬ way = 4) :
    Calls Try.prog 14 #[.agg #[.int .i64 n, rv], .int .i64 way, .slice A l.length c, .int .u32 x, .int .u32 y] w (RcQ l none n R base w) := by
  obtain ⟨VA, vcp, hv, -, -⟩ := hR.shape
  rw [List.length_map] at hv
  subst hv
  have HROW := Lib.hid hR
  clear hR
  have b1 : (way == 1) = false := beq_eq_false_iff_ne.2 h1
  have b2 : (way == 2) = false := beq_eq_false_iff_ne.2 h2
  have b3 : (way == 3) = false := beq_eq_false_iff_ne.2 h3
  have b4 : (way == 4) = false := beq_eq_false_iff_ne.2 h4
  clear h1 h2 h3 h4
  go_enter Try.func14, Try.ntmps14
  go_upto_region 2 with fail
  obtain ⟨w1, hw1⟩ : ∃ w1 : World, w1 = (w.alloc (.cells #[.int .i64 n, (.slice VA R.length vcp)] 38)).alloc (.cells #[.int .i64 0, .slice none 0 0] 38) := ⟨_, rfl⟩
  have HA := Lib.hid (show Blk w1 w.heap.size 38 #[.int .i64 n, (.slice VA R.length vcp)] by rw [hw1]; exact (Blk.new _ _ _).alloc _)
  have HRS := Lib.hid (show Blk w1 (w.heap.size + 1) 38 #[.int .i64 0, .slice none 0 0] by rw [hw1]; exact Blk.new_ (by simp) _ _)
  have HB := Lib.hid (show Below w.heap.size w w1 by rw [hw1]; exact ((Below.refl _ _).alloc (Nat.le_refl _) _).alloc (by simp) _)
  have HRW := Lib.hid (HROW.out.below HB.out (fun g hg => (HROW.out.lt g hg).2))
  have hs1 : w.heap.size + 2 ≤ w1.heap.size := by rw [hw1]; simp
  rw [← hw1]
  clear hw1
  have cA := HA.out.cell
  have fA := HA.out.frozen
  have cR := HRS.out.cell
  have fR := HRS.out.frozen
  have lA : w.heap.size < w1.heap.size := by omega
  have lR : w.heap.size + 1 < w1.heap.size := by omega
  go_wp2_with fail
  refine bodyPost_ret (results_blk_tmp (P := Try.prog) Try.results14 _ _ (w.heap.size + 1) 38 #[.int .i64 n, (.slice VA R.length vcp)] _ rfl ?_ Try.underlying38 rfl (by kernel_rfl)) rfl ⟨(.slice VA R.length vcp), _, rfl, .inl ⟨rfl, rfl⟩, ?_, ?_⟩
  · go_light
    repeat (first | (with_reducible apply Blk.set_to) | ((with_reducible apply Blk.far'); omega) | (with_reducible apply Blk.alloc))
    exact HRS.out
    all_goals rfl
  · go_light
    have hn1 := HRW.out.ne HA.out (by decide)
    have hn2 := HRW.out.ne HRS.out (by decide)
    repeat (first | (with_reducible refine RowN.far ?_ hn2) | (with_reducible refine RowN.far ?_ hn1))
    exact HRW.out
  · go_light
    refine Kept.below (S := fun i => w.heap.size ≤ i) ?_ (Nat.le_refl _) (fun i h => h)
    repeat (first | ((with_reducible apply Kept.setNew); omega) | (with_reducible apply Kept.alloc))
    exact Kept.of_below HB.out (fun i _ h => h)
set_option maxRecDepth 100000 in
set_option maxHeartbeats 2000000 in
theorem rc2n (base : Nat) (n x y : Int) (rv : Value) (R : List ShR) (w : World) (A : Option Addr) (c : Nat) (l : List Cd) (Bd : Int) (hR : RowN w base 63 5 rv (R.map ShR.cs)) (hbase : base ≤ w.heap.size) (hl : l.length ≤ 30) (hr : rightFrom (-1) l = true) (hRl : R.length ≤ 30) (hcr : CrB R Bd) (b0 : 0 ≤ Bd) (b1 : Bd ≤ 1000000000) (hE : ES w w.heap.size A 4 (l.map Cd.cs)) (hh : heavy l = []) :
    Calls Try.prog 14 #[.agg #[.int .i64 n, rv], .int .i64 2, .slice A l.length c, .int .u32 x, .int .u32 y] w (RcQ l none n R base w) := by
  obtain ⟨VA, vcp, hv, -, -⟩ := hR.shape
  rw [List.length_map] at hv
  subst hv
  have HROW := Lib.hid hR
  clear hR
  have HE := Lib.hid hE
  have HRT := Lib.hid hr
  have HCR := Lib.hid hcr
  clear hE hr hcr
  have HH := Lib.hid hh
  clear hh
  go_enter Try.func14, Try.ntmps14
  go_upto_region 2 with fail
  obtain ⟨w1, hw1⟩ : ∃ w1 : World, w1 = (w.alloc (.cells #[.int .i64 n, (.slice VA R.length vcp)] 38)).alloc (.cells #[.int .i64 0, .slice none 0 0] 38) := ⟨_, rfl⟩
  have HA := Lib.hid (show Blk w1 w.heap.size 38 #[.int .i64 n, (.slice VA R.length vcp)] by rw [hw1]; exact (Blk.new _ _ _).alloc _)
  have HRS := Lib.hid (show Blk w1 (w.heap.size + 1) 38 #[.int .i64 0, .slice none 0 0] by rw [hw1]; exact Blk.new_ (by simp) _ _)
  have HB := Lib.hid (show Below w.heap.size w w1 by rw [hw1]; exact ((Below.refl _ _).alloc (Nat.le_refl _) _).alloc (by simp) _)
  have HRW := Lib.hid (HROW.out.below HB.out (fun g hg => (HROW.out.lt g hg).2))
  have hs1 : w.heap.size + 2 ≤ w1.heap.size := by rw [hw1]; simp
  rw [← hw1]
  clear hw1
  have HE1 := Lib.hid (HE.out.onB HB.out (Nat.le_refl _))
  have HC := Lib.hid (refSpick_any VA A vcp c R l w1 Bd hl (by omega) (rf_weight HRT.out) HCR.out b0 b1 (by obtain ⟨A', c', hv, -, -, he⟩ := HRW.out.es; injection hv with e1 e2 e3; rw [e1]; exact he) HE1.out)
  have cA0 := HA.out.cell
  go_wp2_with fail
  refine HC.out.mono ?_
  rintro e w2 (⟨-, rfl, hb2⟩ | ⟨h, -⟩)
  rotate_left
  · exact absurd HH.out h
  clear HC HE HE1 cA0
  have hs2 := hb2.size
  have HA2 := Lib.hid (HA.out.below hb2 HA.out.lt)
  have HRS2 := Lib.hid (HRS.out.below hb2 HRS.out.lt)
  have HRW2 := Lib.hid (HRW.out.belowAll hb2)
  have HB2 := Lib.hid (HB.out.trans (Kept.below (S := fun _ => False) (Kept.ofB hb2) (by omega) (fun i h => h.elim)))
  clear hb2
  have cA := HA2.out.cell
  have fA := HA2.out.frozen
  have cR := HRS2.out.cell
  have fR := HRS2.out.frozen
  have lA : w.heap.size < w2.heap.size := by omega
  have lR : w.heap.size + 1 < w2.heap.size := by omega
  by_cases hle : 0 < l.length
  · have hlI : (0 : Int) < (l.length : Int) := by omega
    go_wp2_with fail
    refine wp_loop_rounds 1 ?_; rw [rounds_succ]
    go_wp2_with fail
    refine bodyPost_ret (results_blk_tmp (P := Try.prog) Try.results14 _ _ (w.heap.size + 1) 38 #[.int .i64 n, (.slice VA R.length vcp)] _ rfl ?_ Try.underlying38 rfl (by kernel_rfl)) rfl ⟨(.slice VA R.length vcp), _, rfl, .inl ⟨rfl, rfl⟩, ?_, ?_⟩
    · go_light
      repeat (first | (with_reducible apply Blk.set_to) | ((with_reducible apply Blk.far'); omega) | (with_reducible apply Blk.alloc))
      exact HRS2.out
      all_goals rfl
    · go_light
      have hn1 := HRW2.out.ne HA2.out (by decide)
      have hn2 := HRW2.out.ne HRS2.out (by decide)
      repeat (first | (with_reducible refine RowN.far ?_ hn2) | (with_reducible refine RowN.far ?_ hn1))
      exact HRW2.out
    · go_light
      refine Kept.below (S := fun i => w.heap.size ≤ i) ?_ (Nat.le_refl _) (fun i h => h)
      repeat (first | ((with_reducible apply Kept.setNew); omega) | (with_reducible apply Kept.alloc))
      exact Kept.of_below HB2.out (fun i _ h => h)
  · have h00 : l.length = 0 := by omega
    rw [h00]
    go_wp2_with fail
    refine wp_loop_rounds 1 ?_; rw [rounds_succ]
    go_wp2_with fail
    refine bodyPost_ret (results_blk_tmp (P := Try.prog) Try.results14 _ _ (w.heap.size + 1) 38 #[.int .i64 n, (.slice VA R.length vcp)] _ rfl ?_ Try.underlying38 rfl (by kernel_rfl)) rfl ⟨(.slice VA R.length vcp), _, rfl, .inl ⟨rfl, rfl⟩, ?_, ?_⟩
    · go_light
      repeat (first | (with_reducible apply Blk.set_to) | ((with_reducible apply Blk.far'); omega) | (with_reducible apply Blk.alloc))
      exact HRS2.out
      all_goals rfl
    · go_light
      have hn1 := HRW2.out.ne HA2.out (by decide)
      have hn2 := HRW2.out.ne HRS2.out (by decide)
      repeat (first | (with_reducible refine RowN.far ?_ hn2) | (with_reducible refine RowN.far ?_ hn1))
      exact HRW2.out
    · go_light
      refine Kept.below (S := fun i => w.heap.size ≤ i) ?_ (Nat.le_refl _) (fun i h => h)
      repeat (first | ((with_reducible apply Kept.setNew); omega) | (with_reducible apply Kept.alloc))
      exact Kept.of_below HB2.out (fun i _ h => h)
set_option maxRecDepth 100000 in
set_option maxHeartbeats 2000000 in
theorem rc2 (base : Nat) (n x y : Int) (rv : Value) (R : List ShR) (w : World) (A : Option Addr) (c : Nat) (l : List Cd) (Bd : Int) (z : Cd) (hR : RowN w base 63 5 rv (R.map ShR.cs)) (hbase : base ≤ w.heap.size) (hl : l.length ≤ 30) (hr : rightFrom (-1) l = true) (hRl : R.length ≤ 30) (hcr : CrB R Bd) (b0 : 0 ≤ Bd) (b1 : Bd ≤ 1000000000) (hE : ES w w.heap.size A 4 (l.map Cd.cs)) (hz : (heavy l)[stepB (baseS (R.map ShR.sh) (heavy l))]? = some z) :
    Calls Try.prog 14 #[.agg #[.int .i64 n, rv], .int .i64 2, .slice A l.length c, .int .u32 x, .int .u32 y] w (RcQ l (some z) n (nextR R l) base w) := by
  obtain ⟨VA, vcp, hv, -, -⟩ := hR.shape
  rw [List.length_map] at hv
  subst hv
  have HROW := Lib.hid hR
  clear hR
  have HE := Lib.hid hE
  have HE0 := Lib.hid hE
  have HRT := Lib.hid hr
  have HCR := Lib.hid hcr
  clear hE hr hcr
  have HZ := Lib.hid hz
  clear hz
  go_enter Try.func14, Try.ntmps14
  go_upto_region 2 with fail
  obtain ⟨w1, hw1⟩ : ∃ w1 : World, w1 = (w.alloc (.cells #[.int .i64 n, (.slice VA R.length vcp)] 38)).alloc (.cells #[.int .i64 0, .slice none 0 0] 38) := ⟨_, rfl⟩
  have HA := Lib.hid (show Blk w1 w.heap.size 38 #[.int .i64 n, (.slice VA R.length vcp)] by rw [hw1]; exact (Blk.new _ _ _).alloc _)
  have HRS := Lib.hid (show Blk w1 (w.heap.size + 1) 38 #[.int .i64 0, .slice none 0 0] by rw [hw1]; exact Blk.new_ (by simp) _ _)
  have HB := Lib.hid (show Below w.heap.size w w1 by rw [hw1]; exact ((Below.refl _ _).alloc (Nat.le_refl _) _).alloc (by simp) _)
  have HRW := Lib.hid (HROW.out.below HB.out (fun g hg => (HROW.out.lt g hg).2))
  have hs1 : w.heap.size + 2 ≤ w1.heap.size := by rw [hw1]; simp
  rw [← hw1]
  clear hw1
  have HE1 := Lib.hid (HE.out.onB HB.out (Nat.le_refl _))
  have HC := Lib.hid (refSpick_any VA A vcp c R l w1 Bd hl (by omega) (rf_weight HRT.out) HCR.out b0 b1 (by obtain ⟨A', c', hv, -, -, he⟩ := HRW.out.es; injection hv with e1 e2 e3; rw [e1]; exact he) HE1.out)
  have cA0 := HA.out.cell
  go_wp2_with fail
  refine HC.out.mono ?_
  rintro e w2 (⟨h, -⟩ | ⟨hne, v', rfl, hrow, hb2⟩)
  · exfalso; have := HZ.out; rw [h] at this; simp at this
  have hNR : nextR R l = rowR (heavy l) (crd (stepS (baseS (R.map ShR.sh) (heavy l)))) := by rw [nextR, if_neg hne]
  rw [← hNR] at hrow
  obtain ⟨q, hq⟩ : ∃ q, stepB (baseS (R.map ShR.sh) (heavy l)) = q := ⟨_, rfl⟩
  have hz := HZ.out
  rw [hq] at hz ⊢
  have hqh : q < (heavy l).length := (List.getElem?_eq_some_iff.1 hz).1
  have hqx : (heavy l)[q] = z := (List.getElem?_eq_some_iff.1 hz).2
  have hqR : ∃ (h : q < (nextR R l).length), ((nextR R l)[q]'h).c = z := by
    rw [hNR]
    exact ⟨by rw [rowR_len]; exact hqh, by rw [rowR_at _ _ _ hqh]; exact hqx⟩
  have HZM := Lib.hid (show z ∈ l by rw [← hqx]; exact (heavy_pos l _ (List.getElem_mem hqh)).1)
  have hln := next_len R l hRl hl
  obtain ⟨R', hR'⟩ : ∃ R', nextR R l = R' := ⟨_, rfl⟩
  rw [hR'] at hrow hqR hln
  have HNX := Lib.hid hR'
  clear hNR hR' hq hz hqx hqh HZ HC HE HE1 cA0 HRW
  have hs2 := hb2.size
  have HA2 := Lib.hid (HA.out.below hb2 HA.out.lt)
  have HRS2 := Lib.hid (HRS.out.below hb2 HRS.out.lt)
  have HRW2 := Lib.hid (hrow.more (show base ≤ w1.heap.size by omega))
  have HB2 := Lib.hid (HB.out.trans (Kept.below (S := fun _ => False) (Kept.ofB hb2) (by omega) (fun i h => h.elim)))
  have HE2 := Lib.hid ((HE0.out.onB HB.out (Nat.le_refl _)).onB hb2 (Nat.le_refl _))
  obtain ⟨hqR, hqc⟩ := hqR
  obtain ⟨vg, vc, hv, -, hvg, hel⟩ := HRW2.out.at (i := q) (by simpa using hqR)
  rw [List.length_map] at hv
  subst hv
  obtain ⟨v0, -, -, -, -⟩ := sr_cells hel (k := q) (by simpa using hqR)
  rw [hqc] at v0
  simp only [Nat.zero_add] at v0
  obtain ⟨zs, hzs⟩ : ∃ zs, z.slot = zs := ⟨_, rfl⟩
  rw [hzs] at v0
  have HZS := Lib.hid hzs
  have HV0 := Lib.hid v0
  have hqI : (q : Int) < (R'.length : Int) := by omega
  have hq0 : (0 : Int) ≤ (q : Int) := by omega
  clear hb2 hrow hel hqc hzs v0
  have cA := HA2.out.cell
  have fA := HA2.out.frozen
  have lA : w.heap.size < w2.heap.size := by omega
  go_upto_region 10 with fail
  obtain ⟨w3, hw3⟩ : ∃ w3 : World, w3 = w2.setCell ⟨w.heap.size, 1, none⟩ (.slice (some ⟨vg, 0, none⟩) R'.length vc) := ⟨_, rfl⟩
  have hs3 : w3.heap.size = w2.heap.size := by rw [hw3]; simp [World.setCell]
  have HA3 := Lib.hid (show Blk w3 w.heap.size 38 #[.int .i64 n, .slice (some ⟨vg, 0, none⟩) R'.length vc] by rw [hw3]; exact HA2.out.set_to rfl)
  have HRS3 := Lib.hid (show Blk w3 (w.heap.size + 1) 38 #[.int .i64 0, .slice none 0 0] by rw [hw3]; exact HRS2.out.far' (by omega))
  have HRW3 := Lib.hid (show RowN w3 base 63 5 (.slice (some ⟨vg, 0, none⟩) R'.length vc) (R'.map ShR.cs) by rw [hw3]; exact HRW2.out.far (HRW2.out.ne HA2.out (by decide)))
  have HB3 := Lib.hid (show Below w.heap.size w w3 by rw [hw3]; exact HB2.out.setCell (Nat.le_refl _) _)
  have HK3 := Lib.hid (show ∀ b o, b ≠ w.heap.size → w3.cell? ⟨b, o, none⟩ = w2.cell? ⟨b, o, none⟩ by intro b o hb; rw [hw3]; exact World.cell?_setCell_other _ _ _ _ (by intro e; injection e; omega))
  have HE3 := Lib.hid (show ES w3 w3.heap.size A 4 (l.map Cd.cs) from (HE0.out.onB HB3.out (Nat.le_refl _)))
  have vne : vg ≠ w.heap.size := fun e => HRW2.out.ne HA2.out (by decide) (by rw [e]; rfl)
  have HV3 := Lib.hid ((HK3.out vg (q * 5) vne).trans HV0.out)
  rw [← hw3]
  clear hw3 cA fA lA HA2 HRS2 HRW2 HB2 HV0 HK3 HE2
  have hvg3 : vg < w3.heap.size := by omega
  clear hvg
  go_wp2_with fail
  go_loopw [12, 15] (fun k i wr => ∃ i' : Nat, i' ≤ l.length ∧ i = .int .i64 (i' : Int) ∧ ∃ kk : Int, k = .int .i64 kk ∧ Hid (InP l z i' kk) ∧ Hid (Kept (fun _ => False) w3 wr)) (fun _ i _ => l.length - (intOf i).toNat)
  case atStart => exact ⟨0, by omega, rfl, -1, rfl, Lib.hid (.inl ⟨rfl, fun j h hj => by omega⟩), Lib.hid (Kept.refl _ _)⟩
  case round =>
    obtain ⟨i, hi, rfl, kk, rfl, HI, HK⟩ := hrel
    have hsr := HK.out.size
    by_cases hil : i < l.length
    · obtain ⟨eb, eo, heb', eA, hel⟩ := (HE3.out.on HK.out (fun _ _ h => h)).at (k := i) (by simpa using hil)
      obtain ⟨d0, -, -, -⟩ := cd_cells hel hil
      have heb := heb'
      subst eA
      have v0 := (HK.out.cell hvg3 (fun h => h) _).trans HV3.out
      have hvg : vg < wr.heap.size := by omega
      have hiI : (i : Int) < (l.length : Int) := by omega
      have hi0 : (0 : Int) ≤ (i : Int) := by omega
      obtain ⟨ls, hls⟩ : ∃ ls, l[i].slot = ls := ⟨_, rfl⟩
      rw [hls] at d0
      have HLS := Lib.hid hls
      clear hls hel heb'
      by_cases hn : ls = zs
      · subst hn
        go_upto_region 13 with fail
        refine wp_region_kept 12 [] ?st ?ne rfl (by kernel_rfl) (by kernel_rfl) ?_
        case st => intro p hp; cases hp
        case ne => intro p hp; cases hp
        simp only [List.take_succ_cons, List.take_zero, List.drop_succ_cons, List.drop_zero]
        intro G pick hR hp1 hp2
        have p0 : ∀ u, (pick u).cell? ⟨eb, eo + i * 4, none⟩ = some (.int .i64 ls) := fun u => ((hp1 u).cell heb (fun h => h) _).trans d0
        have p1 : ∀ u, (pick u).cell? ⟨vg, q * 5, none⟩ = some (.int .i64 ls) := fun u => ((hp1 u).cell hvg (fun h => h) _).trans v0
        repeat (first | (refine wpR_det hp2 rfl ((hR.rel _).trans rfl) rfl ?_; intro K hK; go_big_quiet_op; go_big_quiet_on) | (refine wpR_ptr hp2 rfl ((hR.rel _).trans rfl) rfl rfl ?_; intro K hK; go_big_quiet_op; go_big_quiet_on) | (refine wpR_skip pick rfl ?_; intro K hK; go_big_quiet_op; go_big_quiet_on))
        refine wpR_nil ?_
        intro wX hk2 hF hM
        have HKX := Lib.hid (HK.out.trans hk2)
        clear hF hM hk2 hp1 hp2 hR p0 p1
        go_wp2_with fail
        go_roundw
        case rel => exact ⟨i + 1, by omega, by go_num, i, rfl, Lib.hid (.inr ⟨i, hil, by omega, rfl, mem_slot HRT.out (List.getElem_mem hil) HZM.out (by rw [HLS.out, HZS.out])⟩), HKX⟩
        case measure => simp [intOf]; omega
      · have hnb : (ls == zs) = false := beq_eq_false_iff_ne.2 hn
        go_upto_region 13 with fail
        refine wp_region_kept 12 [] ?st ?ne rfl (by kernel_rfl) (by kernel_rfl) ?_
        case st => intro p hp; cases hp
        case ne => intro p hp; cases hp
        simp only [List.take_succ_cons, List.take_zero, List.drop_succ_cons, List.drop_zero]
        intro G pick hR hp1 hp2
        have p0 : ∀ u, (pick u).cell? ⟨eb, eo + i * 4, none⟩ = some (.int .i64 ls) := fun u => ((hp1 u).cell heb (fun h => h) _).trans d0
        have p1 : ∀ u, (pick u).cell? ⟨vg, q * 5, none⟩ = some (.int .i64 zs) := fun u => ((hp1 u).cell hvg (fun h => h) _).trans v0
        repeat (first | (refine wpR_det hp2 rfl ((hR.rel _).trans rfl) rfl ?_; intro K hK; go_big_quiet_op; go_big_quiet_on) | (refine wpR_ptr hp2 rfl ((hR.rel _).trans rfl) rfl rfl ?_; intro K hK; go_big_quiet_op; go_big_quiet_on) | (refine wpR_skip pick rfl ?_; intro K hK; go_big_quiet_op; go_big_quiet_on))
        refine wpR_nil ?_
        intro wX hk2 hF hM
        have HKX := Lib.hid (HK.out.trans hk2)
        clear hF hM hk2 hp1 hp2 hR p0 p1
        go_wp2_with fail
        go_roundw
        case rel => exact ⟨i + 1, by omega, by go_num, kk, rfl, Lib.hid (HI.out.no hil (fun e => hn (by rw [← HZS.out, ← HLS.out, e]))), HKX⟩
        case measure => simp [intOf]; omega
    · obtain rfl : i = l.length := by omega
      have hin : ¬ (l.length : Int) < (l.length : Int) := by omega
      have HK4 := HK
      have HA4 := Lib.hid (HA3.out.kept HK.out (fun h => h))
      have HRS4 := Lib.hid (HRS3.out.kept HK.out (fun h => h))
      have HRW4 := Lib.hid (HRW3.out.kept HK.out (fun _ _ h => h))
      have HB4 := Lib.hid (belK HB3.out HK.out)
      have HKF := Lib.hid (show KOf l (some z) kk by
        rcases HI.out with ⟨rfl, hno⟩ | ⟨j, hj, -, rfl, hjx⟩
        · obtain ⟨j, hj, e⟩ := List.mem_iff_getElem.1 HZM.out
          exact absurd e (hno j hj hj)
        · exact .inr ⟨j, z, rfl, rfl, by rw [List.getElem?_eq_getElem hj, hjx]⟩)
      have cA := HA4.out.cell
      have fA := HA4.out.frozen
      have cR := HRS4.out.cell
      have fR := HRS4.out.frozen
      have lA : w.heap.size < wr.heap.size := by omega
      have lR : w.heap.size + 1 < wr.heap.size := by omega
      go_wp2_with fail
      refine bodyPost_ret (results_blk_tmp (P := Try.prog) Try.results14 _ _ (w.heap.size + 1) 38 #[.int .i64 n, (.slice (some ⟨vg, 0, none⟩) R'.length vc)] _ rfl ?_ Try.underlying38 rfl (by kernel_rfl)) rfl ⟨(.slice (some ⟨vg, 0, none⟩) R'.length vc), _, rfl, HKF.out, ?_, ?_⟩
      · go_light
        repeat (first | (with_reducible apply Blk.set_to) | ((with_reducible apply Blk.far'); omega) | (with_reducible apply Blk.alloc))
        exact HRS4.out
        all_goals rfl
      · go_light
        have hn1 := HRW4.out.ne HA4.out (by decide)
        have hn2 := HRW4.out.ne HRS4.out (by decide)
        rw [HNX.out]
        repeat (first | (with_reducible refine RowN.far ?_ hn2) | (with_reducible refine RowN.far ?_ hn1))
        exact HRW4.out
      · go_light
        refine Kept.below (S := fun i => w.heap.size ≤ i) ?_ (Nat.le_refl _) (fun i h => h)
        repeat (first | ((with_reducible apply Kept.setNew); omega) | (with_reducible apply Kept.alloc))
        exact Kept.of_below HB4.out (fun i _ h => h)
end Go.Proofs.Ytpakfepjfcpjkaa
