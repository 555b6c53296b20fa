/- op copies an operation. -/
import Derived.Test.YthfdhggcnkgjfaaDoorC
import Derived.Deep.AppendLies
namespace Go.Proofs.YthfdhggcnkgjfaaDoor
open Go.RowKit
set_option linter.unusedVariables false
theorem Tryd.infoM : (Tryd.prog.info? 83).map (fun i => (i.zero, i.size, i.bytes)) = some (some (.agg #[.int .i64 0, .int .i64 0]), 2, 16) := by kernel_rfl
/-- Members in memory, as a value. -/
def MemV (w : World) (B : Nat) (v : Value) (ml : List Mb) : Prop := ∃ A c, v = .slice A ml.length c ∧ (ml.length ≤ c ∧ c ≤ maxLen ∧ ES w w.heap.size A 2 (ml.map Mb.cs)) ∧ ∀ p, A = some p → B ≤ p.block
set_option maxRecDepth 20000 in
set_option maxHeartbeats 8000000 in
theorem op_any (k0 : Int) (k1 : Int) (k2 : Int) (k3 : Int) (s : Bool) (h : Int) (l : Int) (p : Int) (q : Int) (y : Int) (A : Option Addr) (c : Nat) (ml : List Mb) (w : World) (hl : ml.length ≤ 70) (he : ES w w.heap.size A 2 (ml.map Mb.cs)) :
    Calls Tryd.prog 20 #[.agg #[.int .i64 k0, .int .i64 k1, .int .i64 k2, .int .i64 k3, .bool s, .int .u64 h, .int .u64 l, .int .u16 p, .int .u8 q, .int .i64 y, .slice A ml.length c]] w fun e w' => (∃ v, e = .returned (.agg #[.int .i64 k0, .int .i64 k1, .int .i64 k2, .int .i64 k3, .bool s, .int .u64 h, .int .u64 l, .int .u16 p, .int .u8 q, .int .i64 y, v]) ∧ MemV w' w.heap.size v ml) ∧ Below w.heap.size w w' := by
  have HC := Lib.hid he
  clear he
  go_enter Tryd.func20, Tryd.ntmps20
  go_upto_region 2 with fail
  obtain ⟨w1, hw1⟩ : ∃ w1 : World, w1 = ((w.alloc (.cells #[.int .i64 k0, .int .i64 k1, .int .i64 k2, .int .i64 k3, .bool s, .int .u64 h, .int .u64 l, .int .u16 p, .int .u8 q, .int .i64 y, .slice A ml.length c] 37)).alloc (.cells #[.int .i64 0, .int .i64 0, .int .i64 0, .int .i64 0, .bool false, .int .u64 0, .int .u64 0, .int .u16 0, .int .u8 0, .int .i64 0, .slice none 0 0] 47)).alloc (.cells #[.int .i64 k0, .int .i64 k1, .int .i64 k2, .int .i64 k3, .bool s, .int .u64 h, .int .u64 l, .int .u16 p, .int .u8 q, .int .i64 y, .slice none 0 0] 47) := ⟨_, rfl⟩
  have HX0 := Lib.hid (show Blk w1 w.heap.size 37 #[.int .i64 k0, .int .i64 k1, .int .i64 k2, .int .i64 k3, .bool s, .int .u64 h, .int .u64 l, .int .u16 p, .int .u8 q, .int .i64 y, .slice A ml.length c] by rw [hw1]; exact ((Blk.new _ _ _).alloc _).alloc _)
  have HR0 := Lib.hid (show Blk w1 (w.heap.size + 1) 47 #[.int .i64 0, .int .i64 0, .int .i64 0, .int .i64 0, .bool false, .int .u64 0, .int .u64 0, .int .u16 0, .int .u8 0, .int .i64 0, .slice none 0 0] by rw [hw1]; exact (Blk.new_ (by simp) _ _).alloc _)
  have HO0 := Lib.hid (show Blk w1 (w.heap.size + 1 + 1) 47 #[.int .i64 k0, .int .i64 k1, .int .i64 k2, .int .i64 k3, .bool s, .int .u64 h, .int .u64 l, .int .u16 p, .int .u8 q, .int .i64 y, .slice none 0 0] by rw [hw1]; exact Blk.new_ (by simp) _ _)
  have HW0 := Lib.hid (show Below w.heap.size w w1 by rw [hw1]; exact (((Below.refl _ w).alloc (Nat.le_refl _) _).alloc (by simp) _).alloc (by simp; omega) _)
  rw [← hw1]
  have hsz1 : w1.heap.size = w.heap.size + 3 := by rw [hw1]; simp
  have HSZ := Lib.hid hsz1
  clear hw1 hsz1
  obtain ⟨base, hbase⟩ : ∃ base, base = w1.heap.size := ⟨_, rfl⟩
  have HBASE := Lib.hid hbase
  clear hbase
  obtain ⟨ob, hob⟩ : ∃ ob, w.heap.size + 1 + 1 = ob := ⟨_, rfl⟩
  rw [hob] at HO0 ⊢
  obtain ⟨rb, hrb⟩ : ∃ rb, w.heap.size + 1 = rb := ⟨_, rfl⟩
  rw [hrb] at HR0 ⊢
  obtain ⟨xb, hxb⟩ : ∃ xb, w.heap.size = xb := ⟨_, rfl⟩
  have HXB := Lib.hid hxb
  have HOB := Lib.hid (show ob = xb + 2 by omega)
  have HRB := Lib.hid (show rb = xb + 1 by omega)
  rw [hxb] at HX0 ⊢
  clear hob hrb hxb
  go_wp2_with fail
  go_loopw [4] (fun i wr => ∃ (k : Nat) (v : Value), k ≤ ml.length ∧ i = .int .i64 k ∧ Hid (Blk wr ob 47 #[.int .i64 k0, .int .i64 k1, .int .i64 k2, .int .i64 k3, .bool s, .int .u64 h, .int .u64 l, .int .u16 p, .int .u8 q, .int .i64 y, v]) ∧ Hid (Blk wr xb 37 #[.int .i64 k0, .int .i64 k1, .int .i64 k2, .int .i64 k3, .bool s, .int .u64 h, .int .u64 l, .int .u16 p, .int .u8 q, .int .i64 y, .slice A ml.length c]) ∧ Hid (Blk wr rb 47 #[.int .i64 0, .int .i64 0, .int .i64 0, .int .i64 0, .bool false, .int .u64 0, .int .u64 0, .int .u16 0, .int .u8 0, .int .i64 0, .slice none 0 0]) ∧ Hid (RowN wr base 83 2 v ((ml.take k).map Mb.cs)) ∧ Hid (Below w.heap.size w wr)) (fun i _ => ml.length - (intOf i).toNat)
  case atStart => exact ⟨0, _, Nat.zero_le _, rfl, HO0, HX0, HR0, Lib.hid (by simpa using RowN.nil _ _ _ _), HW0⟩
  case round =>
    obtain ⟨k, v, hk, rfl, HO, HX, HRR, HRV0, HW⟩ := hrel
    obtain ⟨VA, vc, hve, -, -⟩ := HRV0.out.shape
    rw [show ((ml.take k).map Mb.cs).length = k by simp; omega] at hve
    subst hve
    have HRV := HRV0
    clear HRV0
    by_cases hlt : k < ml.length
    · have hk0 : (0 : Int) ≤ (k : Int) := Int.natCast_nonneg _
      have hk1 : (k : Int) < (ml.length : Int) := by omega
      obtain ⟨b, off, hb, rfl, HB⟩ := HC.out.at (k := k) (by simpa using hlt)
      have HB := Lib.hid HB
      have hbx : b < xb := by have := HXB.out; omega
      clear hb
      have cx10 := HX.out.cell 10
      have co10 := HO.out.cell 10
      simp at cx10 co10
      have hbw : base ≤ wr.heap.size := by have := HO.out.lt; have := HOB.out; have := HXB.out; have := HBASE.out; have := HSZ.out; omega
      have xlt := HX.out.lt
      have olt := HO.out.lt
      have blt : b < wr.heap.size := by omega
      have HE := Lib.hid (Mb.get (HB.out.keep (fun o => HW.out.cell (p := ⟨b, o, none⟩) (show b < w.heap.size by have := HXB.out; omega))) hlt)
      obtain ⟨e0, e1⟩ := HE.out
      have HSL := Lib.hid (fun i (h : (Value.slice VA k vc).ownBlock = some i) => (show i < wr.heap.size from (HRV.out.lt i h).2))
      have HSO := Lib.hid (show ¬ (Value.slice VA k vc).ownBlock = some ob from HRV.out.ne HO.out (by decide))
      have HSX := Lib.hid (show ¬ (Value.slice VA k vc).ownBlock = some xb from HRV.out.ne HX.out (by decide))
      have HSR := Lib.hid (show ¬ (Value.slice VA k vc).ownBlock = some rb from HRV.out.ne HRR.out (by decide))
      have HSB := Lib.hid (show ¬ (Value.slice VA k vc).ownBlock = some b from fun e => by have := (HRV.out.lt b e).1; have := HBASE.out; have := HSZ.out; have := HXB.out; omega)
      have HEX := Lib.hid (show ∃ v u, Kept (fun i => (Value.slice VA k vc).ownBlock = some i) wr u ∧ RowN u base 83 2 v ((ml.take (k + 1)).map Mb.cs) from
        ⟨_, _, (Kept.refl _ _).alloc (.cells (((ml.take (k + 1)).map Mb.cs)).flatten.toArray 83), RowN.of_blk (n := k + 1) (Blk.new _ _ _) (by have := HO.out.lt; have := HOB.out; have := HXB.out; have := HBASE.out; have := HSZ.out; omega) (by unfold maxLen; omega) (sz_map Mb.cs_len _) (by simp) (by simp; omega)⟩)
      go_wp2_with fail
      refine wp_region_add 17 (fun i => (Value.slice VA k vc).ownBlock = some i) [16] [] [(15, fun v u => ∃ g, v = .slice (some ⟨g, 0, none⟩) 1 1 ∧ wr.heap.size ≤ g ∧ Blk u g 83 #[.int .i64 ml[k].back, .int .i64 ml[k].weight]), (16, fun v u => RowN u base 83 2 v ((ml.take (k + 1)).map Mb.cs))] ?st ?ne rfl (by kernel_rfl) (by kernel_rfl) (by kernel_rfl) ?_
      case st =>
        intro p hp
        simp only [List.mem_cons, List.not_mem_nil, or_false] at hp
        rcases hp with rfl | rfl
        · rintro v u u' ⟨g, rfl, h1, h⟩ hk; exact ⟨g, rfl, h1, h.kept hk (fun e => by have := HSL.out _ e; omega)⟩
        · intro v u u' h hk; exact h.kept hk (fun _ _ h => h)
      case ne =>
        intro p hp
        simp only [List.mem_cons, List.not_mem_nil, or_false] at hp
        rcases hp with rfl | rfl
        · exact ⟨_, _, (Kept.refl _ _).alloc _, _, rfl, Nat.le_refl _, Blk.new _ _ _⟩
        · exact HEX.out
      simp only [List.take_succ_cons, List.take_zero, List.drop_succ_cons, List.drop_zero]
      intro G pick hR hp1 hp2
      have px : ∀ u, (pick u).cell? ⟨xb, 10, none⟩ = some (.slice (some ⟨b, off, none⟩) ml.length c) := fun u => ((hp1 u).cell xlt HSX.out _).trans cx10
      have po : ∀ u, (pick u).cell? ⟨ob, 10, none⟩ = some (.slice VA k vc) := fun u => ((hp1 u).cell olt HSO.out _).trans co10
      have p0 : ∀ u, (pick u).cell? ⟨b, off + k * 2, none⟩ = some (.int .i64 ml[k].back) := fun u => ((hp1 u).cell blt HSB.out _).trans e0
      have p1 : ∀ u, (pick u).cell? ⟨b, off + k * 2 + 1, none⟩ = some (.int .i64 ml[k].weight) := fun u => ((hp1 u).cell blt HSB.out _).trans e1
      repeat (first | (refine wpR_det hp2 rfl ((hR.rel _).trans rfl) rfl ?_; intro K hK; go_big_quiet_op; go_big_quiet_on) | (refine wpR_ptr hp2 rfl ((hR.rel _).trans rfl) rfl rfl ?_; intro K hK; go_big_quiet_op; go_big_quiet_on) | (refine wpR_skip pick rfl ?_; intro K hK; go_big_quiet_op; go_big_quiet_on))
      refine wpR_rel pick rfl ((hR.rel _).trans rfl) ((hR.turns _).trans rfl) ?_ ?_
      · intro u hu
        have hk := hR.since hu.1
        have hks := hk.size
        unfold relAt
        go_simp
        exact ⟨hR.into0 ((Kept.refl _ _).alloc _), hR.put 0 rfl rfl ⟨_, rfl, hks, Blk.new _ _ _⟩⟩
      intro v hv
      obtain ⟨u, _, hu⟩ := hv
      obtain ⟨g6, rfl, hg6, -⟩ := hR.get 0 rfl hu
      clear hu
      intro K hK
      go_big_quiet_op
      go_big_quiet_on
      repeat (first | (refine wpR_det hp2 rfl ((hR.rel _).trans rfl) rfl ?_; intro K hK; go_big_quiet_op; go_big_quiet_on) | (refine wpR_ptr hp2 rfl ((hR.rel _).trans rfl) rfl rfl ?_; intro K hK; go_big_quiet_op; go_big_quiet_on) | (refine wpR_skip pick rfl ?_; intro K hK; go_big_quiet_op; go_big_quiet_on))
      refine wpR_turn pick rfl ((hR.rel _).trans rfl) ((hR.turns _).trans rfl) ((hR.adds _).trans rfl) ?_ ?_
      · intro u hu hM
        have hk := hR.since hu.1
        have hks := hk.size
        obtain ⟨g', e, -, hB6⟩ := (hR.get 0 rfl (hu.2 _ _ (Got.upd_self _ _ _) (by kernel_rfl)))
        obtain rfl : g6 = g' := by injection e with e; injection e with e; injection e
        have hK0 := hR.first hM
        have hR0 := HRV.out.kept hK0 (fun _ _ h => h)
        refine relAt_append_rowN (.tmp 30) (.tmp 44) 45 rfl base 83 _ 2 16 Tryd.underlying45 Tryd.infoM rfl (by decide) _ ((ml.take k).map Mb.cs) rfl (some ⟨g6, 0, none⟩) 1 1 [[.int .i64 ml[k].back, .int .i64 ml[k].weight]] rfl rfl hR0 (by simp) (Src.blk hB6 rfl) (by intro u hu; simp at hu; rcases hu with rfl | rfl <;> rfl) ?_ ?_ ?_ ?_
        · unfold maxLen; simp; omega
        · simp; omega
        · omega
        · intro v' w' h1 h2 h3
          exact ⟨hR.into (kept_grown h2 (fun i e _ => e)), hR.put 1 rfl rfl (by rw [List.take_succ_eq_append_getElem hlt, List.map_append]; exact h1)⟩
      intro v hv
      obtain ⟨u, _, hu⟩ := hv
      obtain hT7 := hR.get 1 rfl hu
      clear hu
      obtain ⟨VB, vd, hve, -, -⟩ := hT7.shape
      subst hve
      clear hT7
      intro K hK
      go_big_quiet_op
      go_big_quiet_on
      repeat (first | (refine wpR_det hp2 rfl ((hR.rel _).trans rfl) rfl ?_; intro K hK; go_big_quiet_op; go_big_quiet_on) | (refine wpR_ptr hp2 rfl ((hR.rel _).trans rfl) rfl rfl ?_; intro K hK; go_big_quiet_op; go_big_quiet_on) | (refine wpR_skip pick rfl ?_; intro K hK; go_big_quiet_op; go_big_quiet_on))
      refine wpR_nil ?_
      intro w5 hk2 hF hM
      have HT5 := Lib.hid (hR.get 1 rfl hM)
      have HK5 := Lib.hid hk2
      have HO5 := Lib.hid (HO.out.kept hk2 HSO.out)
      have HX5 := Lib.hid (HX.out.kept hk2 HSX.out)
      have HR5 := Lib.hid (HRR.out.kept hk2 HSR.out)
      have HW5 := Lib.hid (show Below w.heap.size w w5 from HW.out.trans (hk2.below HW.out.size (fun i hi => by have := (HRV.out.lt i hi).1; have := HBASE.out; have := HSZ.out; omega)))
      clear hF hM hk2 hp1 hp2 hR px po p0 p1 e0 e1 cx10 co10 HEX xlt olt blt
      have c5 := HO5.out.cell
      have f5 := HO5.out.frozen
      have l5 := HO5.out.lt
      go_wp2_with fail
      go_roundw
      case rel =>
        refine ⟨k + 1, _, by omega, by go_num, Lib.hid (HO5.out.set_to (by simp)), Lib.hid (HX5.out.far (p := ⟨ob, 10, none⟩) (by have := HOB.out; simp; omega) _), Lib.hid (HR5.out.far (p := ⟨ob, 10, none⟩) (by have := HOB.out; have := HRB.out; simp; omega) _), Lib.hid (HT5.out.far (HT5.out.ne HO5.out (by decide))), Lib.hid (HW5.out.setCell (p := ⟨ob, 10, none⟩) (by have := HOB.out; have := HXB.out; simp; omega) _)⟩
      case measure => simp [intOf]; omega
    · have : k = ml.length := by omega
      subst this
      have cx10 := HX.out.cell 10
      simp at cx10
      have xlt := HX.out.lt
      have cO := HO.out.cell
      have fO := HO.out.frozen
      have cR := HRR.out.cell
      have fR := HRR.out.frozen
      have oL := HO.out.lt
      have rL := HRR.out.lt
      go_wp2_with fail
      generalize hw9 : (World.setCell _ _ _) = w9
      have HK9 := Lib.hid (show Kept (fun i => i = rb) wr w9 by
        rw [← hw9]
        have q0 := Kept.refl (fun i => i = rb) wr
        have q1 := Kept.setIn (S := fun i => i = rb) (b := rb) (o := 0) (s := none) (u := .int .i64 k0) rfl q0
        have q2 := Kept.setIn (S := fun i => i = rb) (b := rb) (o := 1) (s := none) (u := .int .i64 k1) rfl q1
        have q3 := Kept.setIn (S := fun i => i = rb) (b := rb) (o := 2) (s := none) (u := .int .i64 k2) rfl q2
        have q4 := Kept.setIn (S := fun i => i = rb) (b := rb) (o := 3) (s := none) (u := .int .i64 k3) rfl q3
        have q5 := Kept.setIn (S := fun i => i = rb) (b := rb) (o := 4) (s := none) (u := .bool s) rfl q4
        have q6 := Kept.setIn (S := fun i => i = rb) (b := rb) (o := 5) (s := none) (u := .int .u64 h) rfl q5
        have q7 := Kept.setIn (S := fun i => i = rb) (b := rb) (o := 6) (s := none) (u := .int .u64 l) rfl q6
        have q8 := Kept.setIn (S := fun i => i = rb) (b := rb) (o := 7) (s := none) (u := .int .u16 p) rfl q7
        have q9 := Kept.setIn (S := fun i => i = rb) (b := rb) (o := 8) (s := none) (u := .int .u8 q) rfl q8
        have q10 := Kept.setIn (S := fun i => i = rb) (b := rb) (o := 9) (s := none) (u := .int .i64 y) rfl q9
        have q11 := Kept.setIn (S := fun i => i = rb) (b := rb) (o := 10) (s := none) (u := .slice VA ml.length vc) rfl q10
        exact q11)
      have HR9 := Lib.hid (show Blk w9 rb 47 #[.int .i64 k0, .int .i64 k1, .int .i64 k2, .int .i64 k3, .bool s, .int .u64 h, .int .u64 l, .int .u16 p, .int .u8 q, .int .i64 y, .slice VA ml.length vc] by
        rw [← hw9]
        have q0 := HRR.out
        have q1 := Blk.set_to (i := 0) (u := .int .i64 k0) (cs' := #[.int .i64 k0, .int .i64 0, .int .i64 0, .int .i64 0, .bool false, .int .u64 0, .int .u64 0, .int .u16 0, .int .u8 0, .int .i64 0, .slice none 0 0]) q0 rfl
        have q2 := Blk.set_to (i := 1) (u := .int .i64 k1) (cs' := #[.int .i64 k0, .int .i64 k1, .int .i64 0, .int .i64 0, .bool false, .int .u64 0, .int .u64 0, .int .u16 0, .int .u8 0, .int .i64 0, .slice none 0 0]) q1 rfl
        have q3 := Blk.set_to (i := 2) (u := .int .i64 k2) (cs' := #[.int .i64 k0, .int .i64 k1, .int .i64 k2, .int .i64 0, .bool false, .int .u64 0, .int .u64 0, .int .u16 0, .int .u8 0, .int .i64 0, .slice none 0 0]) q2 rfl
        have q4 := Blk.set_to (i := 3) (u := .int .i64 k3) (cs' := #[.int .i64 k0, .int .i64 k1, .int .i64 k2, .int .i64 k3, .bool false, .int .u64 0, .int .u64 0, .int .u16 0, .int .u8 0, .int .i64 0, .slice none 0 0]) q3 rfl
        have q5 := Blk.set_to (i := 4) (u := .bool s) (cs' := #[.int .i64 k0, .int .i64 k1, .int .i64 k2, .int .i64 k3, .bool s, .int .u64 0, .int .u64 0, .int .u16 0, .int .u8 0, .int .i64 0, .slice none 0 0]) q4 rfl
        have q6 := Blk.set_to (i := 5) (u := .int .u64 h) (cs' := #[.int .i64 k0, .int .i64 k1, .int .i64 k2, .int .i64 k3, .bool s, .int .u64 h, .int .u64 0, .int .u16 0, .int .u8 0, .int .i64 0, .slice none 0 0]) q5 rfl
        have q7 := Blk.set_to (i := 6) (u := .int .u64 l) (cs' := #[.int .i64 k0, .int .i64 k1, .int .i64 k2, .int .i64 k3, .bool s, .int .u64 h, .int .u64 l, .int .u16 0, .int .u8 0, .int .i64 0, .slice none 0 0]) q6 rfl
        have q8 := Blk.set_to (i := 7) (u := .int .u16 p) (cs' := #[.int .i64 k0, .int .i64 k1, .int .i64 k2, .int .i64 k3, .bool s, .int .u64 h, .int .u64 l, .int .u16 p, .int .u8 0, .int .i64 0, .slice none 0 0]) q7 rfl
        have q9 := Blk.set_to (i := 8) (u := .int .u8 q) (cs' := #[.int .i64 k0, .int .i64 k1, .int .i64 k2, .int .i64 k3, .bool s, .int .u64 h, .int .u64 l, .int .u16 p, .int .u8 q, .int .i64 0, .slice none 0 0]) q8 rfl
        have q10 := Blk.set_to (i := 9) (u := .int .i64 y) (cs' := #[.int .i64 k0, .int .i64 k1, .int .i64 k2, .int .i64 k3, .bool s, .int .u64 h, .int .u64 l, .int .u16 p, .int .u8 q, .int .i64 y, .slice none 0 0]) q9 rfl
        have q11 := Blk.set_to (i := 10) (u := .slice VA ml.length vc) (cs' := #[.int .i64 k0, .int .i64 k1, .int .i64 k2, .int .i64 k3, .bool s, .int .u64 h, .int .u64 l, .int .u16 p, .int .u8 q, .int .i64 y, .slice VA ml.length vc]) q10 rfl
        exact q11)
      clear hw9
      refine bodyPost_ret (results_blk1 (P := Tryd.prog) (show Tryd.f20.results = _ from rfl) _ _ rb 47 #[.int .i64 k0, .int .i64 k1, .int .i64 k2, .int .i64 k3, .bool s, .int .u64 h, .int .u64 l, .int .u16 p, .int .u8 q, .int .i64 y, .slice VA ml.length vc] _ rfl HR9.out Tryd.underlying47 rfl (by kernel_rfl)) rfl ⟨⟨_, rfl, ?_⟩, ?_⟩
      · have hrow := HRV.out.kept HK9.out (fun g hg e => by subst e; exact HRV.out.ne HRR.out (by decide) hg)
        obtain ⟨A', c', h1, h2, h3, h4⟩ := hrow.es
        rw [List.take_length] at h1 h2 h4
        rw [List.length_map] at h1 h2
        have hlt := hrow.lt
        rw [h1] at hlt ⊢
        refine ⟨A', c', rfl, ⟨h2, h3, h4⟩, fun p e => ?_⟩
        subst e
        have := (hlt p.block rfl).1
        have := HBASE.out
        have := HSZ.out
        omega
      · exact HW.out.trans (HK9.out.below HW.out.size (fun i e => by have := HRB.out; have := HXB.out; omega))
end Go.Proofs.YthfdhggcnkgjfaaDoor
