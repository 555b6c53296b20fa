/- To copies a step. -/
import Derived.Test.YthfdhggcnkgjfaaDoorD
import Derived.Test.YthfdhggcnkgjfaaDoorE
import Derived.Test.YthfdhggcnkgjfaaDoorSetAll
namespace Go.Proofs.YthfdhggcnkgjfaaDoor
open Go.RowKit
set_option linter.unusedVariables false
def MOk (w : World) (A : Option Addr) (c : Nat) (ml : List Mb) : Prop := ml.length ≤ c ∧ c ≤ maxLen ∧ ES w w.heap.size A 2 (ml.map Mb.cs)
set_option maxRecDepth 20000 in
set_option maxHeartbeats 8000000 in
theorem to_any (K : Int) (k0 : Int) (k1 : Int) (k2 : Int) (k3 : Int) (s : Bool) (h : Int) (l : Int) (p : Int) (q : Int) (y : Int) (MA : Option Addr) (mc : Nat) (ml : List Mb) (wh : Int) (tm : Int) (fg : Int) (LA : Option Addr) (lc : Nat) (ld : List UInt8) (n : Int) (x : Int) (v : Int) (sa : Bool) (ha : Int) (la : Int) (pa : Int) (w : World) (hl : ml.length ≤ 70) (hm : MOk w MA mc ml) :
    Calls Tryd.prog 9 #[.agg #[.int .i64 K, .int .i64 k0, .int .i64 k1, .int .i64 k2, .int .i64 k3, .bool s, .int .u64 h, .int .u64 l, .int .u16 p, .int .u8 q, .int .i64 y, .slice MA ml.length mc, .int .i64 wh, .int .i64 tm, .int .u8 fg, .slice LA ld.length lc, .int .u32 n, .int .u32 x, .int .u32 v, .bool sa, .int .u64 ha, .int .u64 la, .int .u16 pa]] w fun e w' => (∃ A4 c4, e = .returned (.agg #[.int .i64 K, .int .i64 k0, .int .i64 k1, .int .i64 k2, .int .i64 k3, .bool s, .int .u64 h, .int .u64 l, .int .u16 p, .int .u8 q, .int .i64 y, .slice A4 ml.length c4, .int .i64 wh, .int .i64 tm, .int .u8 fg, .slice LA ld.length lc, .int .u32 n, .int .u32 x, .int .u32 v, .bool sa, .int .u64 ha, .int .u64 la, .int .u16 pa]) ∧ MOk w' A4 c4 ml) ∧ Below w.heap.size w w' := by
  have HL70 := Lib.hid hl
  have HMC := Lib.hid (show ml.length ≤ mc ∧ mc ≤ maxLen from ⟨hm.1, hm.2.1⟩)
  have HE := Lib.hid hm.2.2
  clear hm hl
  go_enter Tryd.func9, Tryd.ntmps9
  go_upto_region 1 with fail
  obtain ⟨w1, hw1⟩ : ∃ w1 : World, w1 = (w.alloc (.cells #[.int .i64 K, .int .i64 k0, .int .i64 k1, .int .i64 k2, .int .i64 k3, .bool s, .int .u64 h, .int .u64 l, .int .u16 p, .int .u8 q, .int .i64 y, .slice MA ml.length mc, .int .i64 wh, .int .i64 tm, .int .u8 fg, .slice LA ld.length lc, .int .u32 n, .int .u32 x, .int .u32 v, .bool sa, .int .u64 ha, .int .u64 la, .int .u16 pa] 41)).alloc (.cells #[.int .i64 0, .int .i64 0, .int .i64 0, .int .i64 0, .int .i64 0, .bool false, .int .u64 0, .int .u64 0, .int .u16 0, .int .u8 0, .int .i64 0, .slice none 0 0, .int .i64 0, .int .i64 0, .int .u8 0, .slice none 0 0, .int .u32 0, .int .u32 0, .int .u32 0, .bool false, .int .u64 0, .int .u64 0, .int .u16 0] 49) := ⟨_, rfl⟩
  have HX := Lib.hid (show Blk w1 w.heap.size 41 #[.int .i64 K, .int .i64 k0, .int .i64 k1, .int .i64 k2, .int .i64 k3, .bool s, .int .u64 h, .int .u64 l, .int .u16 p, .int .u8 q, .int .i64 y, .slice MA ml.length mc, .int .i64 wh, .int .i64 tm, .int .u8 fg, .slice LA ld.length lc, .int .u32 n, .int .u32 x, .int .u32 v, .bool sa, .int .u64 ha, .int .u64 la, .int .u16 pa] by rw [hw1]; exact (Blk.new _ _ _).alloc _)
  have HRR := Lib.hid (show Blk w1 (w.heap.size + 1) 49 #[.int .i64 0, .int .i64 0, .int .i64 0, .int .i64 0, .int .i64 0, .bool false, .int .u64 0, .int .u64 0, .int .u16 0, .int .u8 0, .int .i64 0, .slice none 0 0, .int .i64 0, .int .i64 0, .int .u8 0, .slice none 0 0, .int .u32 0, .int .u32 0, .int .u32 0, .bool false, .int .u64 0, .int .u64 0, .int .u16 0] by rw [hw1]; exact Blk.new_ (by simp) _ _)
  have HW := Lib.hid (show Below w.heap.size w w1 by rw [hw1]; exact bel_two)
  have HK1 := Lib.hid (show Kept (fun _ => False) w w1 by rw [hw1]; exact ((Kept.refl _ _).alloc _).alloc _)
  rw [← hw1]
  clear hw1
  obtain ⟨rb, hrb⟩ : ∃ rb, w.heap.size + 1 = rb := ⟨_, rfl⟩
  have HRB := Lib.hid hrb
  rw [hrb] at HRR ⊢
  obtain ⟨xb, hxb⟩ : ∃ xb, w.heap.size = xb := ⟨_, rfl⟩
  rw [hxb] at HX ⊢
  clear hrb hxb
  have cx := HX.out.cell
  have xlt := HX.out.lt
  have ce0 := cx 0
  have ce1 := cx 1
  have ce2 := cx 2
  have ce3 := cx 3
  have ce4 := cx 4
  have ce5 := cx 5
  have ce6 := cx 6
  have ce7 := cx 7
  have ce8 := cx 8
  have ce9 := cx 9
  have ce10 := cx 10
  have ce11 := cx 11
  have ce12 := cx 12
  have ce13 := cx 13
  have ce14 := cx 14
  have ce15 := cx 15
  have ce16 := cx 16
  have ce17 := cx 17
  have ce18 := cx 18
  have ce19 := cx 19
  have ce20 := cx 20
  have ce21 := cx 21
  have ce22 := cx 22
  simp at ce0 ce1 ce2 ce3 ce4 ce5 ce6 ce7 ce8 ce9 ce10 ce11 ce12 ce13 ce14 ce15 ce16 ce17 ce18 ce19 ce20 ce21 ce22
  refine wp_region_kept 24 [(4, fun v u => ∃ A c, v = .agg #[.int .i64 k0, .int .i64 k1, .int .i64 k2, .int .i64 k3, .bool s, .int .u64 h, .int .u64 l, .int .u16 p, .int .u8 q, .int .i64 y, .slice A ml.length c] ∧ MOk u A c ml ∧ ∀ p, A = some p → w1.heap.size ≤ p.block)] ?st ?ne rfl (by kernel_rfl) (by kernel_rfl) ?_
  case st =>
    intro p hp
    simp only [List.mem_cons, List.not_mem_nil, or_false] at hp
    subst hp
    · rintro v u u' ⟨A, c, rfl, ⟨h1, h2, h3⟩, h4⟩ hk; exact ⟨A, c, rfl, ⟨h1, h2, h3.on hk (fun _ _ h => h)⟩, h4⟩
  case ne =>
    intro p hp
    simp only [List.mem_cons, List.not_mem_nil, or_false] at hp
    subst hp
    · exact ⟨_, _, (Kept.refl _ _).alloc (.cells (ml.map Mb.cs).flatten.toArray 83), some ⟨w1.heap.size, 0, none⟩, ml.length, rfl, ⟨Nat.le_refl _, (by have := HL70.out; unfold maxLen; omega), .inr ⟨_, 0, (by simp), rfl, ElAt.of_blk (Blk.new _ _ _) (sz_map Mb.cs_len _) (by simp)⟩⟩, fun p e => by injection e with e; subst e; exact Nat.le_refl _⟩
  simp only [List.take_succ_cons, List.take_zero, List.drop_succ_cons, List.drop_zero]
  intro G pick hR hp1 hp2
  have p0 : ∀ u, (pick u).cell? ⟨xb, 0, none⟩ = some (.int .i64 K) := fun u => ((hp1 u).cell xlt (fun h => h) _).trans ce0
  have p1 : ∀ u, (pick u).cell? ⟨xb, 1, none⟩ = some (.int .i64 k0) := fun u => ((hp1 u).cell xlt (fun h => h) _).trans ce1
  have p2 : ∀ u, (pick u).cell? ⟨xb, 2, none⟩ = some (.int .i64 k1) := fun u => ((hp1 u).cell xlt (fun h => h) _).trans ce2
  have p3 : ∀ u, (pick u).cell? ⟨xb, 3, none⟩ = some (.int .i64 k2) := fun u => ((hp1 u).cell xlt (fun h => h) _).trans ce3
  have p4 : ∀ u, (pick u).cell? ⟨xb, 4, none⟩ = some (.int .i64 k3) := fun u => ((hp1 u).cell xlt (fun h => h) _).trans ce4
  have p5 : ∀ u, (pick u).cell? ⟨xb, 5, none⟩ = some (.bool s) := fun u => ((hp1 u).cell xlt (fun h => h) _).trans ce5
  have p6 : ∀ u, (pick u).cell? ⟨xb, 6, none⟩ = some (.int .u64 h) := fun u => ((hp1 u).cell xlt (fun h => h) _).trans ce6
  have p7 : ∀ u, (pick u).cell? ⟨xb, 7, none⟩ = some (.int .u64 l) := fun u => ((hp1 u).cell xlt (fun h => h) _).trans ce7
  have p8 : ∀ u, (pick u).cell? ⟨xb, 8, none⟩ = some (.int .u16 p) := fun u => ((hp1 u).cell xlt (fun h => h) _).trans ce8
  have p9 : ∀ u, (pick u).cell? ⟨xb, 9, none⟩ = some (.int .u8 q) := fun u => ((hp1 u).cell xlt (fun h => h) _).trans ce9
  have p10 : ∀ u, (pick u).cell? ⟨xb, 10, none⟩ = some (.int .i64 y) := fun u => ((hp1 u).cell xlt (fun h => h) _).trans ce10
  have p11 : ∀ u, (pick u).cell? ⟨xb, 11, none⟩ = some (.slice MA ml.length mc) := fun u => ((hp1 u).cell xlt (fun h => h) _).trans ce11
  have p12 : ∀ u, (pick u).cell? ⟨xb, 12, none⟩ = some (.int .i64 wh) := fun u => ((hp1 u).cell xlt (fun h => h) _).trans ce12
  have p13 : ∀ u, (pick u).cell? ⟨xb, 13, none⟩ = some (.int .i64 tm) := fun u => ((hp1 u).cell xlt (fun h => h) _).trans ce13
  have p14 : ∀ u, (pick u).cell? ⟨xb, 14, none⟩ = some (.int .u8 fg) := fun u => ((hp1 u).cell xlt (fun h => h) _).trans ce14
  have p15 : ∀ u, (pick u).cell? ⟨xb, 15, none⟩ = some (.slice LA ld.length lc) := fun u => ((hp1 u).cell xlt (fun h => h) _).trans ce15
  have p16 : ∀ u, (pick u).cell? ⟨xb, 16, none⟩ = some (.int .u32 n) := fun u => ((hp1 u).cell xlt (fun h => h) _).trans ce16
  have p17 : ∀ u, (pick u).cell? ⟨xb, 17, none⟩ = some (.int .u32 x) := fun u => ((hp1 u).cell xlt (fun h => h) _).trans ce17
  have p18 : ∀ u, (pick u).cell? ⟨xb, 18, none⟩ = some (.int .u32 v) := fun u => ((hp1 u).cell xlt (fun h => h) _).trans ce18
  have p19 : ∀ u, (pick u).cell? ⟨xb, 19, none⟩ = some (.bool sa) := fun u => ((hp1 u).cell xlt (fun h => h) _).trans ce19
  have p20 : ∀ u, (pick u).cell? ⟨xb, 20, none⟩ = some (.int .u64 ha) := fun u => ((hp1 u).cell xlt (fun h => h) _).trans ce20
  have p21 : ∀ u, (pick u).cell? ⟨xb, 21, none⟩ = some (.int .u64 la) := fun u => ((hp1 u).cell xlt (fun h => h) _).trans ce21
  have p22 : ∀ u, (pick u).cell? ⟨xb, 22, none⟩ = some (.int .u16 pa) := fun u => ((hp1 u).cell xlt (fun h => h) _).trans ce22
  repeat (first | (refine wpR_det hp2 rfl ((hR.rel _).trans rfl) rfl ?_; intro K hK; go_big_quiet_op; go_big_quiet_on) | (refine wpR_ptr hp2 rfl ((hR.rel _).trans rfl) rfl rfl ?_; intro K hK; go_big_quiet_op; go_big_quiet_on) | (refine wpR_skip pick rfl ?_; intro K hK; go_big_quiet_op; go_big_quiet_on))
  refine wpR_rel pick rfl ((hR.rel _).trans rfl) ((hR.turns _).trans rfl) ?_ ?_
  · intro u hu
    have hk := hR.since hu.1
    have hks := hk.size
    have hz := op_any k0 k1 k2 k3 s h l p q y MA mc ml u HL70.out (HE.out.on (Kept.trans HK1.out hk) (fun _ _ h => h))
    unfold relAt
    go_simp
    refine hz.mono ?_
    rintro e w' ⟨⟨m, rfl, A', c', rfl, hm, hf⟩, hb'⟩
    exact ⟨_, rfl, hR.intoB hb', hR.put 0 rfl rfl ⟨A', c', rfl, hm, fun p e => Nat.le_trans hks (hf p e)⟩⟩
  intro v hv
  obtain ⟨u, _, hu⟩ := hv
  obtain ⟨A4, c4, rfl, -, -⟩ := hR.get 0 rfl hu
  clear hu
  intro K hK
  go_big_quiet_op
  go_big_quiet_on
  repeat (first | (refine wpR_det hp2 rfl ((hR.rel _).trans rfl) rfl ?_; intro K hK; go_big_quiet_op; go_big_quiet_on) | (refine wpR_ptr hp2 rfl ((hR.rel _).trans rfl) rfl rfl ?_; intro K hK; go_big_quiet_op; go_big_quiet_on) | (refine wpR_skip pick rfl ?_; intro K hK; go_big_quiet_op; go_big_quiet_on))
  refine wpR_nil ?_
  intro w2 hk2 hF hM
  have HT := Lib.hid ((hR.get 0 rfl (hF _ _ (Got.upd_self _ _ _))))
  have HR2 := Lib.hid (HRR.out.kept hk2 (fun h => h))
  have HW2 := Lib.hid (HW.out.trans (hk2.below HW.out.size (fun i h => h.elim)))
  have rlt := HR2.out.lt
  clear hF hM hk2 hp1 hp2 hR cx xlt ce0 p0 ce1 p1 ce2 p2 ce3 p3 ce4 p4 ce5 p5 ce6 p6 ce7 p7 ce8 p8 ce9 p9 ce10 p10 ce11 p11 ce12 p12 ce13 p13 ce14 p14 ce15 p15 ce16 p16 ce17 p17 ce18 p18 ce19 p19 ce20 p20 ce21 p21 ce22 p22
  refine wpList_store_mid rfl 49 (.tmp 2) (.tmp 26) rfl rb 0 #[.int .i64 K, .int .i64 k0, .int .i64 k1, .int .i64 k2, .int .i64 k3, .bool s, .int .u64 h, .int .u64 l, .int .u16 p, .int .u8 q, .int .i64 y, .slice A4 ml.length c4, .int .i64 wh, .int .i64 tm, .int .u8 fg, .slice LA ld.length lc, .int .u32 n, .int .u32 x, .int .u32 v, .bool sa, .int .u64 ha, .int .u64 la, .int .u16 pa] rfl rfl (HR2.out.there rfl) (by kernel_rfl) (by simp [Value.oneCell']) ?_
  have HK9 := Lib.hid (show Kept (fun i => i = rb) w2 (w2.setCells rb 0 (#[.int .i64 K, .int .i64 k0, .int .i64 k1, .int .i64 k2, .int .i64 k3, .bool s, .int .u64 h, .int .u64 l, .int .u16 p, .int .u8 q, .int .i64 y, .slice A4 ml.length c4, .int .i64 wh, .int .i64 tm, .int .u8 fg, .slice LA ld.length lc, .int .u32 n, .int .u32 x, .int .u32 v, .bool sa, .int .u64 ha, .int .u64 la, .int .u16 pa] : Array Value).toList) from Kept.setCells (S := fun i => i = rb) rfl _ _ (Kept.refl _ _))
  have HR9 := Lib.hid (HR2.out.setAll #[.int .i64 K, .int .i64 k0, .int .i64 k1, .int .i64 k2, .int .i64 k3, .bool s, .int .u64 h, .int .u64 l, .int .u16 p, .int .u8 q, .int .i64 y, .slice A4 ml.length c4, .int .i64 wh, .int .i64 tm, .int .u8 fg, .slice LA ld.length lc, .int .u32 n, .int .u32 x, .int .u32 v, .bool sa, .int .u64 ha, .int .u64 la, .int .u16 pa] rfl)
  generalize (World.setCells _ _ _ _) = w9 at HK9 HR9 ⊢
  go_wp2_with fail
  refine bodyPost_ret (results_blk1 (P := Tryd.prog) (show Tryd.f9.results = _ from rfl) _ _ rb 49 #[.int .i64 K, .int .i64 k0, .int .i64 k1, .int .i64 k2, .int .i64 k3, .bool s, .int .u64 h, .int .u64 l, .int .u16 p, .int .u8 q, .int .i64 y, .slice A4 ml.length c4, .int .i64 wh, .int .i64 tm, .int .u8 fg, .slice LA ld.length lc, .int .u32 n, .int .u32 x, .int .u32 v, .bool sa, .int .u64 ha, .int .u64 la, .int .u16 pa] _ rfl HR9.out Tryd.underlying49 rfl (by kernel_rfl)) rfl ⟨⟨A4, c4, rfl, ?_⟩, ?_⟩
  · obtain ⟨A', c', e, ⟨h1, h2, h3⟩, h4⟩ := HT.out
    obtain ⟨rfl, rfl⟩ : A4 = A' ∧ c4 = c' := by simpa using e
    refine ⟨h1, h2, ?_⟩
    rcases h3 with h3 | ⟨b, off, hb, rfl, he⟩
    · exact .inl h3
    · have hne : b ≠ rb := by
        have := h4 _ rfl
        have h5 := HRR.out.lt
        intro e
        subst e
        simp at this
        omega
      exact .inr ⟨b, off, by have := HK9.out.size; omega, rfl, he.keep (fun o => HK9.out.cell hb hne o)⟩
  · exact HW2.out.trans (HK9.out.below HW2.out.size (fun i e => by have := HRB.out; omega))
end Go.Proofs.YthfdhggcnkgjfaaDoor
