/- Push and Pop of a pile. -/
import Derived.Test.YtikakdcjbnbacaaB
namespace Go.Proofs.Ytikakdcjbnbacaa
open Go.RowKit
set_option linter.unusedVariables false
def QOwn (qb : Nat) (v : Value) (i : Nat) : Prop := i = qb ∨ v.ownBlock = some i
/-- A queue in memory. -/
structure QuS (qb base : Nat) (v : Value) (H : List It) (w : World) : Prop where
  blk : Blk w qb 38 #[v]
  row : RowN w base 42 2 v (H.map It.cs)
  lo : base ≤ qb
/-- What a call on a queue leaves. -/
def QuP (qb base : Nat) (v : Value) (H : List It) (w w' : World) : Prop := ∃ v', QuS qb base v' H w' ∧ Kept (QOwn qb v) w w' ∧ ∀ g, v'.ownBlock = some g → v.ownBlock = some g ∨ w.heap.size ≤ g
theorem QuS.shape {qb base : Nat} {v : Value} {H : List It} {w : World} (h : QuS qb base v H w) : ∃ A c, v = .slice A H.length c ∧ H.length ≤ c ∧ c ≤ maxLen := by
  obtain ⟨A, c, hv, h1, h2⟩ := h.row.shape
  rw [List.length_map] at hv h1
  exact ⟨A, c, hv, h1, h2⟩
theorem QuS.ne {qb base : Nat} {v : Value} {H : List It} {w : World} (h : QuS qb base v H w) : v.ownBlock ≠ some qb := h.row.ne h.blk (by decide)
theorem QuS.on {qb base : Nat} {v : Value} {H : List It} {w w' : World} {S : Nat → Prop} (h : QuS qb base v H w) (hk : Kept S w w') (hS : ∀ i, QOwn qb v i → ¬ S i) : QuS qb base v H w' :=
  ⟨h.blk.kept hk (hS _ (.inl rfl)), h.row.kept hk (fun g hg => hS _ (.inr hg)), h.lo⟩
theorem QuS.on0 {qb base : Nat} {v : Value} {H : List It} {w w' : World} (h : QuS qb base v H w) (hk : Kept (fun _ => False) w w') : QuS qb base v H w' := h.on hk (fun _ _ h => h)
theorem QuS.lt {qb base : Nat} {v : Value} {H : List It} {w : World} (h : QuS qb base v H w) {i : Nat} (hi : QOwn qb v i) : base ≤ i ∧ i < w.heap.size := by
  rcases hi with rfl | hi
  · exact ⟨h.lo, h.blk.lt⟩
  · exact h.row.lt i hi
theorem QuP.bel {qb base : Nat} {v : Value} {H H' : List It} {w w' : World} (h : QuS qb base v H w) (hp : QuP qb base v H' w w') (hb : base ≤ w.heap.size) : Below base w w' := by
  obtain ⟨_, _, hk, _⟩ := hp
  exact hk.below hb (fun i hi => (h.lt hi).1)
theorem run_ta (v : Value) (w : World) : (Instr.typeAssert (.iface 42 v) 20 42 true).run Try.prog w = .ok (.tuple #[v, .bool true]) w := by kernel_rfl
set_option maxHeartbeats 2000000 in
theorem push_pile (qb base : Nat) (v : Value) (H : List It) (x : It) (w : World) (h : QuS qb base v H w) (hl : H.length ≤ 100000) (hb : base ≤ w.heap.size) :
    Calls Try.prog 56 #[.pointer (some ⟨qb, 0, none⟩), .iface 42 (.agg #[.int .u64 x.w, .int .i64 x.id])] w fun e w' => e = .returned (.tuple #[]) ∧ QuP qb base v (H ++ [x]) w w' := by
  obtain ⟨A, c, rfl, hc, hcm⟩ := h.shape
  unfold maxLen at hcm
  have HQ := Lib.hid h
  have hinf := Try.infoIt
  have hta := run_ta (.agg #[.int .u64 x.w, .int .i64 x.id])
  clear h
  go_enter Try.func56, Try.ntmps56
  go_upto_region 2 with fail
  obtain ⟨w1, hw1⟩ : ∃ w1 : World, w1 = w.alloc (.cells #[.int .u64 x.w, .int .i64 x.id] 42) := ⟨_, rfl⟩
  have HK1 := Lib.hid (show Kept (fun _ => False) w w1 by rw [hw1]; exact (Kept.refl _ _).alloc _)
  have HX1 := Lib.hid (show Blk w1 w.heap.size 42 #[.int .u64 x.w, .int .i64 x.id] by rw [hw1]; exact Blk.new _ _ _)
  rw [← hw1]
  clear hw1
  have hs1 := HK1.out.size
  have HQ1 := Lib.hid (HQ.out.on0 HK1.out)
  obtain ⟨xb, hxb⟩ : ∃ xb, w.heap.size = xb := ⟨_, rfl⟩
  rw [hxb] at HX1 ⊢
  have hxw : w.heap.size ≤ xb := by omega
  clear hxb
  have q0 := HQ1.out.blk.cell 0
  have x0 := HX1.out.cell 0
  have x1 := HX1.out.cell 1
  simp at q0 x0 x1
  have qlt := HQ1.out.blk.lt
  have xlt := HX1.out.lt
  have HSL := Lib.hid (fun i (h : (Value.slice A H.length c).ownBlock = some i) => (show i < w1.heap.size from (HQ1.out.row.lt i h).2))
  have HSQ := Lib.hid (show ¬ (Value.slice A H.length c).ownBlock = some qb from HQ1.out.ne)
  have HSX := Lib.hid (show ¬ (Value.slice A H.length c).ownBlock = some xb from fun e => by have := (HQ.out.row.lt xb e).2; omega)
  have HEX := Lib.hid (show ∃ v u, Kept (fun i => (Value.slice A H.length c).ownBlock = some i) w1 u ∧ RowN u base 42 2 v ((H ++ [x]).map It.cs) ∧ ∀ g, v.ownBlock = some g → (Value.slice A H.length c).ownBlock = some g ∨ w1.heap.size ≤ g from
    ⟨_, _, (Kept.refl _ _).alloc (.cells ((H ++ [x]).map It.cs).flatten.toArray 42), RowN.of_blk (n := H.length + 1) (Blk.new _ _ _) (by omega) (by unfold maxLen; omega) (sz_map It.cs_len _) (by simp) (by simp), fun g hg => by injection hg with hg; exact .inr (Nat.le_of_eq hg)⟩)
  refine wp_region_add 7 (fun i => (Value.slice A H.length c).ownBlock = some i) [6] [] [(5, fun v u => ∃ g, v = .slice (some ⟨g, 0, none⟩) 1 1 ∧ w1.heap.size ≤ g ∧ Blk u g 42 #[.int .u64 x.w, .int .i64 x.id]), (6, fun v u => RowN u base 42 2 v ((H ++ [x]).map It.cs) ∧ ∀ g, v.ownBlock = some g → (Value.slice A H.length c).ownBlock = some g ∨ w1.heap.size ≤ g)] ?st ?ne rfl (by kernel_rfl) (by kernel_rfl) (by kernel_rfl) ?_
  case st =>
    intro p hp
    simp only [List.mem_cons, List.not_mem_nil, or_false] at hp
    rcases hp with rfl | rfl
    · rintro v u u' ⟨g, rfl, h1, h⟩ hk; exact ⟨g, rfl, h1, h.kept hk (fun e => by have := HSL.out _ e; omega)⟩
    · intro v u u' h hk; exact ⟨h.1.kept hk (fun _ _ h => h), h.2⟩
  case ne =>
    intro p hp
    simp only [List.mem_cons, List.not_mem_nil, or_false] at hp
    rcases hp with rfl | rfl
    · exact ⟨_, _, (Kept.refl _ _).alloc _, _, rfl, Nat.le_refl _, Blk.new _ _ _⟩
    · exact HEX.out
  simp only [List.take_succ_cons, List.take_zero, List.drop_succ_cons, List.drop_zero]
  intro G pick hR hp1 hp2
  have p0 : ∀ u, (pick u).cell? ⟨qb, 0, none⟩ = some (.slice A H.length c) := fun u => ((hp1 u).cell qlt HSQ.out _).trans q0
  have p1 : ∀ u, (pick u).cell? ⟨xb, 0, none⟩ = some (.int .u64 x.w) := fun u => ((hp1 u).cell xlt HSX.out _).trans x0
  have p2 : ∀ u, (pick u).cell? ⟨xb, 1, none⟩ = some (.int .i64 x.id) := fun u => ((hp1 u).cell xlt HSX.out _).trans x1
  repeat (first | (refine wpR_det hp2 rfl ((hR.rel _).trans rfl) rfl ?_; intro K hK; go_big_quiet_op; go_big_quiet_on) | (refine wpR_ptr hp2 rfl ((hR.rel _).trans rfl) rfl rfl ?_; intro K hK; go_big_quiet_op; go_big_quiet_on) | (refine wpR_skip pick rfl ?_; intro K hK; go_big_quiet_op; go_big_quiet_on))
  refine wpR_rel pick rfl ((hR.rel _).trans rfl) ((hR.turns _).trans rfl) ?_ ?_
  · intro u hu
    have hk := hR.since hu.1
    have hks := hk.size
    unfold relAt
    go_simp
    exact ⟨hR.into0 ((Kept.refl _ _).alloc _), hR.put 0 rfl rfl ⟨_, rfl, hks, Blk.new _ _ _⟩⟩
  intro v hv
  obtain ⟨u, _, hu⟩ := hv
  obtain ⟨g5, rfl, hg5, -⟩ := hR.get 0 rfl hu
  clear hu
  intro K hK
  go_big_quiet_op
  go_big_quiet_on
  repeat (first | (refine wpR_det hp2 rfl ((hR.rel _).trans rfl) rfl ?_; intro K hK; go_big_quiet_op; go_big_quiet_on) | (refine wpR_ptr hp2 rfl ((hR.rel _).trans rfl) rfl rfl ?_; intro K hK; go_big_quiet_op; go_big_quiet_on) | (refine wpR_skip pick rfl ?_; intro K hK; go_big_quiet_op; go_big_quiet_on))
  refine wpR_turn pick rfl ((hR.rel _).trans rfl) ((hR.turns _).trans rfl) ((hR.adds _).trans rfl) ?_ ?_
  · intro u hu hM
    have hk := hR.since hu.1
    have hks := hk.size
    obtain ⟨g', e, -, hB6⟩ := (hR.get 0 rfl (hu.2 _ _ (Got.upd_self _ _ _) (by kernel_rfl)))
    obtain rfl : g5 = g' := by injection e with e; injection e with e; injection e
    have hK0 := hR.first hM
    have hR0 := HQ1.out.row.kept hK0 (fun _ _ h => h)
    refine relAt_append_rowN (.tmp 15) (.tmp 17) 36 rfl base 42 (.agg #[.int .u64 0, .int .i64 0]) 2 16 Try.underlying36 hinf rfl (by omega) _ (H.map It.cs) rfl (some ⟨g5, 0, none⟩) 1 1 [It.cs x] rfl rfl hR0 (fun y hy => by simp at hy; subst hy; rfl) (Src.blk hB6 rfl) (it_one x) ?_ ?_ ?_ ?_
    · first | (simp; unfold maxLen; omega) | (unfold maxLen; omega)
    · first | (simp; omega) | omega
    · omega
    · intro v' w' h1 h2 h3
      exact ⟨hR.into (kept_grown h2 (fun i e _ => e)), hR.put 1 rfl rfl ⟨by rw [List.map_append]; exact h1, fun g hg => by rcases h3 with h3 | h3; (left; exact h3.symm.trans hg); (right; have h4 := h3.symm.trans hg; injection h4 with h4; omega)⟩⟩
  intro v hv
  obtain ⟨u, _, hu⟩ := hv
  obtain ⟨hT6, -⟩ := hR.get 1 rfl hu
  clear hu
  obtain ⟨VA, vc, hve, -, -⟩ := hT6.shape
  rw [List.length_map, List.length_append, List.length_singleton] at hve
  subst hve
  clear hT6
  intro K hK
  go_big_quiet_op
  go_big_quiet_on
  repeat (first | (refine wpR_det hp2 rfl ((hR.rel _).trans rfl) rfl ?_; intro K hK; go_big_quiet_op; go_big_quiet_on) | (refine wpR_ptr hp2 rfl ((hR.rel _).trans rfl) rfl rfl ?_; intro K hK; go_big_quiet_op; go_big_quiet_on) | (refine wpR_skip pick rfl ?_; intro K hK; go_big_quiet_op; go_big_quiet_on))
  refine wpR_nil ?_
  intro w2 hk2 hF hM
  have HR5 := Lib.hid (hR.get 1 rfl hM).1
  have HOW := Lib.hid (hR.get 1 rfl hM).2
  have hs5 := hk2.size
  have HG5 := Lib.hid hk2
  have HB5 := Lib.hid (HQ1.out.blk.kept hk2 HQ1.out.ne)
  clear hF hM hk2 hp1 hp2 hR p0 p1 p2 q0 x0 x1 qlt xlt HQ1 HX1 HEX
  have cB := HB5.out.cell
  have fB := HB5.out.frozen
  have lB := HB5.out.lt
  go_wp2_with fail
  go_end0
  go_light
  refine ⟨rfl, _, ⟨HB5.out.set_to rfl, HR5.out.far (HR5.out.ne HB5.out (by decide)), HQ.out.lo⟩, ?_, fun g hg => (HOW.out g hg).imp id (fun h => by omega)⟩
  refine Kept.setIn (S := QOwn qb (.slice A H.length c)) (.inl rfl) ?_
  exact (HK1.out.mono (fun _ _ h => h.elim)).trans (HG5.out.mono (fun _ _ h => .inr h))
set_option maxHeartbeats 2000000 in
theorem pop_pile (qb base : Nat) (v : Value) (H : List It) (x : It) (w : World) (h : QuS qb base v (H ++ [x]) w) (hl : H.length ≤ 100000) (hb : base ≤ w.heap.size) :
    Calls Try.prog 55 #[.pointer (some ⟨qb, 0, none⟩)] w fun e w' => e = .returned (.iface 42 (.agg #[.int .u64 x.w, .int .i64 x.id])) ∧ QuP qb base v H w w' := by
  obtain ⟨A, c, rfl, hc, hcm⟩ := h.shape
  unfold maxLen at hcm
  have hln : (H ++ [x]).length = H.length + 1 := by simp
  have hi : H.length < (H ++ [x]).length := by omega
  obtain ⟨g, c', e, -, hgl, hel⟩ := h.row.at (i := H.length) (by simp)
  obtain ⟨c0, c1⟩ := it_cells hel hi
  rw [show (H ++ [x])[H.length] = x by simp] at c0 c1
  injection e with e1 e2 e3
  subst e1
  simp only [Nat.zero_add] at c0 c1
  have hcut := h.row.cut H.length (by simp)
  have HT := Lib.hid (show ((H ++ [x]).map It.cs).take H.length = H.map It.cs by rw [← List.map_take, List.take_left])
  have HCUT := Lib.hid hcut
  have HQ := Lib.hid h
  have q0 := h.blk.cell
  have qf := h.blk.frozen
  have qlt := h.blk.lt
  rw [hln] at hc q0 ⊢
  have HLN := Lib.hid hln
  clear h hel hcut e2 e3 hln hi
  have h1 : (H.length : Int) ≤ (c : Int) := by omega
  go_enter Try.func55, Try.ntmps55
  go_wp2_with fail
  go_ret
  go_light
  have hR1 := HCUT.out
  rw [HT.out] at hR1
  have hneq : (Value.slice (some ⟨g, 0, none⟩) H.length c).ownBlock ≠ some qb := fun e => HQ.out.ne e
  refine ⟨rfl, _, ⟨(HQ.out.blk.set_to rfl).alloc _, (hR1.far hneq).alloc _, HQ.out.lo⟩, ?_, fun g' hg => .inl hg⟩
  exact (Kept.setIn (S := QOwn qb _) (.inl rfl) (Kept.refl _ _)).alloc _
end Go.Proofs.Ytikakdcjbnbacaa
