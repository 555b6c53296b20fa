/- The reference's Has, Cut, Send, Clear. -/
import Derived.Test.YtggipaengnchgaaH
import Derived.Test.YtggipaengnchgaaRowE
namespace Go.Proofs.Ytggipaengnchgaa
open Go.RowKit
set_option linter.unusedVariables false
theorem bel_two {w : World} {o o' : Obj} : Below w.heap.size w ((w.alloc o).alloc o') := ((Below.refl _ _).alloc (Nat.le_refl _) _).alloc (by simp) _
theorem rowN_is (H : Nat) (w : World) (L : List (List Value)) (hL : ∀ x ∈ L, x.length = 3) (hH : H ≤ w.heap.size) (hm : L.length ≤ maxLen) : RowN (w.alloc (.cells L.flatten.toArray 28)) H 28 3 (.slice (some ⟨w.heap.size, 0, none⟩) L.length L.length) L :=
  RowN.of_blk (Blk.new _ _ _) hH hm hL (by simp) rfl
theorem refHas_any (most lost : Int) (A : Option Addr) (n c : Nat) (i : Int) (w : World) (hn : n ≤ 1000) : Calls Try.prog 12 #[.agg #[.int .i64 most, .slice A n c, .int .i64 lost], .int .i64 i] w fun e w' => e = .returned (.bool (decide (0 ≤ i) && decide (i < (n : Int)))) ∧ Below w.heap.size w w' := by
  by_cases h0 : 0 ≤ i
  · by_cases h1 : i < (n : Int)
    · go_enter Try.func12, Try.ntmps12
      go_wp2_with fail
      go_ret
      exact ⟨ret_bool (by simp [h0, h1]), (Below.refl _ _).alloc (Nat.le_refl _) _⟩
    · have d1 : decide (i < (n : Int)) = false := decide_eq_false h1
      go_enter Try.func12, Try.ntmps12
      go_wp2_with fail
      go_ret
      exact ⟨ret_bool (by simp), (Below.refl _ _).alloc (Nat.le_refl _) _⟩
  · have d0 : decide (0 ≤ i) = false := decide_eq_false h0
    go_enter Try.func12, Try.ntmps12
    go_wp2_with fail
    go_ret
    exact ⟨ret_bool (by simp), (Below.refl _ _).alloc (Nat.le_refl _) _⟩
/-- What a call of the reference hands back. -/
def RefP (most lost : Int) (M' : List LeV) (w : World) (e : Ending) (w' : World) : Prop := ∃ A n c, e = .returned (.agg #[.int .i64 most, .slice A n c, .int .i64 lost]) ∧ RowN w' w.heap.size 28 3 (.slice A n c) (M'.map LeV.cs) ∧ Below w.heap.size w w'
def RefP2 (most lost f : Int) (M' : List LeV) (w : World) (e : Ending) (w' : World) : Prop := ∃ A n c, e = .returned (.tuple #[.agg #[.int .i64 most, .slice A n c, .int .i64 lost], .int .i64 f]) ∧ RowN w' w.heap.size 28 3 (.slice A n c) (M'.map LeV.cs) ∧ Below w.heap.size w w'
set_option maxHeartbeats 2000000 in
theorem refCut_any (A : Option Addr) (c : Nat) (M : List LeV) (i : Nat) (most lost : Int) (w : World) (hi : i < M.length) (hl : M.length ≤ 1000) (hc : M.length ≤ c) (hcm : c ≤ maxLen) (hE : ES w w.heap.size A 3 (M.map LeV.cs)) :
    Calls Try.prog 13 #[.agg #[.int .i64 most, .slice A M.length c, .int .i64 lost], .int .i64 (i : Int)] w (RefP most lost (M.eraseIdx i) w) := by
  obtain ⟨b, o, hb, rfl, hel⟩ := hE.at (k := i) (by simpa using hi)
  unfold maxLen at hcm
  have HE := Lib.hid hel
  have hinf := Try.infoLeV
  clear hE hel
  have iI : (i : Int) < (M.length : Int) := by omega
  have i1I : (i : Int) + 1 ≤ (M.length : Int) := by omega
  have icI : (i : Int) ≤ (c : Int) := by omega
  have mcI : (M.length : Int) ≤ (c : Int) := by omega
  have hwr : IntKind.i64.wrap ((i : Int) + 1) = (i : Int) + 1 := IntWalk.i64_in _ (by omega)
  have h01 : 0 ≤ (i : Int) + 1 := by omega
  have htn : ((i : Int) + 1).toNat = i + 1 := by omega
  have HWR := Lib.hid hwr
  have HTN := Lib.hid htn
  clear hwr htn
  go_enter Try.func13, Try.ntmps13
  go_upto_region 1 with fail
  obtain ⟨w2, hw2⟩ : ∃ w2 : World, w2 = (w.alloc (.cells #[.int .i64 most, .slice (some ⟨b, o, none⟩) M.length c, .int .i64 lost] 40)).alloc (.cells #[.int .i64 0, .slice none 0 0, .int .i64 0] 40) := ⟨_, rfl⟩
  have HB2 := Lib.hid (show Below w.heap.size w w2 by rw [hw2]; exact bel_two)
  have HX := Lib.hid (show Blk w2 w.heap.size 40 #[.int .i64 most, .slice (some ⟨b, o, none⟩) M.length c, .int .i64 lost] by rw [hw2]; exact (Blk.new _ _ _).alloc _)
  have HY := Lib.hid (show Blk w2 (w.heap.size + 1) 40 #[.int .i64 0, .slice none 0 0, .int .i64 0] by rw [hw2]; exact Blk.new_ (by simp) _ _)
  rw [← hw2]
  have hz2 : w.heap.size + 2 = w2.heap.size := by rw [hw2]; simp
  clear hw2
  have HE2 := Lib.hid (HE.out.keep (fun o => HB2.out.cell (p := ⟨b, o, none⟩) hb))
  obtain ⟨H, hH0⟩ : ∃ H, w.heap.size = H := ⟨_, rfl⟩
  rw [hH0] at hb hz2 HX HY HB2 ⊢
  have hH : H ≤ w2.heap.size := by omega
  have r0 := HX.out.cell 0
  have r1 := HX.out.cell 1
  have r2 := HX.out.cell 2
  simp at r0 r1 r2
  have rlt := HX.out.lt
  have blt : b < w2.heap.size := by omega
  have hwr := HWR.out
  have htn := HTN.out
  refine wp_region_kept 11 [(0, fun v u => ∃ g, v = .slice (some ⟨g, 0, none⟩) 0 0 ∧ RowN u H 28 3 v []), (5, fun v u => RowN u H 28 3 v ((M.take i).map LeV.cs)), (10, fun v u => ∃ A' c', v = .slice A' (M.length - (i + 1)) c' ∧ ES u u.heap.size A' 3 ((M.drop (i + 1)).map LeV.cs))] ?st ?ne rfl (by kernel_rfl) (by kernel_rfl) ?_
  case st =>
    intro p hp
    simp only [List.mem_cons, List.not_mem_nil, or_false] at hp
    rcases hp with rfl | rfl | rfl
    · rintro v u u' ⟨g, rfl, h⟩ hk; exact ⟨g, rfl, h.kept hk (fun _ _ h => h)⟩
    · intro v u u' h hk; exact h.kept hk (fun _ _ h => h)
    · rintro v u u' ⟨A', c', rfl, h⟩ hk; exact ⟨A', c', rfl, h.on hk (fun _ _ h => h)⟩
  case ne =>
    intro p hp
    simp only [List.mem_cons, List.not_mem_nil, or_false] at hp
    rcases hp with rfl | rfl | rfl
    · exact ⟨_, _, (Kept.refl _ _).alloc _, _, rfl, RowN.lit _ _ hH⟩
    · exact ⟨_, _, (Kept.refl _ _).alloc _, rowN_is H w2 ((M.take i).map LeV.cs) (sz_map LeV.cs_len _) hH (by simp; unfold maxLen; omega)⟩
    · exact ⟨_, _, (Kept.refl _ _).alloc _, some ⟨w2.heap.size, 0, none⟩, 0, rfl, .inr ⟨w2.heap.size, 0, by simp, rfl, ElAt.of_blk (cs := ((M.drop (i + 1)).map LeV.cs).flatten.toArray) (t := 28) (Blk.new _ _ _) (sz_map LeV.cs_len _) (by simp)⟩⟩
  simp only [List.take_succ_cons, List.take_zero, List.drop_succ_cons, List.drop_zero]
  intro G pick hR hp1 hp2
  have p0 : ∀ u, (pick u).cell? ⟨H, 0, none⟩ = some (.int .i64 most) := fun u => ((hp1 u).cell rlt (fun h => h) _).trans r0
  have p1 : ∀ u, (pick u).cell? ⟨H, 1, none⟩ = some (.slice (some ⟨b, o, none⟩) M.length c) := fun u => ((hp1 u).cell rlt (fun h => h) _).trans r1
  have p2 : ∀ u, (pick u).cell? ⟨H, 2, none⟩ = some (.int .i64 lost) := fun u => ((hp1 u).cell rlt (fun h => h) _).trans r2
  repeat (first | (refine wpR_det hp2 rfl ((hR.rel _).trans rfl) rfl ?_; intro K hK; go_big_quiet_op; go_big_quiet_on) | (refine wpR_ptr hp2 rfl ((hR.rel _).trans rfl) rfl rfl ?_; intro K hK; go_big_quiet_op; go_big_quiet_on) | (refine wpR_skip pick rfl ?_; intro K hK; go_big_quiet_op; go_big_quiet_on))
  refine wpR_rel pick rfl ((hR.rel _).trans rfl) ((hR.turns _).trans rfl) ?_ ?_
  · intro u hu
    have hk := hR.since hu.1
    have hks := hk.size
    unfold relAt
    go_simp
    exact ⟨hR.into0 ((Kept.refl _ _).alloc _), hR.put 0 rfl rfl ⟨_, rfl, RowN.lit _ _ (Nat.le_trans hH hks)⟩⟩
  intro v hv
  obtain ⟨u, _, hu⟩ := hv
  obtain ⟨g0, rfl, -⟩ := hR.get 0 rfl hu
  clear hu
  intro K hK
  go_big_quiet_op
  go_big_quiet_on
  repeat (first | (refine wpR_det hp2 rfl ((hR.rel _).trans rfl) rfl ?_; intro K hK; go_big_quiet_op; go_big_quiet_on) | (refine wpR_ptr hp2 rfl ((hR.rel _).trans rfl) rfl rfl ?_; intro K hK; go_big_quiet_op; go_big_quiet_on) | (refine wpR_skip pick rfl ?_; intro K hK; go_big_quiet_op; go_big_quiet_on))
  refine wpR_rel pick rfl ((hR.rel _).trans rfl) ((hR.turns _).trans rfl) ?_ ?_
  · intro u hu
    have hk := hR.since hu.1
    have hks := hk.size
    obtain ⟨g0', e, h0⟩ := (hR.get 0 rfl (hu.2 _ _ (Got.upd_self _ _ _) (by kernel_rfl)))
    injection e with e
    injection e with e
    injection e with e
    subst e
    refine relAt_append_emptyN (.tmp 5) (.tmp 9) 22 rfl H 28 (.agg #[.int .i64 0, .bool false, .slice none 0 0]) 3 40 Try.underlying22 hinf rfl (by omega) g0 rfl (some ⟨b, o, none⟩) i c ((M.take i).map LeV.cs) rfl ?me5 h0 (sz_map LeV.cs_len _) ?se5 ?le5 ?be5 ?he5 ?_
    case me5 => simp; omega
    case se5 => exact .inr ⟨_, rfl, fun j u hu => by rw [Addr.add_lit]; have := ((HE2.out.take i).keep (w' := _) (fun o => hk.cell blt (fun h => h) o)).2 j u (by simpa [List.map_take] using hu); exact this⟩
    case le5 => simp; unfold maxLen; omega
    case be5 => simp; omega
    case he5 => omega
    intro v' w' h1 h2 _
    exact ⟨hR.intoB h2, hR.put 1 rfl rfl h1⟩
  intro v hv
  obtain ⟨u, _, hu⟩ := hv
  obtain hT5 := hR.get 1 rfl hu
  clear hu
  intro K hK
  go_big_quiet_op
  go_big_quiet_on
  repeat (first | (refine wpR_det hp2 rfl ((hR.rel _).trans rfl) rfl ?_; intro K hK; go_big_quiet_op; go_big_quiet_on) | (refine wpR_ptr hp2 rfl ((hR.rel _).trans rfl) rfl rfl ?_; intro K hK; go_big_quiet_op; go_big_quiet_on) | (refine wpR_skip pick rfl ?_; intro K hK; go_big_quiet_op; go_big_quiet_on))
  refine wpR_rel pick rfl ((hR.rel _).trans rfl) ((hR.turns _).trans rfl) ?_ ?_
  · intro u hu
    have hk := hR.since hu.1
    have hks := hk.size
    unfold relAt
    go_simp
    refine ⟨hR.into0 (Kept.refl _ _), hR.put 2 rfl rfl ⟨_, _, rfl, ?_⟩⟩
    have hel' := HE2.out.keep (w' := u) (fun o => hk.cell blt (fun h => h) o)
    split
    · rw [show M.drop (i + 1) = [] from List.drop_eq_nil_of_le (by omega)]; exact .inl rfl
    · exact .inr ⟨b, o + (i + 1) * 3, by omega, rfl, by rw [List.map_drop]; exact hel'.drop (i + 1) (by simp; omega)⟩
  intro v hv
  obtain ⟨u, _, hu⟩ := hv
  obtain ⟨A', c', rfl, -⟩ := hR.get 2 rfl hu
  clear hu
  intro K hK
  go_big_quiet_op
  go_big_quiet_on
  repeat (first | (refine wpR_det hp2 rfl ((hR.rel _).trans rfl) rfl ?_; intro K hK; go_big_quiet_op; go_big_quiet_on) | (refine wpR_ptr hp2 rfl ((hR.rel _).trans rfl) rfl rfl ?_; intro K hK; go_big_quiet_op; go_big_quiet_on) | (refine wpR_skip pick rfl ?_; intro K hK; go_big_quiet_op; go_big_quiet_on))
  refine wpR_nil ?_
  intro w3 hk2 hF hM
  have HV := Lib.hid ((hR.get 1 rfl (hF _ _ (Got.upd_old (Got.upd_self _ _ _) rfl))))
  have HS := Lib.hid ((hR.get 2 rfl (hF _ _ (Got.upd_self _ _ _))))
  have HX3 := Lib.hid (HX.out.kept hk2 (fun h => h))
  have HY3 := Lib.hid (HY.out.kept hk2 (fun h => h))
  have HB3 := Lib.hid (HB2.out.trans (hk2.below hH (fun _ h => h.elim)))
  have hs3 := hk2.size
  obtain ⟨VA, vc, hve, -, -⟩ := HV.out.shape
  rw [List.length_map, List.length_take, Nat.min_eq_left (by omega)] at hve
  clear hF hM hk2 hp1 hp2 hR p0 p1 p2 r0 r1 r2 hwr htn HX HY
  subst hve
  obtain ⟨A'', c'', e, hS⟩ := HS.out
  injection e with e1 e2 e3
  subst e1
  have HSS := Lib.hid hS
  clear e2 e3 hS HS
  go_wp2_with (at_builtin; refine wpList_append_rowN rfl (.tmp 10) (.tmp 15) 22 rfl H 28 (.agg #[.int .i64 0, .bool false, .slice none 0 0]) 3 40 Try.underlying22 hinf rfl (by omega) _ ((M.take i).map LeV.cs) rfl A' (M.length - (i + 1)) c' ((M.drop (i + 1)).map LeV.cs) rfl ?a0 HV.out (sz_map LeV.cs_len _) HSS.out.src (levs_one _) ?a3 ?a4 ?a5 ?_)
  case a0 => simp
  case a3 => simp; unfold maxLen; omega
  case a4 => simp; omega
  case a5 => omega
  intro v5 w5 hr5 hg5 _
  replace hr5 : RowN w5 H 28 3 v5 ((M.eraseIdx i).map LeV.cs) := by
    rw [← take_drop_erase, List.map_append, List.map_take, List.map_drop]; exact hr5
  have hs5 := hg5.size
  obtain ⟨UA, uc, hue, -, -⟩ := hr5.shape
  rw [List.length_map] at hue
  subst hue
  have HR5 := Lib.hid hr5
  have HG5 := Lib.hid (show Kept (fun j => (Value.slice VA i vc).ownBlock = some j) w3 w5 from Kept.of_grown (S := fun j => (Value.slice VA i vc).ownBlock = some j) hg5 (fun j _ e => e.symm))
  have HX5 := Lib.hid (HX3.out.kept HG5.out (fun e => HV.out.ne HX3.out (by decide) e))
  have HY5 := Lib.hid (HY3.out.kept HG5.out (fun e => HV.out.ne HY3.out (by decide) e))
  have HB5 := Lib.hid (HB3.out.trans (HG5.out.below (by omega) (fun j e => (HV.out.lt j e).1)))
  clear hr5 hg5 HX3 HY3 HB3 HSS HG5
  have cx := HX5.out.cell
  have fx := HX5.out.frozen
  have lx := HX5.out.lt
  go_upto_region 2 with fail
  obtain ⟨ml, hml⟩ : ∃ ml, (M.eraseIdx i).length = ml := ⟨_, rfl⟩
  rw [hml] at HR5 ⊢
  obtain ⟨w6, hw6⟩ : ∃ w6 : World, w6 = w5.setCell ⟨H, 1, none⟩ (.slice UA ml uc) := ⟨_, rfl⟩
  have HX6 := Lib.hid (show Blk w6 H 40 #[.int .i64 most, .slice UA ml uc, .int .i64 lost] by rw [hw6]; exact HX5.out.set_to rfl)
  have HY6 := Lib.hid (show Blk w6 (H + 1) 40 #[.int .i64 0, .slice none 0 0, .int .i64 0] by rw [hw6]; exact HY5.out.far' (by omega))
  have HR6 := Lib.hid (show RowN w6 H 28 3 (.slice UA ml uc) ((M.eraseIdx i).map LeV.cs) by rw [hw6]; exact HR5.out.far (HR5.out.ne HX5.out (by decide)))
  have HB6 := Lib.hid (show Below H w w6 by rw [hw6]; exact HB5.out.setCell (Nat.le_refl _) _)
  rw [← hw6]
  clear hw6 hml cx fx lx HX5 HY5 HR5 HB5
  have cx := HX6.out.cell
  have lx := HX6.out.lt
  have cy := HY6.out.cell
  have fy := HY6.out.frozen
  have ly := HY6.out.lt
  go_wp2_with fail
  refine bodyPost_ret (results_blk1 (P := Try.prog) Try.results13 _ _ (H + 1) 40 #[.int .i64 most, .slice UA ml uc, .int .i64 lost] _ rfl ?_ Try.underlying40 rfl (by kernel_rfl)) rfl ⟨UA, ml, uc, rfl, ?_, ?_⟩
  · go_light
    exact ((HY6.out.set_ _ _).set_ _ _).set_to rfl
  · go_light
    rw [hH0]
    exact ((HR6.out.far (HR6.out.ne HY6.out (by decide))).far (HR6.out.ne HY6.out (by decide))).far (HR6.out.ne HY6.out (by decide))
  · go_light
    rw [hH0]
    exact ((HB6.out.setCell (Nat.le_succ H) _).setCell (Nat.le_succ H) _).setCell (Nat.le_succ H) _
set_option maxHeartbeats 2000000 in
theorem refSend_full (A : Option Addr) (n c : Nat) (most lost : Int) (w : World) (nd : Int) (bk : Bool) (XA : Option Addr) (xl xc : Nat) (hf : most ≤ (n : Int)) (hn : n ≤ 1000) (hlost : 0 ≤ lost ∧ lost ≤ 1000000000) :
    Calls Try.prog 16 #[.agg #[.int .i64 most, .slice A n c, .int .i64 lost], .agg #[.int .i64 nd, .bool bk, .slice XA xl xc]] w fun e w' => e = .returned (.tuple #[.agg #[.int .i64 most, .slice A n c, .int .i64 (lost + 1)], .int .i64 23]) ∧ Below w.heap.size w w' := by
  obtain ⟨l0, l1⟩ := hlost
  go_enter Try.func16, Try.ntmps16
  go_wp2_with fail
  refine bodyPost_ret (results_blk_tmp (P := Try.prog) Try.results16 _ _ (w.heap.size + 2) 40 #[.int .i64 most, .slice A n c, .int .i64 (lost + 1)] _ rfl ?_ Try.underlying40 rfl (by kernel_rfl)) rfl ⟨rfl, ?_⟩
  · go_light
    exact Blk.new_ (by simp) _ _
  · go_light
    exact bel_two.alloc (by simp; omega) _
set_option maxHeartbeats 2000000 in
theorem refSend_ok (A : Option Addr) (c : Nat) (M : List LeV) (most lost : Int) (w : World) (x : LeV) (hf : (M.length : Int) < most) (hl : M.length ≤ 1000) (hc : M.length ≤ c) (hcm : c ≤ maxLen) (hE : ES w w.heap.size A 3 (M.map LeV.cs)) :
    Calls Try.prog 16 #[.agg #[.int .i64 most, .slice A M.length c, .int .i64 lost], .agg #[.int .i64 x.node, .bool x.back, .slice x.b.A x.b.l.length x.b.c]] w (RefP2 most lost 0 (M ++ [x]) w) := by
  unfold maxLen at hcm
  have HE := Lib.hid hE
  have hinf := Try.infoLeV
  have HXC := Lib.hid (show LeV.cs x = [.int .i64 x.node, .bool x.back, .slice x.b.A x.b.l.length x.b.c] from rfl)
  obtain ⟨nd, bk, XA, xc, l⟩ := x
  obtain ⟨xl, hxl⟩ : ∃ xl, l.length = xl := ⟨_, rfl⟩
  simp only [hxl] at HXC ⊢
  have hd : decide (most ≤ (M.length : Int)) = false := decide_eq_false (by omega)
  clear hE hxl
  go_enter Try.func16, Try.ntmps16
  go_upto_region 4 with fail
  obtain ⟨w2, hw2⟩ : ∃ w2 : World, w2 = ((w.alloc (.cells #[.int .i64 most, .slice A M.length c, .int .i64 lost] 40)).alloc (.cells #[.int .i64 nd, .bool bk, .slice XA xl xc] 28)).alloc (.cells #[.int .i64 0, .slice none 0 0, .int .i64 0] 40) := ⟨_, rfl⟩
  have HB2 := Lib.hid (show Below w.heap.size w w2 by rw [hw2]; exact bel_two.alloc (by simp; omega) _)
  have HX := Lib.hid (show Blk w2 w.heap.size 40 #[.int .i64 most, .slice A M.length c, .int .i64 lost] by rw [hw2]; exact ((Blk.new _ _ _).alloc _).alloc _)
  have HU := Lib.hid (show Blk w2 (w.heap.size + 1) 28 #[.int .i64 nd, .bool bk, .slice XA xl xc] by rw [hw2]; exact (Blk.new_ (by simp) _ _).alloc _)
  have HY := Lib.hid (show Blk w2 (w.heap.size + 2) 40 #[.int .i64 0, .slice none 0 0, .int .i64 0] by rw [hw2]; exact Blk.new_ (by simp) _ _)
  rw [← hw2]
  have hz2 : w.heap.size + 3 = w2.heap.size := by rw [hw2]; simp
  clear hw2
  have HE2 := Lib.hid (HE.out.onB HB2.out (Nat.le_refl _))
  obtain ⟨H, hH0⟩ : ∃ H, w.heap.size = H := ⟨_, rfl⟩
  rw [hH0] at hz2 HX HY HU HB2 ⊢
  have hH : H ≤ w2.heap.size := by omega
  have r0 := HX.out.cell 0
  have r1 := HX.out.cell 1
  have r2 := HX.out.cell 2
  have x0 := HU.out.cell 0
  have x1 := HU.out.cell 1
  have x2 := HU.out.cell 2
  simp at r0 r1 r2 x0 x1 x2
  have rlt := HX.out.lt
  have xlt := HU.out.lt
  refine wp_region_kept 6 [(0, fun v u => ∃ g, v = .slice (some ⟨g, 0, none⟩) 0 0 ∧ RowN u H 28 3 v []), (3, fun v u => RowN u H 28 3 v ((M).map LeV.cs)), (5, fun v u => ∃ g, v = .slice (some ⟨g, 0, none⟩) 1 1 ∧ Blk u g 28 #[.int .i64 nd, .bool bk, .slice XA xl xc])] ?st ?ne rfl (by kernel_rfl) (by kernel_rfl) ?_
  case st =>
    intro p hp
    simp only [List.mem_cons, List.not_mem_nil, or_false] at hp
    rcases hp with rfl | rfl | rfl
    · rintro v u u' ⟨g, rfl, h⟩ hk; exact ⟨g, rfl, h.kept hk (fun _ _ h => h)⟩
    · intro v u u' h hk; exact h.kept hk (fun _ _ h => h)
    · rintro v u u' ⟨g, rfl, h⟩ hk; exact ⟨g, rfl, h.kept hk (fun h => h)⟩
  case ne =>
    intro p hp
    simp only [List.mem_cons, List.not_mem_nil, or_false] at hp
    rcases hp with rfl | rfl | rfl
    · exact ⟨_, _, (Kept.refl _ _).alloc _, _, rfl, RowN.lit _ _ hH⟩
    · exact ⟨_, _, (Kept.refl _ _).alloc _, rowN_is H w2 ((M).map LeV.cs) (sz_map LeV.cs_len _) hH (by simp; unfold maxLen; omega)⟩
    · exact ⟨_, _, (Kept.refl _ _).alloc _, _, rfl, Blk.new _ _ _⟩
  simp only [List.take_succ_cons, List.take_zero, List.drop_succ_cons, List.drop_zero]
  intro G pick hR hp1 hp2
  have p0 : ∀ u, (pick u).cell? ⟨H, 0, none⟩ = some (.int .i64 most) := fun u => ((hp1 u).cell rlt (fun h => h) _).trans r0
  have p1 : ∀ u, (pick u).cell? ⟨H, 1, none⟩ = some (.slice A M.length c) := fun u => ((hp1 u).cell rlt (fun h => h) _).trans r1
  have p2 : ∀ u, (pick u).cell? ⟨H, 2, none⟩ = some (.int .i64 lost) := fun u => ((hp1 u).cell rlt (fun h => h) _).trans r2
  have q0 : ∀ u, (pick u).cell? ⟨H + 1, 0, none⟩ = some (.int .i64 nd) := fun u => ((hp1 u).cell xlt (fun h => h) _).trans x0
  have q1 : ∀ u, (pick u).cell? ⟨H + 1, 1, none⟩ = some (.bool bk) := fun u => ((hp1 u).cell xlt (fun h => h) _).trans x1
  have q2 : ∀ u, (pick u).cell? ⟨H + 1, 2, none⟩ = some (.slice XA xl xc) := fun u => ((hp1 u).cell xlt (fun h => h) _).trans x2
  repeat (first | (refine wpR_det hp2 rfl ((hR.rel _).trans rfl) rfl ?_; intro K hK; go_big_quiet_op; go_big_quiet_on) | (refine wpR_ptr hp2 rfl ((hR.rel _).trans rfl) rfl rfl ?_; intro K hK; go_big_quiet_op; go_big_quiet_on) | (refine wpR_skip pick rfl ?_; intro K hK; go_big_quiet_op; go_big_quiet_on))
  refine wpR_rel pick rfl ((hR.rel _).trans rfl) ((hR.turns _).trans rfl) ?_ ?_
  · intro u hu
    have hk := hR.since hu.1
    have hks := hk.size
    unfold relAt
    go_simp
    exact ⟨hR.into0 ((Kept.refl _ _).alloc _), hR.put 0 rfl rfl ⟨_, rfl, RowN.lit _ _ (Nat.le_trans hH hks)⟩⟩
  intro v hv
  obtain ⟨u, _, hu⟩ := hv
  obtain ⟨g0, rfl, -⟩ := hR.get 0 rfl hu
  clear hu
  intro K hK
  go_big_quiet_op
  go_big_quiet_on
  repeat (first | (refine wpR_det hp2 rfl ((hR.rel _).trans rfl) rfl ?_; intro K hK; go_big_quiet_op; go_big_quiet_on) | (refine wpR_ptr hp2 rfl ((hR.rel _).trans rfl) rfl rfl ?_; intro K hK; go_big_quiet_op; go_big_quiet_on) | (refine wpR_skip pick rfl ?_; intro K hK; go_big_quiet_op; go_big_quiet_on))
  refine wpR_rel pick rfl ((hR.rel _).trans rfl) ((hR.turns _).trans rfl) ?_ ?_
  · intro u hu
    have hk := hR.since hu.1
    have hks := hk.size
    obtain ⟨g0', e, h0⟩ := (hR.get 0 rfl (hu.2 _ _ (Got.upd_self _ _ _) (by kernel_rfl)))
    injection e with e
    injection e with e
    injection e with e
    subst e
    refine relAt_append_emptyN (.tmp 17) (.tmp 19) 22 rfl H 28 (.agg #[.int .i64 0, .bool false, .slice none 0 0]) 3 40 Try.underlying22 hinf rfl (by omega) g0 rfl A M.length c ((M).map LeV.cs) rfl ?me3 h0 (sz_map LeV.cs_len _) ?se3 ?le3 ?be3 ?he3 ?_
    case me3 => simp
    case se3 => exact (HE2.out.on hk (fun _ _ h => h)).src
    case le3 => simp; unfold maxLen; omega
    case be3 => simp; omega
    case he3 => omega
    intro v' w' h1 h2 _
    exact ⟨hR.intoB h2, hR.put 1 rfl rfl h1⟩
  intro v hv
  obtain ⟨u, _, hu⟩ := hv
  obtain hT3 := hR.get 1 rfl hu
  clear hu
  intro K hK
  go_big_quiet_op
  go_big_quiet_on
  repeat (first | (refine wpR_det hp2 rfl ((hR.rel _).trans rfl) rfl ?_; intro K hK; go_big_quiet_op; go_big_quiet_on) | (refine wpR_ptr hp2 rfl ((hR.rel _).trans rfl) rfl rfl ?_; intro K hK; go_big_quiet_op; go_big_quiet_on) | (refine wpR_skip pick rfl ?_; intro K hK; go_big_quiet_op; go_big_quiet_on))
  refine wpR_rel pick rfl ((hR.rel _).trans rfl) ((hR.turns _).trans rfl) ?_ ?_
  · intro u hu
    have hk := hR.since hu.1
    have hks := hk.size
    unfold relAt
    go_simp
    exact ⟨hR.into0 ((Kept.refl _ _).alloc _), hR.put 2 rfl rfl ⟨_, rfl, Blk.new _ _ _⟩⟩
  intro v hv
  obtain ⟨u, _, hu⟩ := hv
  obtain ⟨g5, rfl, -⟩ := hR.get 2 rfl hu
  clear hu
  intro K hK
  go_big_quiet_op
  go_big_quiet_on
  repeat (first | (refine wpR_det hp2 rfl ((hR.rel _).trans rfl) rfl ?_; intro K hK; go_big_quiet_op; go_big_quiet_on) | (refine wpR_ptr hp2 rfl ((hR.rel _).trans rfl) rfl rfl ?_; intro K hK; go_big_quiet_op; go_big_quiet_on) | (refine wpR_skip pick rfl ?_; intro K hK; go_big_quiet_op; go_big_quiet_on))
  refine wpR_nil ?_
  intro w3 hk2 hF hM
  have HV := Lib.hid ((hR.get 1 rfl (hF _ _ (Got.upd_old (Got.upd_self _ _ _) rfl))))
  have HS := Lib.hid ((hR.get 2 rfl (hF _ _ (Got.upd_self _ _ _))))
  have HX3 := Lib.hid (HX.out.kept hk2 (fun h => h))
  have HY3 := Lib.hid (HY.out.kept hk2 (fun h => h))
  have HB3 := Lib.hid (HB2.out.trans (hk2.below hH (fun _ h => h.elim)))
  have hs3 := hk2.size
  obtain ⟨VA, vc, hve, -, -⟩ := HV.out.shape
  rw [List.length_map] at hve
  clear hF hM hk2 hp1 hp2 hR p0 p1 p2 q0 q1 q2 r0 r1 r2 x0 x1 x2 HX HY HU
  subst hve
  obtain ⟨g5', e, hS⟩ := HS.out
  injection e with e
  injection e with e
  injection e with e
  subst e
  have HSS := Lib.hid hS
  clear hS HS
  go_wp2_with (at_builtin; refine wpList_append_rowN rfl (.tmp 20) (.tmp 22) 22 rfl H 28 (.agg #[.int .i64 0, .bool false, .slice none 0 0]) 3 40 Try.underlying22 hinf rfl (by omega) _ (M.map LeV.cs) rfl (some ⟨g5, 0, none⟩) 1 1 [LeV.cs ⟨nd, bk, XA, xc, l⟩] rfl rfl HV.out (fun y hy => by simp at hy; subst hy; rfl) (Src.blk HSS.out (by rw [HXC.out]; rfl)) (lev_one _) ?a3 ?a4 ?a5 ?_)
  case a3 => unfold maxLen; omega
  case a4 => omega
  case a5 => omega
  intro v5 w5 hr5 hg5 _
  replace hr5 : RowN w5 H 28 3 v5 ((M ++ [(⟨nd, bk, XA, xc, l⟩ : LeV)]).map LeV.cs) := by
    rw [List.map_append]; exact hr5
  have hs5 := hg5.size
  obtain ⟨UA, uc, hue, -, -⟩ := hr5.shape
  rw [List.length_map, show (M ++ [(⟨nd, bk, XA, xc, l⟩ : LeV)]).length = M.length + 1 by simp] at hue
  subst hue
  have HR5 := Lib.hid hr5
  have HG5 := Lib.hid (show Kept (fun j => (Value.slice VA M.length vc).ownBlock = some j) w3 w5 from Kept.of_grown (S := fun j => (Value.slice VA M.length vc).ownBlock = some j) hg5 (fun j _ e => e.symm))
  have HX5 := Lib.hid (HX3.out.kept HG5.out (fun e => HV.out.ne HX3.out (by decide) e))
  have HY5 := Lib.hid (HY3.out.kept HG5.out (fun e => HV.out.ne HY3.out (by decide) e))
  have HB5 := Lib.hid (HB3.out.trans (HG5.out.below (by omega) (fun j e => (HV.out.lt j e).1)))
  clear hr5 hg5 HX3 HY3 HB3 HSS HG5
  have cx := HX5.out.cell
  have fx := HX5.out.frozen
  have lx := HX5.out.lt
  go_upto_region 5 with fail
  obtain ⟨ml, hml⟩ : ∃ ml, M.length + 1 = ml := ⟨_, rfl⟩
  rw [hml] at HR5 ⊢
  obtain ⟨w6, hw6⟩ : ∃ w6 : World, w6 = w5.setCell ⟨H, 1, none⟩ (.slice UA ml uc) := ⟨_, rfl⟩
  have HX6 := Lib.hid (show Blk w6 H 40 #[.int .i64 most, .slice UA ml uc, .int .i64 lost] by rw [hw6]; exact HX5.out.set_to rfl)
  have HY6 := Lib.hid (show Blk w6 (H + 2) 40 #[.int .i64 0, .slice none 0 0, .int .i64 0] by rw [hw6]; exact HY5.out.far' (by omega))
  have HR6 := Lib.hid (show RowN w6 H 28 3 (.slice UA ml uc) ((M ++ [(⟨nd, bk, XA, xc, l⟩ : LeV)]).map LeV.cs) by rw [hw6]; exact HR5.out.far (HR5.out.ne HX5.out (by decide)))
  have HB6 := Lib.hid (show Below H w w6 by rw [hw6]; exact HB5.out.setCell (Nat.le_refl _) _)
  rw [← hw6]
  clear hw6 hml cx fx lx HX5 HY5 HR5 HB5
  have cx := HX6.out.cell
  have lx := HX6.out.lt
  have cy := HY6.out.cell
  have fy := HY6.out.frozen
  have ly := HY6.out.lt
  go_wp2_with fail
  refine bodyPost_ret (results_blk_tmp (P := Try.prog) Try.results16 _ _ (H + 2) 40 #[.int .i64 most, .slice UA ml uc, .int .i64 lost] _ rfl ?_ Try.underlying40 rfl (by kernel_rfl)) rfl ⟨UA, ml, uc, rfl, ?_, ?_⟩
  · go_light
    exact ((HY6.out.set_ _ _).set_ _ _).set_to rfl
  · go_light
    rw [hH0]
    exact ((HR6.out.far (HR6.out.ne HY6.out (by decide))).far (HR6.out.ne HY6.out (by decide))).far (HR6.out.ne HY6.out (by decide))
  · go_light
    rw [hH0]
    exact ((HB6.out.setCell (show H ≤ H + 2 by omega) _).setCell (show H ≤ H + 2 by omega) _).setCell (show H ≤ H + 2 by omega) _
end Go.Proofs.Ytggipaengnchgaa
