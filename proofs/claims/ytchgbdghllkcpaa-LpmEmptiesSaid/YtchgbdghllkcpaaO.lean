/- The reference's Set and Drop. -/
import Derived.Test.YtchgbdghllkcpaaL
namespace Go.Proofs.Ytchgbdghllkcpaa
open Go.RowKit
set_option linter.unusedVariables false
theorem rowE_is (H : Nat) (w : World) (L : List (List Value)) (hL : ∀ x ∈ L, x.length = 5) (hH : H ≤ w.heap.size) (hm : L.length ≤ maxLen) : RowN (w.alloc (.cells L.flatten.toArray 42)) H 42 5 (.slice (some ⟨w.heap.size, 0, none⟩) L.length L.length) L :=
  RowN.of_blk (Blk.new _ _ _) hH hm hL (by simp) rfl
theorem es_slice {w : World} {B : Nat} {b o : Nat} {l : List En} {k : Nat} (h : ElAt w b o 5 (l.map En.cs)) (hb : b < B) (hk : k ≤ l.length) : ES w B (some ⟨b, o + k * 5, none⟩) 5 ((l.drop k).map En.cs) :=
  .inr ⟨b, o + k * 5, hb, rfl, by rw [List.map_drop]; exact h.drop k (by simpa using hk)⟩
def OwnE (l : List En) (z : Int) (w : World) (e : Ending) (w' : World) : Prop := ∃ A c, e = .returned (.tuple #[.slice A l.length c, .int .i64 z]) ∧ RowN w' w.heap.size 42 5 (.slice A l.length c) (l.map En.cs) ∧ Below w.heap.size w w'
theorem RowN.set5 {w : World} {base g k : Nat} {v : Value} {l : List En} (h : RowN w base 42 5 v (l.map En.cs)) (hg : v.ownBlock = some g) (hk : k < l.length) (x : En) :
    RowN (((((w.setCell ⟨g, k * 5, none⟩ (.bool x.a.six)).setCell ⟨g, k * 5 + 1, none⟩ (.int .u64 (x.a.hi : Int))).setCell ⟨g, k * 5 + 2, none⟩ (.int .u64 (x.a.lo : Int))).setCell ⟨g, k * 5 + 3, none⟩ (.int .i64 x.n)).setCell ⟨g, k * 5 + 4, none⟩ (.int .i64 x.v)) base 42 5 v ((l.set k x).map En.cs) := by
  have hk' : k < (l.map En.cs).length := by simpa using hk
  have h1 := h.set hg k hk' 0 (by omega) (.bool x.a.six)
  have h2 := h1.set hg k (by simpa using hk) 1 (by omega) (.int .u64 (x.a.hi : Int))
  have h3 := h2.set hg k (by simpa using hk) 2 (by omega) (.int .u64 (x.a.lo : Int))
  have h4 := h3.set hg k (by simpa using hk) 3 (by omega) (.int .i64 x.n)
  have h5 := h4.set hg k (by simpa using hk) 4 (by omega) (.int .i64 x.v)
  simp only [List.getElem_set_self, List.set_set, Nat.add_zero] at h5
  have e : (l.map En.cs).set k ((((((l.map En.cs)[k].set 0 (.bool x.a.six)).set 1 (.int .u64 (x.a.hi : Int))).set 2 (.int .u64 (x.a.lo : Int))).set 3 (.int .i64 x.n)).set 4 (.int .i64 x.v)) = (l.set k x).map En.cs := by
    rw [List.map_set]
    congr 1
    simp [En.cs]
  rw [← e]
  exact h5
set_option maxHeartbeats 4000000 in
theorem refSet_no (A : Option Addr) (c : Nat) (l : List En) (x : En) (w : World) (hw : x.a.wf) (hP : ¬ rightP x.a x.n) :
    Calls Try.prog 29 #[.slice A l.length c, .agg #[.bool x.a.six, .int .u64 (x.a.hi : Int), .int .u64 (x.a.lo : Int), .int .i64 x.n, .int .i64 x.v]] w fun e w' => e = .returned (.tuple #[.slice A l.length c, .int .i64 1]) ∧ Below w.heap.size w w' := by
  have HPR := Lib.hid (fun u => refPRight_any x.a x.n u hw)
  have HD := Lib.hid (show decide (rightP x.a x.n) = false from decide_eq_false hP)
  rw [HD.out] at HPR
  clear hP hw
  go_enter Try.func29, Try.ntmps29
  go_wp2_with fail
  refine (HPR.out _).mono ?_
  rintro e w1 ⟨rfl, hb1⟩
  have HB1 := Lib.hid hb1
  clear hb1
  go_wp2_with fail
  go_ret2
  exact ⟨rfl, bel1.trans (HB1.out.mono (by simp))⟩
def SetE (l : List En) (x : En) (w : World) (e : Ending) (w' : World) : Prop := (∀ y ∈ l, ¬ (y.a = x.a ∧ y.n = x.n)) ∧ OwnE (l ++ [x]) 0 w e w' ∨ ∃ (j : Nat) (h : j < l.length), l[j].a = x.a ∧ l[j].n = x.n ∧ OwnE (l.set j x) 0 w e w'
set_option maxHeartbeats 4000000 in
theorem refSet_yes (A : Option Addr) (c : Nat) (l : List En) (x : En) (w : World) (hw : x.a.wf) (hP : rightP x.a x.n) (hl : l.length ≤ 1000) (hE : ES w w.heap.size A 5 (l.map En.cs)) :
    Calls Try.prog 29 #[.slice A l.length c, .agg #[.bool x.a.six, .int .u64 (x.a.hi : Int), .int .u64 (x.a.lo : Int), .int .i64 x.n, .int .i64 x.v]] w (SetE l x w) := by
  have HPR := Lib.hid (fun u => refPRight_any x.a x.n u hw)
  have HD := Lib.hid (show decide (rightP x.a x.n) = true from decide_eq_true hP)
  rw [HD.out] at HPR
  have HE0 := Lib.hid hE
  have hinf := Try.infoEn
  obtain ⟨H, hH0⟩ : ∃ H, w.heap.size = H := ⟨_, rfl⟩
  have HHH := Lib.hid hH0
  clear hP hw hE
  go_enter Try.func29, Try.ntmps29
  go_wp2_with fail
  refine (HPR.out _).mono ?_
  rintro e w0 ⟨rfl, hb0⟩
  have HX0 := Lib.hid (show Blk w0 w.heap.size 42 #[.bool x.a.six, .int .u64 (x.a.hi : Int), .int .u64 (x.a.lo : Int), .int .i64 x.n, .int .i64 x.v] from (Blk.new w 42 _).below hb0 (by simp))
  have HB0 := Lib.hid (show Below w.heap.size w w0 from bel1.trans (hb0.mono (by simp)))
  have HEa := Lib.hid (HE0.out.onB HB0.out (Nat.le_refl _))
  clear hb0 HPR HD
  rw [hH0] at HX0 HB0
  have hs0 := HX0.out.lt
  have x0 := HX0.out.cell
  have xlt := HX0.out.lt
  have HIX := Lib.hid (refIndex_any A c l x.a x.n w0 (by omega) HEa.out)
  clear hH0
  go_wp2_with fail
  refine HIX.out.mono ?_
  rintro e w1 ⟨z, rfl, hz, hb1⟩
  have HX1 := Lib.hid (HX0.out.below hb1 HX0.out.lt)
  have HB1 := Lib.hid (HB0.out.trans (hb1.mono (by omega)))
  have HE := Lib.hid (HEa.out.onB hb1 (Nat.le_refl _))
  have hH : H ≤ w1.heap.size := by have := hb1.size; omega
  clear hb1 x0 xlt HIX HX0 HEa
  obtain ⟨xb, hxb⟩ : ∃ xb, H = xb := ⟨_, rfl⟩
  rcases hz with ⟨rfl, hno⟩ | ⟨k, hk, rfl, hka, hkn⟩
  · have HNO := Lib.hid hno
    clear hno
    rw [hxb] at HX1
    rw [hxb]
    have HXB := Lib.hid hxb
    clear hxb
    have x0 := HX1.out.cell 0
    have x1 := HX1.out.cell 1
    have x2 := HX1.out.cell 2
    have x3 := HX1.out.cell 3
    have x4 := HX1.out.cell 4
    simp at x0 x1 x2 x3 x4
    have xlt := HX1.out.lt
    go_upto_region 5 with fail
    refine wp_region_kept 5 [(0, fun v u => ∃ g, v = .slice (some ⟨g, 0, none⟩) 0 0 ∧ RowN u H 42 5 v []), (2, fun v u => RowN u H 42 5 v (l.map En.cs)), (4, fun v u => ∃ g, v = .slice (some ⟨g, 0, none⟩) 1 1 ∧ Blk u g 42 #[.bool x.a.six, .int .u64 (x.a.hi : Int), .int .u64 (x.a.lo : Int), .int .i64 x.n, .int .i64 x.v])] ?st ?ne rfl (by kernel_rfl) (by kernel_rfl) ?_
    case st =>
      intro p hp
      simp only [List.mem_cons, List.not_mem_nil, or_false] at hp
      rcases hp with rfl | rfl | rfl
      · rintro v u u' ⟨g, rfl, h⟩ hk; exact ⟨g, rfl, h.kept hk (fun _ _ h => h)⟩
      · intro v u u' h hk; exact h.kept hk (fun _ _ h => h)
      · rintro v u u' ⟨g, rfl, h⟩ hk; exact ⟨g, rfl, h.kept hk (fun h => h)⟩
    case ne =>
      intro p hp
      simp only [List.mem_cons, List.not_mem_nil, or_false] at hp
      rcases hp with rfl | rfl | rfl
      · exact ⟨_, _, (Kept.refl _ _).alloc _, _, rfl, RowN.lit _ _ hH⟩
      · exact ⟨_, _, (Kept.refl _ _).alloc _, rowE_is H w1 (l.map En.cs) (sz_map En.cs_len _) hH (by simp; unfold maxLen; omega)⟩
      · exact ⟨_, _, (Kept.refl _ _).alloc _, _, rfl, Blk.new _ _ _⟩
    simp only [List.take_succ_cons, List.take_zero, List.drop_succ_cons, List.drop_zero]
    intro G pick hR hp1 hp2
    have p0 : ∀ u, (pick u).cell? ⟨xb, 0, none⟩ = some (.bool x.a.six) := fun u => ((hp1 u).cell xlt (fun h => h) _).trans x0
    have p1 : ∀ u, (pick u).cell? ⟨xb, 1, none⟩ = some (.int .u64 (x.a.hi : Int)) := fun u => ((hp1 u).cell xlt (fun h => h) _).trans x1
    have p2 : ∀ u, (pick u).cell? ⟨xb, 2, none⟩ = some (.int .u64 (x.a.lo : Int)) := fun u => ((hp1 u).cell xlt (fun h => h) _).trans x2
    have p3 : ∀ u, (pick u).cell? ⟨xb, 3, none⟩ = some (.int .i64 x.n) := fun u => ((hp1 u).cell xlt (fun h => h) _).trans x3
    have p4 : ∀ u, (pick u).cell? ⟨xb, 4, none⟩ = some (.int .i64 x.v) := fun u => ((hp1 u).cell xlt (fun h => h) _).trans x4
    repeat (first | (refine wpR_det hp2 rfl ((hR.rel _).trans rfl) rfl ?_; intro K hK; go_big_quiet_op; go_big_quiet_on) | (refine wpR_ptr hp2 rfl ((hR.rel _).trans rfl) rfl rfl ?_; intro K hK; go_big_quiet_op; go_big_quiet_on) | (refine wpR_skip pick rfl ?_; intro K hK; go_big_quiet_op; go_big_quiet_on))
    refine wpR_rel pick rfl ((hR.rel _).trans rfl) ((hR.turns _).trans rfl) ?_ ?_
    · intro u hu
      have hk := hR.since hu.1
      have hks := hk.size
      unfold relAt
      go_simp
      exact ⟨hR.into0 ((Kept.refl _ _).alloc _), hR.put 0 rfl rfl ⟨_, rfl, RowN.lit _ _ (Nat.le_trans hH hks)⟩⟩
    intro v hv
    obtain ⟨u, _, hu⟩ := hv
    obtain ⟨g0, rfl, -⟩ := hR.get 0 rfl hu
    clear hu
    intro K hK
    go_big_quiet_op
    go_big_quiet_on
    repeat (first | (refine wpR_det hp2 rfl ((hR.rel _).trans rfl) rfl ?_; intro K hK; go_big_quiet_op; go_big_quiet_on) | (refine wpR_ptr hp2 rfl ((hR.rel _).trans rfl) rfl rfl ?_; intro K hK; go_big_quiet_op; go_big_quiet_on) | (refine wpR_skip pick rfl ?_; intro K hK; go_big_quiet_op; go_big_quiet_on))
    refine wpR_rel pick rfl ((hR.rel _).trans rfl) ((hR.turns _).trans rfl) ?_ ?_
    · intro u hu
      have hk := hR.since hu.1
      have hks := hk.size
      obtain ⟨g0', e, h0⟩ := (hR.get 0 rfl (hu.2 _ _ (Got.upd_self _ _ _) (by kernel_rfl)))
      injection e with e
      injection e with e
      injection e with e
      subst e
      refine relAt_append_emptyN (.tmp 22) (.tmp 23) 35 rfl H 42 (.agg #[.bool false, .int .u64 0, .int .u64 0, .int .i64 0, .int .i64 0]) 5 40 Try.underlying35 hinf rfl (by omega) g0 rfl A l.length c (l.map En.cs) rfl ?me h0 (sz_map En.cs_len _) ?se ?le ?be ?he ?_
      case me => simp
      case se => exact (HE.out.on hk (fun _ _ h => h)).src
      case le => simp; unfold maxLen; omega
      case be => simp; omega
      case he => omega
      intro v' w' h1 h2 _
      exact ⟨hR.intoB h2, hR.put 1 rfl rfl h1⟩
    intro v hv
    obtain ⟨u, _, hu⟩ := hv
    obtain hT2 := hR.get 1 rfl hu
    clear hu
    intro K hK
    go_big_quiet_op
    go_big_quiet_on
    repeat (first | (refine wpR_det hp2 rfl ((hR.rel _).trans rfl) rfl ?_; intro K hK; go_big_quiet_op; go_big_quiet_on) | (refine wpR_ptr hp2 rfl ((hR.rel _).trans rfl) rfl rfl ?_; intro K hK; go_big_quiet_op; go_big_quiet_on) | (refine wpR_skip pick rfl ?_; intro K hK; go_big_quiet_op; go_big_quiet_on))
    refine wpR_rel pick rfl ((hR.rel _).trans rfl) ((hR.turns _).trans rfl) ?_ ?_
    · intro u hu
      have hk := hR.since hu.1
      have hks := hk.size
      unfold relAt
      go_simp
      exact ⟨hR.into0 ((Kept.refl _ _).alloc _), hR.put 2 rfl rfl ⟨_, rfl, Blk.new _ _ _⟩⟩
    intro v hv
    obtain ⟨u, _, hu⟩ := hv
    obtain ⟨g4, rfl, -⟩ := hR.get 2 rfl hu
    clear hu
    intro K hK
    go_big_quiet_op
    go_big_quiet_on
    repeat (first | (refine wpR_det hp2 rfl ((hR.rel _).trans rfl) rfl ?_; intro K hK; go_big_quiet_op; go_big_quiet_on) | (refine wpR_ptr hp2 rfl ((hR.rel _).trans rfl) rfl rfl ?_; intro K hK; go_big_quiet_op; go_big_quiet_on) | (refine wpR_skip pick rfl ?_; intro K hK; go_big_quiet_op; go_big_quiet_on))
    refine wpR_nil ?_
    intro w2 hk2 hF hM
    have HV := Lib.hid (hR.get 1 rfl (hF _ _ (Got.upd_old (Got.upd_self _ _ _) rfl)))
    have HS := Lib.hid (hR.get 2 rfl (hF _ _ (Got.upd_self _ _ _)))
    have HB2 := Lib.hid (HB1.out.trans (hk2.below hH (fun _ h => h.elim)))
    have hs2 := hk2.size
    obtain ⟨VA, vc, hve, -, -⟩ := HV.out.shape
    rw [List.length_map] at hve
    subst hve
    have HSS := Lib.hid (show Blk w2 g4 42 #[.bool x.a.six, .int .u64 (x.a.hi : Int), .int .u64 (x.a.lo : Int), .int .i64 x.n, .int .i64 x.v] by obtain ⟨g, e, h⟩ := HS.out; injection e with e; injection e with e; injection e with e; subst e; exact h)
    clear hF hM hk2 hp1 hp2 hR p0 p1 p2 p3 p4 x0 x1 x2 x3 x4 HS
    go_wp2_with (at_builtin; refine wpList_append_rowN rfl (.tmp 24) (.tmp 26) 35 rfl H 42 (.agg #[.bool false, .int .u64 0, .int .u64 0, .int .i64 0, .int .i64 0]) 5 40 Try.underlying35 hinf rfl (by omega) _ (l.map En.cs) rfl (some ⟨g4, 0, none⟩) 1 1 [En.cs x] rfl rfl HV.out (fun y hy => by rw [List.mem_singleton.1 hy]; rfl) (Src.blk HSS.out (by simp [En.cs])) (en_one x) ?a3 ?a4 ?a5 ?_)
    case a3 => simp; unfold maxLen; omega
    case a4 => simp; omega
    case a5 => omega
    intro v5 w5 hr5 hg5 _
    replace hr5 : RowN w5 H 42 5 v5 ((l ++ [x]).map En.cs) := by rw [List.map_append]; exact hr5
    obtain ⟨UA, uc, hue, -, -⟩ := hr5.shape
    rw [List.length_map] at hue
    subst hue
    have HR5 := Lib.hid hr5
    have HB5 := Lib.hid (HB2.out.trans ((Kept.of_grown (S := fun j => (Value.slice VA l.length vc).ownBlock = some j) hg5 (fun j _ e => e.symm)).below (by omega) (fun j e => (HV.out.lt j e).1)))
    clear hr5 hg5 HSS
    go_wp2_with fail
    go_ret2
    exact .inl ⟨HNO.out, _, _, rfl, by rw [HHH.out]; exact HR5.out, by rw [HHH.out]; exact HB5.out⟩
  · have HKA := Lib.hid hka
    have HKN := Lib.hid hkn
    have kI : ¬ (k : Int) < 0 := by omega
    have kL : (k : Int) < (l.length : Int) := by omega
    rw [hxb] at HX1
    rw [hxb]
    have HXB := Lib.hid hxb
    clear hxb hka hkn
    have x0 := HX1.out.cell 0
    have x1 := HX1.out.cell 1
    have x2 := HX1.out.cell 2
    have x3 := HX1.out.cell 3
    have x4 := HX1.out.cell 4
    simp at x0 x1 x2 x3 x4
    have xlt := HX1.out.lt
    go_wp2_with (at_builtin; refine wpList_append_rowN rfl (.tmp 28) (.tmp 29) 35 rfl H 42 (.agg #[.bool false, .int .u64 0, .int .u64 0, .int .i64 0, .int .i64 0]) 5 40 Try.underlying35 hinf rfl (by omega) _ [] rfl A l.length c (l.map En.cs) rfl ?a0 (RowN.lit w1 H hH) (sz_map En.cs_len _) (HE.out.alloc (Nat.le_refl _) _).src (ens_one _) ?a3 ?a4 ?a5 ?_)
    case a0 => simp
    case a3 => simp; unfold maxLen; omega
    case a4 => simp; omega
    case a5 => simp; omega
    intro v5 w5 hr5 hg5 ho5
    have hs5 : w1.heap.size + 1 ≤ w5.heap.size := by have := hg5.size; simpa using this
    have HX5 := Lib.hid (show Blk w5 xb 42 #[.bool x.a.six, .int .u64 (x.a.hi : Int), .int .u64 (x.a.lo : Int), .int .i64 x.n, .int .i64 x.v] from (HX1.out.alloc _).grown hg5 (fun e => by have e' : some xb = some w1.heap.size := e; injection e' with e'; have := HX1.out.lt; omega))
    obtain ⟨g, c', hv5, hgb, glt, hel⟩ := hr5.at (i := k) (by simpa using hk)
    rw [List.length_map] at hv5
    have hown : v5.ownBlock = some g := by rw [hv5]; rfl
    have hgne : g ≠ xb := by
      have hx1 := HX1.out.lt
      rcases ho5 with h | h
      · have h' : some g = some w1.heap.size := hown.symm.trans h
        injection h' with h'; omega
      · have h' : some g = some (w1.heap.size + 1) := hown.symm.trans h
        injection h' with h'; omega
    subst hv5
    have HR5 := Lib.hid hr5
    have HB5 := Lib.hid (HB1.out.trans ((((Kept.refl (fun i => H ≤ i) w1).alloc _).trans (Kept.of_grown (S := fun i => H ≤ i) hg5 (fun j _ e => by have e' : some j = some w1.heap.size := e; injection e' with e'; omega))).below hH (fun _ h => h)))
    have gf := HR5.out.frozen hown
    obtain ⟨d0, d1, d2, d3, d4⟩ := en_cells hel hk
    simp only [Nat.zero_add] at d0 d1 d2 d3 d4
    have HOW := Lib.hid hown
    clear hr5 hg5 ho5 hel hown x0 x1 x2 x3 x4 xlt HX1 HB1
    have x0 := HX5.out.cell 0
    have x1 := HX5.out.cell 1
    have x2 := HX5.out.cell 2
    have x3 := HX5.out.cell 3
    have x4 := HX5.out.cell 4
    simp at x0 x1 x2 x3 x4
    have xlt := HX5.out.lt
    go_wp2_with fail
    go_ret2
    refine .inr ⟨k, hk, HKA.out, HKN.out, some ⟨g, 0, none⟩, c', by simp, ?_, ?_⟩
    · rw [HHH.out, List.length_set]
      exact HR5.out.set5 HOW.out hk x
    · rw [HHH.out]
      exact ((((HB5.out.setCell (p := ⟨g, _, none⟩) hgb _).setCell (p := ⟨g, _, none⟩) hgb _).setCell (p := ⟨g, _, none⟩) hgb _).setCell (p := ⟨g, _, none⟩) hgb _).setCell (p := ⟨g, _, none⟩) hgb _
def DropE (l : List En) (x : En) (A : Option Addr) (c : Nat) (w : World) (e : Ending) (w' : World) : Prop := (∀ y ∈ l, ¬ (y.a = x.a ∧ y.n = x.n)) ∧ e = .returned (.tuple #[.slice A l.length c, .int .i64 6]) ∧ Below w.heap.size w w' ∨ ∃ (j : Nat) (h : j < l.length), l[j].a = x.a ∧ l[j].n = x.n ∧ OwnE (l.eraseIdx j) 0 w e w'
set_option maxHeartbeats 4000000 in
theorem refDrop_any (A : Option Addr) (c : Nat) (l : List En) (x : En) (w : World) (hl : l.length ≤ 1000) (hc : l.length ≤ c) (hcm : c ≤ maxLen) (hE : ES w w.heap.size A 5 (l.map En.cs)) :
    Calls Try.prog 28 #[.slice A l.length c, .agg #[.bool x.a.six, .int .u64 (x.a.hi : Int), .int .u64 (x.a.lo : Int), .int .i64 x.n, .int .i64 x.v]] w (DropE l x A c w) := by
  have HE0 := Lib.hid hE
  have hinf := Try.infoEn
  unfold maxLen at hcm
  obtain ⟨H, hH0⟩ : ∃ H, w.heap.size = H := ⟨_, rfl⟩
  have HHH := Lib.hid hH0
  have HEa := Lib.hid (HE0.out.onB (bel1 (o := .cells #[.bool x.a.six, .int .u64 (x.a.hi : Int), .int .u64 (x.a.lo : Int), .int .i64 x.n, .int .i64 x.v] 42)) (Nat.le_refl _))
  have HIX := Lib.hid (refIndex_any A c l x.a x.n _ (by omega) HEa.out)
  clear hE
  clear hH0
  go_enter Try.func28, Try.ntmps28
  go_wp2_with fail
  refine HIX.out.mono ?_
  rintro e w1 ⟨z, rfl, hz, hb1⟩
  have HB1 := Lib.hid (show Below H w w1 by rw [← HHH.out]; exact bel1.trans (hb1.mono (by simp)))
  have HE := Lib.hid (HEa.out.onB hb1 (Nat.le_refl _))
  have hH : H ≤ w1.heap.size := by
    have h1 := hb1.size
    have h2 := HHH.out
    have h3 : (w.alloc (.cells #[.bool x.a.six, .int .u64 (x.a.hi : Int), .int .u64 (x.a.lo : Int), .int .i64 x.n, .int .i64 x.v] 42)).heap.size = w.heap.size + 1 := by simp
    omega
  have hH1 : H = w.heap.size := HHH.out.symm
  have HH1 := Lib.hid hH1
  clear hb1 HIX HEa hH1
  rcases hz with ⟨rfl, hno⟩ | ⟨k, hk, rfl, hka, hkn⟩
  · have HNO := Lib.hid hno
    clear hno
    go_wp2_with fail
    go_ret2
    exact .inl ⟨HNO.out, rfl, by rw [HHH.out]; exact HB1.out⟩
  · have HKA := Lib.hid hka
    have HKN := Lib.hid hkn
    have kI : ¬ (k : Int) < 0 := by omega
    have iI : (k : Int) < (l.length : Int) := by omega
    have i1I : (k : Int) + 1 ≤ (l.length : Int) := by omega
    have icI : (k : Int) ≤ (c : Int) := by omega
    have mcI : (l.length : Int) ≤ (c : Int) := by omega
    obtain ⟨b, o, hb, rfl, hel⟩ := HE.out.at (k := k) (by simpa using hk)
    have HEL := Lib.hid hel
    have blt : b < w1.heap.size := hb
    have hwr : IntKind.i64.wrap ((k : Int) + 1) = (k : Int) + 1 := IntWalk.i64_in _ (by omega)
    have h01 : 0 ≤ (k : Int) + 1 := by omega
    have htn : ((k : Int) + 1).toNat = k + 1 := by omega
    clear hka hkn hel
    go_upto_region 4 with fail
    refine wp_region_kept 9 [(0, fun v u => ∃ g, v = .slice (some ⟨g, 0, none⟩) 0 0 ∧ RowN u H 42 5 v []), (4, fun v u => RowN u H 42 5 v ((l.take k).map En.cs)), (8, fun v u => ∃ A' c', v = .slice A' (l.length - (k + 1)) c' ∧ ES u u.heap.size A' 5 ((l.drop (k + 1)).map En.cs))] ?st ?ne rfl (by kernel_rfl) (by kernel_rfl) ?_
    case st =>
      intro p hp
      simp only [List.mem_cons, List.not_mem_nil, or_false] at hp
      rcases hp with rfl | rfl | rfl
      · rintro v u u' ⟨g, rfl, h⟩ hk; exact ⟨g, rfl, h.kept hk (fun _ _ h => h)⟩
      · intro v u u' h hk; exact h.kept hk (fun _ _ h => h)
      · rintro v u u' ⟨A', c', rfl, h⟩ hk; exact ⟨A', c', rfl, h.on hk (fun _ _ h => h)⟩
    case ne =>
      intro p hp
      simp only [List.mem_cons, List.not_mem_nil, or_false] at hp
      rcases hp with rfl | rfl | rfl
      · exact ⟨_, _, (Kept.refl _ _).alloc _, _, rfl, RowN.lit _ _ hH⟩
      · exact ⟨_, _, (Kept.refl _ _).alloc _, rowE_is H w1 ((l.take k).map En.cs) (sz_map En.cs_len _) hH (by simp; unfold maxLen; omega)⟩
      · exact ⟨_, _, (Kept.refl _ _).alloc _, some ⟨w1.heap.size, 0, none⟩, 0, rfl, .inr ⟨w1.heap.size, 0, by simp, rfl, ElAt.of_blk (cs := ((l.drop (k + 1)).map En.cs).flatten.toArray) (t := 42) (Blk.new _ _ _) (sz_map En.cs_len _) (by simp)⟩⟩
    simp only [List.take_succ_cons, List.take_zero, List.drop_succ_cons, List.drop_zero]
    intro G pick hR hp1 hp2
    repeat (first | (refine wpR_det hp2 rfl ((hR.rel _).trans rfl) rfl ?_; intro K hK; go_big_quiet_op; go_big_quiet_on) | (refine wpR_ptr hp2 rfl ((hR.rel _).trans rfl) rfl rfl ?_; intro K hK; go_big_quiet_op; go_big_quiet_on) | (refine wpR_skip pick rfl ?_; intro K hK; go_big_quiet_op; go_big_quiet_on))
    refine wpR_rel pick rfl ((hR.rel _).trans rfl) ((hR.turns _).trans rfl) ?_ ?_
    · intro u hu
      have hk := hR.since hu.1
      have hks := hk.size
      unfold relAt
      go_simp
      exact ⟨hR.into0 ((Kept.refl _ _).alloc _), hR.put 0 rfl rfl ⟨_, rfl, RowN.lit _ _ (Nat.le_trans hH hks)⟩⟩
    intro v hv
    obtain ⟨u, _, hu⟩ := hv
    obtain ⟨g0, rfl, -⟩ := hR.get 0 rfl hu
    clear hu
    intro K hK
    go_big_quiet_op
    go_big_quiet_on
    repeat (first | (refine wpR_det hp2 rfl ((hR.rel _).trans rfl) rfl ?_; intro K hK; go_big_quiet_op; go_big_quiet_on) | (refine wpR_ptr hp2 rfl ((hR.rel _).trans rfl) rfl rfl ?_; intro K hK; go_big_quiet_op; go_big_quiet_on) | (refine wpR_skip pick rfl ?_; intro K hK; go_big_quiet_op; go_big_quiet_on))
    refine wpR_rel pick rfl ((hR.rel _).trans rfl) ((hR.turns _).trans rfl) ?_ ?_
    · intro u hu
      have hk := hR.since hu.1
      have hks := hk.size
      obtain ⟨g0', e, h0⟩ := (hR.get 0 rfl (hu.2 _ _ (Got.upd_self _ _ _) (by kernel_rfl)))
      injection e with e
      injection e with e
      injection e with e
      subst e
      refine relAt_append_emptyN (.tmp 16) (.tmp 19) 35 rfl H 42 (.agg #[.bool false, .int .u64 0, .int .u64 0, .int .i64 0, .int .i64 0]) 5 40 Try.underlying35 hinf rfl (by omega) g0 rfl (some ⟨b, o, none⟩) k c ((l.take k).map En.cs) rfl ?me h0 (sz_map En.cs_len _) ?se ?le ?be ?he ?_
      case me => simp; omega
      case se => exact .inr ⟨_, rfl, fun j u hu => by rw [Addr.add_lit]; have := ((HEL.out.take k).keep (w' := _) (fun o => hk.cell blt (fun h => h) o)).2 j u (by simpa [List.map_take] using hu); exact this⟩
      case le => simp; unfold maxLen; omega
      case be => simp; omega
      case he => omega
      intro v' w' h1 h2 _
      exact ⟨hR.intoB h2, hR.put 1 rfl rfl h1⟩
    intro v hv
    obtain ⟨u, _, hu⟩ := hv
    obtain hT4 := hR.get 1 rfl hu
    clear hu
    intro K hK
    go_big_quiet_op
    go_big_quiet_on
    repeat (first | (refine wpR_det hp2 rfl ((hR.rel _).trans rfl) rfl ?_; intro K hK; go_big_quiet_op; go_big_quiet_on) | (refine wpR_ptr hp2 rfl ((hR.rel _).trans rfl) rfl rfl ?_; intro K hK; go_big_quiet_op; go_big_quiet_on) | (refine wpR_skip pick rfl ?_; intro K hK; go_big_quiet_op; go_big_quiet_on))
    refine wpR_rel pick rfl ((hR.rel _).trans rfl) ((hR.turns _).trans rfl) ?_ ?_
    · intro u hu
      have hk := hR.since hu.1
      have hks := hk.size
      unfold relAt
      go_simp
      refine ⟨hR.into0 (Kept.refl _ _), hR.put 2 rfl rfl ⟨_, _, rfl, ?_⟩⟩
      have hel' := HEL.out.keep (w' := u) (fun o => hk.cell blt (fun h => h) o)
      split
      · rw [show l.drop (k + 1) = [] from List.drop_eq_nil_of_le (by omega)]; exact .inl rfl
      · exact es_slice hel' (by omega) (by omega)
    intro v hv
    obtain ⟨u, _, hu⟩ := hv
    obtain ⟨A', c', rfl, -⟩ := hR.get 2 rfl hu
    clear hu
    intro K hK
    go_big_quiet_op
    go_big_quiet_on
    repeat (first | (refine wpR_det hp2 rfl ((hR.rel _).trans rfl) rfl ?_; intro K hK; go_big_quiet_op; go_big_quiet_on) | (refine wpR_ptr hp2 rfl ((hR.rel _).trans rfl) rfl rfl ?_; intro K hK; go_big_quiet_op; go_big_quiet_on) | (refine wpR_skip pick rfl ?_; intro K hK; go_big_quiet_op; go_big_quiet_on))
    refine wpR_nil ?_
    intro w3 hk2 hF hM
    have HV := Lib.hid ((hR.get 1 rfl (hF _ _ (Got.upd_old (Got.upd_self _ _ _) rfl))))
    have HS := Lib.hid ((hR.get 2 rfl (hF _ _ (Got.upd_self _ _ _))))
    have HB3 := Lib.hid (HB1.out.trans (hk2.below hH (fun _ h => h.elim)))
    have hs3 := hk2.size
    obtain ⟨VA, vc, hve, -, -⟩ := HV.out.shape
    rw [List.length_map, List.length_take, Nat.min_eq_left (by omega)] at hve
    clear hF hM hk2 hp1 hp2 hR hwr htn
    subst hve
    obtain ⟨A'', c'', e, hS⟩ := HS.out
    injection e with e1 e2 e3
    subst e1
    have HSS := Lib.hid hS
    clear e2 e3 hS HS
    go_wp2_with (at_builtin; refine wpList_append_rowN rfl (.tmp 20) (.tmp 24) 35 rfl H 42 (.agg #[.bool false, .int .u64 0, .int .u64 0, .int .i64 0, .int .i64 0]) 5 40 Try.underlying35 hinf rfl (by omega) _ ((l.take k).map En.cs) rfl A' (l.length - (k + 1)) c' ((l.drop (k + 1)).map En.cs) rfl ?a0 HV.out (sz_map En.cs_len _) HSS.out.src (ens_one _) ?a3 ?a4 ?a5 ?_)
    case a0 => simp
    case a3 => simp; unfold maxLen; omega
    case a4 => simp; omega
    case a5 => omega
    intro v5 w5 hr5 hg5 _
    replace hr5 : RowN w5 H 42 5 v5 ((l.eraseIdx k).map En.cs) := by
      rw [List.eraseIdx_eq_take_drop_succ, List.map_append, List.map_take, List.map_drop]; exact hr5
    have hs5 := hg5.size
    obtain ⟨UA, uc, hue, -, -⟩ := hr5.shape
    rw [List.length_map] at hue
    subst hue
    have HR5 := Lib.hid hr5
    have HB5 := Lib.hid (HB3.out.trans ((Kept.of_grown (S := fun j => (Value.slice VA k vc).ownBlock = some j) hg5 (fun j _ e => e.symm)).below (by omega) (fun j e => (HV.out.lt j e).1)))
    clear hr5 hg5 HB3 HSS
    go_wp2_with fail
    go_ret2
    exact .inr ⟨k, hk, HKA.out, HKN.out, _, _, rfl, by rw [HHH.out]; exact HR5.out, by rw [HHH.out]; exact HB5.out⟩
end Go.Proofs.Ytchgbdghllkcpaa
