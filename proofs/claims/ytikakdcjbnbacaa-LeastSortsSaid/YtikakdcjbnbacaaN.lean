/- The law LeastPlays, walked. -/
import Derived.Test.YtikakdcjbnbacaaM
namespace Go.Proofs.Ytikakdcjbnbacaa
open Go.RowKit
set_option linter.unusedVariables false
structure AcV where
  kind : Int
  w : Int
  id : Int
def AcV.cs (x : AcV) : List Value := [.int .i64 x.kind, .int .u64 x.w, .int .i64 x.id]
theorem AcV.cs_len (x : AcV) : x.cs.length = 3 := rfl
theorem ac_cells {w : World} {b off k : Nat} {L : List AcV} (h : ElAt w b off 3 (L.map AcV.cs)) (hk : k < L.length) :
    w.cell? ⟨b, off + k * 3, none⟩ = some (.int .i64 L[k].kind) ∧ w.cell? ⟨b, off + k * 3 + 1, none⟩ = some (.int .u64 L[k].w) ∧ w.cell? ⟨b, off + k * 3 + 2, none⟩ = some (.int .i64 L[k].id) := by
  have hk' : k < (L.map AcV.cs).length := by simpa using hk
  have h0 := h.get0 hk' (by omega)
  have h1 := h.get hk' 1 (by omega)
  have h2 := h.get hk' 2 (by omega)
  simp [AcV.cs] at h0 h1 h2
  exact ⟨h0, h1, h2⟩
def OwnR (l : List It) (w : World) (e : Ending) (w' : World) : Prop := ∃ r, e = .returned r ∧ RS w' r l ∧ Below w.heap.size w w'
theorem RS.onK {w w' : World} {v : Value} {R : List It} (h : RS w v R) (hk : Kept (fun _ => False) w w') : RS w' v R := h.onB (hk.below (Nat.le_refl _) (fun _ h => h.elim))
theorem cut_rs (r : Value) (R : List It) (i : Nat) (w : World) (h : RS w r R) (hi : i < R.length) (hl : R.length ≤ 1000) : Calls Try.prog 18 #[r, .int .i64 (i : Int)] w (OwnR (R.eraseIdx i) w) := by
  obtain ⟨A, c, rfl, h1, h2, hE⟩ := h.get
  refine (refCut_any A c R i w hi hl h1 h2 hE).mono ?_
  rintro e w' ⟨A', c', rfl, hr, hb⟩
  exact ⟨_, rfl, RS.of_row hr, hb⟩
theorem push_rs (r : Value) (R : List It) (xw xi : Int) (w : World) (h : RS w r R) (hl : R.length ≤ 1000) : Calls Try.prog 12 #[r, .agg #[.int .u64 xw, .int .i64 xi]] w (OwnR (insL ⟨xw, xi⟩ R) w) := by
  obtain ⟨A, c, rfl, h1, h2, hE⟩ := h.get
  refine (refPush_any A c R ⟨xw, xi⟩ w hl h1 h2 hE).mono ?_
  rintro e w' ⟨A', c', rfl, hr, hb⟩
  exact ⟨_, rfl, RS.of_row hr, hb⟩
theorem index_rs (r : Value) (R : List It) (id : Int) (w : World) (h : RS w r R) (hl : R.length ≤ 1000) : Calls Try.prog 16 #[r, .int .i64 id] w (IxPostR R id w) := by
  obtain ⟨A, c, rfl, h1, h2, hE⟩ := h.get
  exact refIndex_any A c R id w (by omega) hE
theorem rs_is (w : World) (L : List It) (hm : L.length ≤ maxLen) : ∃ v u, Kept (fun _ => False) w u ∧ RS u v L :=
  ⟨_, _, (Kept.refl _ _).alloc _, RS.of_row (rowR_is 0 w (L.map It.cs) (sz_map It.cs_len _) (Nat.zero_le _) (by simpa using hm))⟩
theorem er_len {R : List It} {k : Nat} (h : k < R.length) : (R.eraseIdx k).length = R.length - 1 := List.length_eraseIdx_of_lt h
def FixP (qb base : Nat) (H : List It) (v : Value) (u : World) : Prop := v = .bool true ∧ ∃ q', QuS qb base q' H u
set_option maxHeartbeats 16000000 in
set_option maxRecDepth 100000 in
theorem plays_any (A : Option Addr) (c : Nat) (l : List AcV) (w : World) (hl : l.length ≤ maxLen) (hE : ES w w.heap.size A 3 (l.map AcV.cs)) :
    Calls Try.prog 5 #[.slice A l.length c] w fun e w' => e = .returned (.bool true) ∧ Below w.heap.size w w' := by
  have HE := Lib.hid hE
  unfold maxLen at hl
  clear hE
  go_enter Try.func5, Try.ntmps5
  go_wp2_with fail
  refine (awake_any w).mono ?_
  rintro e w1 ⟨rfl, hb1⟩
  have HB1 := Lib.hid hb1
  have hs1 := hb1.size
  clear hb1
  go_wp2_with fail
  obtain ⟨w2, hw2⟩ : ∃ w2 : World, w2 = w1.alloc (.cells #[.slice none 0 0] 38) := ⟨_, rfl⟩
  have HT2 := Lib.hid (show Two w1.heap.size w.heap.size (.slice none 0 0) (.slice none 0 0) [] [] w2 by rw [hw2]; exact ⟨⟨Blk.new _ _ _, RowN.nil _ _ _ _, hs1⟩, RS.nil _, Twin.nil⟩)
  have HB2 := Lib.hid (show Below w.heap.size w w2 by rw [hw2]; exact HB1.out.alloc hs1 _)
  rw [← hw2]
  clear hw2
  obtain ⟨qb, hqb⟩ : ∃ qb, w1.heap.size = qb := ⟨_, rfl⟩
  rw [hqb] at hs1 HT2 ⊢
  clear hqb HB1
  go_loopw [4, 5] (fun r i wr => ∃ (k : Nat) (q : Value) (H R : List It), k ≤ l.length ∧ k ≤ 60 ∧ R.length ≤ k ∧ i = .int .i64 (k : Int) ∧ Hid (Two qb w.heap.size q r H R wr) ∧ Hid (Uniq R) ∧ Hid (Below w.heap.size w wr)) (fun _ i _ => l.length - (intOf i).toNat)
  case atStart => exact ⟨0, _, _, _, by omega, by omega, by simp, rfl, HT2, Lib.hid List.nodup_nil, HB2⟩
  case round =>
    clear HT2 HB2
    obtain ⟨k, q, H, R, hk, hk60, hRk, rfl, HT, HU, HB⟩ := hrel
    have hsr := HB.out.size
    have HLN := Lib.hid HT.out.tw.len
    by_cases hend : ¬ k < l.length ∨ ¬ k < 60
    · have HTZ := Lib.hid hend
      clear hend
      by_cases hkl : k < l.length
      · have kI : (k : Int) < (l.length : Int) := by omega
        have h60 : ¬ (k : Int) < 60 := by have := HTZ.out; omega
        clear HTZ
        go_wp2_with fail
        refine (qpush_none ⟨0, 0⟩ _).mono ?_
        rintro e w3 ⟨rfl, hb3⟩
        have HB3 := Lib.hid (belK HB.out hb3)
        clear hb3
        go_wp2_with fail
        refine (qfirst_none _).mono ?_
        rintro e w4 ⟨rfl, hb4⟩
        have HB4 := Lib.hid (belK HB3.out hb4)
        clear hb4
        go_wp2_with fail
        refine (qpop_none _).mono ?_
        rintro e w5 ⟨rfl, hb5⟩
        have HB5 := Lib.hid (belK (HB4.out.alloc HB4.out.size _) hb5)
        clear hb5
        go_wp2_with fail
        refine (qlen_none _).mono ?_
        rintro e w6 ⟨rfl, rfl⟩
        go_wp2_with fail
        refine (qfix_none _ _ _).mono ?_
        rintro e w6 ⟨rfl, rfl⟩
        go_wp2_with fail
        refine (qdrop_none _ _).mono ?_
        rintro e w6 ⟨rfl, rfl⟩
        go_wp2_with fail
        refine (awake_any _).mono ?_
        rintro e w8 ⟨rfl, hb8⟩
        have HB8 := Lib.hid (belK (HB5.out.alloc HB5.out.size _) hb8)
        clear hb8
        go_wp2_with fail
        go_ret
        exact ⟨rfl, HB8.out⟩
      · have kI : ¬ (k : Int) < (l.length : Int) := by omega
        clear HTZ
        go_wp2_with fail
        refine (qpush_none ⟨0, 0⟩ _).mono ?_
        rintro e w3 ⟨rfl, hb3⟩
        have HB3 := Lib.hid (belK HB.out hb3)
        clear hb3
        go_wp2_with fail
        refine (qfirst_none _).mono ?_
        rintro e w4 ⟨rfl, hb4⟩
        have HB4 := Lib.hid (belK HB3.out hb4)
        clear hb4
        go_wp2_with fail
        refine (qpop_none _).mono ?_
        rintro e w5 ⟨rfl, hb5⟩
        have HB5 := Lib.hid (belK (HB4.out.alloc HB4.out.size _) hb5)
        clear hb5
        go_wp2_with fail
        refine (qlen_none _).mono ?_
        rintro e w6 ⟨rfl, rfl⟩
        go_wp2_with fail
        refine (qfix_none _ _ _).mono ?_
        rintro e w6 ⟨rfl, rfl⟩
        go_wp2_with fail
        refine (qdrop_none _ _).mono ?_
        rintro e w6 ⟨rfl, rfl⟩
        go_wp2_with fail
        refine (awake_any _).mono ?_
        rintro e w8 ⟨rfl, hb8⟩
        have HB8 := Lib.hid (belK (HB5.out.alloc HB5.out.size _) hb8)
        clear hb8
        go_wp2_with fail
        go_ret
        exact ⟨rfl, HB8.out⟩
    · have hkl : k < l.length := by omega
      have hk6 : k < 60 := by omega
      have kI : (k : Int) < (l.length : Int) := by omega
      have h60 : (k : Int) < 60 := by omega
      clear hend
      obtain ⟨b, o, hb, rfl, hel⟩ := HE.out.at (k := k) (by simpa using hkl)
      obtain ⟨c0, c1, c2⟩ := ac_cells (hel.keep (w' := wr) (fun o => HB.out.cell (p := ⟨b, o, none⟩) hb)) hkl
      obtain ⟨x, hx⟩ : ∃ x, l[k] = x := ⟨_, rfl⟩
      rw [hx] at c0 c1 c2
      obtain ⟨kd, xw, xi⟩ := x
      simp only at c0 c1 c2
      have blt : b < wr.heap.size := by omega
      have HIX := Lib.hid (index_rs u4 R xi wr HT.out.rs (by omega))
      have helP := Lib.hid hel
      have HXL := Lib.hid hx
      clear hel hx
      go_wp2_with fail
      refine HIX.out.mono ?_
      rintro e w4 ⟨z, rfl, hz, rfl⟩
      have HZ := Lib.hid (ixp_two hz HT.out.tw.pm)
      clear hz HIX
      by_cases hk1 : kd = 1
      · subst hk1
        cases R with
        | nil =>
          obtain rfl : H = [] := List.eq_nil_of_length_eq_zero HLN.out.symm
          have HP := Lib.hid (qpop_empty qb w.heap.size q wr HT.out.qu)
          obtain ⟨A2, c2', hr, -, -, -⟩ := HT.out.rs.get
          rw [List.length_nil] at hr
          subst hr
          go_wp2_with fail
          refine HP.out.mono ?_
          rintro e w5 ⟨rfl, hb5⟩
          have HB5 := Lib.hid (belK HB.out hb5)
          have HT5 := Lib.hid (HT.out.onB hb5)
          clear hb5 HP
          go_upto_region 15 with fail
          obtain ⟨w6, hw6⟩ : ∃ w6 : World, w6 = w5.alloc (.cells #[.int .u64 0, .int .i64 0] 42) := ⟨_, rfl⟩
          have HX6 := Lib.hid (show Blk w6 w5.heap.size 42 #[.int .u64 0, .int .i64 0] by rw [hw6]; exact Blk.new _ _ _)
          have HB6 := Lib.hid (show Below w.heap.size w w6 by rw [hw6]; exact HB5.out.alloc HB5.out.size _)
          have HT6 := Lib.hid (show Two qb w.heap.size q _ [] [] w6 by rw [hw6]; exact HT5.out.onB bel1)
          rw [← hw6]
          clear hw6
          have x0 := HX6.out.cell 0
          have x1 := HX6.out.cell 1
          simp at x0 x1
          have xlt := HX6.out.lt
          refine wp_region_kept 25 [] ?st ?ne rfl (by kernel_rfl) (by kernel_rfl) ?_
          case st => intro p hp; cases hp
          case ne => intro p hp; cases hp
          simp only [List.take_succ_cons, List.take_zero, List.drop_succ_cons, List.drop_zero]
          intro G pick hR hp1 hp2
          have q0 : ∀ u, (pick u).cell? ⟨w5.heap.size, 0, none⟩ = some (.int .u64 0) := fun u => ((hp1 u).cell xlt (fun h => h) _).trans x0
          have q1 : ∀ u, (pick u).cell? ⟨w5.heap.size, 1, none⟩ = some (.int .i64 0) := fun u => ((hp1 u).cell xlt (fun h => h) _).trans x1
          repeat (first | (refine wpR_det hp2 rfl ((hR.rel _).trans rfl) rfl ?_; intro K hK; go_big_quiet_op; go_big_quiet_on) | (refine wpR_ptr hp2 rfl ((hR.rel _).trans rfl) rfl rfl ?_; intro K hK; go_big_quiet_op; go_big_quiet_on) | (refine wpR_skip pick rfl ?_; intro K hK; go_big_quiet_op; go_big_quiet_on))
          refine wpR_nil ?_
          intro w7 hk2 hF hM
          have HB7 := Lib.hid (keptK HB6.out hk2)
          have HT7 := Lib.hid (HT6.out.onB (hk2.below (Nat.le_refl _) (fun _ h => h.elim)))
          clear hF hM hk2 hp1 hp2 hR q0 q1 x0 x1
          have HFS := Lib.hid (lfirst_two _ _ _ _ _ _ _ HT7.out (by have h1 := HT7.out.tw.len; have h2 := HLN.out;  omega))
          go_wp2_with fail
          refine HFS.out.mono ?_
          rintro e wf ⟨rfl, hbf⟩
          have HTF := Lib.hid (HT7.out.onB hbf)
          have HBF := Lib.hid (belK HB7.out hbf)
          clear hbf HFS
          go_wp2_with fail
          go_roundw
          case rel => exact ⟨k + 1, _, _, _, by omega, by omega, (by  omega), by go_num, HTF, HU, HBF⟩
          case measure => simp [intOf]; omega
        | cons x0 R =>
          obtain ⟨yw, yi⟩ := x0
          have hn : H.length = R.length + 1 := by simpa using HLN.out.symm
          have HPP := Lib.hid (qpop_any qb w.heap.size q H R.length wr HT.out.qu hn (by simp at hRk; omega) hsr)
          have HPX := Lib.hid (HT.out.tw.pop R.length hn)
          rw [HPX.out.1] at HPP
          obtain ⟨b2, o2, e2, hr, -, -, -, -, -, -, -⟩ := HT.out.rs.head
          subst hr
          have hRk' : R.length + 1 ≤ k := by simpa using hRk
          have hgt : (0 : Int) < (R.length : Int) + 1 := by omega
          clear hRk hn
          go_wp2_with fail
          refine HPP.out.mono ?_
          rintro e w5 ⟨rfl, q5, hq5, hk5, -⟩
          have HQ5 := Lib.hid hq5
          have HR5 := Lib.hid (HT.out.rs.queue HT.out.qu hk5)
          have HB5 := Lib.hid (HB.out.trans (hk5.below hsr (fun g hg => (HT.out.qu.lt hg).1)))
          clear hq5 hk5 HPP
          go_upto_region 15 with fail
          obtain ⟨w6, hw6⟩ : ∃ w6 : World, w6 = w5.alloc (.cells #[.int .u64 yw, .int .i64 yi] 42) := ⟨_, rfl⟩
          have HX6 := Lib.hid (show Blk w6 w5.heap.size 42 #[.int .u64 yw, .int .i64 yi] by rw [hw6]; exact Blk.new _ _ _)
          have HB6 := Lib.hid (show Below w.heap.size w w6 by rw [hw6]; exact HB5.out.alloc HB5.out.size _)
          have HQ6 := Lib.hid (show QuS qb w.heap.size q5 _ w6 by rw [hw6]; exact HQ5.out.onB bel1)
          have HR6 := Lib.hid (show RS w6 _ _ by rw [hw6]; exact HR5.out.onB bel1)
          rw [← hw6]
          clear hw6
          have x0 := HX6.out.cell 0
          have x1 := HX6.out.cell 1
          simp at x0 x1
          have xlt := HX6.out.lt
          obtain ⟨b2', o2', e2', hr', hl1, hl2, hb2, d0, d1, hRS, hRS0⟩ := HR6.out.head
          injection hr' with f1 f2 f3
          injection f1 with f1
          injection f1 with f1 f4
          subst f1 f3 f4
          have HRS := Lib.hid hRS
          have HRS0 := Lib.hid hRS0
          simp only at d0 d1
          clear hRS hRS0 f2
          unfold maxLen at hl2
          refine wp_region_kept 25 [(12, fun v u => v = .agg #[.int .u64 yw, .int .i64 yi])] ?st ?ne rfl (by kernel_rfl) (by kernel_rfl) ?_
          case st =>
            intro p hp
            simp only [List.mem_cons, List.not_mem_nil, or_false] at hp
            subst hp
            · intro v u u' h hk; exact h
          case ne =>
            intro p hp
            simp only [List.mem_cons, List.not_mem_nil, or_false] at hp
            subst hp
            · exact ⟨_, _, Kept.refl _ _, rfl⟩
          simp only [List.take_succ_cons, List.take_zero, List.drop_succ_cons, List.drop_zero]
          intro G pick hR hp1 hp2
          have q0 : ∀ u, (pick u).cell? ⟨w5.heap.size, 0, none⟩ = some (.int .u64 yw) := fun u => ((hp1 u).cell xlt (fun h => h) _).trans x0
          have q1 : ∀ u, (pick u).cell? ⟨w5.heap.size, 1, none⟩ = some (.int .i64 yi) := fun u => ((hp1 u).cell xlt (fun h => h) _).trans x1
          have p0 : ∀ u, (pick u).cell? ⟨b2, o2, none⟩ = some (.int .u64 yw) := fun u => ((hp1 u).cell hb2 (fun h => h) _).trans d0
          have p1 : ∀ u, (pick u).cell? ⟨b2, o2 + 1, none⟩ = some (.int .i64 yi) := fun u => ((hp1 u).cell hb2 (fun h => h) _).trans d1
          repeat (first | (refine wpR_det hp2 rfl ((hR.rel _).trans rfl) rfl ?_; intro K hK; go_big_quiet_op; go_big_quiet_on) | (refine wpR_ptr hp2 rfl ((hR.rel _).trans rfl) rfl rfl ?_; intro K hK; go_big_quiet_op; go_big_quiet_on) | (refine wpR_skip pick rfl ?_; intro K hK; go_big_quiet_op; go_big_quiet_on))
          refine wpR_rel pick rfl ((hR.rel _).trans rfl) ((hR.turns _).trans rfl) ?_ ?_
          · intro u hu
            have hk := hR.since hu.1
            have hks := hk.size
            unfold relAt
            go_simp
            refine (to_any yw yi u).mono ?_
            rintro e w' ⟨rfl, hb'⟩
            exact ⟨_, rfl, hR.intoB hb', hR.put 0 rfl rfl rfl⟩
          intro v hv
          obtain ⟨u, _, hu⟩ := hv
          obtain rfl := hR.get 0 rfl hu
          clear hu
          intro K hK
          go_big_quiet_op
          go_big_quiet_on
          repeat (first | (refine wpR_det hp2 rfl ((hR.rel _).trans rfl) rfl ?_; intro K hK; go_big_quiet_op; go_big_quiet_on) | (refine wpR_ptr hp2 rfl ((hR.rel _).trans rfl) rfl rfl ?_; intro K hK; go_big_quiet_op; go_big_quiet_on) | (refine wpR_skip pick rfl ?_; intro K hK; go_big_quiet_op; go_big_quiet_on))
          refine wpR_nil ?_
          intro w7 hk2 hF hM
          have HB7 := Lib.hid (keptK HB6.out hk2)
          have HK7 := Lib.hid hk2
          clear hF hM hk2 hp1 hp2 hR q0 q1 p0 p1 x0 x1 d0 d1
          have h1l : (1 : Int) ≤ (R.length : Int) + 1 := by omega
          have hlc : (R.length : Int) + 1 ≤ (e2 : Int) := by omega
          go_upto_region 18 with fail
          go_wp2_with fail
          case inl hz =>
            obtain rfl : R = [] := List.eq_nil_of_length_eq_zero (by omega)
            have HT7 := Lib.hid (show Two qb w.heap.size q5 (Value.slice (some ⟨b2, o2, none⟩) 0 0) _ [] w7 from ⟨HQ6.out.on0 HK7.out, ⟨_, _, rfl, by simp, by unfold maxLen; omega, .inl rfl⟩, HPX.out.2⟩)
            have HFS := Lib.hid (lfirst_two _ _ _ _ _ _ _ HT7.out (by have h1 := HT7.out.tw.len; omega))
            refine HFS.out.mono ?_
            rintro e wf ⟨rfl, hbf⟩
            have HTF := Lib.hid (HT7.out.onB hbf)
            have HBF := Lib.hid (belK HB7.out hbf)
            clear hbf HFS
            go_wp2_with fail
            go_roundw
            case rel => exact ⟨k + 1, _, _, _, by omega, by omega, by simp, by go_num, HTF, Lib.hid (show Uniq [] from HU.out.erase 0), HBF⟩
            case measure => simp [intOf]; omega
          case inr hz =>
            have HT7 := Lib.hid (show Two qb w.heap.size q5 (Value.slice (some ⟨b2, o2 + 2, none⟩) R.length (e2 - 1)) _ R w7 from ⟨HQ6.out.on0 HK7.out, HRS.out.onK HK7.out, HPX.out.2⟩)
            have HFS := Lib.hid (lfirst_two _ _ _ _ _ _ _ HT7.out (by have h1 := HT7.out.tw.len; omega))
            refine HFS.out.mono ?_
            rintro e wf ⟨rfl, hbf⟩
            have HTF := Lib.hid (HT7.out.onB hbf)
            have HBF := Lib.hid (belK HB7.out hbf)
            clear hbf HFS
            go_wp2_with fail
            go_roundw
            case rel => exact ⟨k + 1, _, _, _, by omega, by omega, by omega, by go_num, HTF, Lib.hid (show Uniq R from HU.out.erase 0), HBF⟩
            case measure => simp [intOf]; omega
      by_cases hk2 : kd = 2
      · subst hk2
        rcases HZ.out with ⟨rfl, hnR, hnH⟩ | ⟨k0, hk0, j, hj, rfl, eR, eH, hfst⟩
        · have HD := Lib.hid (fun u (hu : Kept (fun _ => False) wr u) => qfix_no qb w.heap.size q H xi xw u (HT.out.qu.on0 hu) (by have := HLN.out; omega) hnH)
          clear HZ hnR hnH
          go_upto_region 20 with fail
          refine wp_region_kept 17 [(13, fun v u => v = .bool false)] ?st ?ne rfl (by kernel_rfl) (by kernel_rfl) ?_
          case st =>
            intro p hp
            simp only [List.mem_cons, List.not_mem_nil, or_false] at hp
            subst hp
            · intro v u u' h hk; exact h
          case ne =>
            intro p hp
            simp only [List.mem_cons, List.not_mem_nil, or_false] at hp
            subst hp
            · exact ⟨_, _, Kept.refl _ _, rfl⟩
          simp only [List.take_succ_cons, List.take_zero, List.drop_succ_cons, List.drop_zero]
          intro G pick hR hp1 hp2
          have p0 : ∀ u, (pick u).cell? ⟨b, o + k * 3, none⟩ = some (.int .i64 2) := fun u => ((hp1 u).cell blt (fun h => h) _).trans c0
          have p1 : ∀ u, (pick u).cell? ⟨b, o + k * 3 + 1, none⟩ = some (.int .u64 xw) := fun u => ((hp1 u).cell blt (fun h => h) _).trans c1
          have p2 : ∀ u, (pick u).cell? ⟨b, o + k * 3 + 2, none⟩ = some (.int .i64 xi) := fun u => ((hp1 u).cell blt (fun h => h) _).trans c2
          repeat (first | (refine wpR_det hp2 rfl ((hR.rel _).trans rfl) rfl ?_; intro K hK; go_big_quiet_op; go_big_quiet_on) | (refine wpR_ptr hp2 rfl ((hR.rel _).trans rfl) rfl rfl ?_; intro K hK; go_big_quiet_op; go_big_quiet_on) | (refine wpR_skip pick rfl ?_; intro K hK; go_big_quiet_op; go_big_quiet_on))
          refine wpR_rel pick rfl ((hR.rel _).trans rfl) ((hR.turns _).trans rfl) ?_ ?_
          · intro u hu
            have hk := hR.since hu.1
            have hks := hk.size
            unfold relAt
            go_simp
            refine (HD.out u hk).mono ?_
            rintro e w' ⟨rfl, hb'⟩
            exact ⟨_, rfl, hR.intoB hb', hR.put 0 rfl rfl rfl⟩
          intro v hv
          obtain ⟨u, _, hu⟩ := hv
          obtain rfl := hR.get 0 rfl hu
          clear hu
          intro K hK
          go_big_quiet_op
          go_big_quiet_on
          repeat (first | (refine wpR_det hp2 rfl ((hR.rel _).trans rfl) rfl ?_; intro K hK; go_big_quiet_op; go_big_quiet_on) | (refine wpR_ptr hp2 rfl ((hR.rel _).trans rfl) rfl rfl ?_; intro K hK; go_big_quiet_op; go_big_quiet_on) | (refine wpR_skip pick rfl ?_; intro K hK; go_big_quiet_op; go_big_quiet_on))
          refine wpR_nil ?_
          intro w5 hk2 hF hM
          have HB5 := Lib.hid (HB.out.trans (hk2.below hsr (fun _ h => h.elim)))
          have HT5 := Lib.hid (HT.out.onB (hk2.below (Nat.le_refl _) (fun _ h => h.elim)))
          clear hF hM hk2 hp1 hp2 hR p0 p1 p2 c0 c1 c2 HD
          have HFS := Lib.hid (lfirst_two _ _ _ _ _ _ _ HT5.out (by have h1 := HT5.out.tw.len; have h2 := HLN.out;  omega))
          go_wp2_with fail
          refine HFS.out.mono ?_
          rintro e wf ⟨rfl, hbf⟩
          have HTF := Lib.hid (HT5.out.onB hbf)
          have HBF := Lib.hid (belK HB5.out hbf)
          clear hbf HFS
          go_wp2_with fail
          go_roundw
          case rel => exact ⟨k + 1, _, _, _, by omega, by omega, (by  omega), by go_num, HTF, HU, HBF⟩
          case measure => simp [intOf]; omega
        · have HD := Lib.hid (fun u (hu : Kept (fun _ => False) wr u) => qfix_any qb w.heap.size q H xi xw j u (HT.out.qu.on0 hu) (by have := HLN.out; omega) (Nat.le_trans hsr hu.size) hj eH hfst)
          have HTW := Lib.hid (HT.out.tw.fix HU.out hk0 hj (eR.trans eH.symm) ⟨xw, xi⟩)
          have HU6 := Lib.hid ((HU.out.erase k0).ins (x := ⟨xw, xi⟩) (fun y hy => by have := HU.out.off k0 hk0 y hy; rwa [eR] at this))
          have HNS := Lib.hid (show ¬ QOwn qb q b from fun h => by have := (HT.out.qu.lt h).1; omega)
          have k0I : (0 : Int) ≤ (k0 : Int) := by omega
          have HER := Lib.hid (er_len hk0)
          clear HZ eR eH hfst
          go_upto_region 20 with fail
          refine wp_region_add 17 (QOwn qb q) [13] [] [(13, FixP qb w.heap.size (fixL (H.set j ⟨xw, xi⟩) j H.length))] ?st ?ne rfl (by kernel_rfl) (by kernel_rfl) (by kernel_rfl) ?_
          case st =>
            intro p hp
            simp only [List.mem_cons, List.not_mem_nil, or_false] at hp
            subst hp
            · rintro v u u' ⟨rfl, q', h⟩ hk; exact ⟨rfl, q', h.on0 hk⟩
          case ne =>
            intro p hp
            simp only [List.mem_cons, List.not_mem_nil, or_false] at hp
            subst hp
            · obtain ⟨e, w', he, q', h1, h2, h3⟩ := calls_some (HD.out wr (Kept.refl _ _)); exact ⟨_, w', h2, rfl, q', h1⟩
          simp only [List.take_succ_cons, List.take_zero, List.drop_succ_cons, List.drop_zero]
          intro G pick hR hp1 hp2
          have p0 : ∀ u, (pick u).cell? ⟨b, o + k * 3, none⟩ = some (.int .i64 2) := fun u => ((hp1 u).cell blt HNS.out _).trans c0
          have p1 : ∀ u, (pick u).cell? ⟨b, o + k * 3 + 1, none⟩ = some (.int .u64 xw) := fun u => ((hp1 u).cell blt HNS.out _).trans c1
          have p2 : ∀ u, (pick u).cell? ⟨b, o + k * 3 + 2, none⟩ = some (.int .i64 xi) := fun u => ((hp1 u).cell blt HNS.out _).trans c2
          repeat (first | (refine wpR_det hp2 rfl ((hR.rel _).trans rfl) rfl ?_; intro K hK; go_big_quiet_op; go_big_quiet_on) | (refine wpR_ptr hp2 rfl ((hR.rel _).trans rfl) rfl rfl ?_; intro K hK; go_big_quiet_op; go_big_quiet_on) | (refine wpR_skip pick rfl ?_; intro K hK; go_big_quiet_op; go_big_quiet_on))
          refine wpR_turn pick rfl ((hR.rel _).trans rfl) ((hR.turns _).trans rfl) ((hR.adds _).trans rfl) ?_ ?_
          · intro u hu hM
            have hk := hR.since hu.1
            have hks := hk.size
            unfold relAt
            go_simp
            refine (HD.out u (hR.first hM)).mono ?_
            rintro e w' ⟨rfl, q', h1, h2, h3⟩
            exact ⟨_, rfl, hR.into h2, hR.put 0 rfl rfl ⟨rfl, q', h1⟩⟩
          intro v hv
          obtain ⟨u, _, hu⟩ := hv
          obtain ⟨rfl, -⟩ := hR.get 0 rfl hu
          clear hu
          intro K hK
          go_big_quiet_op
          go_big_quiet_on
          repeat (first | (refine wpR_det hp2 rfl ((hR.rel _).trans rfl) rfl ?_; intro K hK; go_big_quiet_op; go_big_quiet_on) | (refine wpR_ptr hp2 rfl ((hR.rel _).trans rfl) rfl rfl ?_; intro K hK; go_big_quiet_op; go_big_quiet_on) | (refine wpR_skip pick rfl ?_; intro K hK; go_big_quiet_op; go_big_quiet_on))
          refine wpR_nil ?_
          intro w5 hk2 hF hM
          obtain ⟨-, q5, hq5⟩ := hR.get 0 rfl hM
          have HQ5 := Lib.hid hq5
          have HR5 := Lib.hid (HT.out.rs.queue HT.out.qu hk2)
          have HB5 := Lib.hid (HB.out.trans (hk2.below hsr (fun g hg => (HT.out.qu.lt hg).1)))
          have hs5 := HB5.out.size
          clear hF hM hk2 hp1 hp2 hR p0 p1 p2 c0 c1 c2 hq5 HD
          obtain ⟨d0, d1, d2⟩ := ac_cells (helP.out.keep (w' := w5) (fun o => HB5.out.cell (p := ⟨b, o, none⟩) hb)) hkl
          simp only [HXL.out] at d0 d1 d2
          have blt5 : b < w5.heap.size := by omega
          go_upto_region 23 with fail
          refine wp_region_kept 10 [(2, fun v u => RS u v (R.eraseIdx k0)), (8, fun v u => RS u v (insL ⟨xw, xi⟩ (R.eraseIdx k0)))] ?st ?ne rfl (by kernel_rfl) (by kernel_rfl) ?_
          case st =>
            intro p hp
            simp only [List.mem_cons, List.not_mem_nil, or_false] at hp
            rcases hp with rfl | rfl
            · intro v u u' h hk; exact h.onK hk
            · intro v u u' h hk; exact h.onK hk
          case ne =>
            intro p hp
            simp only [List.mem_cons, List.not_mem_nil, or_false] at hp
            rcases hp with rfl | rfl
            · exact rs_is w5 (R.eraseIdx k0) (by rw [HER.out]; unfold maxLen; omega)
            · exact rs_is w5 (insL ⟨xw, xi⟩ (R.eraseIdx k0)) (by rw [insL_len, HER.out]; unfold maxLen; omega)
          simp only [List.take_succ_cons, List.take_zero, List.drop_succ_cons, List.drop_zero]
          intro G pick hR hp1 hp2
          have p0 : ∀ u, (pick u).cell? ⟨b, o + k * 3, none⟩ = some (.int .i64 2) := fun u => ((hp1 u).cell blt5 (fun h => h) _).trans d0
          have p1 : ∀ u, (pick u).cell? ⟨b, o + k * 3 + 1, none⟩ = some (.int .u64 xw) := fun u => ((hp1 u).cell blt5 (fun h => h) _).trans d1
          have p2 : ∀ u, (pick u).cell? ⟨b, o + k * 3 + 2, none⟩ = some (.int .i64 xi) := fun u => ((hp1 u).cell blt5 (fun h => h) _).trans d2
          repeat (first | (refine wpR_det hp2 rfl ((hR.rel _).trans rfl) rfl ?_; intro K hK; go_big_quiet_op; go_big_quiet_on) | (refine wpR_ptr hp2 rfl ((hR.rel _).trans rfl) rfl rfl ?_; intro K hK; go_big_quiet_op; go_big_quiet_on) | (refine wpR_skip pick rfl ?_; intro K hK; go_big_quiet_op; go_big_quiet_on))
          refine wpR_rel pick rfl ((hR.rel _).trans rfl) ((hR.turns _).trans rfl) ?_ ?_
          · intro u hu
            have hk := hR.since hu.1
            have hks := hk.size
            unfold relAt
            go_simp
            refine (cut_rs u4 R k0 u (HR5.out.onK hk) hk0 (by omega)).mono ?_
            rintro e w' ⟨r', rfl, hr, hb'⟩
            exact ⟨_, rfl, hR.intoB hb', hR.put 0 rfl rfl hr⟩
          intro v hv
          obtain ⟨u, _, hu⟩ := hv
          obtain hT2 := hR.get 0 rfl hu
          clear hu
          intro K hK
          go_big_quiet_op
          go_big_quiet_on
          repeat (first | (refine wpR_det hp2 rfl ((hR.rel _).trans rfl) rfl ?_; intro K hK; go_big_quiet_op; go_big_quiet_on) | (refine wpR_ptr hp2 rfl ((hR.rel _).trans rfl) rfl rfl ?_; intro K hK; go_big_quiet_op; go_big_quiet_on) | (refine wpR_skip pick rfl ?_; intro K hK; go_big_quiet_op; go_big_quiet_on))
          refine wpR_rel pick rfl ((hR.rel _).trans rfl) ((hR.turns _).trans rfl) ?_ ?_
          · intro u hu
            have hk := hR.since hu.1
            have hks := hk.size
            unfold relAt
            go_simp
            refine (push_rs _ (R.eraseIdx k0) xw xi u (hR.get 0 rfl (hu.2 _ _ (Got.upd_self _ _ _) (by kernel_rfl))) (by rw [HER.out]; omega)).mono ?_
            rintro e w' ⟨r', rfl, hr, hb'⟩
            exact ⟨_, rfl, hR.intoB hb', hR.put 1 rfl rfl hr⟩
          intro v hv
          obtain ⟨u, _, hu⟩ := hv
          obtain hT8 := hR.get 1 rfl hu
          clear hu
          intro K hK
          go_big_quiet_op
          go_big_quiet_on
          repeat (first | (refine wpR_det hp2 rfl ((hR.rel _).trans rfl) rfl ?_; intro K hK; go_big_quiet_op; go_big_quiet_on) | (refine wpR_ptr hp2 rfl ((hR.rel _).trans rfl) rfl rfl ?_; intro K hK; go_big_quiet_op; go_big_quiet_on) | (refine wpR_skip pick rfl ?_; intro K hK; go_big_quiet_op; go_big_quiet_on))
          refine wpR_nil ?_
          intro w6 hk2 hF hM
          have HT6 := Lib.hid (show Two qb w.heap.size q5 _ _ _ w6 from ⟨HQ5.out.on0 hk2, (hR.get 1 rfl (hF _ _ (Got.upd_self _ _ _))), HTW.out⟩)
          have HB6 := Lib.hid (HB5.out.trans (hk2.below hs5 (fun _ h => h.elim)))
          clear hF hM hk2 hp1 hp2 hR p0 p1 p2 d0 d1 d2
          have HFS := Lib.hid (lfirst_two _ _ _ _ _ _ _ HT6.out (by have h1 := HT6.out.tw.len; have h2 := HLN.out; have h3 := HER.out; have h4 := insL_len ⟨xw, xi⟩ (R.eraseIdx k0); omega))
          go_wp2_with fail
          refine HFS.out.mono ?_
          rintro e wf ⟨rfl, hbf⟩
          have HTF := Lib.hid (HT6.out.onB hbf)
          have HBF := Lib.hid (belK HB6.out hbf)
          clear hbf HFS
          go_wp2_with fail
          go_roundw
          case rel => exact ⟨k + 1, _, _, _, by omega, by omega, (by have h3 := HER.out; have h4 := insL_len ⟨xw, xi⟩ (R.eraseIdx k0); omega), by go_num, HTF, HU6, HBF⟩
          case measure => simp [intOf]; omega
      by_cases hk3 : kd = 3
      · subst hk3
        have HNS := Lib.hid (show ¬ QOwn qb q b from fun h => by have := (HT.out.qu.lt h).1; omega)
        rcases HZ.out with ⟨rfl, hnR, hnH⟩ | ⟨k0, hk0, j, hj, rfl, eR, eH, hfst⟩
        · have HD := Lib.hid (qdrop_no qb w.heap.size q H xi wr HT.out.qu (by have := HLN.out; omega) hnH)
          clear HZ hnR hnH
          go_wp2_with fail
          refine HD.out.mono ?_
          rintro e w5 ⟨rfl, hb5⟩
          have HT5 := Lib.hid (HT.out.onB hb5)
          have HB5 := Lib.hid (belK HB.out hb5)
          clear hb5 HD
          have HFS := Lib.hid (lfirst_two _ _ _ _ _ _ _ HT5.out (by have h1 := HT5.out.tw.len; have h2 := HLN.out;  omega))
          go_wp2_with fail
          refine HFS.out.mono ?_
          rintro e wf ⟨rfl, hbf⟩
          have HTF := Lib.hid (HT5.out.onB hbf)
          have HBF := Lib.hid (belK HB5.out hbf)
          clear hbf HFS
          go_wp2_with fail
          go_roundw
          case rel => exact ⟨k + 1, _, _, _, by omega, by omega, (by  omega), by go_num, HTF, HU, HBF⟩
          case measure => simp [intOf]; omega
        · obtain ⟨n, hn⟩ : ∃ n, H.length = n + 1 := ⟨H.length - 1, by omega⟩
          have HD := Lib.hid (qdrop_any qb w.heap.size q H xi j n wr HT.out.qu (by have := HLN.out; omega) hn hsr hj eH hfst)
          have HTW := Lib.hid (HT.out.tw.drop HU.out hk0 hj hn (eR.trans eH.symm))
          have k0I : (0 : Int) ≤ (k0 : Int) := by omega
          have HER := Lib.hid (er_len hk0)
          clear HZ eR eH hfst hn
          go_wp2_with fail
          refine HD.out.mono ?_
          rintro e w5 ⟨rfl, q5, hq5, hk5, -⟩
          have HQ5 := Lib.hid hq5
          have HR5 := Lib.hid (HT.out.rs.queue HT.out.qu hk5)
          have HB5 := Lib.hid (HB.out.trans (hk5.below hsr (fun g hg => (HT.out.qu.lt hg).1)))
          have HC := Lib.hid (cut_rs u4 R k0 w5 HR5.out hk0 (by omega))
          clear hq5 hk5 HD
          go_wp2_with fail
          refine HC.out.mono ?_
          rintro e w6 ⟨r6, rfl, hr6, hb6⟩
          have HT6 := Lib.hid (show Two qb w.heap.size q5 r6 _ _ w6 from ⟨HQ5.out.onB hb6, hr6, HTW.out⟩)
          have HB6 := Lib.hid (belK HB5.out hb6)
          have HU6 := Lib.hid (HU.out.erase k0)
          clear hr6 hb6 HC
          have HFS := Lib.hid (lfirst_two _ _ _ _ _ _ _ HT6.out (by have h1 := HT6.out.tw.len; have h2 := HLN.out; have h3 := HER.out; omega))
          go_wp2_with fail
          refine HFS.out.mono ?_
          rintro e wf ⟨rfl, hbf⟩
          have HTF := Lib.hid (HT6.out.onB hbf)
          have HBF := Lib.hid (belK HB6.out hbf)
          clear hbf HFS
          go_wp2_with fail
          go_roundw
          case rel => exact ⟨k + 1, _, _, _, by omega, by omega, (by have h3 := HER.out; omega), by go_num, HTF, HU6, HBF⟩
          case measure => simp [intOf]; omega
      rcases HZ.out with ⟨rfl, hnR, hnH⟩ | ⟨k0, hk0, j, hj, rfl, eR, eH, hfst⟩
      · have HP := Lib.hid (qpush_any qb w.heap.size q H ⟨xw, xi⟩ wr HT.out.qu (by have := HLN.out; omega) hsr)
        have HPT := Lib.hid (fun u (hu : Below wr.heap.size wr u) => qpush_any qb w.heap.size q H ⟨xw, xi⟩ u (HT.out.qu.onB hu) (by have := HLN.out; omega) (Nat.le_trans hsr hu.size))
        have HU6 := Lib.hid (HU.out.ins (x := ⟨xw, xi⟩) hnR)
        clear HZ hnR hnH HP
        go_wp2_with fail
        refine (to_any xw xi wr).mono ?_
        rintro e w5 ⟨rfl, hb5⟩
        have HT5 := Lib.hid (HT.out.onB hb5)
        have HB5 := Lib.hid (belK HB.out hb5)
        have hs5 := HB5.out.size
        have HP5 := Lib.hid (HPT.out w5 hb5)
        clear hb5 HPT
        go_wp2_with fail
        refine HP5.out.mono ?_
        rintro e w6 ⟨rfl, q6, hq6, hk6', -⟩
        have HQ6 := Lib.hid hq6
        have HR6 := Lib.hid (HT5.out.rs.queue HT5.out.qu hk6')
        have HB6 := Lib.hid (HB5.out.trans (hk6'.below hs5 (fun g hg => (HT5.out.qu.lt hg).1)))
        have HTW := Lib.hid (HT.out.tw.push ⟨xw, xi⟩)
        have HC := Lib.hid (push_rs u4 R xw xi w6 HR6.out (by omega))
        clear hq6 hk6' HP5
        obtain ⟨d0, d1, d2⟩ := ac_cells (helP.out.keep (w' := w6) (fun o => HB6.out.cell (p := ⟨b, o, none⟩) hb)) hkl
        simp only [HXL.out] at d0 d1 d2
        clear c0 c1 c2
        have blt6 : b < w6.heap.size := by have := HB6.out.size; omega
        go_wp2_with fail
        refine HC.out.mono ?_
        rintro e w7 ⟨r7, rfl, hr7, hb7⟩
        have HT7 := Lib.hid (show Two qb w.heap.size q6 r7 _ _ w7 from ⟨HQ6.out.onB hb7, hr7, HTW.out⟩)
        have HB7 := Lib.hid (belK HB6.out hb7)
        clear hr7 hb7 HC
        have HFS := Lib.hid (lfirst_two _ _ _ _ _ _ _ HT7.out (by have h1 := HT7.out.tw.len; have h2 := HLN.out; have h3 := insL_len ⟨xw, xi⟩ R; omega))
        go_wp2_with fail
        refine HFS.out.mono ?_
        rintro e wf ⟨rfl, hbf⟩
        have HTF := Lib.hid (HT7.out.onB hbf)
        have HBF := Lib.hid (belK HB7.out hbf)
        clear hbf HFS
        go_wp2_with fail
        go_roundw
        case rel => exact ⟨k + 1, _, _, _, by omega, by omega, (by have h3 := insL_len ⟨xw, xi⟩ R; omega), by go_num, HTF, HU6, HBF⟩
        case measure => simp [intOf]; omega
      · have k0I : ¬ (k0 : Int) < 0 := by omega
        clear HZ eR eH hfst
        have HFS := Lib.hid (lfirst_two _ _ _ _ _ _ _ HT.out (by have h1 := HT.out.tw.len; have h2 := HLN.out;  omega))
        go_wp2_with fail
        refine HFS.out.mono ?_
        rintro e wf ⟨rfl, hbf⟩
        have HTF := Lib.hid (HT.out.onB hbf)
        have HBF := Lib.hid (belK HB.out hbf)
        clear hbf HFS
        go_wp2_with fail
        go_roundw
        case rel => exact ⟨k + 1, _, _, _, by omega, by omega, (by  omega), by go_num, HTF, HU, HBF⟩
        case measure => simp [intOf]; omega
end Go.Proofs.Ytikakdcjbnbacaa
