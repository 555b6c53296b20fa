/- The law SpreadPlaces, walked where the table is there. -/
import Derived.Test.YtkkmlpaadbphjaaG
namespace Go.Proofs.Ytkkmlpaadbphjaa
open Go.RowKit
set_option linter.unusedVariables false

theorem pickI_at (l : List Int) (k : Nat) (h : k < l.length) : pickI l (k : Int) = l[k] := by
  unfold pickI
  rw [if_neg (by omega)]
  simp [Nat.mod_eq_of_lt h, List.getD_eq_getElem?_getD, h]
theorem pickI_mod (l : List Int) (m : Nat) (h : 0 < l.length) : pickI l (m : Int) = l[m % l.length]'(Nat.mod_lt _ h) := by
  unfold pickI
  rw [if_neg (by omega)]
  simp [List.getD_eq_getElem?_getD, Nat.mod_lt _ h]
theorem rep_gone (t : List Int) (gone : Int) (ts : List Int) (h : others ts gone ≠ []) : cnt (rep t gone (others ts gone)) gone = 0 := by
  have hl : 0 < (others ts gone).length := List.length_pos_iff.2 h
  have hmem : ∀ x ∈ others ts gone, x ≠ gone := fun x hx => by
    have := (List.mem_filter.1 hx).2
    simpa using this
  unfold cnt
  rw [List.count_eq_zero]
  intro hm
  obtain ⟨i, hi, he⟩ := List.mem_iff_getElem.1 hm
  rw [rep_length] at hi
  rw [rep_get t gone _ i hi] at he
  by_cases hg : t[i] = gone
  · rw [repAt_yes t gone _ i hi hg hl] at he
    exact hmem _ (List.getElem_mem _) he
  · rw [repAt_no t gone _ i hi hg] at he
    exact hg he

set_option maxRecDepth 100000 in
set_option maxHeartbeats 8000000 in
theorem places_ok (A C : Option Addr) (c d n : Nat) (t ts : List Int) (sum gone : Int) (w : World) (s0 : 0 ≤ sum) (s1 : sum ≤ 4294967295) (htl : t.length ≤ 100) (ht : 0 < t.length) (htsl : ts.length ≤ 100) (n1 : 1 ≤ n) (n2 : n ≤ 512) (hp : (n : Int) ∈ pow2s)
    (hA : NS w w.heap.size A .i64 t) (hC : NS w w.heap.size C .i64 ts) :
    Calls Try.prog 4 #[.int .i64 (n : Int), .slice A t.length c, .int .u32 sum, .int .i64 gone, .slice C ts.length d] w fun e w' => e = .returned (.bool true) ∧ Below w.heap.size w w' := by
  have HA := Lib.hid hA
  have HC := Lib.hid hC
  have t0 : ((t.length : Int) == 0) = false := beq_eq_false_iff_ne.2 (by omega)
  have b1 : decide ((100 : Int) < (t.length : Int)) = false := by simp; omega
  have b2 : decide ((100 : Int) < (ts.length : Int)) = false := by simp; omega
  have b3 : decide ((512 : Int) < (n : Int)) = false := by simp; omega
  have HP := Lib.hid ((and_pow n n1 (by omega)).2 hp)
  have HD := Lib.hid (decide_eq_true hp)
  obtain ⟨l, hl⟩ : ∃ l, l = places n t := ⟨_, rfl⟩
  have hln : l.length = n := by rw [hl, places_length]
  have HL := Lib.hid hl
  have HLN := Lib.hid hln
  clear hA hC hp hl hln
  go_enter Try.func4, Try.ntmps4
  go_wp2_with fail
  refine (new_ok A c n t w n1 (by omega) HP.out ht (by omega) HA.out).mono ?_
  rintro e w1 ⟨rfl, hblk, hb1⟩
  rw [← HL.out] at hblk
  have hs1 := hb1.size
  have HBK := Lib.hid hblk
  have HB1 := Lib.hid hb1
  have hg1 := hblk.lt
  clear hblk hb1
  go_wp2_with fail
  refine (refRight_any (n : Int) _ (by omega) (by omega)).mono ?_
  rintro e w2 ⟨rfl, rfl⟩
  rw [HD.out]
  have hT1 : Blk ((w1.alloc (.cells #[.slice (some ⟨w.heap.size + 1, 0, none⟩) n n] 29)).alloc (.cells #[.slice none 0 0] 29)) w1.heap.size 29 #[.slice (some ⟨w.heap.size + 1, 0, none⟩) n n] := (Blk.new _ _ _).alloc _
  have hN : NS ((w1.alloc (.cells #[.slice (some ⟨w.heap.size + 1, 0, none⟩) n n] 29)).alloc (.cells #[.slice none 0 0] 29)) ((w1.alloc (.cells #[.slice (some ⟨w.heap.size + 1, 0, none⟩) n n] 29)).alloc (.cells #[.slice none 0 0] 29)).heap.size (some ⟨w.heap.size + 1, 0, none⟩) .i64 l := NS.of_blk ((HBK.out.alloc _).alloc _)
  have hB2 : Below w.heap.size w ((w1.alloc (.cells #[.slice (some ⟨w.heap.size + 1, 0, none⟩) n n] 29)).alloc (.cells #[.slice none 0 0] 29)) := (HB1.out.alloc hs1 _).alloc (by simp; omega) _
  generalize (w1.alloc (.cells #[.slice (some ⟨w.heap.size + 1, 0, none⟩) n n] 29)).alloc (.cells #[.slice none 0 0] 29) = w2 at hT1 hN hB2 ⊢
  generalize (⟨w.heap.size + 1, 0, none⟩ : Addr) = ta at hT1 hN ⊢
  generalize w1.heap.size = T1 at hT1 ⊢
  have hs2 := hB2.size
  have HT := Lib.hid hT1
  have HTN := Lib.hid hN
  have HB2 := Lib.hid hB2
  clear hT1 hN hB2 HBK HB1 hg1 hs1
  go_wp2_with fail
  refine (refPlaces_any A c n t w2 (by omega) ht (by omega) (HA.out.below HB2.out |>.more hs2)).mono ?_
  rintro e w3 ⟨rv, rfl, hrn, hb3⟩
  rw [← HL.out] at hrn
  obtain ⟨RA, rc, rfl, -, -, hrn⟩ := hrn
  have hs3 := hb3.size
  have HRN := Lib.hid hrn
  have HTN3 := Lib.hid (HTN.out.onB hb3)
  have HT3 := Lib.hid (HT.out.below hb3 HT.out.lt)
  have HB3 := Lib.hid (HB2.out.trans (hb3.mono hs2))
  have hT3l := HT3.out.lt
  rw [HLN.out]
  clear hrn hb3 HTN HT HB2
  go_wp2_with fail
  go_loopg [15, 16] (n + 1) (fun g m i wr => ∃ k : Nat, k + g = n + 1 ∧ k ≤ n ∧ i = .int .i64 (k : Int) ∧ m = .int .i64 (cnt (l.take k) gone : Int) ∧ Kept (fun _ => False) w3 wr)
  case atStart => exact ⟨0, by omega, by omega, rfl, rfl, Kept.refl _ _⟩
  case round =>
    obtain ⟨k, hgk, hkn, rfl, rfl, hK⟩ := hrel
    have HGK := Lib.hid hgk
    have HK := Lib.hid hK
    have hsw := hK.size
    have hcl := cnt_le l gone k
    have HTN4 := Lib.hid (HTN3.out.on0 hK)
    have HRN4 := Lib.hid (HRN.out.on0 hK)
    have hT4 := HT3.out.kept hK (fun h => h)
    have cT := hT4.cell
    have HT4 := Lib.hid hT4
    have hT4l := hT4.lt
    clear hgk hK hT4
    by_cases hlt : k < n
    · have hlt' : k < l.length := by rw [HLN.out]; exact hlt
      obtain ⟨rb, ro, hrb, rfl, hca⟩ := HRN4.out.at hlt'
      have c1 := hca k hlt'
      have HPK := Lib.hid (pickI_at l k hlt')
      have HCT := Lib.hid (cnt_take l gone k hlt')
      generalize l[k] = x at c1 HPK HCT
      have kI : (k : Int) < (n : Int) := by omega
      have kI0 : (0 : Int) ≤ (k : Int) := by omega
      clear hca
      go_wp2_with fail
      refine wp_region_kept 9 [(3, fun v _ => v = .int .i64 x)] ?st ?ne rfl (by kernel_rfl) (by kernel_rfl) ?_
      case st =>
        intro p hp
        simp only [List.mem_cons, List.not_mem_nil, or_false] at hp
        subst hp
        · intro v u u' h hk; exact h
      case ne =>
        intro p hp
        simp only [List.mem_cons, List.not_mem_nil, or_false] at hp
        subst hp
        · exact ⟨_, _, Kept.refl _ _, rfl⟩
      simp only [List.take_succ_cons, List.take_zero, List.drop_succ_cons, List.drop_zero]
      intro G pick hR hp1 hp2
      have pT : ∀ u, (pick u).cell? ⟨T1, 0, none⟩ = some (.slice (some ta) n n) := fun u => ((hp1 u).cell hT4l (fun h => h) _).trans (cT 0)
      have pc1 : ∀ u, (pick u).cell? ⟨rb, ro + k, none⟩ = some (.int .i64 x) := fun u => ((hp1 u).cell hrb (fun h => h) _).trans c1
      repeat (first | (refine wpR_det hp2 rfl ((hR.rel _).trans rfl) rfl ?_; intro K hK; go_big_quiet_op; go_big_quiet_on) | (refine wpR_skip pick rfl ?_; intro K hK; go_big_quiet_op; go_big_quiet_on))
      refine wpR_rel pick rfl ((hR.rel _).trans rfl) ((hR.turns _).trans rfl) ?_ ?_
      · intro u hu
        have hk := hR.since hu.1
        have hks := hk.size
        have hz := pick_any (some ta) n l (k : Int) u (by omega) (by omega) (by rw [HLN.out]; omega) (HTN4.out.on0 hk)
        rw [HLN.out] at hz
        unfold relAt
        go_simp
        rw [HPK.out] at hz
        refine hz.mono ?_
        rintro e w' ⟨rfl, hb⟩
        exact ⟨_, rfl, hR.intoB hb, hR.put 0 rfl rfl rfl⟩
      intro v hv
      obtain ⟨u, _, hu⟩ := hv
      obtain rfl := hR.get 0 rfl hu
      clear hu
      intro K hK
      go_big_quiet_op
      go_big_quiet_on
      repeat (first | (refine wpR_det hp2 rfl ((hR.rel _).trans rfl) rfl ?_; intro K hK; go_big_quiet_op; go_big_quiet_on) | (refine wpR_skip pick rfl ?_; intro K hK; go_big_quiet_op; go_big_quiet_on))
      refine wpR_nil ?_
      intro w2 hk2 hF hM
      have c1' := (hk2.cell hrb (fun h => h) (ro + k)).trans c1
      have HK2 := Lib.hid (HK.out.trans hk2)
      have hs2' := hk2.size
      clear hF hM hk2 pT pc1 hp1 hp2 hR c1 cT
      by_cases hx : x = gone
      · have hx' : ((x : Int) == gone) = true := beq_iff_eq.2 hx
        have HCT2 := Lib.hid (HCT.out.trans (by rw [if_pos hx]))
        generalize cnt (l.take k) gone = m at hcl HCT2 ⊢
        clear hx
        go_wp2_with fail
        go_roundg (gk - 1)
        case measure => have := HGK.out; omega
        case rel => exact ⟨k + 1, by have := HGK.out; omega, by omega, by go_num, by rw [HCT2.out]; go_num, HK2.out⟩
      · have hx' : ((x : Int) == gone) = false := beq_eq_false_iff_ne.2 hx
        have HCT2 := Lib.hid (HCT.out.trans (by rw [if_neg hx]))
        clear hx
        go_wp2_with fail
        go_roundg (gk - 1)
        case measure => have := HGK.out; omega
        case rel => exact ⟨k + 1, by have := HGK.out; omega, by omega, by go_num, by rw [HCT2.out]; rfl, HK2.out⟩
    · obtain rfl : k = n := by omega
      rw [List.take_of_length_le (by rw [HLN.out]; omega)]
      obtain ⟨m, rfl⟩ := Int.eq_ofNat_of_zero_le s0
      have hlp : 0 < l.length := by rw [HLN.out]; omega
      have hmod : m % l.length < l.length := Nat.mod_lt _ hlp
      obtain ⟨rb, ro, hrb, rfl, hca⟩ := HRN4.out.at hmod
      have c1 := hca _ hmod
      have HPM := Lib.hid (pickI_mod l m hlp)
      generalize l[m % l.length] = x at c1 HPM
      rw [HLN.out] at c1 hmod
      have q1 : (0 : Int) ≤ (m : Int) % (k : Int) := Int.emod_nonneg _ (by omega)
      have q2 : (m : Int) % (k : Int) < (k : Int) := Int.emod_lt_of_pos _ (by omega)
      have q3 : ((m : Int) % (k : Int)).toNat = m % k := by omega
      clear hca
      go_wp2_with fail
      refine wp_region_kept 22 [(5, fun v _ => v = .int .i64 x), (18, fun v _ => v = .int .i64 (cnt l gone : Int))] ?st ?ne rfl (by kernel_rfl) (by kernel_rfl) ?_
      case st =>
        intro p hp
        simp only [List.mem_cons, List.not_mem_nil, or_false] at hp
        rcases hp with rfl | rfl
        · intro v u u' h hk; exact h
        · intro v u u' h hk; exact h
      case ne =>
        intro p hp
        simp only [List.mem_cons, List.not_mem_nil, or_false] at hp
        rcases hp with rfl | rfl
        · exact ⟨_, _, Kept.refl _ _, rfl⟩
        · exact ⟨_, _, Kept.refl _ _, rfl⟩
      simp only [List.take_succ_cons, List.take_zero, List.drop_succ_cons, List.drop_zero]
      intro G pick hR hp1 hp2
      have pT : ∀ u, (pick u).cell? ⟨T1, 0, none⟩ = some (.slice (some ta) k k) := fun u => ((hp1 u).cell hT4l (fun h => h) _).trans (cT 0)
      have pc1 : ∀ u, (pick u).cell? ⟨rb, ro + m % k, none⟩ = some (.int .i64 x) := fun u => ((hp1 u).cell hrb (fun h => h) _).trans c1
      repeat (first | (refine wpR_det hp2 rfl ((hR.rel _).trans rfl) rfl ?_; intro K hK; go_big_quiet_op; go_big_quiet_on) | (refine wpR_skip pick rfl ?_; intro K hK; go_big_quiet_op; go_big_quiet_on))
      refine wpR_rel pick rfl ((hR.rel _).trans rfl) ((hR.turns _).trans rfl) ?_ ?_
      · intro u hu
        have hk := hR.since hu.1
        have hks := hk.size
        have hz := pick_any (some ta) k l (m : Int) u (by omega) (by omega) (by rw [HLN.out]; omega) (HTN4.out.on0 hk)
        rw [HLN.out] at hz
        unfold relAt
        go_simp
        rw [HPM.out] at hz
        refine hz.mono ?_
        rintro e w' ⟨rfl, hb⟩
        exact ⟨_, rfl, hR.intoB hb, hR.put 0 rfl rfl rfl⟩
      intro v hv
      obtain ⟨u, _, hu⟩ := hv
      obtain rfl := hR.get 0 rfl hu
      clear hu
      intro K hK
      go_big_quiet_op
      go_big_quiet_on
      repeat (first | (refine wpR_det hp2 rfl ((hR.rel _).trans rfl) rfl ?_; intro K hK; go_big_quiet_op; go_big_quiet_on) | (refine wpR_skip pick rfl ?_; intro K hK; go_big_quiet_op; go_big_quiet_on))
      refine wpR_rel pick rfl ((hR.rel _).trans rfl) ((hR.turns _).trans rfl) ?_ ?_
      · intro u hu
        have hk := hR.since hu.1
        have hks := hk.size
        have hz := count_any (some ta) k l gone u (by rw [HLN.out]; omega) (HTN4.out.on0 hk)
        rw [HLN.out] at hz
        unfold relAt
        go_simp
        refine hz.mono ?_
        rintro e w' ⟨rfl, hb⟩
        exact ⟨_, rfl, hR.intoB hb, hR.put 1 rfl rfl rfl⟩
      intro v hv
      obtain ⟨u, _, hu⟩ := hv
      obtain rfl := hR.get 1 rfl hu
      clear hu
      intro K hK
      go_big_quiet_op
      go_big_quiet_on
      repeat (first | (refine wpR_det hp2 rfl ((hR.rel _).trans rfl) rfl ?_; intro K hK; go_big_quiet_op; go_big_quiet_on) | (refine wpR_skip pick rfl ?_; intro K hK; go_big_quiet_op; go_big_quiet_on))
      refine wpR_nil ?_
      intro w5 hk2 hF hM
      have hT5 := HT4.out.kept hk2 (fun h => h)
      have cT5 := hT5.cell
      have hs5 := hk2.size
      have HTN5 := Lib.hid (HTN4.out.on0 hk2)
      have HRN5 := Lib.hid (HRN4.out.on0 hk2)
      have HB5 := Lib.hid (HB3.out.trans ((HK.out.trans hk2).below (by omega) (fun _ h => h.elim)))
      have hs50 := HB5.out.size
      clear hF hM hk2 pT pc1 hp1 hp2 hR c1 cT hT5 q1 q2 q3
      go_wp2_with fail
      have hw := without_any (some ta) C k d l ts gone w5 (by rw [HLN.out]; omega) (by rw [HLN.out]; omega) (by omega) HTN5.out ((HC.out.below HB5.out).more hs50)
      rw [HLN.out] at hw
      refine hw.mono ?_
      rintro e w6 ⟨⟨v, r, rfl, hor⟩, hb6⟩
      have hs6 := hb6.size
      obtain ⟨VA, vn, vc, rfl⟩ : ∃ VA vn vc, v = .slice VA vn vc := by
        rcases hor with ⟨_, h, _⟩ | ⟨_, _, ⟨a, b, h, _⟩⟩
        · exact ⟨_, _, _, h⟩
        · exact ⟨_, _, _, h⟩
      have HOR := Lib.hid hor
      have HRN6 := Lib.hid (HRN5.out.onB hb6)
      have HB6 := Lib.hid (HB5.out.trans (hb6.mono hs50))
      clear hb6 hw hor cT5
      go_wp2_with fail
      have hs60 : w.heap.size ≤ w6.heap.size := by omega
      have hw := refWithout_any (some ⟨rb, ro, none⟩) C rc d l ts gone (w6.alloc (.cells #[.slice VA vn vc] 29)) (by rw [HLN.out]; omega) (by omega) (HRN6.out.onB ((Below.refl _ _).alloc (Nat.le_refl _) _)) ((HC.out.below (HB6.out.alloc hs60 _)).more (by simp; omega))
      rw [HLN.out] at hw
      refine hw.mono ?_
      rintro e w7 ⟨⟨v2, r2, rfl, hor2⟩, hb7⟩
      have hs7 := hb7.size
      simp only [World.size_alloc] at hs7
      have hU : Blk w7 w6.heap.size 29 #[.slice VA vn vc] := Blk.below (Blk.new w6 29 #[.slice VA vn vc]) hb7 (by simp)
      have hBw : Below w6.heap.size w6 w7 := ((Below.refl _ _).alloc (Nat.le_refl _) _).trans (hb7.mono (by simp))
      have HB7 := Lib.hid (HB6.out.trans (hBw.mono hs60))
      have cU := hU.cell
      have HU := Lib.hid hU
      have hUl := hU.lt
      clear hb7 hw hU
      rcases HOR.out with ⟨he, hv, rfl⟩ | ⟨he, rfl, hnm⟩
      · rcases hor2 with ⟨-, rfl, rfl⟩ | ⟨he', -⟩
        · injection hv with hv1 hv2 hv3
          subst hv1 hv2 hv3
          clear he hBw HOR
          go_wp2_with fail
          refine (pick_any none 0 [] 0 w7 (by omega) (by omega) (by simp) (.inl rfl)).mono ?_
          rintro e w8 ⟨rfl, hb8⟩
          rw [show pickI [] 0 = -1 from rfl]
          have hs8 := hb8.size
          have HB8 := Lib.hid (HB7.out.trans (hb8.mono (by omega)))
          clear hb8 cU
          go_wp2_with fail
          refine (awake_any w8).mono ?_
          rintro e w9 ⟨rfl, hb9⟩
          have HB9 := Lib.hid (HB8.out.trans (hb9.mono (by omega)))
          clear hb9
          go_wp2_with fail
          go_ret
          exact ⟨rfl, HB9.out⟩
        · exact absurd he he'
      · rcases hor2 with ⟨he', -⟩ | ⟨-, rfl, hnm2⟩
        · exact absurd he' he
        · obtain ⟨UA, uc, hv, -, -, hun⟩ := hnm.onB hBw
          injection hv with hv1 hv2 hv3
          subst hv1 hv2 hv3
          obtain ⟨XA, xc, rfl, -, -, hxn⟩ := hnm2
          have HG := Lib.hid (rep_gone l gone ts he)
          have hrl := rep_length l gone (others ts gone)
          rw [HLN.out] at hrl
          generalize rep l gone (others ts gone) = q at hun hxn HG hrl HU cU ⊢
          have HQ := Lib.hid hrl
          have HUN := Lib.hid hun
          have HXN := Lib.hid hxn
          rw [hrl] at cU HU ⊢
          clear hun hxn he hnm hBw HOR hrl
          go_wp2_with fail
          go_loopg [21] (k + 1) (fun g i wr => ∃ j : Nat, j + g = k + 1 ∧ j ≤ k ∧ i = .int .i64 (j : Int) ∧ Kept (fun _ => False) w7 wr)
          case atStart => exact ⟨0, by omega, by omega, rfl, Kept.refl _ _⟩
          case round =>
            obtain ⟨j, hgj, hjk, rfl, hK7⟩ := hrel
            have HGJ := Lib.hid hgj
            have HK7 := Lib.hid hK7
            have hsw7 := hK7.size
            have HUN7 := Lib.hid (HUN.out.on0 hK7)
            have HXN7 := Lib.hid (HXN.out.on0 hK7)
            have hU7 := HU.out.kept hK7 (fun h => h)
            have cU7 := hU7.cell
            have hU7l := hU7.lt
            clear hgj hK7 hU7 cU
            by_cases hlj : j < k
            · have hlj' : j < q.length := by rw [HQ.out]; exact hlj
              obtain ⟨xb, xo, hxb, rfl, hca⟩ := HXN7.out.at hlj'
              have c1 := hca j hlj'
              have HPK := Lib.hid (pickI_at q j hlj')
              generalize q[j] = y at c1 HPK
              have kI : (j : Int) < (k : Int) := by omega
              have kI0 : (0 : Int) ≤ (j : Int) := by omega
              clear hca
              go_wp2_with fail
              refine wp_region_kept 9 [(3, fun v _ => v = .int .i64 y)] ?st ?ne rfl (by kernel_rfl) (by kernel_rfl) ?_
              case st =>
                intro p hp
                simp only [List.mem_cons, List.not_mem_nil, or_false] at hp
                subst hp
                · intro v u u' h hk; exact h
              case ne =>
                intro p hp
                simp only [List.mem_cons, List.not_mem_nil, or_false] at hp
                subst hp
                · exact ⟨_, _, Kept.refl _ _, rfl⟩
              simp only [List.take_succ_cons, List.take_zero, List.drop_succ_cons, List.drop_zero]
              intro G pick hR hp1 hp2
              have pT : ∀ u, (pick u).cell? ⟨w6.heap.size, 0, none⟩ = some (.slice VA k vc) := fun u => ((hp1 u).cell hU7l (fun h => h) _).trans (cU7 0)
              have pc1 : ∀ u, (pick u).cell? ⟨xb, xo + j, none⟩ = some (.int .i64 y) := fun u => ((hp1 u).cell hxb (fun h => h) _).trans c1
              repeat (first | (refine wpR_det hp2 rfl ((hR.rel _).trans rfl) rfl ?_; intro K hK; go_big_quiet_op; go_big_quiet_on) | (refine wpR_skip pick rfl ?_; intro K hK; go_big_quiet_op; go_big_quiet_on))
              refine wpR_rel pick rfl ((hR.rel _).trans rfl) ((hR.turns _).trans rfl) ?_ ?_
              · intro u hu
                have hk := hR.since hu.1
                have hks := hk.size
                have hz := pick_any VA vc q (j : Int) u (by omega) (by omega) (by rw [HQ.out]; omega) (HUN7.out.on0 hk)
                rw [HQ.out] at hz
                unfold relAt
                go_simp
                rw [HPK.out] at hz
                refine hz.mono ?_
                rintro e w' ⟨rfl, hb⟩
                exact ⟨_, rfl, hR.intoB hb, hR.put 0 rfl rfl rfl⟩
              intro v hv
              obtain ⟨u, _, hu⟩ := hv
              obtain rfl := hR.get 0 rfl hu
              clear hu
              intro K hK
              go_big_quiet_op
              go_big_quiet_on
              repeat (first | (refine wpR_det hp2 rfl ((hR.rel _).trans rfl) rfl ?_; intro K hK; go_big_quiet_op; go_big_quiet_on) | (refine wpR_skip pick rfl ?_; intro K hK; go_big_quiet_op; go_big_quiet_on))
              refine wpR_nil ?_
              intro w2 hk2 hF hM
              have HK8 := Lib.hid (HK7.out.trans hk2)
              clear hF hM hk2 pT pc1 hp1 hp2 hR c1 cU7
              go_wp2_with fail
              go_roundg (gk - 1)
              case measure => have := HGJ.out; omega
              case rel => exact ⟨j + 1, by have := HGJ.out; omega, by omega, by go_num, HK8.out⟩
            · obtain rfl : j = k := by omega
              have HB8 := Lib.hid (HB7.out.trans (HK7.out.below (by omega) (fun _ h => h.elim)))
              go_wp2_with fail
              have hz := count_any VA vc q gone _ (by rw [HQ.out]; omega) HUN7.out
              rw [HQ.out] at hz
              refine hz.mono ?_
              rintro e w8 ⟨rfl, hb8⟩
              rw [HG.out]
              have hs8 := hb8.size
              have HB9 := Lib.hid (HB8.out.trans (hb8.mono (by omega)))
              clear hb8 hz cU7
              go_wp2_with fail
              refine (awake_any w8).mono ?_
              rintro e w9 ⟨rfl, hb9⟩
              have HB10 := Lib.hid (HB9.out.trans (hb9.mono (by omega)))
              clear hb9
              go_wp2_with fail
              go_ret
              exact ⟨rfl, HB10.out⟩
theorem places_l (A C : Option Addr) (c d : Nat) (t ts : List Int) (n sum gone : Int) (w : World) (n0 : -9223372036854775808 ≤ n) (n9 : n ≤ 9223372036854775807) (s0 : 0 ≤ sum) (s1 : sum ≤ 4294967295) (ht : t.length ≤ maxLen) (hts : ts.length ≤ maxLen) (hA : NS w w.heap.size A .i64 t) (hC : NS w w.heap.size C .i64 ts) :
    Calls Try.prog 4 #[.int .i64 n, .slice A t.length c, .int .u32 sum, .int .i64 gone, .slice C ts.length d] w fun e w' => e = .returned (.bool true) ∧ Below w.heap.size w w' := by
  by_cases h : 100 < t.length ∨ (t.length ≤ 100 ∧ 100 < ts.length) ∨ (t.length ≤ 100 ∧ ts.length ≤ 100 ∧ 512 < n ∧ n ≤ 4096)
  · exact skip_any A C c d _ _ n sum gone w ht hts h
  · by_cases hno : t.length = 0 ∨ (0 < t.length ∧ n ∉ pow2s)
    · exact places_no A C c d _ _ n sum gone w n0 n9 s0 s1 (by omega) (by omega) (by omega) hno
    · have hp : n ∈ pow2s := by
        by_cases hp : n ∈ pow2s
        · exact hp
        · exact absurd (.inr ⟨by omega, hp⟩) hno
      have hr : 1 ≤ n ∧ n ≤ 4096 := by simp [pow2s] at hp; omega
      obtain ⟨q, rfl⟩ := Int.eq_ofNat_of_zero_le (show 0 ≤ n by omega)
      exact places_ok A C c d q t ts sum gone w s0 s1 (by omega) (by omega) (by omega) (by omega) (by omega) hp hA hC
end Go.Proofs.Ytkkmlpaadbphjaa
