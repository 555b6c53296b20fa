/- The law MailPlays, walked. -/
import Derived.Test.YtggipaengnchgaaM
import Derived.Deep.DeepCutAuto
import Derived.Deep.CutBlock
namespace Go.Proofs.Ytggipaengnchgaa
open Go.RowKit
set_option linter.unusedVariables false
set_option maxRecDepth 100000 in
set_option maxHeartbeats 8000000 in
theorem plays_any (most : Int) (A : Option Addr) (c : Nat) (L : List AcV) (w : World) (hmost : -9223372036854775808 ≤ most ∧ most ≤ 9223372036854775807) (hl : L.length ≤ maxLen) (hA : ES w w.heap.size A 5 (L.map AcV.cs)) (hW : ∀ a ∈ L, a.wf w) :
    Calls Try.prog 4 #[.int .i64 most, .slice A L.length c] w fun e w' => e = .returned (.bool true) ∧ Below w.heap.size w w' := by
  have HA := Lib.hid hA
  have HW := Lib.hid hW
  obtain ⟨mo0, mo1⟩ := hmost
  unfold maxLen at hl
  have hinf := Try.infoLeV
  clear hA hW
  go_enter Try.func4, Try.ntmps4
  go_wp2_with fail
  refine (awake_any w).mono ?_
  rintro e w1 ⟨rfl, hb1⟩
  have hs1 := hb1.size
  have HB1 := Lib.hid hb1
  have HNW := Lib.hid (new_any most w1)
  clear hb1
  go_upto_region 3 with fail
  go_cut [5, 6] (fun p r wx => ∃ (mb rb : Nat) (mx : Int), mx ≤ 9223372036854775807 ∧ p = .pointer (some ⟨mb, 0, none⟩) ∧ r = .pointer (some ⟨rb, 0, none⟩) ∧ Hid (PyS mb rb w mx 0 0 [] [] wx))
  case first =>
    rcases (show most = 0 ∨ most < 0 ∨ 0 < most by omega) with hm | hm | hm
    · subst hm
      have hm' : max (0 : Int) 0 = 0 := by omega
      go_wp2_with fail
      refine HNW.out.mono ?_
      rintro e w2 ⟨rfl, hM, hb2⟩
      rw [hm'] at hM
      have HM := Lib.hid hM
      have HB2 := Lib.hid hb2
      clear hM hb2 HNW hm'
      go_wp2_with fail
      go_meet
      go_light
      exact ⟨w1.heap.size, w2.heap.size, 0, by omega, rfl, rfl, Lib.hid ⟨HM.out.alloc _, ⟨none, 0, by simp, by unfold maxLen; omega, Blk.new _ _ _, RowN.nil _ _ _ _⟩, .nil, by simp, by omega, (fun x hx => by cases hx), (HB1.out.trans (HB2.out.mono (by omega))).alloc (by have := HB2.out.size; omega) _, ⟨hs1, by have := HB2.out.size; simp; omega⟩, by have := HB2.out.size; omega⟩⟩
    · have hm' : max most 0 = 0 := by omega
      go_wp2_with fail
      refine HNW.out.mono ?_
      rintro e w2 ⟨rfl, hM, hb2⟩
      rw [hm'] at hM
      have HM := Lib.hid hM
      have HB2 := Lib.hid hb2
      clear hM hb2 HNW hm'
      go_wp2_with fail
      go_meet
      go_light
      exact ⟨w1.heap.size, w2.heap.size, 0, by omega, rfl, rfl, Lib.hid ⟨HM.out.alloc _, ⟨none, 0, by simp, by unfold maxLen; omega, Blk.new _ _ _, RowN.nil _ _ _ _⟩, .nil, by simp, by omega, (fun x hx => by cases hx), (HB1.out.trans (HB2.out.mono (by omega))).alloc (by have := HB2.out.size; omega) _, ⟨hs1, by have := HB2.out.size; simp; omega⟩, by have := HB2.out.size; omega⟩⟩
    · have hm' : max most 0 = most := by omega
      go_wp2_with fail
      refine HNW.out.mono ?_
      rintro e w2 ⟨rfl, hM, hb2⟩
      rw [hm'] at hM
      have HM := Lib.hid hM
      have HB2 := Lib.hid hb2
      clear hM hb2 HNW hm'
      go_wp2_with fail
      go_meet
      go_light
      exact ⟨w1.heap.size, w2.heap.size, most, by omega, rfl, rfl, Lib.hid ⟨HM.out.alloc _, ⟨none, 0, by simp, by unfold maxLen; omega, Blk.new _ _ _, RowN.nil _ _ _ _⟩, .nil, by simp, by omega, (fun x hx => by cases hx), (HB1.out.trans (HB2.out.mono (by omega))).alloc (by have := HB2.out.size; omega) _, ⟨hs1, by have := HB2.out.size; simp; omega⟩, by have := HB2.out.size; omega⟩⟩
  case rest =>
    obtain ⟨mb, rb, mx, hmx, rfl, rfl, HP0⟩ := hcut
    clear HNW HB1
    go_wp2_with fail
    go_loopw [7] (fun i wr => ∃ k : Nat, k ≤ L.length ∧ k ≤ 60 ∧ i = .int .i64 (k : Int) ∧ ∃ lost ML M, Hid (PyS mb rb w mx k lost ML M wr)) (fun i _ => 60 - (intOf i).toNat)
    case atStart => exact ⟨0, by omega, by omega, rfl, 0, [], [], HP0⟩
    case round =>
      clear HP0
      obtain ⟨k, hk, hk60, rfl, lost, ML, M, HP⟩ := hrel
      have hsr := HP.out.bel.size
      by_cases hkK : k < L.length ∧ k < 60
      · obtain ⟨hkl, hk6⟩ := hkK
        have hkI : (k : Int) < (L.length : Int) := by omega
        have hk6I : (k : Int) < 60 := by omega
        obtain ⟨b, o, hb, rfl, hel⟩ := HA.out.at (k := k) (by simpa using hkl)
        obtain ⟨c0, c1, c2, c3, c4⟩ := ac_cells (hel.keep (w' := wr) (fun o => HP.out.bel.cell (p := ⟨b, o, none⟩) hb)) hkl
        obtain ⟨hki, ⟨hnd, hbk⟩, hai⟩ := HW.out L[k] (List.getElem_mem hkl)
        obtain ⟨⟨kind, ⟨nd, bk, XA, xc, l⟩, ai⟩, hxx⟩ : ∃ x, L[k] = x := ⟨_, rfl⟩
        rw [hxx] at c0 c1 c2 c3 c4 hki hnd hbk hai
        simp only at c0 c1 c2 c3 c4 hki hnd hbk hai
        obtain ⟨ki0, ki1⟩ := hki
        obtain ⟨ai0, ai1⟩ := hai
        have HOK := Lib.hid hbk
        have blt : b < wr.heap.size := by omega
        clear hel hxx hnd hbk
        by_cases h200 : l.length ≤ 200
        · have h2I : ¬ (200 : Int) < (l.length : Int) := by omega
          go_upto_region 10 with fail
          obtain ⟨w3, hw3⟩ : ∃ w3 : World, w3 = wr.alloc (.cells #[.int .i64 kind, .int .i64 nd, .bool bk, .slice XA l.length xc, .int .i64 ai] 42) := ⟨_, rfl⟩
          have hk3 : Kept (fun _ => False) wr w3 := by rw [hw3]; exact (Kept.refl _ _).alloc _
          have HT3 := Lib.hid (show Blk w3 wr.heap.size 42 #[.int .i64 kind, .int .i64 nd, .bool bk, .slice XA l.length xc, .int .i64 ai] by rw [hw3]; exact Blk.new _ _ _)
          have HP3 := Lib.hid (HP.out.on hk3)
          rw [← hw3]
          clear hw3 hk3 HP c0 c1 c2 c3 c4 blt
          obtain ⟨tb, htb⟩ : ∃ tb, wr.heap.size = tb := ⟨_, rfl⟩
          rw [htb] at HT3 hsr ⊢
          clear htb
          obtain ⟨RA, rc, hrc, hrm, hRB, hRR⟩ := HP3.out.rf
          have HRB3 := Lib.hid hRB
          have HRR3 := Lib.hid hRR
          have hMk := HP3.out.len
          unfold maxLen at hrm
          clear hRB hRR
          have r3 := HRB3.out.cell
          have rl3 := HRB3.out.lt
          have t3 := HT3.out.cell
          have tl3 := HT3.out.lt
          go_wp2_with fail
          refine (refHas_any mx lost RA M.length rc ai w3 (by omega)).mono ?_
          rintro e w4 ⟨rfl, hb4⟩
          obtain ⟨hb, hhb⟩ : ∃ hb, (decide (0 ≤ ai) && decide (ai < (M.length : Int))) = hb := ⟨_, rfl⟩
          have HHB := Lib.hid hhb
          rw [hhb]
          clear hhb
          have HP4 := Lib.hid (HP3.out.onB hb4)
          have HT4 := Lib.hid (HT3.out.below hb4 HT3.out.lt)
          have HRB4 := Lib.hid (HRB3.out.below hb4 HRB3.out.lt)
          have HRR4 := Lib.hid (HRR3.out.belowAll hb4)
          clear hb4 HP3 HT3 HRB3 HRR3 r3 rl3 t3 tl3
          have r4 := HRB4.out.cell
          have rf4 := HRB4.out.frozen
          have rl4 := HRB4.out.lt
          have t4 := HT4.out.cell
          have tl4 := HT4.out.lt
          go_upto_block 2 with (fail)
          go_cut [10, 11] (fun e f wx => ∃ (z lost' : Int) (ML' : List Le) (M' : List LeV), e = .int .i64 z ∧ f = .int .i64 z ∧ Hid (PyS mb rb w mx (k + 1) lost' ML' M' wx))
          case first =>
            have hmb := HP4.out.hb
            have hmr := HP4.out.mr
            have hlo := HP4.out.lo
            have HFN := Lib.hid HP4.out.fine
            have HAL := Lib.hid HP4.out.al
            have HES : Hid (∀ u, Below w.heap.size w u → BS u u.heap.size XA l) := Lib.hid (fun u hu => by obtain ⟨-, -, h⟩ := HOK.out; exact h.onB hu (Nat.le_refl _))
            rcases (show kind = 1 ∨ kind = 2 ∨ kind = 3 ∨ kind = 4 ∨ (kind ≠ 1 ∧ kind ≠ 2 ∧ kind ≠ 3 ∧ kind ≠ 4) by omega) with hkd | hkd | hkd | hkd | ⟨hd1, hd2, hd3, hd4⟩
            · as_aux_lemma =>
                subst hkd
                cases hb with
                | false =>
                  have HTK := Lib.hid (take_no mb mb mx lost ML ai w4 HP4.out.ml (by have h := HHB.out; by_cases h0 : 0 ≤ ai; (right; rw [HP4.out.al.len]; simpa [h0] using h); (left; omega)) (by rw [HP4.out.al.len]; omega))
                  go_wp2_with fail
                  refine HTK.out.mono ?_
                  rintro e w5 ⟨rfl, hb5⟩
                  have HP5 := Lib.hid (HP4.out.onB hb5)
                  clear hb5 HTK
                  go_wp2_with fail
                  go_meet
                  go_light
                  exact ⟨6, lost, ML, M, rfl, rfl, Lib.hid (HP5.out.on ((Kept.refl _ _).alloc _)).next⟩
                | true =>
                  obtain ⟨hi0, hi1⟩ : 0 ≤ ai ∧ ai < (M.length : Int) := by have h := HHB.out; simpa using h
                  obtain ⟨j, rfl⟩ := Int.eq_ofNat_of_zero_le hi0
                  have hj : j < M.length := by omega
                  have hjI : (j : Int) < (M.length : Int) := by omega
                  obtain ⟨x, hx, hkey⟩ := HAL.out.get j hj
                  have hxm := HP4.out.ml.ok x (List.mem_of_getElem? hx)
                  obtain ⟨nd', bk', v', l'⟩ := x
                  obtain ⟨hfl, hfo⟩ := HFN.out M[j] (List.getElem_mem hj)
                  obtain ⟨⟨yn, yb, YA, yc, yl⟩, hyy⟩ : ∃ y, M[j] = y := ⟨_, rfl⟩
                  have HYY := Lib.hid hyy
                  rw [hyy] at hkey hfl hfo
                  have hkey' := hkey.symm
                  simp only [Le.key, LeV.key, Prod.mk.injEq] at hkey'
                  obtain ⟨rfl, rfl, rfl⟩ := hkey'
                  obtain ⟨VA, vc, hv, -, -⟩ := (show Row w4 mb 5 v' (bcs yl) from hxm).shape
                  rw [bcs_length] at hv
                  subst hv
                  have HMX := Lib.hid hxm
                  have HXE := Lib.hid hx
                  have HFO := Lib.hid hfo
                  simp only at hfl
                  clear hkey hx hxm hyy hfo hi0 hi1
                  have HTK := Lib.hid (take_ok mb mb mx lost ML j ⟨yn, yb, .slice VA yl.length vc, yl⟩ w4 HP4.out.ml HXE.out (by rw [HAL.out.len]; omega) hmb.2)
                  go_wp2_with fail
                  refine HTK.out.mono ?_
                  rintro e w5 ⟨rfl, hP5⟩
                  have hs5 := hP5.bel.size
                  have HM5 := Lib.hid hP5.st
                  have HB5 := Lib.hid (HP4.out.bel.trans (hP5.bel.mono hmb.1))
                  have HRB5 := Lib.hid (hP5.oth _ _ _ HRB4.out (by decide) (by decide))
                  have HRR5 := Lib.hid (HRR4.out.oth hP5.oth (by decide) (by decide))
                  have HT5 := Lib.hid (hP5.oth _ _ _ HT4.out (by decide) (by decide))
                  have HX5 := Lib.hid (show Row w5 mb 5 (.slice VA yl.length vc) (bcs yl) from le_oth HMX.out hP5.oth)
                  have HA5 := Lib.hid (HAL.out.erase j)
                  clear hP5 HTK r4 rf4 rl4 t4 tl4 HMX HXE HRB4 HRR4 HT4
                  go_upto_region 20 with fail
                  obtain ⟨w6, hw6⟩ : ∃ w6 : World, w6 = w5.alloc (.cells #[.int .i64 yn, .bool yb, .slice VA yl.length vc] 31) := ⟨_, rfl⟩
                  have hk6 : Kept (fun _ => False) w5 w6 := by rw [hw6]; exact (Kept.refl _ _).alloc _
                  have HXB := Lib.hid (show Blk w6 w5.heap.size 31 #[.int .i64 yn, .bool yb, .slice VA yl.length vc] by rw [hw6]; exact Blk.new _ _ _)
                  rw [← hw6]
                  clear hw6
                  have hs6 := hk6.size
                  have HM6 := Lib.hid (HM5.out.on hk6)
                  have HB6 := Lib.hid (keptK HB5.out hk6)
                  have HRB6 := Lib.hid (HRB5.out.kept hk6 (fun h => h))
                  have HRR6 := Lib.hid (HRR5.out.kept hk6 (fun _ _ h => h))
                  have HT6 := Lib.hid (HT5.out.kept hk6 (fun h => h))
                  have hok := HX5.out.on hk6
                  obtain ⟨b2, c2', hv2, hlo2, blt, hel2⟩ := HRR6.out.at (i := j) (by simpa using hj)
                  injection hv2 with e1 e2 e3
                  subst e1
                  obtain ⟨c0, c1, c2⟩ := lev_cells hel2 hj
                  rw [HYY.out] at c0 c1 c2
                  simp only [Nat.zero_add] at c0 c1 c2
                  obtain ⟨-, -, hes0⟩ := HFO.out
                  have hes := hes0.onB HB6.out (Nat.le_refl _)
                  simp only at hes
                  obtain ⟨xb, hxb⟩ : ∃ xb, w5.heap.size = xb := ⟨_, rfl⟩
                  rw [hxb] at HXB ⊢
                  have x0 := HXB.out.cell 0
                  have x1 := HXB.out.cell 1
                  have x2 := HXB.out.cell 2
                  have r0 := HRB6.out.cell 0
                  have r1 := HRB6.out.cell 1
                  have r2 := HRB6.out.cell 2
                  have t4 := HT6.out.cell 4
                  simp at x0 x1 x2 r0 r1 r2 t4
                  have xlt := HXB.out.lt
                  have rlt := HRB6.out.lt
                  have tlt := HT6.out.lt
                  clear HM5 HB5 HRR5 HX5 hk6 hel2 hes0 hxb e2 e3 HRB5 HT5
                  refine wp_region_kept 9 [(7, fun v u => v = .bool true)] ?st ?ne rfl (by kernel_rfl) (by kernel_rfl) ?_
                  case st =>
                    intro p hp
                    simp only [List.mem_cons, List.not_mem_nil, or_false] at hp
                    subst hp
                    · intro v u u' h hk; exact h
                  case ne =>
                    intro p hp
                    simp only [List.mem_cons, List.not_mem_nil, or_false] at hp
                    subst hp
                    · exact ⟨_, _, Kept.refl _ _, rfl⟩
                  simp only [List.take_succ_cons, List.take_zero, List.drop_succ_cons, List.drop_zero]
                  intro G pick hR hp1 hp2
                  have p0 : ∀ u, (pick u).cell? ⟨b2, j * 3, none⟩ = some (.int .i64 yn) := fun u => ((hp1 u).cell blt (fun h => h) _).trans c0
                  have p1 : ∀ u, (pick u).cell? ⟨b2, j * 3 + 1, none⟩ = some (.bool yb) := fun u => ((hp1 u).cell blt (fun h => h) _).trans c1
                  have p2 : ∀ u, (pick u).cell? ⟨b2, j * 3 + 2, none⟩ = some (.slice YA yl.length yc) := fun u => ((hp1 u).cell blt (fun h => h) _).trans c2
                  have q0 : ∀ u, (pick u).cell? ⟨xb, 0, none⟩ = some (.int .i64 yn) := fun u => ((hp1 u).cell xlt (fun h => h) _).trans x0
                  have q1 : ∀ u, (pick u).cell? ⟨xb, 1, none⟩ = some (.bool yb) := fun u => ((hp1 u).cell xlt (fun h => h) _).trans x1
                  have q2 : ∀ u, (pick u).cell? ⟨xb, 2, none⟩ = some (.slice VA yl.length vc) := fun u => ((hp1 u).cell xlt (fun h => h) _).trans x2
                  have s0 : ∀ u, (pick u).cell? ⟨rb, 0, none⟩ = some (.int .i64 mx) := fun u => ((hp1 u).cell rlt (fun h => h) _).trans r0
                  have s1 : ∀ u, (pick u).cell? ⟨rb, 1, none⟩ = some (.slice (some ⟨b2, 0, none⟩) M.length rc) := fun u => ((hp1 u).cell rlt (fun h => h) _).trans r1
                  have s2 : ∀ u, (pick u).cell? ⟨rb, 2, none⟩ = some (.int .i64 lost) := fun u => ((hp1 u).cell rlt (fun h => h) _).trans r2
                  have s4 : ∀ u, (pick u).cell? ⟨tb, 4, none⟩ = some (.int .i64 (j : Int)) := fun u => ((hp1 u).cell tlt (fun h => h) _).trans t4
                  repeat (first | (refine wpR_det hp2 rfl ((hR.rel _).trans rfl) rfl ?_; intro K hK; go_big_quiet_op; go_big_quiet_on) | (refine wpR_ptr hp2 rfl ((hR.rel _).trans rfl) rfl rfl ?_; intro K hK; go_big_quiet_op; go_big_quiet_on) | (refine wpR_skip pick rfl ?_; intro K hK; go_big_quiet_op; go_big_quiet_on))
                  refine wpR_rel pick rfl ((hR.rel _).trans rfl) ((hR.turns _).trans rfl) ?_ ?_
                  · intro u hu
                    have hk := hR.since hu.1
                    have hks := hk.size
                    have hz := same_yes yn yb yl VA YA vc yc u (hok.on hk).bs (hes.on hk (fun _ _ h => h))
                    unfold relAt
                    go_simp
                    refine hz.mono ?_
                    rintro e w' ⟨rfl, hb'⟩
                    exact ⟨_, rfl, hR.intoB hb', hR.put 0 rfl rfl rfl⟩
                  intro v hv
                  obtain ⟨u, _, hu⟩ := hv
                  obtain rfl := hR.get 0 rfl hu
                  clear hu
                  intro K hK
                  go_big_quiet_op
                  go_big_quiet_on
                  repeat (first | (refine wpR_det hp2 rfl ((hR.rel _).trans rfl) rfl ?_; intro K hK; go_big_quiet_op; go_big_quiet_on) | (refine wpR_ptr hp2 rfl ((hR.rel _).trans rfl) rfl rfl ?_; intro K hK; go_big_quiet_op; go_big_quiet_on) | (refine wpR_skip pick rfl ?_; intro K hK; go_big_quiet_op; go_big_quiet_on))
                  refine wpR_nil ?_
                  intro w7 hk2 hF hM
                  have HM7 := Lib.hid (HM6.out.on hk2)
                  have HB7 := Lib.hid (keptK HB6.out hk2)
                  have HRB7 := Lib.hid (HRB6.out.kept hk2 (fun h => h))
                  have HRR7 := Lib.hid (HRR6.out.kept hk2 (fun _ _ h => h))
                  have HT7 := Lib.hid (HT6.out.kept hk2 (fun h => h))
                  have hs7 := hk2.size
                  clear hF hM hk2 hp1 hp2 hR p0 p1 p2 q0 q1 q2 s0 s1 s2 s4 x0 x1 x2 r0 r1 r2 t4 c0 c1 c2 hok hes xlt rlt tlt blt HM6 HB6 HRB6 HRR6 HT6
                  have r7 := HRB7.out.cell
                  have rl7 := HRB7.out.lt
                  have t7 := HT7.out.cell
                  have tl7 := HT7.out.lt
                  have HCT := Lib.hid (refCut_any (some ⟨b2, 0, none⟩) rc M j mx lost w7 hj (by omega) hrc (by unfold maxLen; omega) (row_es HRR7.out))
                  go_wp2_with fail
                  refine HCT.out.mono ?_
                  rintro e w8 ⟨UA, un, uc, rfl, hR8, hb8⟩
                  have HR8 := Lib.hid hR8
                  have HM8 := Lib.hid (HM7.out.onB hb8)
                  have HB8 := Lib.hid (kept_of HB7.out hb8)
                  have HRB8 := Lib.hid (HRB7.out.below hb8 HRB7.out.lt)
                  have hs8 := hb8.size
                  clear hR8 hb8 HCT HM7 HRB7 HRR7 HT7 r7 rl7 t7 tl7
                  have r8 := HRB8.out.cell
                  have rf8 := HRB8.out.frozen
                  have rl8 := HRB8.out.lt
                  have hb7 := HB7.out.size
                  go_wp2_with fail
                  go_meet
                  go_light
                  exact ⟨0, lost, _, _, rfl, rfl, Lib.hid (PyS.put HM8.out HRB8.out HR8.out HA5.out (Nat.le_trans (List.length_eraseIdx_le _ _) (by omega)) ⟨hlo.1, by omega⟩ (fun x hx => HFN.out x (List.mem_of_mem_eraseIdx hx)) HB8.out ⟨hmb.1, by omega⟩ hmr hb7)⟩
            · as_aux_lemma =>
                subst hkd
                cases hb with
                | false =>
                  have HTK := Lib.hid (drop_no mb mb mx lost ML ai w4 HP4.out.ml (by have h := HHB.out; by_cases h0 : 0 ≤ ai; (right; rw [HP4.out.al.len]; simpa [h0] using h); (left; omega)) (by rw [HP4.out.al.len]; omega))
                  go_wp2_with fail
                  refine HTK.out.mono ?_
                  rintro e w5 ⟨rfl, hb5⟩
                  have HP5 := Lib.hid (HP4.out.onB hb5)
                  clear hb5 HTK
                  go_wp2_with fail
                  go_meet
                  go_light
                  exact ⟨6, lost, ML, M, rfl, rfl, Lib.hid HP5.out.next⟩
                | true =>
                  obtain ⟨hi0, hi1⟩ : 0 ≤ ai ∧ ai < (M.length : Int) := by have h := HHB.out; simpa using h
                  obtain ⟨j, rfl⟩ := Int.eq_ofNat_of_zero_le hi0
                  have hj : j < M.length := by omega
                  have hjI : (j : Int) < (M.length : Int) := by omega
                  obtain ⟨x, hx, hkey⟩ := HAL.out.get j hj
                  have hxm := HP4.out.ml.ok x (List.mem_of_getElem? hx)
                  obtain ⟨nd', bk', v', l'⟩ := x
                  obtain ⟨hfl, hfo⟩ := HFN.out M[j] (List.getElem_mem hj)
                  obtain ⟨⟨yn, yb, YA, yc, yl⟩, hyy⟩ : ∃ y, M[j] = y := ⟨_, rfl⟩
                  have HYY := Lib.hid hyy
                  rw [hyy] at hkey hfl hfo
                  have hkey' := hkey.symm
                  simp only [Le.key, LeV.key, Prod.mk.injEq] at hkey'
                  obtain ⟨rfl, rfl, rfl⟩ := hkey'
                  obtain ⟨VA, vc, hv, -, -⟩ := (show Row w4 mb 5 v' (bcs yl) from hxm).shape
                  rw [bcs_length] at hv
                  subst hv
                  have HMX := Lib.hid hxm
                  have HXE := Lib.hid hx
                  have HFO := Lib.hid hfo
                  simp only at hfl
                  clear hkey hx hxm hyy hfo hi0 hi1
                  have HTK := Lib.hid (drop_ok mb mb mx lost ML j w4 HP4.out.ml (by rw [HAL.out.len]; omega) (by rw [HAL.out.len]; omega) hmb.2 ⟨hlo.1, by omega⟩)
                  have HA5 := Lib.hid (HAL.out.erase j)
                  go_wp2_with fail
                  refine HTK.out.mono ?_
                  rintro e w5 ⟨rfl, hP5⟩
                  have hs5 := hP5.bel.size
                  have HM5 := Lib.hid hP5.st
                  have HB5 := Lib.hid (HP4.out.bel.trans (hP5.bel.mono hmb.1))
                  have HRB5 := Lib.hid (hP5.oth _ _ _ HRB4.out (by decide) (by decide))
                  have HRR5 := Lib.hid (HRR4.out.oth hP5.oth (by decide) (by decide))
                  have HT5 := Lib.hid (hP5.oth _ _ _ HT4.out (by decide) (by decide))
                  clear hP5 HTK r4 rf4 rl4 t4 tl4 HMX HXE HRB4 HRR4 HT4
                  have r5 := HRB5.out.cell
                  have rl5 := HRB5.out.lt
                  have t5 := HT5.out.cell
                  have tl5 := HT5.out.lt
                  have HCT := Lib.hid (refCut_any RA rc M j mx lost w5 hj (by omega) hrc (by unfold maxLen; omega) (row_es HRR5.out))
                  go_wp2_with fail
                  refine HCT.out.mono ?_
                  rintro e w8 ⟨UA, un, uc, rfl, hR8, hb8⟩
                  have HR8 := Lib.hid hR8
                  have HM8 := Lib.hid (HM5.out.onB hb8)
                  have HB8 := Lib.hid (kept_of HB5.out hb8)
                  have HRB8 := Lib.hid (HRB5.out.below hb8 HRB5.out.lt)
                  have hs8 := hb8.size
                  have hb7 := HB5.out.size
                  clear hR8 hb8 HCT HM5 HRB5 HRR5 HT5 r5 rl5 t5 tl5
                  have r8 := HRB8.out.cell
                  have rf8 := HRB8.out.frozen
                  have rl8 := HRB8.out.lt
                  have hl0 := hlo.1
                  have hl1 : lost ≤ 3600 := by omega
                  go_wp2_with fail
                  go_meet
                  go_light
                  exact ⟨0, lost + 1, _, _, rfl, rfl, Lib.hid (PyS.put2 HM8.out HRB8.out HR8.out HA5.out (Nat.le_trans (List.length_eraseIdx_le _ _) (by omega)) ⟨by omega, by omega⟩ (fun x hx => HFN.out x (List.mem_of_mem_eraseIdx hx)) HB8.out ⟨hmb.1, by omega⟩ hmr hb7)⟩
            · as_aux_lemma =>
                subst hkd
                cases hb with
                | false =>
                  have HTK := Lib.hid (twice_no mb mb mx lost ML ai w4 HP4.out.ml (by have h := HHB.out; by_cases h0 : 0 ≤ ai; (right; rw [HP4.out.al.len]; simpa [h0] using h); (left; omega)) (by rw [HP4.out.al.len]; omega))
                  go_wp2_with fail
                  refine HTK.out.mono ?_
                  rintro e w5 ⟨rfl, hb5⟩
                  have HP5 := Lib.hid (HP4.out.onB hb5)
                  clear hb5 HTK
                  go_wp2_with fail
                  go_meet
                  go_light
                  exact ⟨6, lost, ML, M, rfl, rfl, Lib.hid HP5.out.next⟩
                | true =>
                  obtain ⟨hi0, hi1⟩ : 0 ≤ ai ∧ ai < (M.length : Int) := by have h := HHB.out; simpa using h
                  obtain ⟨j, rfl⟩ := Int.eq_ofNat_of_zero_le hi0
                  have hj : j < M.length := by omega
                  have hjI : (j : Int) < (M.length : Int) := by omega
                  obtain ⟨x, hx, hkey⟩ := HAL.out.get j hj
                  have hxm := HP4.out.ml.ok x (List.mem_of_getElem? hx)
                  obtain ⟨nd', bk', v', l'⟩ := x
                  obtain ⟨hfl, hfo⟩ := HFN.out M[j] (List.getElem_mem hj)
                  obtain ⟨⟨yn, yb, YA, yc, yl⟩, hyy⟩ : ∃ y, M[j] = y := ⟨_, rfl⟩
                  have HYY := Lib.hid hyy
                  rw [hyy] at hkey hfl hfo
                  have hkey' := hkey.symm
                  simp only [Le.key, LeV.key, Prod.mk.injEq] at hkey'
                  obtain ⟨rfl, rfl, rfl⟩ := hkey'
                  obtain ⟨VA, vc, hv, -, -⟩ := (show Row w4 mb 5 v' (bcs yl) from hxm).shape
                  rw [bcs_length] at hv
                  subst hv
                  have HMX := Lib.hid hxm
                  have HXE := Lib.hid hx
                  have HFO := Lib.hid hfo
                  simp only at hfl
                  clear hkey hx hxm hyy hfo hi0 hi1
                  by_cases hfull : mx ≤ (M.length : Int)
                  · have HTK := Lib.hid (twice_full mb mb mx lost ML j ⟨yn, yb, .slice VA yl.length vc, yl⟩ w4 HP4.out.ml HXE.out (by rw [HAL.out.len]; omega) (by rw [HAL.out.len]; omega) hmb.2 ⟨hlo.1, by omega⟩)
                    go_wp2_with fail
                    refine HTK.out.mono ?_
                    rintro e w5 ⟨rfl, hP5⟩
                    have hs5 := hP5.bel.size
                    have HM5 := Lib.hid hP5.st
                    have HB5 := Lib.hid (HP4.out.bel.trans (hP5.bel.mono hmb.1))
                    have HRB5 := Lib.hid (hP5.oth _ _ _ HRB4.out (by decide) (by decide))
                    have HRR5 := Lib.hid (HRR4.out.oth hP5.oth (by decide) (by decide))
                    have HT5 := Lib.hid (hP5.oth _ _ _ HT4.out (by decide) (by decide))
                    have hb5 := HB5.out.size
                    clear hP5 HTK r4 rf4 rl4 t4 tl4 HMX HXE HRB4 HRR4 HT4
                    go_upto_region 32 with fail
                    obtain ⟨b2, c2', hv2, hlo2, blt, hel2⟩ := HRR5.out.at (i := j) (by simpa using hj)
                    injection hv2 with e1 e2 e3
                    subst e1
                    obtain ⟨c0, c1, c2⟩ := lev_cells hel2 hj
                    rw [HYY.out] at c0 c1 c2
                    simp only [Nat.zero_add] at c0 c1 c2
                    have r0 := HRB5.out.cell 0
                    have r1 := HRB5.out.cell 1
                    have r2 := HRB5.out.cell 2
                    have t4 := HT5.out.cell 4
                    simp at r0 r1 r2 t4
                    have rlt := HRB5.out.lt
                    have tlt := HT5.out.lt
                    have hbr : ¬ b2 = rb := fun e => by subst e; exact HRR5.out.ne HRB5.out (by decide) rfl
                    have htr : ¬ tb = rb := fun e => by subst e; exact HT5.out.ne_ HRB5.out (by decide) rfl
                    clear hel2 e2 e3
                    refine wp_region_peek 13 (fun i => i = rb) [11] [] [0, 2] [(7, fun v u => v = .tuple #[.agg #[.int .i64 mx, .slice (some ⟨b2, 0, none⟩) M.length rc, .int .i64 (lost + 1)], .int .i64 23]), (11, fun v u => Blk u rb 40 #[.int .i64 mx, .slice (some ⟨b2, 0, none⟩) M.length rc, .int .i64 (lost + 1)])] ?st ?ne rfl (by kernel_rfl) (by kernel_rfl) (by kernel_rfl) (by kernel_rfl) ?_
                    case st =>
                      intro p hp
                      simp only [List.mem_cons, List.not_mem_nil, or_false] at hp
                      rcases hp with rfl | rfl
                      · intro v u u' h hk; exact h
                      · intro v u u' h hk; exact h.kept hk (fun h => h)
                    case ne =>
                      intro p hp
                      simp only [List.mem_cons, List.not_mem_nil, or_false] at hp
                      rcases hp with rfl | rfl
                      · exact ⟨_, _, Kept.refl _ _, rfl⟩
                      · exact ⟨undef, _, (kept3 _ _ _ _), ((HRB5.out.set_ _ _).set_ _ _).set_to rfl⟩
                    simp only [List.take_succ_cons, List.take_zero, List.drop_succ_cons, List.drop_zero]
                    intro G pick pick0 hR hp1 hp2 hpk hq1 hq2
                    have s0 : ∀ u, (pick0 u).cell? ⟨rb, 0, none⟩ = some (.int .i64 mx) := fun u => ((hq1 u).cell rlt (fun h => h) _).trans r0
                    have s1 : ∀ u, (pick0 u).cell? ⟨rb, 1, none⟩ = some (.slice (some ⟨b2, 0, none⟩) M.length rc) := fun u => ((hq1 u).cell rlt (fun h => h) _).trans r1
                    have s2 : ∀ u, (pick0 u).cell? ⟨rb, 2, none⟩ = some (.int .i64 lost) := fun u => ((hq1 u).cell rlt (fun h => h) _).trans r2
                    have p0 : ∀ u, (pick u).cell? ⟨b2, j * 3, none⟩ = some (.int .i64 yn) := fun u => ((hp1 u).cell blt hbr _).trans c0
                    have p1 : ∀ u, (pick u).cell? ⟨b2, j * 3 + 1, none⟩ = some (.bool yb) := fun u => ((hp1 u).cell blt hbr _).trans c1
                    have p2 : ∀ u, (pick u).cell? ⟨b2, j * 3 + 2, none⟩ = some (.slice YA yl.length yc) := fun u => ((hp1 u).cell blt hbr _).trans c2
                    have s4 : ∀ u, (pick u).cell? ⟨tb, 4, none⟩ = some (.int .i64 (j : Int)) := fun u => ((hp1 u).cell tlt htr _).trans t4
                    repeat (first | (refine wpR_peek hq2 rfl ((hR.rel _).trans rfl) ((hpk _).trans rfl) rfl ?_; intro K hK; go_big_quiet_op; go_big_quiet_on) | (refine wpR_det hp2 rfl ((hR.rel _).trans rfl) rfl ?_; intro K hK; go_big_quiet_op; go_big_quiet_on) | (refine wpR_ptr hp2 rfl ((hR.rel _).trans rfl) rfl rfl ?_; intro K hK; go_big_quiet_op; go_big_quiet_on) | (refine wpR_skip pick rfl ?_; intro K hK; go_big_quiet_op; go_big_quiet_on))
                    refine wpR_rel pick rfl ((hR.rel _).trans rfl) ((hR.turns _).trans rfl) ?_ ?_
                    · intro u hu
                      have hk := hR.since hu.1
                      have hks := hk.size
                      have hz := refSend_full (some ⟨b2, 0, none⟩) M.length rc mx lost u yn yb YA yl.length yc hfull (by omega) ⟨hlo.1, by omega⟩
                      unfold relAt
                      go_simp
                      refine hz.mono ?_
                      rintro e w' ⟨rfl, hb'⟩
                      exact ⟨_, rfl, hR.intoB hb', hR.put 0 rfl rfl rfl⟩
                    intro v hv
                    obtain ⟨u, _, hu⟩ := hv
                    obtain rfl := hR.get 0 rfl hu
                    clear hu
                    intro K hK
                    go_big_quiet_op
                    go_big_quiet_on
                    repeat (first | (refine wpR_peek hq2 rfl ((hR.rel _).trans rfl) ((hpk _).trans rfl) rfl ?_; intro K hK; go_big_quiet_op; go_big_quiet_on) | (refine wpR_det hp2 rfl ((hR.rel _).trans rfl) rfl ?_; intro K hK; go_big_quiet_op; go_big_quiet_on) | (refine wpR_ptr hp2 rfl ((hR.rel _).trans rfl) rfl rfl ?_; intro K hK; go_big_quiet_op; go_big_quiet_on) | (refine wpR_skip pick rfl ?_; intro K hK; go_big_quiet_op; go_big_quiet_on))
                    refine wpR_turn pick rfl ((hR.rel _).trans rfl) ((hR.turns _).trans rfl) ((hR.adds _).trans rfl) ?_ ?_
                    · intro u hu hM
                      have hk := hR.since hu.1
                      have hks := hk.size
                      have hK0 := hR.first hM
                      have hB0 := HRB5.out.kept hK0 (fun h => h)
                      have cB := hB0.cell
                      have fB := hB0.frozen
                      have lB := hB0.lt
                      unfold relAt
                      go_simp
                      exact ⟨hR.into (kept3 _ _ _ _), hR.put 1 rfl rfl (((hB0.set_ _ _).set_ _ _).set_to rfl)⟩
                    intro v hv
                    obtain ⟨u, _, hu⟩ := hv
                    obtain - := hR.get 1 rfl hu
                    clear hu
                    intro K hK
                    go_big_quiet_op
                    go_big_quiet_on
                    repeat (first | (refine wpR_peek hq2 rfl ((hR.rel _).trans rfl) ((hpk _).trans rfl) rfl ?_; intro K hK; go_big_quiet_op; go_big_quiet_on) | (refine wpR_det hp2 rfl ((hR.rel _).trans rfl) rfl ?_; intro K hK; go_big_quiet_op; go_big_quiet_on) | (refine wpR_ptr hp2 rfl ((hR.rel _).trans rfl) rfl rfl ?_; intro K hK; go_big_quiet_op; go_big_quiet_on) | (refine wpR_skip pick rfl ?_; intro K hK; go_big_quiet_op; go_big_quiet_on))
                    refine wpR_nil ?_
                    intro w6 hk2 hF hM
                    have HM6 := Lib.hid (HM5.out.farK HRB5.out hk2)
                    have HRR6 := Lib.hid (HRR5.out.kept hk2 (fun g hg e => by subst e; exact HRR5.out.ne HRB5.out (by decide) hg))
                    have HB6 := Lib.hid (HB5.out.trans (hk2.below hb5 (fun i h => by rw [h]; exact hmr)))
                    have HRB6 := Lib.hid (hR.get 1 rfl hM)
                    have hs6 := hk2.size
                    clear hF hM hk2 hp1 hp2 hR hpk hq1 hq2 p0 p1 p2 s0 s1 s2 s4 r0 r1 r2 t4 c0 c1 c2 rlt tlt blt HM5 HB5 HRB5 HRR5 HT5
                    go_wp2_with fail
                    go_meet
                    go_light
                    exact ⟨23, lost + 1, ML, M, rfl, rfl, Lib.hid ⟨HM6.out, ⟨_, rc, hrc, by unfold maxLen; omega, HRB6.out, HRR6.out⟩, HAL.out, by omega, ⟨by omega, by omega⟩, HFN.out, HB6.out, ⟨hmb.1, by omega⟩, hmr⟩⟩
                  · have HTK := Lib.hid (twice_ok mb mb mx lost ML j ⟨yn, yb, .slice VA yl.length vc, yl⟩ w4 HP4.out.ml HXE.out (by rw [HAL.out.len]; omega) (by rw [HAL.out.len]; omega) hmb.2 (show yl.length ≤ 1000 by omega))
                    go_wp2_with fail
                    refine HTK.out.mono ?_
                    rintro e w5 ⟨rfl, nv, hP5⟩
                    have hs5 := hP5.bel.size
                    have HM5 := Lib.hid hP5.st
                    have HB5 := Lib.hid (HP4.out.bel.trans (hP5.bel.mono hmb.1))
                    have HRB5 := Lib.hid (hP5.oth _ _ _ HRB4.out (by decide) (by decide))
                    have HRR5 := Lib.hid (HRR4.out.oth hP5.oth (by decide) (by decide))
                    have HT5 := Lib.hid (hP5.oth _ _ _ HT4.out (by decide) (by decide))
                    have hb5 := HB5.out.size
                    clear hP5 HTK r4 rf4 rl4 t4 tl4 HMX HXE HRB4 HRR4 HT4
                    go_upto_region 32 with fail
                    obtain ⟨b2, c2', hv2, hlo2, blt, hel2⟩ := HRR5.out.at (i := j) (by simpa using hj)
                    injection hv2 with e1 e2 e3
                    subst e1
                    obtain ⟨c0, c1, c2⟩ := lev_cells hel2 hj
                    rw [HYY.out] at c0 c1 c2
                    simp only [Nat.zero_add] at c0 c1 c2
                    have r0 := HRB5.out.cell 0
                    have r1 := HRB5.out.cell 1
                    have r2 := HRB5.out.cell 2
                    have t4 := HT5.out.cell 4
                    simp at r0 r1 r2 t4
                    have rlt := HRB5.out.lt
                    have tlt := HT5.out.lt
                    have hbr : ¬ b2 = rb := fun e => by subst e; exact HRR5.out.ne HRB5.out (by decide) rfl
                    have htr : ¬ tb = rb := fun e => by subst e; exact HT5.out.ne_ HRB5.out (by decide) rfl
                    clear hel2 e2 e3
                    have hmM : (M.length : Int) < mx := by omega
                    refine wp_region_peek 13 (fun i => i = rb) [11] [] [0, 2] [(7, fun v u => ∃ UA un uc, v = .tuple #[.agg #[.int .i64 mx, .slice UA un uc, .int .i64 lost], .int .i64 0] ∧ RowN u w5.heap.size 28 3 (.slice UA un uc) ((M ++ [(⟨yn, yb, YA, yc, yl⟩ : LeV)]).map LeV.cs)), (11, fun v u => ∃ UA un uc, Blk u rb 40 #[.int .i64 mx, .slice UA un uc, .int .i64 lost] ∧ RowN u w5.heap.size 28 3 (.slice UA un uc) ((M ++ [(⟨yn, yb, YA, yc, yl⟩ : LeV)]).map LeV.cs))] ?st ?ne rfl (by kernel_rfl) (by kernel_rfl) (by kernel_rfl) (by kernel_rfl) ?_
                    case st =>
                      intro p hp
                      simp only [List.mem_cons, List.not_mem_nil, or_false] at hp
                      rcases hp with rfl | rfl
                      · rintro v u u' ⟨UA, un, uc, e, h⟩ hk; exact ⟨UA, un, uc, e, h.kept hk (fun g hg e => by subst e; have := (h.lt _ hg).1; omega)⟩
                      · rintro v u u' ⟨UA, un, uc, h1, h2⟩ hk; exact ⟨UA, un, uc, h1.kept hk (fun h => h), h2.kept hk (fun _ _ h => h)⟩
                    case ne =>
                      intro p hp
                      simp only [List.mem_cons, List.not_mem_nil, or_false] at hp
                      rcases hp with rfl | rfl
                      · exact ⟨_, _, (Kept.refl _ _).alloc _, _, _, _, rfl, rowN_is w5.heap.size w5 (((M ++ [(⟨yn, yb, YA, yc, yl⟩ : LeV)])).map LeV.cs) (sz_map LeV.cs_len _) (Nat.le_refl _) (by simp; unfold maxLen; omega)⟩
                      · exact put_is HRB5.out (sz_map LeV.cs_len _) (by simp; unfold maxLen; omega)
                    simp only [List.take_succ_cons, List.take_zero, List.drop_succ_cons, List.drop_zero]
                    intro G pick pick0 hR hp1 hp2 hpk hq1 hq2
                    have s0 : ∀ u, (pick0 u).cell? ⟨rb, 0, none⟩ = some (.int .i64 mx) := fun u => ((hq1 u).cell rlt (fun h => h) _).trans r0
                    have s1 : ∀ u, (pick0 u).cell? ⟨rb, 1, none⟩ = some (.slice (some ⟨b2, 0, none⟩) M.length rc) := fun u => ((hq1 u).cell rlt (fun h => h) _).trans r1
                    have s2 : ∀ u, (pick0 u).cell? ⟨rb, 2, none⟩ = some (.int .i64 lost) := fun u => ((hq1 u).cell rlt (fun h => h) _).trans r2
                    have p0 : ∀ u, (pick u).cell? ⟨b2, j * 3, none⟩ = some (.int .i64 yn) := fun u => ((hp1 u).cell blt hbr _).trans c0
                    have p1 : ∀ u, (pick u).cell? ⟨b2, j * 3 + 1, none⟩ = some (.bool yb) := fun u => ((hp1 u).cell blt hbr _).trans c1
                    have p2 : ∀ u, (pick u).cell? ⟨b2, j * 3 + 2, none⟩ = some (.slice YA yl.length yc) := fun u => ((hp1 u).cell blt hbr _).trans c2
                    have s4 : ∀ u, (pick u).cell? ⟨tb, 4, none⟩ = some (.int .i64 (j : Int)) := fun u => ((hp1 u).cell tlt htr _).trans t4
                    repeat (first | (refine wpR_peek hq2 rfl ((hR.rel _).trans rfl) ((hpk _).trans rfl) rfl ?_; intro K hK; go_big_quiet_op; go_big_quiet_on) | (refine wpR_det hp2 rfl ((hR.rel _).trans rfl) rfl ?_; intro K hK; go_big_quiet_op; go_big_quiet_on) | (refine wpR_ptr hp2 rfl ((hR.rel _).trans rfl) rfl rfl ?_; intro K hK; go_big_quiet_op; go_big_quiet_on) | (refine wpR_skip pick rfl ?_; intro K hK; go_big_quiet_op; go_big_quiet_on))
                    refine wpR_rel pick rfl ((hR.rel _).trans rfl) ((hR.turns _).trans rfl) ?_ ?_
                    · intro u hu
                      have hk := hR.since hu.1
                      have hks := hk.size
                      have hz := refSend_ok (some ⟨b2, 0, none⟩) rc M mx lost u ⟨yn, yb, YA, yc, yl⟩ hmM (by omega) hrc (by unfold maxLen; omega) (row_es (HRR5.out.kept hk (fun g hg e => by subst e; exact HRR5.out.ne HRB5.out (by decide) hg)))
                      unfold relAt
                      go_simp
                      refine hz.mono ?_
                      rintro e w' ⟨UA, un, uc, rfl, hR', hb'⟩
                      exact ⟨_, rfl, hR.intoB hb', hR.put 0 rfl rfl ⟨UA, un, uc, rfl, hR'.more hks⟩⟩
                    intro v hv
                    obtain ⟨u, _, hu⟩ := hv
                    obtain ⟨UA, un, uc, rfl, -⟩ := hR.get 0 rfl hu
                    clear hu
                    intro K hK
                    go_big_quiet_op
                    go_big_quiet_on
                    repeat (first | (refine wpR_peek hq2 rfl ((hR.rel _).trans rfl) ((hpk _).trans rfl) rfl ?_; intro K hK; go_big_quiet_op; go_big_quiet_on) | (refine wpR_det hp2 rfl ((hR.rel _).trans rfl) rfl ?_; intro K hK; go_big_quiet_op; go_big_quiet_on) | (refine wpR_ptr hp2 rfl ((hR.rel _).trans rfl) rfl rfl ?_; intro K hK; go_big_quiet_op; go_big_quiet_on) | (refine wpR_skip pick rfl ?_; intro K hK; go_big_quiet_op; go_big_quiet_on))
                    refine wpR_turn pick rfl ((hR.rel _).trans rfl) ((hR.turns _).trans rfl) ((hR.adds _).trans rfl) ?_ ?_
                    · intro u hu hM
                      have hk := hR.since hu.1
                      have hks := hk.size
                      have hK0 := hR.first hM
                      have hB0 := HRB5.out.kept hK0 (fun h => h)
                      have cB := hB0.cell
                      have fB := hB0.frozen
                      have lB := hB0.lt
                      unfold relAt
                      go_simp
                      obtain ⟨UA', un', uc', ev, hR9⟩ := (hR.get 0 rfl (hu.2 _ _ (Got.upd_self _ _ _) (by kernel_rfl)))
                      injection ev with ev
                      have ev0 := congrArg (fun l => l[0]?) ev
                      simp at ev0
                      obtain ⟨rfl, rfl, rfl⟩ := ev0
                      have hne := hR9.ne hB0 (by decide)
                      exact ⟨hR.into (kept3 _ _ _ _), hR.put 1 rfl rfl ⟨UA, un, uc, ((hB0.set_ _ _).set_ _ _).set_to rfl, ((hR9.far hne).far hne).far hne⟩⟩
                    intro v hv
                    obtain ⟨u, _, hu⟩ := hv
                    obtain - := hR.get 1 rfl hu
                    clear hu
                    intro K hK
                    go_big_quiet_op
                    go_big_quiet_on
                    repeat (first | (refine wpR_peek hq2 rfl ((hR.rel _).trans rfl) ((hpk _).trans rfl) rfl ?_; intro K hK; go_big_quiet_op; go_big_quiet_on) | (refine wpR_det hp2 rfl ((hR.rel _).trans rfl) rfl ?_; intro K hK; go_big_quiet_op; go_big_quiet_on) | (refine wpR_ptr hp2 rfl ((hR.rel _).trans rfl) rfl rfl ?_; intro K hK; go_big_quiet_op; go_big_quiet_on) | (refine wpR_skip pick rfl ?_; intro K hK; go_big_quiet_op; go_big_quiet_on))
                    refine wpR_nil ?_
                    intro w6 hk2 hF hM
                    have HM6 := Lib.hid (HM5.out.farK HRB5.out hk2)
                    have HB6 := Lib.hid (HB5.out.trans (hk2.below hb5 (fun i h => by rw [h]; exact hmr)))
                    have HRB6 := Lib.hid (hR.get 1 rfl hM)
                    have hs6 := hk2.size
                    clear hF hM hk2 hp1 hp2 hR hpk hq1 hq2 p0 p1 p2 s0 s1 s2 s4 r0 r1 r2 t4 c0 c1 c2 rlt tlt blt HM5 HB5 HRB5 HRR5 HT5
                    go_wp2_with fail
                    go_meet
                    go_light
                    obtain ⟨UA, un, uc, hB9, hR9⟩ := HRB6.out
                    obtain ⟨A9, c9, e9, hc9, hm9⟩ := hR9.shape
                    injection e9 with e91 e92 e93
                    subst e91 e92 e93
                    rw [List.length_map] at hc9 hR9
                    rw [List.length_map] at hB9
                    exact ⟨0, lost, _, _, rfl, rfl, Lib.hid ⟨HM6.out, ⟨_, _, hc9, hm9, hB9, hR9.more (by omega)⟩, HAL.out.snoc _ _ rfl, by simp; omega, ⟨hlo.1, by omega⟩, (fun x hx => by rcases List.mem_append.1 hx with hx | hx; exact HFN.out x hx; obtain rfl := List.mem_singleton.1 hx; exact ⟨hfl, HFO.out⟩), HB6.out, ⟨hmb.1, by omega⟩, hmr⟩⟩
            · as_aux_lemma =>
                subst hkd
                have HRC := Lib.hid (refClear_any RA rc M ai mx lost w4 ⟨hlo.1, by omega⟩ (by omega) hrc (by unfold maxLen; omega) (row_es HRR4.out))
                have hkn := keepV_len M ai
                have HALK := Lib.hid (HAL.out.keep ai)
                obtain ⟨K, hK⟩ : ∃ K, keepV M ai = K := ⟨_, rfl⟩
                have HFK := Lib.hid (show ∀ x ∈ K, x.b.l.length ≤ 200 ∧ x.b.ok w by rw [← hK]; exact fun x hx => HFN.out x (List.mem_filter.1 hx).1)
                rw [hK] at HRC hkn HALK
                clear hK
                go_wp2_with fail
                refine HRC.out.mono ?_
                rintro e w5 ⟨UA, un, uc, rfl, hR5, hb5⟩
                have HR5 := Lib.hid hR5
                have HP5 := Lib.hid (HP4.out.onB hb5)
                have HRB5 := Lib.hid (HRB4.out.below hb5 HRB4.out.lt)
                have HT5 := Lib.hid (HT4.out.below hb5 HT4.out.lt)
                have hs5 := hb5.size
                have hw4 := HP4.out.bel.size
                have htr : ¬ tb = rb := fun e => by subst e; exact HT5.out.ne_ HRB5.out (by decide) rfl
                clear hR5 hb5 HRC HP4 HRB4 HRR4 HT4 r4 rf4 rl4 t4 tl4
                have r5 := HRB5.out.cell
                have rf5 := HRB5.out.frozen
                have rl5 := HRB5.out.lt
                go_upto_region 37 with fail
                obtain ⟨n, hn⟩ : ∃ n : Int, lost + ((M.length : Int) - (K.length : Int)) = n := ⟨_, rfl⟩
                have hn0 : 0 ≤ n ∧ n ≤ 60 * ((k + 1 : Nat) : Int) := by omega
                obtain ⟨w6, hw6⟩ : ∃ w6 : World, w6 = ((w5.setCell ⟨rb, 0, none⟩ (.int .i64 mx)).setCell ⟨rb, 1, none⟩ (.slice UA un uc)).setCell ⟨rb, 2, none⟩ (.int .i64 (lost + ((M.length : Int) - (K.length : Int)))) := ⟨_, rfl⟩
                rw [← hw6]
                have hk6 : Kept (fun i => i = rb) w5 w6 := by rw [hw6]; exact kept3 _ _ _ _
                have HT6 := Lib.hid (HT5.out.kept hk6 htr)
                have HM6 := Lib.hid (HP5.out.ml.farK HRB5.out hk6)
                have HRB6 := Lib.hid (show Blk w6 rb 40 #[.int .i64 mx, .slice UA un uc, .int .i64 n] by rw [hw6, ← hn]; exact ((HRB5.out.set_ _ _).set_ _ _).set_to rfl)
                have HRR6 := Lib.hid (HR5.out.kept hk6 (fun g hg e => by subst e; exact HR5.out.ne HRB5.out (by decide) hg))
                have HB6 := Lib.hid (HP5.out.bel.trans (hk6.below (by omega) (fun i h => by rw [h]; exact hmr)))
                have hs6 := hk6.size
                have hCLR := clear_any mb mb mx lost ai ML w6 HM6.out (by rw [HAL.out.len]; omega) ⟨hlo.1, by omega⟩ (by omega)
                unfold Cleared at hCLR
                rw [HALK.out.len, HAL.out.len, hn] at hCLR
                have HCLR := Lib.hid hCLR
                have HN := Lib.hid hn
                clear hw6 hk6 HP5 HRB5 HT5 HR5 r5 rf5 rl5 hCLR hn
                have t6 := HT6.out.cell
                have tl6 := HT6.out.lt
                go_wp2_with fail
                refine HCLR.out.mono ?_
                rintro e w7 ⟨rfl, hP7⟩
                have HM7 := Lib.hid hP7.st
                have HB7 := Lib.hid (HB6.out.trans (hP7.bel.mono hmb.1))
                have HRB7 := Lib.hid (hP7.oth _ _ _ HRB6.out (by decide) (by decide))
                have HRR7 := Lib.hid (HRR6.out.oth hP7.oth (by decide) (by decide))
                have hs7 := hP7.bel.size
                clear hP7 HCLR HM6 HRB6 HRR6 HB6 HT6 t6 tl6
                go_wp2_with fail
                go_meet
                go_light
                obtain ⟨A9, c9, e9, hc9, hm9⟩ := HRR7.out.shape
                injection e9 with e91 e92 e93
                subst e91 e92 e93
                rw [List.length_map] at hc9
                have hR9 := HRR7.out
                have hB9 := HRB7.out
                rw [List.length_map] at hR9 hB9
                exact ⟨0, n, _, K, rfl, rfl, Lib.hid ⟨HM7.out, ⟨_, _, hc9, hm9, hB9, hR9.more (by omega)⟩, HALK.out, by omega, hn0, HFK.out, HB7.out, ⟨hmb.1, by omega⟩, hmr⟩⟩
            · as_aux_lemma =>
                by_cases hfull : mx ≤ (M.length : Int)
                · have hk1 : (kind == 1) = false := by simpa using hd1
                  have hk2 : (kind == 2) = false := by simpa using hd2
                  have hk3 : (kind == 3) = false := by simpa using hd3
                  have hk4 : (kind == 4) = false := by simpa using hd4
                  clear hd1 hd2 hd3 hd4
                  have HTK := Lib.hid (send_full mb mb mx lost ML nd bk XA xc l w4 HP4.out.ml (by rw [HAL.out.len]; omega) (by rw [HAL.out.len]; omega) ⟨hlo.1, by omega⟩ hmb.2)
                  have HRS := Lib.hid (fun u => refSend_full RA M.length rc mx lost u nd bk XA l.length xc hfull (by omega) ⟨hlo.1, by omega⟩)
                  clear hfull
                  go_wp2_with fail
                  refine HTK.out.mono ?_
                  rintro e w5 ⟨rfl, hP5⟩
                  have hs5 := hP5.bel.size
                  have HM5 := Lib.hid hP5.st
                  have HB5 := Lib.hid (HP4.out.bel.trans (hP5.bel.mono hmb.1))
                  have HRB5 := Lib.hid (hP5.oth _ _ _ HRB4.out (by decide) (by decide))
                  have HRR5 := Lib.hid (HRR4.out.oth hP5.oth (by decide) (by decide))
                  have HT5 := Lib.hid (hP5.oth _ _ _ HT4.out (by decide) (by decide))
                  have hb5 := HB5.out.size
                  clear hP5 HTK r4 rf4 rl4 t4 tl4 HRB4 HRR4 HT4
                  have r5 := HRB5.out.cell
                  have rf5 := HRB5.out.frozen
                  have rl5 := HRB5.out.lt
                  have t5 := HT5.out.cell
                  have tl5 := HT5.out.lt
                  go_wp2_with fail
                  refine (HRS.out _).mono ?_
                  rintro e w8 ⟨rfl, hb8⟩
                  have HR8 := Lib.hid (HRR5.out.belowAll hb8)
                  have HM8 := Lib.hid (HM5.out.onB hb8)
                  have HB8 := Lib.hid (kept_of HB5.out hb8)
                  have HRB8 := Lib.hid (HRB5.out.below hb8 HRB5.out.lt)
                  have hs8 := hb8.size
                  clear hb8 HM5 HRB5 HRR5 HT5 r5 rf5 rl5 t5 tl5
                  have r8 := HRB8.out.cell
                  have rf8 := HRB8.out.frozen
                  have rl8 := HRB8.out.lt
                  go_wp2_with fail
                  go_meet
                  go_light
                  exact ⟨23, lost + 1, ML, M, rfl, rfl, Lib.hid (PyS.put HM8.out HRB8.out HR8.out HAL.out (by omega) ⟨by omega, by omega⟩ HFN.out HB8.out ⟨hmb.1, by omega⟩ hmr (Nat.le_refl _))⟩
                · have hk1 : (kind == 1) = false := by simpa using hd1
                  have hk2 : (kind == 2) = false := by simpa using hd2
                  have hk3 : (kind == 3) = false := by simpa using hd3
                  have hk4 : (kind == 4) = false := by simpa using hd4
                  clear hd1 hd2 hd3 hd4
                  have HTK := Lib.hid (send_ok mb mb mx lost ML nd bk XA xc l w4 HP4.out.ml (by rw [HAL.out.len]; omega) (by rw [HAL.out.len]; omega) hmb.2 (by omega) (HES.out w4 HP4.out.bel))
                  have HRS := Lib.hid (fun u (h : ES u u.heap.size RA 3 (M.map LeV.cs)) => refSend_ok RA rc M mx lost u ⟨nd, bk, XA, xc, l⟩ (by omega) (by omega) hrc (by unfold maxLen; omega) h)
                  clear hfull
                  go_wp2_with fail
                  refine HTK.out.mono ?_
                  rintro e w5 ⟨rfl, nv, hP5⟩
                  have hs5 := hP5.bel.size
                  have HM5 := Lib.hid hP5.st
                  have HB5 := Lib.hid (HP4.out.bel.trans (hP5.bel.mono hmb.1))
                  have HRB5 := Lib.hid (hP5.oth _ _ _ HRB4.out (by decide) (by decide))
                  have HRR5 := Lib.hid (HRR4.out.oth hP5.oth (by decide) (by decide))
                  have HT5 := Lib.hid (hP5.oth _ _ _ HT4.out (by decide) (by decide))
                  have hb5 := HB5.out.size
                  clear hP5 HTK r4 rf4 rl4 t4 tl4 HRB4 HRR4 HT4
                  have r5 := HRB5.out.cell
                  have rf5 := HRB5.out.frozen
                  have rl5 := HRB5.out.lt
                  have t5 := HT5.out.cell
                  have tl5 := HT5.out.lt
                  go_wp2_with fail
                  refine (HRS.out _ (row_es HRR5.out)).mono ?_
                  rintro e w8 ⟨UA, un, uc, rfl, hR8, hb8⟩
                  have HR8 := Lib.hid hR8
                  have HM8 := Lib.hid (HM5.out.onB hb8)
                  have HB8 := Lib.hid (kept_of HB5.out hb8)
                  have HRB8 := Lib.hid (HRB5.out.below hb8 HRB5.out.lt)
                  have hs8 := hb8.size
                  clear hb8 HM5 HRB5 HRR5 HT5 r5 rf5 rl5 t5 tl5
                  have r8 := HRB8.out.cell
                  have rf8 := HRB8.out.frozen
                  have rl8 := HRB8.out.lt
                  go_wp2_with fail
                  go_meet
                  go_light
                  exact ⟨0, lost, _, _, rfl, rfl, Lib.hid (PyS.put HM8.out HRB8.out HR8.out (HAL.out.snoc _ _ rfl) (by simp; omega) ⟨hlo.1, by omega⟩ (fun x hx => by rcases List.mem_append.1 hx with hx | hx; exact HFN.out x hx; obtain rfl := List.mem_singleton.1 hx; exact ⟨h200, HOK.out⟩) HB8.out ⟨hmb.1, by omega⟩ hmr hb5)⟩
          case rest =>
            as_aux_lemma =>
              obtain ⟨z, lost', ML', M', rfl, rfl, HPC⟩ := hcut
              obtain ⟨wx, hwx⟩ : ∃ wx : World, wx = wc := ⟨_, rfl⟩
              rw [← hwx] at HPC ⊢
              have HPX := HPC
              clear hwx HPC HP4 HT4 HRB4 HRR4 r4 rf4 rl4 t4 tl4 HHB HOK
              go_upto_region 39 with fail
              obtain ⟨RA', rc', hrc', hrm', hRB, hRR⟩ := HPX.out.rf
              have hMk' := HPX.out.len
              have hlo' := HPX.out.lo
              have HRBX := Lib.hid hRB
              have HAX := Lib.hid HPX.out.al.len
              have r0 := HRBX.out.cell 0
              have r1 := HRBX.out.cell 1
              have r2 := HRBX.out.cell 2
              simp at r0 r1 r2
              have rlt := HRBX.out.lt
              clear hRB hRR
              refine wp_region_kept 18 [(5, fun v u => v = .int .i64 (M'.length : Int)), (13, fun v u => v = .int .i64 lost')] ?st ?ne rfl (by kernel_rfl) (by kernel_rfl) ?_
              case st =>
                intro p hp
                simp only [List.mem_cons, List.not_mem_nil, or_false] at hp
                rcases hp with rfl | rfl
                · intro v u u' h hk; exact h
                · intro v u u' h hk; exact h
              case ne =>
                intro p hp
                simp only [List.mem_cons, List.not_mem_nil, or_false] at hp
                rcases hp with rfl | rfl
                · exact ⟨_, _, Kept.refl _ _, rfl⟩
                · exact ⟨_, _, Kept.refl _ _, rfl⟩
              simp only [List.take_succ_cons, List.take_zero, List.drop_succ_cons, List.drop_zero]
              intro G pick hR hp1 hp2
              have s0 : ∀ u, (pick u).cell? ⟨rb, 0, none⟩ = some (.int .i64 mx) := fun u => ((hp1 u).cell rlt (fun h => h) _).trans r0
              have s1 : ∀ u, (pick u).cell? ⟨rb, 1, none⟩ = some (.slice RA' M'.length rc') := fun u => ((hp1 u).cell rlt (fun h => h) _).trans r1
              have s2 : ∀ u, (pick u).cell? ⟨rb, 2, none⟩ = some (.int .i64 lost') := fun u => ((hp1 u).cell rlt (fun h => h) _).trans r2
              repeat (first | (refine wpR_det hp2 rfl ((hR.rel _).trans rfl) rfl ?_; intro K hK; go_big_quiet_op; go_big_quiet_on) | (refine wpR_ptr hp2 rfl ((hR.rel _).trans rfl) rfl rfl ?_; intro K hK; go_big_quiet_op; go_big_quiet_on) | (refine wpR_skip pick rfl ?_; intro K hK; go_big_quiet_op; go_big_quiet_on))
              refine wpR_rel pick rfl ((hR.rel _).trans rfl) ((hR.turns _).trans rfl) ?_ ?_
              · intro u hu
                have hk := hR.since hu.1
                have hks := hk.size
                have hz := len_any mb mb mx lost' ML' u (HPX.out.ml.on hk)
                rw [HAX.out] at hz
                unfold relAt
                go_simp
                refine hz.mono ?_
                rintro e w' ⟨rfl, rfl⟩
                exact ⟨_, rfl, hR.same, hR.put 0 rfl rfl rfl⟩
              intro v hv
              obtain ⟨u, _, hu⟩ := hv
              obtain rfl := hR.get 0 rfl hu
              clear hu
              intro K hK
              go_big_quiet_op
              go_big_quiet_on
              repeat (first | (refine wpR_det hp2 rfl ((hR.rel _).trans rfl) rfl ?_; intro K hK; go_big_quiet_op; go_big_quiet_on) | (refine wpR_ptr hp2 rfl ((hR.rel _).trans rfl) rfl rfl ?_; intro K hK; go_big_quiet_op; go_big_quiet_on) | (refine wpR_skip pick rfl ?_; intro K hK; go_big_quiet_op; go_big_quiet_on))
              refine wpR_rel pick rfl ((hR.rel _).trans rfl) ((hR.turns _).trans rfl) ?_ ?_
              · intro u hu
                have hk := hR.since hu.1
                have hks := hk.size
                have hz := lost_any mb mb mx lost' ML' u (HPX.out.ml.on hk)
                unfold relAt
                go_simp
                refine hz.mono ?_
                rintro e w' ⟨rfl, rfl⟩
                exact ⟨_, rfl, hR.same, hR.put 1 rfl rfl rfl⟩
              intro v hv
              obtain ⟨u, _, hu⟩ := hv
              obtain rfl := hR.get 1 rfl hu
              clear hu
              intro K hK
              go_big_quiet_op
              go_big_quiet_on
              repeat (first | (refine wpR_det hp2 rfl ((hR.rel _).trans rfl) rfl ?_; intro K hK; go_big_quiet_op; go_big_quiet_on) | (refine wpR_ptr hp2 rfl ((hR.rel _).trans rfl) rfl rfl ?_; intro K hK; go_big_quiet_op; go_big_quiet_on) | (refine wpR_skip pick rfl ?_; intro K hK; go_big_quiet_op; go_big_quiet_on))
              refine wpR_nil ?_
              intro w7 hk2 hF hM
              have HP7 := Lib.hid (HPX.out.on hk2)
              clear hF hM hk2 hp1 hp2 hR s0 s1 s2 r0 r1 r2 rlt
              go_wp2_with fail
              go_roundw
              case rel => exact ⟨k + 1, by omega, by omega, by go_num, lost', ML', M', HP7⟩
              case measure => simp [intOf]; omega
        · as_aux_lemma =>
            have h2I : (200 : Int) < (l.length : Int) := by omega
            have HBR := Lib.hid HP.out.bel
            go_wp2_with fail
            refine (awake_any _).mono ?_
            rintro e wz ⟨rfl, hbz⟩
            have HBZ := Lib.hid hbz
            clear hbz
            go_wp2_with fail
            go_ret
            exact ⟨rfl, (HBR.out.alloc hsr _).trans (HBZ.out.mono (by simp; omega))⟩
      · as_aux_lemma =>
          have hex : (¬ (k : Int) < (L.length : Int)) ∨ ((k : Int) < (L.length : Int) ∧ ¬ (k : Int) < 60) := by omega
          clear hkK
          have hMk := HP.out.len
          have hw0 := HP.out.bel.size
          have hmb1 := HP.out.hb
          rcases hex with hx1 | ⟨hx1, hx2⟩
          all_goals
            go_wp2_with fail
            go_loopw [15] (fun i wr => ∃ j : Nat, j ≤ M.length ∧ i = .int .i64 (j : Int) ∧ ∃ MJ, Hid (MlS mb mb mx lost MJ wr) ∧ Hid (Alike MJ (M.drop j)) ∧ Hid (RfS rb w.heap.size mx lost M wr) ∧ Hid (Below w.heap.size w wr) ∧ mb ≤ wr.heap.size) (fun i _ => M.length - (intOf i).toNat)
            case atStart => exact ⟨0, by omega, rfl, _, Lib.hid HP.out.ml, Lib.hid (by rw [List.drop_zero]; exact HP.out.al), Lib.hid HP.out.rf, Lib.hid HP.out.bel, by omega⟩
            case round =>
              have HFN := Lib.hid HP.out.fine
              clear HP
              obtain ⟨j, hj, rfl, MJ, HMJ, HAJ, HRJ, HBJ, hmj⟩ := hrel
              have hsj := HBJ.out.size
              obtain ⟨RA, rc, hrc, hrm, hRB, hRR⟩ := HRJ.out
              have HRB := Lib.hid hRB
              have HRR := Lib.hid hRR
              have rJ := HRB.out.cell
              have rJl := HRB.out.lt
              clear hRB hRR
              by_cases hjF : j < M.length
              · have hjI : (j : Int) < (M.length : Int) := by omega
                obtain ⟨x, hx, hkey⟩ := HAJ.out.get 0 (by simp; omega)
                have e0 : (M.drop j)[0]'(by simp; omega) = M[j] := by simp
                rw [e0] at hkey
                have HMX := Lib.hid (HMJ.out.ok x (List.mem_of_getElem? hx))
                have HXE := Lib.hid hx
                have HWJ := Lib.hid (HFN.out M[j] (List.getElem_mem hjF)).2
                obtain ⟨⟨nd, bk, XA, xc, l⟩, hyy⟩ : ∃ y, M[j] = y := ⟨_, rfl⟩
                have HYY := Lib.hid hyy
                rw [hyy] at hkey HWJ
                clear e0 hx hyy
                obtain ⟨nd', bk', v', l'⟩ := x
                have hkey' := hkey.symm
                simp only [Le.key, LeV.key, Prod.mk.injEq] at hkey'
                obtain ⟨rfl, rfl, rfl⟩ := hkey'
                obtain ⟨VA, vc, hv, -, -⟩ := (show Row wr mb 5 v' (bcs l) from HMX.out).shape
                rw [bcs_length] at hv
                subst hv
                have HMJL := Lib.hid HAJ.out.len
                have HTK := Lib.hid (take_ok mb mb mx lost MJ 0 ⟨nd, bk, .slice VA l.length vc, l⟩ wr HMJ.out HXE.out (by rw [HMJL.out]; simp; omega) hmj)
                clear hkey
                go_wp2_with fail
                refine HTK.out.mono ?_
                rintro e w5 ⟨rfl, hP5⟩
                have hs5 := hP5.bel.size
                have HM5 := Lib.hid hP5.st
                have HB5 := Lib.hid (HBJ.out.trans (hP5.bel.mono hmb1.1))
                have HRS5 := Lib.hid (HRJ.out.oth hP5.oth)
                have HRR5 := Lib.hid (HRR.out.oth hP5.oth (by decide) (by decide))
                have HRB5 := Lib.hid (hP5.oth _ _ _ HRB.out (by decide) (by decide))
                have HX5 := Lib.hid (show Row w5 mb 5 (.slice VA l.length vc) (bcs l) from le_oth HMX.out hP5.oth)
                have HA5 := Lib.hid (show Alike (MJ.eraseIdx 0) (M.drop (j + 1)) by have := HAJ.out.erase 0; rwa [List.eraseIdx_zero (l := M.drop j), List.tail_drop] at this)
                have hm5 : mb ≤ w5.heap.size := by omega
                clear hP5 HTK HMX HMJ HRJ HBJ hmj HXE HMJL HAJ HRR HRB rJ rJl
                go_upto_region 45 with fail
                obtain ⟨w6, hw6⟩ : ∃ w6 : World, w6 = w5.alloc (.cells #[.int .i64 nd, .bool bk, .slice VA l.length vc] 31) := ⟨_, rfl⟩
                have hk6 : Kept (fun _ => False) w5 w6 := by rw [hw6]; exact (Kept.refl _ _).alloc _
                have HXB := Lib.hid (show Blk w6 w5.heap.size 31 #[.int .i64 nd, .bool bk, .slice VA l.length vc] by rw [hw6]; exact Blk.new _ _ _)
                rw [← hw6]
                clear hw6
                have hs6 := hk6.size
                have HM6 := Lib.hid (HM5.out.on hk6)
                have HB6 := Lib.hid (HB5.out.trans (hk6.below (by omega) (fun i h => h.elim)))
                have HRS6 := Lib.hid (HRS5.out.on hk6)
                have HR6 := Lib.hid (HRR5.out.kept hk6 (fun _ _ h => h))
                have HRB6 := Lib.hid (HRB5.out.kept hk6 (fun h => h))
                have hok := HX5.out.on hk6
                obtain ⟨b2, c2', hv2, hlo2, blt, hel2⟩ := HR6.out.at (i := j) (by simpa using hjF)
                injection hv2 with e1 e2 e3
                subst e1
                obtain ⟨c0, c1, c2⟩ := lev_cells hel2 hjF
                rw [HYY.out] at c0 c1 c2
                simp only [Nat.zero_add] at c0 c1 c2
                obtain ⟨-, -, hes0⟩ := HWJ.out
                have hes := hes0.onB HB6.out (Nat.le_refl _)
                simp only at hes
                obtain ⟨xb, hxb⟩ : ∃ xb, w5.heap.size = xb := ⟨_, rfl⟩
                rw [hxb] at HXB ⊢
                have x0 := HXB.out.cell 0
                have x1 := HXB.out.cell 1
                have x2 := HXB.out.cell 2
                have r0 := HRB6.out.cell 0
                have r1 := HRB6.out.cell 1
                have r2 := HRB6.out.cell 2
                simp at x0 x1 x2 r0 r1 r2
                have xlt := HXB.out.lt
                have rlt := HRB6.out.lt
                clear HM5 HB5 HRR5 HRB5 HRS5 HX5 hk6 hel2 hes0 hxb e2 e3
                refine wp_region_kept 12 [(9, fun v u => v = .bool true)] ?st ?ne rfl (by kernel_rfl) (by kernel_rfl) ?_
                case st =>
                  intro p hp
                  simp only [List.mem_cons, List.not_mem_nil, or_false] at hp
                  subst hp
                  · intro v u u' h hk; exact h
                case ne =>
                  intro p hp
                  simp only [List.mem_cons, List.not_mem_nil, or_false] at hp
                  subst hp
                  · exact ⟨_, _, Kept.refl _ _, rfl⟩
                simp only [List.take_succ_cons, List.take_zero, List.drop_succ_cons, List.drop_zero]
                intro G pick hR hp1 hp2
                have p0 : ∀ u, (pick u).cell? ⟨b2, j * 3, none⟩ = some (.int .i64 nd) := fun u => ((hp1 u).cell blt (fun h => h) _).trans c0
                have p1 : ∀ u, (pick u).cell? ⟨b2, j * 3 + 1, none⟩ = some (.bool bk) := fun u => ((hp1 u).cell blt (fun h => h) _).trans c1
                have p2 : ∀ u, (pick u).cell? ⟨b2, j * 3 + 2, none⟩ = some (.slice XA l.length xc) := fun u => ((hp1 u).cell blt (fun h => h) _).trans c2
                have q0 : ∀ u, (pick u).cell? ⟨xb, 0, none⟩ = some (.int .i64 nd) := fun u => ((hp1 u).cell xlt (fun h => h) _).trans x0
                have q1 : ∀ u, (pick u).cell? ⟨xb, 1, none⟩ = some (.bool bk) := fun u => ((hp1 u).cell xlt (fun h => h) _).trans x1
                have q2 : ∀ u, (pick u).cell? ⟨xb, 2, none⟩ = some (.slice VA l.length vc) := fun u => ((hp1 u).cell xlt (fun h => h) _).trans x2
                have s0 : ∀ u, (pick u).cell? ⟨rb, 0, none⟩ = some (.int .i64 mx) := fun u => ((hp1 u).cell rlt (fun h => h) _).trans r0
                have s1 : ∀ u, (pick u).cell? ⟨rb, 1, none⟩ = some (.slice (some ⟨b2, 0, none⟩) M.length rc) := fun u => ((hp1 u).cell rlt (fun h => h) _).trans r1
                have s2 : ∀ u, (pick u).cell? ⟨rb, 2, none⟩ = some (.int .i64 lost) := fun u => ((hp1 u).cell rlt (fun h => h) _).trans r2
                repeat (first | (refine wpR_det hp2 rfl ((hR.rel _).trans rfl) rfl ?_; intro K hK; go_big_quiet_op; go_big_quiet_on) | (refine wpR_ptr hp2 rfl ((hR.rel _).trans rfl) rfl rfl ?_; intro K hK; go_big_quiet_op; go_big_quiet_on) | (refine wpR_skip pick rfl ?_; intro K hK; go_big_quiet_op; go_big_quiet_on))
                refine wpR_rel pick rfl ((hR.rel _).trans rfl) ((hR.turns _).trans rfl) ?_ ?_
                · intro u hu
                  have hk := hR.since hu.1
                  have hks := hk.size
                  have hz := same_yes nd bk l VA XA vc xc u (hok.on hk).bs (hes.on hk (fun _ _ h => h))
                  unfold relAt
                  go_simp
                  refine hz.mono ?_
                  rintro e w' ⟨rfl, hb'⟩
                  exact ⟨_, rfl, hR.intoB hb', hR.put 0 rfl rfl rfl⟩
                intro v hv
                obtain ⟨u, _, hu⟩ := hv
                obtain rfl := hR.get 0 rfl hu
                clear hu
                intro K hK
                go_big_quiet_op
                go_big_quiet_on
                repeat (first | (refine wpR_det hp2 rfl ((hR.rel _).trans rfl) rfl ?_; intro K hK; go_big_quiet_op; go_big_quiet_on) | (refine wpR_ptr hp2 rfl ((hR.rel _).trans rfl) rfl rfl ?_; intro K hK; go_big_quiet_op; go_big_quiet_on) | (refine wpR_skip pick rfl ?_; intro K hK; go_big_quiet_op; go_big_quiet_on))
                refine wpR_nil ?_
                intro w7 hk2 hF hM
                have HM7 := Lib.hid (HM6.out.on hk2)
                have HR7 := Lib.hid (HRS6.out.on hk2)
                have HB7 := Lib.hid (HB6.out.trans (hk2.below (by omega) (fun i h => h.elim)))
                have hm7 := hk2.size
                clear hF hM hk2 hp1 hp2 hR p0 p1 p2 q0 q1 q2 s0 s1 s2 x0 x1 x2 r0 r1 r2 c0 c1 c2 hok hes
                go_wp2_with fail
                go_roundw
                case rel => exact ⟨j + 1, by omega, by go_num, _, HM7, HA5, HR7, HB7, by omega⟩
                case measure => simp [intOf]; omega
              · obtain rfl : j = M.length := by omega
                have hjI : ¬ (M.length : Int) < (M.length : Int) := by omega
                clear HRR HMJ HAJ HRJ
                go_wp2_with fail
                refine (take_none _ _).mono ?_
                rintro e wa ⟨rfl, hba⟩
                have HBA := Lib.hid (kept_of HBJ.out hba)
                have hsa := HBA.out.size
                clear hba rJ rJl HRB HBJ
                go_wp2_with fail
                refine (send_none _ _ rfl _).mono ?_
                rintro e wb ⟨rfl, hbb⟩
                have HBB := Lib.hid ((HBA.out.alloc hsa _).trans (hbb.mono (by simp; omega)))
                have hsb := HBB.out.size
                clear hbb HBA
                go_wp2_with fail
                refine (drop_none _ _).mono ?_
                rintro e wd ⟨rfl, hbd⟩
                have HBD := Lib.hid (kept_of HBB.out hbd)
                clear hbd HBB
                go_wp2_with fail
                refine (twice_none _ _).mono ?_
                rintro e wf ⟨rfl, hbf⟩
                have HBF := Lib.hid (kept_of HBD.out hbf)
                clear hbf HBD
                go_wp2_with fail
                refine (clear_none _ _).mono ?_
                rintro e wg ⟨rfl, hbg⟩
                have HBG := Lib.hid (kept_of HBF.out hbg)
                clear hbg HBF
                go_wp2_with fail
                refine (len_none _).mono ?_
                rintro e wh ⟨rfl, rfl⟩
                go_wp2_with fail
                refine (lost_none _).mono ?_
                rintro e wh ⟨rfl, rfl⟩
                go_wp2_with fail
                refine (awake_any _).mono ?_
                rintro e wz ⟨rfl, hbz⟩
                have HBZ := Lib.hid (kept_of HBG.out hbz)
                clear hbz
                go_wp2_with fail
                go_ret
                exact ⟨rfl, HBZ.out⟩
end Go.Proofs.Ytggipaengnchgaa
