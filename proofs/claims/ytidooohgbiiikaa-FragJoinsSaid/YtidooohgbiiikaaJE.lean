/- The reference's Join, walked. -/
import Derived.Test.YtidooohgbiiikaaJD
namespace Go.Proofs.Ytidooohgbiiikaa
open Go.RowKit
set_option linter.unusedVariables false
set_option linter.unusedSimpArgs false
set_option maxRecDepth 100000 in
set_option maxHeartbeats 32000000 in
theorem refJoins_any (A : Option Addr) (c : Nat) (l : List (List UInt8)) (w : World) (hl : l.length ≤ 1000) (hs : (l.map List.length).sum ≤ 50000) (hI : Ins w w.heap.size A l) :
    Calls Try.prog 10 #[.slice A l.length c] w (JoinP l w) := by
  have HI := Lib.hid hI
  have HSM := Lib.hid hs
  clear hI hs
  go_enter Try.func10, Try.ntmps10
  go_wp2_with fail
  go_loopw [4, 5, 6] (fun v u i wr => ∃ (k : Nat) (H U : List (List Value)), k ≤ l.length ∧ i = .int .i64 (k : Int) ∧ Hid (RowN wr w.heap.size 41 16 v H) ∧ Hid (RowN wr w.heap.size 22 1 u U) ∧ Hid (F2 (RH wr w.heap.size) H (isort poff ((l.take k).map pt))) ∧ Hid (F2 (RL wr w.heap.size) U (isort poff ((l.take k).map pt))) ∧ Hid (Below w.heap.size w wr) ∧ Hid (∀ b ∈ l.take k, perr b = 0)) (fun _ _ i _ => l.length - (intOf i).toNat)
  case atStart => exact ⟨0, [], [], by omega, rfl, Lib.hid (RowN.nil _ _ _ _), Lib.hid (RowN.nil _ _ _ _), Lib.hid .nil, Lib.hid .nil, Lib.hid (Below.refl _ _), Lib.hid (fun b hb => by simp at hb)⟩
  case round =>
    obtain ⟨k, H, U, hk, rfl, HR, HU, HF, HG, HW, HE⟩ := hrel
    obtain ⟨P, hP⟩ : ∃ P, isort poff ((l.take k).map pt) = P := ⟨_, rfl⟩
    rw [hP] at HF HG
    have hPl : P.length = k := by rw [← hP, isort_length, List.length_map, List.length_take]; omega
    have HSR := Lib.hid (show Srt poff P by rw [← hP]; exact srt_isort _)
    have HPE2 := Lib.hid hP
    have HPL := Lib.hid hPl
    have hHl : H.length = k := by rw [HF.out.len, hPl]
    have hUl : U.length = k := by rw [HG.out.len, hPl]
    obtain ⟨VA, vc, hve, hvc1, hvc2⟩ := HR.out.shape
    obtain ⟨UA, uc, hue, huc1, huc2⟩ := HU.out.shape
    rw [hHl] at hve hvc1
    rw [hUl] at hue huc1
    subst hve hue
    have HLx := Lib.hid hHl
    have HLy := Lib.hid hUl
    clear hP hPl hHl hUl
    by_cases hkl : k < l.length
    · have kI : (k : Int) < (l.length : Int) := by omega
      have k0 : (0 : Int) ≤ (k : Int) := Int.natCast_nonneg _
      obtain ⟨b, o, hb, rfl, hc⟩ : ∃ b off, b < w.heap.size ∧ A = some ⟨b, off, none⟩ ∧ ∀ k (h : k < l.length), ∃ C c, w.cell? ⟨b, off + k, none⟩ = some (.slice C l[k].length c) ∧ l[k].length ≤ c ∧ c ≤ maxLen ∧ BS w w.heap.size C l[k] := by
        rcases HI.out with h | h
        · rw [h] at hkl; simp at hkl
        · exact h
      obtain ⟨C, cc, hcell, hcc1, hcc2, hbs⟩ := hc k hkl
      have hxl : l[k].length ≤ 50000 := Nat.le_trans (len_sum (List.getElem_mem hkl)) HSM.out
      have HSNOC := Lib.hid (show l.take (k + 1) = l.take k ++ [l[k]] from List.take_succ_eq_append_getElem hkl)
      have HJE := Lib.hid (fun (hx : perr l[k] ≠ 0) => joinR_err hkl HE.out hx)
      generalize l[k] = x at hcell hcc1 hbs hxl HSNOC HJE
      have hcell' := (HW.out.cell (p := ⟨b, o + k, none⟩) hb).trans hcell
      have hbr : b < wr.heap.size := Nat.lt_of_lt_of_le hb HW.out.size
      have HXS := Lib.hid (show BS wr wr.heap.size C x from hbs.onB HW.out (Nat.le_refl _))
      have hwr : w.heap.size ≤ wr.heap.size := HW.out.size
      clear hc hcell hbs
      have rc6 : ∀ u, Kept (fun _ => False) wr u → u.cell? ⟨b, o + k, none⟩ = some (.slice C x.length cc) := fun u hu => (hu.cell hbr (fun h => h) _).trans hcell'
      go_wp2_with fail
      refine (refParse_any C cc x _ (by omega) ⟨hcc1, hcc2⟩ HXS.out).mono ?_
      rintro e w2 ⟨hb2, ⟨hpe, rfl⟩ | ⟨hpe, v, lv, rfl, hv, hx⟩⟩
      · have HPE := Lib.hid hpe
        have HW2 := Lib.hid (HW.out.trans (hb2.mono hwr))
        clear hpe hb2 hcell'
        obtain ⟨pe, hpe⟩ : ∃ pe, perr x = pe := ⟨_, rfl⟩
        rw [hpe]
        have hpe0 : ¬ pe = 0 := by rw [← hpe]; exact HPE.out
        have hpeb : (pe == 0) = false := by simpa using hpe0
        have HPV := Lib.hid hpe
        clear hpe rc6
        go_upto_region 7 with (show wpList _ _ _ ((⟨none, .store 41 (.tmp 7) _, _, _, _, none⟩ : Oper) :: _) _ _; refine wpList_store_mid rfl 41 (.tmp 7) _ rfl w2.heap.size 0 #[.int .u8 0, .int .i64 0, .int .u16 0, .bool false, .bool false, .int .i64 0, .int .u8 0, .int .u8 0, .int .u16 0, .bool false, .int .u64 0, .int .u64 0, .bool false, .int .u64 0, .int .u64 0, .slice none 0 0] rfl rfl ((Blk.new w2 41 #[.int .u8 0, .int .i64 0, .int .u16 0, .bool false, .bool false, .int .i64 0, .int .u8 0, .int .u8 0, .int .u16 0, .bool false, .int .u64 0, .int .u64 0, .bool false, .int .u64 0, .int .u64 0, .slice none 0 0]).there rfl) (by kernel_rfl) (by simp [Value.oneCell']) ?_)
        generalize hw3 : (World.setCells _ _ _ _) = w3
        have HKA := Lib.hid (show Kept (fun i => i = w2.heap.size) (w2.alloc (.cells #[.int .u8 0, .int .i64 0, .int .u16 0, .bool false, .bool false, .int .i64 0, .int .u8 0, .int .u8 0, .int .u16 0, .bool false, .int .u64 0, .int .u64 0, .bool false, .int .u64 0, .int .u64 0, .slice none 0 0] 41)) w3 by rw [← hw3]; exact Kept.setCells (S := fun i => i = w2.heap.size) rfl _ _ (Kept.refl _ _))
        have HW3 := Lib.hid (show Below w.heap.size w w3 from HW2.out.trans ((show Kept (fun _ => False) w2 w3 from ((Kept.refl _ _).alloc _).then HKA.out (fun i hi e => by omega)).below HW2.out.size (fun _ h => h.elim)))
        clear hw3 HKA
        go_wp2_with fail
        go_ret2
        have hj := HJE.out HPE.out
        exact ⟨HW3.out, _, by rw [hj, HPV.out]; rfl, by rw [hj]; exact Row.nil _ _ _⟩
      have HOK := Lib.hid (okPt hpe)
      have HB2 := Lib.hid hb2
      have HPE := Lib.hid hpe
      obtain ⟨hd, hhd⟩ : ∃ hd, phd x = hd := ⟨_, rfl⟩
      obtain ⟨X, hX⟩ : ∃ X, pld x = X := ⟨_, rfl⟩
      have hwf : hd.wf := by rw [← hhd]; exact HOK.out.wf
      have HPT := Lib.hid (show pt x = ⟨hd, X⟩ by unfold pt; rw [hhd, hX])
      have HE6 := Lib.hid (show ∀ b ∈ l.take (k + 1), perr b = 0 by
        rw [HSNOC.out]
        intro b hb
        rcases List.mem_append.1 hb with h | h
        · exact HE.out b h
        · rw [List.mem_singleton.1 h]; exact HPE.out)
      rw [hhd] at hv ⊢
      rw [hX] at hx
      clear hpe hb2 hhd hX HJE hcell' rc6 HE
      obtain ⟨OA, oc, hve, hoc1, hoc2⟩ := hv.shape
      obtain ⟨LA, lc, hxe, hxc1, hxc2⟩ := hx.shape
      obtain ⟨tos, len, id, stay, more, off, ttl, pr, sm, src, dst, os⟩ := hd
      obtain ⟨t0, t1, i0, i1, o0, o1, x0, x1, p0, p1, q0, q1, s0, s1, d0, d1, n0, n1, n40, n4⟩ := hwf
      simp only at t0 t1 i0 i1 o0 o1 x0 x1 p0 p1 q0 q1 s0 s1 d0 d1 n0 n1 n40 n4
      obtain ⟨n, hn⟩ : ∃ n, os.length = n := ⟨_, rfl⟩
      obtain ⟨m, hm⟩ : ∃ m, X.length = m := ⟨_, rfl⟩
      rw [bcs_length] at hve hxe hoc1 hxc1
      simp only at hve hoc1 hv
      rw [hn] at hve hoc1 n40 n4
      rw [hm] at hxe hxc1
      subst hve hxe
      have HV := Lib.hid (hv.more hwr)
      have HX := Lib.hid (hx.more hwr)
      clear hv hx hn hm
      simp only [Hd.cells]
      go_upto_region 7 with (show wpList _ _ _ ((⟨none, .store 41 (.tmp 7) _, _, _, _, none⟩ : Oper) :: _) _ _; refine wpList_store_mid rfl 41 (.tmp 7) _ rfl w2.heap.size 0 #[.int .u8 tos, .int .i64 len, .int .u16 id, .bool stay, .bool more, .int .i64 off, .int .u8 ttl, .int .u8 pr, .int .u16 sm, .bool false, .int .u64 0, .int .u64 src, .bool false, .int .u64 0, .int .u64 dst, .slice OA n oc] rfl rfl ((Blk.new w2 41 #[.int .u8 0, .int .i64 0, .int .u16 0, .bool false, .bool false, .int .i64 0, .int .u8 0, .int .u8 0, .int .u16 0, .bool false, .int .u64 0, .int .u64 0, .bool false, .int .u64 0, .int .u64 0, .slice none 0 0]).there rfl) (by kernel_rfl) (by simp [Value.oneCell']) ?_)
      generalize hw3 : (World.setCells _ _ _ _) = w5
      have HH := Lib.hid (show Blk w5 w2.heap.size 41 #[.int .u8 tos, .int .i64 len, .int .u16 id, .bool stay, .bool more, .int .i64 off, .int .u8 ttl, .int .u8 pr, .int .u16 sm, .bool false, .int .u64 0, .int .u64 src, .bool false, .int .u64 0, .int .u64 dst, .slice OA n oc] by rw [← hw3]; exact (Blk.new w2 41 #[.int .u8 0, .int .i64 0, .int .u16 0, .bool false, .bool false, .int .i64 0, .int .u8 0, .int .u8 0, .int .u16 0, .bool false, .int .u64 0, .int .u64 0, .bool false, .int .u64 0, .int .u64 0, .slice none 0 0]).setAll #[.int .u8 tos, .int .i64 len, .int .u16 id, .bool stay, .bool more, .int .i64 off, .int .u8 ttl, .int .u8 pr, .int .u16 sm, .bool false, .int .u64 0, .int .u64 src, .bool false, .int .u64 0, .int .u64 dst, .slice OA n oc] rfl)
      have HKA := Lib.hid (show Kept (fun i => i = w2.heap.size) (w2.alloc (.cells #[.int .u8 0, .int .i64 0, .int .u16 0, .bool false, .bool false, .int .i64 0, .int .u8 0, .int .u8 0, .int .u16 0, .bool false, .int .u64 0, .int .u64 0, .bool false, .int .u64 0, .int .u64 0, .slice none 0 0] 41)) w5 by rw [← hw3]; exact Kept.setCells (S := fun i => i = w2.heap.size) rfl _ _ (Kept.refl _ _))
      have HKB := Lib.hid (show Kept (fun _ => False) w2 w5 from ((Kept.refl _ _).alloc _).then HKA.out (fun i hi e => by omega))
      have HKC := Lib.hid (show Kept (fun _ => False) wr w5 from (Kept.ofB HB2.out).trans HKB.out)
      have HW5 := Lib.hid (show Below w.heap.size w w5 from HW.out.trans (HKC.out.below hwr (fun _ h => h.elim)))
      have HV5 := Lib.hid (HV.out.kept HKB.out (fun _ _ h => h))
      have HX5 := Lib.hid (HX.out.kept HKB.out (fun _ _ h => h))
      have HR5 := Lib.hid (HR.out.kept HKC.out (fun _ _ h => h))
      have HU5 := Lib.hid (HU.out.kept HKC.out (fun _ _ h => h))
      have HF5 := Lib.hid (show F2 (RH w5 w.heap.size) H P from HF.out.imp (fun a b h => h.kept0 HKC.out))
      have HG5 := Lib.hid (show F2 (RL w5 w.heap.size) U P from HG.out.imp (fun a b h => h.kept0 HKC.out))
      have hw5 : w.heap.size ≤ w5.heap.size := HW5.out.size
      have hk1000 : k ≤ 1000 := by omega
      unfold maxLen at hvc2 huc2
      clear hw3 HKA HV HX HR HU HF HG HW HKB HKC
      obtain ⟨ht, hht⟩ : ∃ ht, w2.heap.size = ht := ⟨_, rfl⟩
      rw [hht] at HH ⊢
      clear hht
      have hinfx := Try.info41r
      have hinfy := Try.info22r
      have HONEx := Lib.hid (show ∀ D : List (List Value), (∀ x ∈ D, x ∈ H) → ∀ u ∈ D.flatten, u.oneCell' = true from fun D hD => F2.ones HF5.out (fun x p h => h.one) D hD)
      have HONEy := Lib.hid (show ∀ D : List (List Value), (∀ x ∈ D, x ∈ U) → ∀ u ∈ D.flatten, u.oneCell' = true from fun D hD => F2.ones HG5.out (fun x p h => h.one) D hD)
      by_cases hk0 : k = 0
      · have hHn : H = [] := List.eq_nil_of_length_eq_zero (by rw [HLx.out]; exact hk0)
        have hUn : U = [] := List.eq_nil_of_length_eq_zero (by rw [HLy.out]; exact hk0)
        have hPn : P = [] := List.eq_nil_of_length_eq_zero (by rw [HPL.out]; exact hk0)
        subst hHn hUn hk0
        have HINS := Lib.hid (show ([(⟨⟨tos, len, id, stay, more, off, ttl, pr, sm, src, dst, os⟩, X⟩ : Pt)] : List Pt) = sins poff ((⟨⟨tos, len, id, stay, more, off, ttl, pr, sm, src, dst, os⟩, X⟩ : Pt)) P by rw [hPn]; rfl)
        clear hPn
        go_wp2_with fail
        go_loopw [10] (fun x wr' => x = .int .i64 0 ∧ Hid (Kept (fun _ => False) w5 wr')) (fun _ _ => 0)
        case atStart => exact ⟨rfl, Lib.hid (Kept.refl _ _)⟩
        case round =>
          obtain ⟨rfl, HKq⟩ := hrel
          go_upto_region 10 with fail
          refine wp_region_kept 13 [] ?st ?ne rfl (by kernel_rfl) (by kernel_rfl) ?_
          case st => intro p hp; cases hp
          case ne => intro p hp; cases hp
          simp only [List.take_succ_cons, List.take_zero, List.drop_succ_cons, List.drop_zero]
          intro G pick hR hp1 hp2
          repeat (first | (refine wpR_det hp2 rfl ((hR.rel _).trans rfl) rfl ?_; intro K hK; go_big_quiet_op; go_big_quiet_on) | (refine wpR_ptr hp2 rfl ((hR.rel _).trans rfl) rfl rfl ?_; intro K hK; go_big_quiet_op; go_big_quiet_on) | (refine wpR_skip pick rfl ?_; intro K hK; go_big_quiet_op; go_big_quiet_on))
          refine wpR_nil ?_
          intro ws hk2 hF hM
          have HKs := Lib.hid (HKq.out.trans hk2)
          clear hF hM hk2 hp1 hp2 hR
          have HRs := Lib.hid (HR5.out.kept HKs.out (fun _ _ h => h))
          have HUs := Lib.hid (HU5.out.kept HKs.out (fun _ _ h => h))
          have HFs := Lib.hid (show F2 (RH ws w.heap.size) [] P from HF5.out.imp (fun a b h => h.kept0 HKs.out))
          have HGs := Lib.hid (show F2 (RL ws w.heap.size) [] P from HG5.out.imp (fun a b h => h.kept0 HKs.out))
          have HVs := Lib.hid (HV5.out.kept HKs.out (fun _ _ h => h))
          have HXs := Lib.hid (HX5.out.kept HKs.out (fun _ _ h => h))
          have HHT := Lib.hid (HH.out.kept HKs.out (fun h => h))
          have HWs := Lib.hid (show Below w.heap.size w ws from HW5.out.trans (HKs.out.below hw5 (fun _ h => h.elim)))
          have hws : w.heap.size ≤ ws.heap.size := HWs.out.size
          clear HKq HKs HR5 HU5 HF5 HG5 HV5 HX5 HH HW5
          go_upto_region 12 with fail
          obtain ⟨Bx, hBx⟩ : ∃ Bx, ws.heap.size = Bx := ⟨_, rfl⟩
          have hHx : Bx ≤ ws.heap.size := by omega
          have hBBx : w.heap.size ≤ Bx := by omega
          have HBx := Lib.hid hBx
          have htB : ht < Bx := by have := HHT.out.lt; omega
          clear hBx
          refine wp_region_lax 11 Bx 16 [4, 7] [(0, fun v u => ∃ g, v = .slice (some ⟨g, 0, none⟩) 0 0), (4, fun v u => RowZ u Bx 41 16 v ([] : List (List Value))), (6, fun v u => ∃ g, v = .slice (some ⟨g, 0, none⟩) 1 1 ∧ Blk u g 41 #[.int .u8 tos, .int .i64 len, .int .u16 id, .bool stay, .bool more, .int .i64 off, .int .u8 ttl, .int .u8 pr, .int .u16 sm, .bool false, .int .u64 0, .int .u64 src, .bool false, .int .u64 0, .int .u64 dst, .slice OA n oc]), (7, fun v u => RowN u Bx 41 16 v (([] : List (List Value)) ++ ([[.int .u8 tos, .int .i64 len, .int .u16 id, .bool stay, .bool more, .int .i64 off, .int .u8 ttl, .int .u8 pr, .int .u16 sm, .bool false, .int .u64 0, .int .u64 src, .bool false, .int .u64 0, .int .u64 dst, .slice OA n oc]] : List (List Value)))), (10, fun v u => ∃ A' c', v = .slice A' 0 c' ∧ ES u Bx A' 16 ([] : List (List Value)))] ?st ?ne rfl (by kernel_rfl) (by kernel_rfl) (by kernel_rfl) ?_
          case st =>
            intro p hp
            simp only [List.mem_cons, List.not_mem_nil, or_false] at hp
            rcases hp with rfl | rfl | rfl | rfl | rfl
            · intro v u u' h _; exact h
            · intro v u u' h hk; exact h.kept hk
            · rintro v u u' ⟨g, rfl, h⟩ hk; exact ⟨g, rfl, h.lax hk (by simp)⟩
            · intro v u u' h hk; exact h.kept hk (fun _ _ h => h)
            · rintro v u u' ⟨A', c', rfl, h⟩ hk; exact ⟨A', c', rfl, h.laxG (by omega) hk⟩
          case ne =>
            intro p hp
            simp only [List.mem_cons, List.not_mem_nil, or_false] at hp
            rcases hp with rfl | rfl | rfl | rfl | rfl
            · exact ⟨.slice (some ⟨0, 0, none⟩) 0 0, _, Lax.refl _ _ _, 0, rfl⟩
            · exact rowZG_is 41 16 Bx ws ([] : List (List Value)) (fun _ h => by cases h) hHx (by simp)
            · exact ⟨_, _, (Lax.refl _ _ _).alloc _, _, rfl, Blk.new _ _ _⟩
            · exact ⟨_, _, (Lax.refl _ _ _).alloc _, rowG_is 41 16 Bx ws (([] : List (List Value)) ++ ([[.int .u8 tos, .int .i64 len, .int .u16 id, .bool stay, .bool more, .int .i64 off, .int .u8 ttl, .int .u8 pr, .int .u16 sm, .bool false, .int .u64 0, .int .u64 src, .bool false, .int .u64 0, .int .u64 dst, .slice OA n oc]] : List (List Value))) (by intro y hy; rcases List.mem_append.1 hy with h | h; exact (fun _ h => by cases h) y h; rw [List.mem_singleton.1 h]; rfl) hHx (by simp; decide)⟩
            · exact ⟨_, ws, Lax.refl _ _ _, none, 0, rfl, .inl (by simp)⟩
          simp only [List.take_succ_cons, List.take_zero, List.drop_succ_cons, List.drop_zero]
          intro G pick hR hp1 hp2
          repeat (first | (refine wpR_det hp2 rfl ((hR.rel _).trans rfl) rfl ?_; intro K hK; (first | (refine quiet_load_row 41 (.tmp 7) ht 0 [.int .u8 tos, .int .i64 len, .int .u16 id, .bool stay, .bool more, .int .i64 off, .int .u8 ttl, .int .u8 pr, .int .u16 sm, .bool false, .int .u64 0, .int .u64 src, .bool false, .int .u64 0, .int .u64 dst, .slice OA n oc] _ rfl (fun u => (HHT.out.laxH (hp1 u) htB).range') Try.underlying41 rfl (by kernel_rfl) ?_)); go_big_quiet_op; go_big_quiet_on) | (refine wpR_det hp2 rfl ((hR.rel _).trans rfl) rfl ?_; intro K hK; go_big_quiet_op; go_big_quiet_on) | (refine wpR_ptr hp2 rfl ((hR.rel _).trans rfl) rfl rfl ?_; intro K hK; go_big_quiet_op; go_big_quiet_on) | (refine wpR_skip pick rfl ?_; intro K hK; go_big_quiet_op; go_big_quiet_on))
          refine wpR_rel pick rfl ((hR.rel _).trans rfl) ((hR.turns _).trans rfl) ?_ ?_
          · intro u hu
            have hk := hR.since hu.1
            have hks := hk.size
            unfold relAt
            go_simp
            exact ⟨hR.into0 ((Kept.refl _ _).alloc _), hR.put 0 rfl rfl ⟨_, rfl⟩⟩
          intro v hv
          obtain ⟨u, _, hu⟩ := hv
          obtain ⟨g0, rfl⟩ := hR.get 0 rfl hu
          clear hu
          intro K hK
          go_big_quiet_op
          go_big_quiet_on
          repeat (first | (refine wpR_det hp2 rfl ((hR.rel _).trans rfl) rfl ?_; intro K hK; (first | (refine quiet_load_row 41 (.tmp 7) ht 0 [.int .u8 tos, .int .i64 len, .int .u16 id, .bool stay, .bool more, .int .i64 off, .int .u8 ttl, .int .u8 pr, .int .u16 sm, .bool false, .int .u64 0, .int .u64 src, .bool false, .int .u64 0, .int .u64 dst, .slice OA n oc] _ rfl (fun u => (HHT.out.laxH (hp1 u) htB).range') Try.underlying41 rfl (by kernel_rfl) ?_)); go_big_quiet_op; go_big_quiet_on) | (refine wpR_det hp2 rfl ((hR.rel _).trans rfl) rfl ?_; intro K hK; go_big_quiet_op; go_big_quiet_on) | (refine wpR_ptr hp2 rfl ((hR.rel _).trans rfl) rfl rfl ?_; intro K hK; go_big_quiet_op; go_big_quiet_on) | (refine wpR_skip pick rfl ?_; intro K hK; go_big_quiet_op; go_big_quiet_on))
          refine wpR_turn pick rfl ((hR.rel _).trans rfl) ((hR.turns _).trans rfl) ((hR.adds _).trans rfl) ?_ ?_
          · intro u hu hM
            have hk := hR.since hu.1
            have hks := hk.size
            refine relAt_append_zero (.tmp 51) (.tmp 54) 59 rfl Bx 41 (.agg #[.int .u8 0, .int .i64 0, .int .u16 0, .bool false, .bool false, .int .i64 0, .int .u8 0, .int .u8 0, .int .u16 0, .bool false, .int .u64 0, .int .u64 0, .bool false, .int .u64 0, .int .u64 0, .slice none 0 0]) 16 112 Try.underlying59 hinfx rfl (by omega) g0 rfl VA 0 vc ([] : List (List Value)) rfl ?me (fun _ h => by cases h) ?se ?le ?be ?he ?_
            case me => simp
            case se => exact .inl (by simp)
            case le => simp
            case be => simp
            case he => omega
            intro v' w' h1 h2
            exact ⟨hR.into (Lax.of_below h2), hR.put 1 rfl rfl h1⟩
          intro v hv
          obtain ⟨u, _, hu⟩ := hv
          obtain hT4 := hR.get 1 rfl hu
          clear hu
          intro K hK
          go_big_quiet_op
          go_big_quiet_on
          repeat (first | (refine wpR_det hp2 rfl ((hR.rel _).trans rfl) rfl ?_; intro K hK; (first | (refine quiet_load_row 41 (.tmp 7) ht 0 [.int .u8 tos, .int .i64 len, .int .u16 id, .bool stay, .bool more, .int .i64 off, .int .u8 ttl, .int .u8 pr, .int .u16 sm, .bool false, .int .u64 0, .int .u64 src, .bool false, .int .u64 0, .int .u64 dst, .slice OA n oc] _ rfl (fun u => (HHT.out.laxH (hp1 u) htB).range') Try.underlying41 rfl (by kernel_rfl) ?_)); go_big_quiet_op; go_big_quiet_on) | (refine wpR_det hp2 rfl ((hR.rel _).trans rfl) rfl ?_; intro K hK; go_big_quiet_op; go_big_quiet_on) | (refine wpR_ptr hp2 rfl ((hR.rel _).trans rfl) rfl rfl ?_; intro K hK; go_big_quiet_op; go_big_quiet_on) | (refine wpR_skip pick rfl ?_; intro K hK; go_big_quiet_op; go_big_quiet_on))
          refine wpR_rel pick rfl ((hR.rel _).trans rfl) ((hR.turns _).trans rfl) ?_ ?_
          · intro u hu
            have hk := hR.since hu.1
            have hks := hk.size
            unfold relAt
            go_simp
            exact ⟨hR.into0 ((Kept.refl _ _).alloc _), hR.put 2 rfl rfl ⟨_, rfl, Blk.new _ _ _⟩⟩
          intro v hv
          obtain ⟨u, _, hu⟩ := hv
          obtain ⟨g6, rfl, -⟩ := hR.get 2 rfl hu
          clear hu
          intro K hK
          go_big_quiet_op
          go_big_quiet_on
          repeat (first | (refine wpR_det hp2 rfl ((hR.rel _).trans rfl) rfl ?_; intro K hK; (first | (refine quiet_load_row 41 (.tmp 7) ht 0 [.int .u8 tos, .int .i64 len, .int .u16 id, .bool stay, .bool more, .int .i64 off, .int .u8 ttl, .int .u8 pr, .int .u16 sm, .bool false, .int .u64 0, .int .u64 src, .bool false, .int .u64 0, .int .u64 dst, .slice OA n oc] _ rfl (fun u => (HHT.out.laxH (hp1 u) htB).range') Try.underlying41 rfl (by kernel_rfl) ?_)); go_big_quiet_op; go_big_quiet_on) | (refine wpR_det hp2 rfl ((hR.rel _).trans rfl) rfl ?_; intro K hK; go_big_quiet_op; go_big_quiet_on) | (refine wpR_ptr hp2 rfl ((hR.rel _).trans rfl) rfl rfl ?_; intro K hK; go_big_quiet_op; go_big_quiet_on) | (refine wpR_skip pick rfl ?_; intro K hK; go_big_quiet_op; go_big_quiet_on))
          refine wpR_turn pick rfl ((hR.rel _).trans rfl) ((hR.turns _).trans rfl) ((hR.adds _).trans rfl) ?_ ?_
          · intro u hu hM
            have hk := hR.since hu.1
            have hks := hk.size
            have hz := hR.get 1 rfl hM
            obtain ⟨g6', e, h6⟩ := (hR.get 2 rfl (hu.2 _ _ (Got.upd_self _ _ _) (by kernel_rfl)))
            injection e with e
            injection e with e
            injection e with e
            subst e
            refine relAt_append_lax (.tmp 55) (.tmp 57) 59 rfl Bx 41 (.agg #[.int .u8 0, .int .i64 0, .int .u16 0, .bool false, .bool false, .int .i64 0, .int .u8 0, .int .u8 0, .int .u16 0, .bool false, .int .u64 0, .int .u64 0, .bool false, .int .u64 0, .int .u64 0, .slice none 0 0]) 16 112 Try.underlying59 hinfx rfl (by omega) _ ([] : List (List Value)) rfl (some ⟨g6, 0, none⟩) 1 1 ([[.int .u8 tos, .int .i64 len, .int .u16 id, .bool stay, .bool more, .int .i64 off, .int .u8 ttl, .int .u8 pr, .int .u16 sm, .bool false, .int .u64 0, .int .u64 src, .bool false, .int .u64 0, .int .u64 dst, .slice OA n oc]] : List (List Value)) rfl rfl hz (by simp) (by simp) (Src.blk h6 (by simp)) (by simp [Value.oneCell']) ?lf ?bf ?hf ?_
            case lf => simp; decide
            case bf => simp
            case hf => omega
            intro v' w' h1 h2
            exact ⟨hR.into h2, hR.put 3 rfl rfl h1⟩
          intro v hv
          obtain ⟨u, _, hu⟩ := hv
          obtain hT7 := hR.get 3 rfl hu
          clear hu
          intro K hK
          go_big_quiet_op
          go_big_quiet_on
          repeat (first | (refine wpR_det hp2 rfl ((hR.rel _).trans rfl) rfl ?_; intro K hK; (first | (refine quiet_load_row 41 (.tmp 7) ht 0 [.int .u8 tos, .int .i64 len, .int .u16 id, .bool stay, .bool more, .int .i64 off, .int .u8 ttl, .int .u8 pr, .int .u16 sm, .bool false, .int .u64 0, .int .u64 src, .bool false, .int .u64 0, .int .u64 dst, .slice OA n oc] _ rfl (fun u => (HHT.out.laxH (hp1 u) htB).range') Try.underlying41 rfl (by kernel_rfl) ?_)); go_big_quiet_op; go_big_quiet_on) | (refine wpR_det hp2 rfl ((hR.rel _).trans rfl) rfl ?_; intro K hK; go_big_quiet_op; go_big_quiet_on) | (refine wpR_ptr hp2 rfl ((hR.rel _).trans rfl) rfl rfl ?_; intro K hK; go_big_quiet_op; go_big_quiet_on) | (refine wpR_skip pick rfl ?_; intro K hK; go_big_quiet_op; go_big_quiet_on))
          refine wpR_rel pick rfl ((hR.rel _).trans rfl) ((hR.turns _).trans rfl) ?_ ?_
          · intro u hu
            have hk := hR.since hu.1
            have hks := hk.size
            unfold relAt
            go_simp
            exact ⟨hR.into0 (Kept.refl _ _), hR.put 4 rfl rfl ⟨_, _, rfl, .inl (by simp)⟩⟩
          intro v hv
          obtain ⟨u, _, hu⟩ := hv
          obtain ⟨A', c', rfl, -⟩ := hR.get 4 rfl hu
          clear hu
          intro K hK
          go_big_quiet_op
          go_big_quiet_on
          repeat (first | (refine wpR_det hp2 rfl ((hR.rel _).trans rfl) rfl ?_; intro K hK; (first | (refine quiet_load_row 41 (.tmp 7) ht 0 [.int .u8 tos, .int .i64 len, .int .u16 id, .bool stay, .bool more, .int .i64 off, .int .u8 ttl, .int .u8 pr, .int .u16 sm, .bool false, .int .u64 0, .int .u64 src, .bool false, .int .u64 0, .int .u64 dst, .slice OA n oc] _ rfl (fun u => (HHT.out.laxH (hp1 u) htB).range') Try.underlying41 rfl (by kernel_rfl) ?_)); go_big_quiet_op; go_big_quiet_on) | (refine wpR_det hp2 rfl ((hR.rel _).trans rfl) rfl ?_; intro K hK; go_big_quiet_op; go_big_quiet_on) | (refine wpR_ptr hp2 rfl ((hR.rel _).trans rfl) rfl rfl ?_; intro K hK; go_big_quiet_op; go_big_quiet_on) | (refine wpR_skip pick rfl ?_; intro K hK; go_big_quiet_op; go_big_quiet_on))
          refine wpR_nil ?_
          intro w4 hk2 hF hM
          have HVx := Lib.hid (hR.get 3 rfl hM)
          have HSx := Lib.hid ((hR.get 4 rfl (hF _ _ (Got.upd_self _ _ _))))
          have HLXx := Lib.hid hk2
          have hs4x := hk2.size
          clear hF hM hk2 hp1 hp2 hR
          obtain ⟨A'', c'', e, hS⟩ := HSx.out
          injection e with e1 e2 e3
          subst e1
          have HSSx := Lib.hid hS
          clear e2 e3 hS HSx
          obtain ⟨WAx, wcx, hve, -, -⟩ := HVx.out.shape
          simp only [List.nil_append, List.length_cons, List.length_nil, Nat.zero_add] at hve
          subst hve
          go_upto_region 13 with (at_builtin; refine wpList_append_rowN rfl (.tmp 58) (.tmp 61) 59 rfl Bx 41 (.agg #[.int .u8 0, .int .i64 0, .int .u16 0, .bool false, .bool false, .int .i64 0, .int .u8 0, .int .u8 0, .int .u16 0, .bool false, .int .u64 0, .int .u64 0, .bool false, .int .u64 0, .int .u64 0, .slice none 0 0]) 16 112 Try.underlying59 hinfx rfl (by omega) _ (([] : List (List Value)) ++ ([[.int .u8 tos, .int .i64 len, .int .u16 id, .bool stay, .bool more, .int .i64 off, .int .u8 ttl, .int .u8 pr, .int .u16 sm, .bool false, .int .u64 0, .int .u64 src, .bool false, .int .u64 0, .int .u64 dst, .slice OA n oc]] : List (List Value))) rfl A' 0 c' ([] : List (List Value)) rfl ?a0 HVx.out (fun _ h => by cases h) HSSx.out.src ?a2 ?a3 ?a4 ?a5 ?_)
          try case a0 => simp
          case a2 => intro u hu; cases hu
          case a3 => simp; decide
          case a4 => simp
          case a5 => omega
          intro v7 w7 hr7 hg7 _
          have HRx7 := Lib.hid hr7
          have HBBx := Lib.hid (show Below Bx ws w7 from (HLXx.out.below hHx).trans (below_grown hg7 (fun i hi => (HVx.out.lt i hi).1) (by omega)))
          have HKKx := Lib.hid (show Kept (fun _ => False) ws w7 from Kept.ofB (by rw [HBx.out]; exact HBBx.out))
          clear hr7 hg7 HVx HSSx HLXx
          have HU7 := Lib.hid (HUs.out.kept HKKx.out (fun _ _ h => h))
          have hw7 := HKKx.out.size
          go_upto_region 13 with fail
          obtain ⟨By, hBy⟩ : ∃ By, w7.heap.size = By := ⟨_, rfl⟩
          have hHy : By ≤ w7.heap.size := by omega
          have hBBy : w.heap.size ≤ By := by omega
          have HBy := Lib.hid hBy
          clear hBy
          refine wp_region_lax 11 By 1 [4, 7] [(0, fun v u => ∃ g, v = .slice (some ⟨g, 0, none⟩) 0 0), (4, fun v u => RowZ u By 22 1 v ([] : List (List Value))), (6, fun v u => ∃ g, v = .slice (some ⟨g, 0, none⟩) 1 1 ∧ Blk u g 22 #[.slice LA m lc]), (7, fun v u => RowN u By 22 1 v (([] : List (List Value)) ++ ([[.slice LA m lc]] : List (List Value)))), (10, fun v u => ∃ A' c', v = .slice A' 0 c' ∧ ES u By A' 1 ([] : List (List Value)))] ?st ?ne rfl (by kernel_rfl) (by kernel_rfl) (by kernel_rfl) ?_
          case st =>
            intro p hp
            simp only [List.mem_cons, List.not_mem_nil, or_false] at hp
            rcases hp with rfl | rfl | rfl | rfl | rfl
            · intro v u u' h _; exact h
            · intro v u u' h hk; exact h.kept hk
            · rintro v u u' ⟨g, rfl, h⟩ hk; exact ⟨g, rfl, h.lax hk (by simp)⟩
            · intro v u u' h hk; exact h.kept hk (fun _ _ h => h)
            · rintro v u u' ⟨A', c', rfl, h⟩ hk; exact ⟨A', c', rfl, h.laxG (by omega) hk⟩
          case ne =>
            intro p hp
            simp only [List.mem_cons, List.not_mem_nil, or_false] at hp
            rcases hp with rfl | rfl | rfl | rfl | rfl
            · exact ⟨.slice (some ⟨0, 0, none⟩) 0 0, _, Lax.refl _ _ _, 0, rfl⟩
            · exact rowZG_is 22 1 By w7 ([] : List (List Value)) (fun _ h => by cases h) hHy (by simp)
            · exact ⟨_, _, (Lax.refl _ _ _).alloc _, _, rfl, Blk.new _ _ _⟩
            · exact ⟨_, _, (Lax.refl _ _ _).alloc _, rowG_is 22 1 By w7 (([] : List (List Value)) ++ ([[.slice LA m lc]] : List (List Value))) (by intro y hy; rcases List.mem_append.1 hy with h | h; exact (fun _ h => by cases h) y h; rw [List.mem_singleton.1 h]; rfl) hHy (by simp; decide)⟩
            · exact ⟨_, w7, Lax.refl _ _ _, none, 0, rfl, .inl (by simp)⟩
          simp only [List.take_succ_cons, List.take_zero, List.drop_succ_cons, List.drop_zero]
          intro G pick hR hp1 hp2
          repeat (first | (refine wpR_det hp2 rfl ((hR.rel _).trans rfl) rfl ?_; intro K hK; go_big_quiet_op; go_big_quiet_on) | (refine wpR_ptr hp2 rfl ((hR.rel _).trans rfl) rfl rfl ?_; intro K hK; go_big_quiet_op; go_big_quiet_on) | (refine wpR_skip pick rfl ?_; intro K hK; go_big_quiet_op; go_big_quiet_on))
          refine wpR_rel pick rfl ((hR.rel _).trans rfl) ((hR.turns _).trans rfl) ?_ ?_
          · intro u hu
            have hk := hR.since hu.1
            have hks := hk.size
            unfold relAt
            go_simp
            exact ⟨hR.into0 ((Kept.refl _ _).alloc _), hR.put 0 rfl rfl ⟨_, rfl⟩⟩
          intro v hv
          obtain ⟨u, _, hu⟩ := hv
          obtain ⟨g0, rfl⟩ := hR.get 0 rfl hu
          clear hu
          intro K hK
          go_big_quiet_op
          go_big_quiet_on
          repeat (first | (refine wpR_det hp2 rfl ((hR.rel _).trans rfl) rfl ?_; intro K hK; go_big_quiet_op; go_big_quiet_on) | (refine wpR_ptr hp2 rfl ((hR.rel _).trans rfl) rfl rfl ?_; intro K hK; go_big_quiet_op; go_big_quiet_on) | (refine wpR_skip pick rfl ?_; intro K hK; go_big_quiet_op; go_big_quiet_on))
          refine wpR_turn pick rfl ((hR.rel _).trans rfl) ((hR.turns _).trans rfl) ((hR.adds _).trans rfl) ?_ ?_
          · intro u hu hM
            have hk := hR.since hu.1
            have hks := hk.size
            refine relAt_append_zero (.tmp 63) (.tmp 66) 24 rfl By 22 (.slice none 0 0) 1 24 Try.underlying24 hinfy rfl (by omega) g0 rfl UA 0 uc ([] : List (List Value)) rfl ?me (fun _ h => by cases h) ?se ?le ?be ?he ?_
            case me => simp
            case se => exact .inl (by simp)
            case le => simp
            case be => simp
            case he => omega
            intro v' w' h1 h2
            exact ⟨hR.into (Lax.of_below h2), hR.put 1 rfl rfl h1⟩
          intro v hv
          obtain ⟨u, _, hu⟩ := hv
          obtain hT4 := hR.get 1 rfl hu
          clear hu
          intro K hK
          go_big_quiet_op
          go_big_quiet_on
          repeat (first | (refine wpR_det hp2 rfl ((hR.rel _).trans rfl) rfl ?_; intro K hK; go_big_quiet_op; go_big_quiet_on) | (refine wpR_ptr hp2 rfl ((hR.rel _).trans rfl) rfl rfl ?_; intro K hK; go_big_quiet_op; go_big_quiet_on) | (refine wpR_skip pick rfl ?_; intro K hK; go_big_quiet_op; go_big_quiet_on))
          refine wpR_rel pick rfl ((hR.rel _).trans rfl) ((hR.turns _).trans rfl) ?_ ?_
          · intro u hu
            have hk := hR.since hu.1
            have hks := hk.size
            unfold relAt
            go_simp
            exact ⟨hR.into0 ((Kept.refl _ _).alloc _), hR.put 2 rfl rfl ⟨_, rfl, Blk.new _ _ _⟩⟩
          intro v hv
          obtain ⟨u, _, hu⟩ := hv
          obtain ⟨g6, rfl, -⟩ := hR.get 2 rfl hu
          clear hu
          intro K hK
          go_big_quiet_op
          go_big_quiet_on
          repeat (first | (refine wpR_det hp2 rfl ((hR.rel _).trans rfl) rfl ?_; intro K hK; go_big_quiet_op; go_big_quiet_on) | (refine wpR_ptr hp2 rfl ((hR.rel _).trans rfl) rfl rfl ?_; intro K hK; go_big_quiet_op; go_big_quiet_on) | (refine wpR_skip pick rfl ?_; intro K hK; go_big_quiet_op; go_big_quiet_on))
          refine wpR_turn pick rfl ((hR.rel _).trans rfl) ((hR.turns _).trans rfl) ((hR.adds _).trans rfl) ?_ ?_
          · intro u hu hM
            have hk := hR.since hu.1
            have hks := hk.size
            have hz := hR.get 1 rfl hM
            obtain ⟨g6', e, h6⟩ := (hR.get 2 rfl (hu.2 _ _ (Got.upd_self _ _ _) (by kernel_rfl)))
            injection e with e
            injection e with e
            injection e with e
            subst e
            refine relAt_append_lax (.tmp 67) (.tmp 69) 24 rfl By 22 (.slice none 0 0) 1 24 Try.underlying24 hinfy rfl (by omega) _ ([] : List (List Value)) rfl (some ⟨g6, 0, none⟩) 1 1 ([[.slice LA m lc]] : List (List Value)) rfl rfl hz (by simp) (by simp) (Src.blk h6 (by simp)) (by simp [Value.oneCell']) ?lf ?bf ?hf ?_
            case lf => simp; decide
            case bf => simp
            case hf => omega
            intro v' w' h1 h2
            exact ⟨hR.into h2, hR.put 3 rfl rfl h1⟩
          intro v hv
          obtain ⟨u, _, hu⟩ := hv
          obtain hT7 := hR.get 3 rfl hu
          clear hu
          intro K hK
          go_big_quiet_op
          go_big_quiet_on
          repeat (first | (refine wpR_det hp2 rfl ((hR.rel _).trans rfl) rfl ?_; intro K hK; go_big_quiet_op; go_big_quiet_on) | (refine wpR_ptr hp2 rfl ((hR.rel _).trans rfl) rfl rfl ?_; intro K hK; go_big_quiet_op; go_big_quiet_on) | (refine wpR_skip pick rfl ?_; intro K hK; go_big_quiet_op; go_big_quiet_on))
          refine wpR_rel pick rfl ((hR.rel _).trans rfl) ((hR.turns _).trans rfl) ?_ ?_
          · intro u hu
            have hk := hR.since hu.1
            have hks := hk.size
            unfold relAt
            go_simp
            exact ⟨hR.into0 (Kept.refl _ _), hR.put 4 rfl rfl ⟨_, _, rfl, .inl (by simp)⟩⟩
          intro v hv
          obtain ⟨u, _, hu⟩ := hv
          obtain ⟨A', c', rfl, -⟩ := hR.get 4 rfl hu
          clear hu
          intro K hK
          go_big_quiet_op
          go_big_quiet_on
          repeat (first | (refine wpR_det hp2 rfl ((hR.rel _).trans rfl) rfl ?_; intro K hK; go_big_quiet_op; go_big_quiet_on) | (refine wpR_ptr hp2 rfl ((hR.rel _).trans rfl) rfl rfl ?_; intro K hK; go_big_quiet_op; go_big_quiet_on) | (refine wpR_skip pick rfl ?_; intro K hK; go_big_quiet_op; go_big_quiet_on))
          refine wpR_nil ?_
          intro w8 hk2 hF hM
          have HVy := Lib.hid (hR.get 3 rfl hM)
          have HSy := Lib.hid ((hR.get 4 rfl (hF _ _ (Got.upd_self _ _ _))))
          have HLXy := Lib.hid hk2
          have hs4y := hk2.size
          clear hF hM hk2 hp1 hp2 hR
          obtain ⟨A'', c'', e, hS⟩ := HSy.out
          injection e with e1 e2 e3
          subst e1
          have HSSy := Lib.hid hS
          clear e2 e3 hS HSy
          obtain ⟨WAy, wcy, hve, -, -⟩ := HVy.out.shape
          simp only [List.nil_append, List.length_cons, List.length_nil, Nat.zero_add] at hve
          subst hve
          go_upto_region 5 with (at_builtin; refine wpList_append_rowN rfl (.tmp 70) (.tmp 73) 24 rfl By 22 (.slice none 0 0) 1 24 Try.underlying24 hinfy rfl (by omega) _ (([] : List (List Value)) ++ ([[.slice LA m lc]] : List (List Value))) rfl A' 0 c' ([] : List (List Value)) rfl ?a0 HVy.out (fun _ h => by cases h) HSSy.out.src ?a2 ?a3 ?a4 ?a5 ?_)
          try case a0 => simp
          case a2 => intro u hu; cases hu
          case a3 => simp; decide
          case a4 => simp
          case a5 => omega
          intro v9 w9 hr7 hg7 _
          have HRy7 := Lib.hid hr7
          have HBBy := Lib.hid (show Below By w7 w9 from (HLXy.out.below hHy).trans (below_grown hg7 (fun i hi => (HVy.out.lt i hi).1) (by omega)))
          have HKKy := Lib.hid (show Kept (fun _ => False) w7 w9 from Kept.ofB (by rw [HBy.out]; exact HBBy.out))
          clear hr7 hg7 HVy HSSy HLXy
          have HKA := Lib.hid (HKKx.out.trans HKKy.out)
          have HRn := Lib.hid (show RowN w9 w.heap.size 41 16 _ (([] : List (List Value)) ++ ([[.int .u8 tos, .int .i64 len, .int .u16 id, .bool stay, .bool more, .int .i64 off, .int .u8 ttl, .int .u8 pr, .int .u16 sm, .bool false, .int .u64 0, .int .u64 src, .bool false, .int .u64 0, .int .u64 dst, .slice OA n oc]] : List (List Value)) ++ ([] : List (List Value))) from by
            have h := (HRx7.out.kept HKKy.out (fun _ _ h => h)).more hBBx
            simp only [List.append_assoc, List.cons_append, List.nil_append, List.append_nil] at h ⊢
            exact h)
          have HUn := Lib.hid (show RowN w9 w.heap.size 22 1 _ (([] : List (List Value)) ++ ([[.slice LA m lc]] : List (List Value)) ++ ([] : List (List Value))) from by
            have h := HRy7.out.more hBBy
            simp only [List.append_assoc, List.cons_append, List.nil_append, List.append_nil] at h ⊢
            exact h)
          have HFn := Lib.hid (show F2 (RH w9 w.heap.size) ([] ++ [[.int .u8 tos, .int .i64 len, .int .u16 id, .bool stay, .bool more, .int .i64 off, .int .u8 ttl, .int .u8 pr, .int .u16 sm, .bool false, .int .u64 0, .int .u64 src, .bool false, .int .u64 0, .int .u64 dst, .slice OA n oc]] ++ []) (isort poff ((l.take (0 + 1)).map pt)) by
            rw [HSNOC.out, List.map_append, List.map_cons, List.map_nil, isort_snoc, HPE2.out, HPT.out, ← HINS.out]
            exact .one ⟨_, rfl, (HVs.out.kept HKA.out (fun _ _ h => h))⟩)
          have HGn := Lib.hid (show F2 (RL w9 w.heap.size) ([] ++ [[.slice LA m lc]] ++ []) (isort poff ((l.take (0 + 1)).map pt)) by
            rw [HSNOC.out, List.map_append, List.map_cons, List.map_nil, isort_snoc, HPE2.out, HPT.out, ← HINS.out]
            exact .one ⟨_, rfl, (HXs.out.kept HKA.out (fun _ _ h => h))⟩)
          have HWn := Lib.hid (show Below w.heap.size w w9 from HWs.out.trans (HKA.out.below (by omega) (fun _ h => h.elim)))
          clear HKKx HKKy HRx7 HRy7 HRs HUs HFs HGs HVs HXs HWs HHT
          go_wp2_with fail
          go_roundw
          case rel => exact ⟨0 + 1, _, _, by omega, by go_num, HRn, HUn, HFn, HGn, HWn, HE6⟩
          case measure => simp [intOf]; omega
      obtain ⟨g, gc, hve, -, hglt, -⟩ := HR5.out.at (i := 0) (by rw [HLx.out]; omega)
      obtain ⟨g2, gc2, hue, -, hglt2, -⟩ := HU5.out.at (i := 0) (by rw [HLy.out]; omega)
      injection hve with hve1 hve2 hve3
      injection hue with hue1 hue2 hue3
      subst hve1 hue1
      clear hve2 hve3 hue2 hue3
      clear hglt hglt2
      go_wp2_with fail
      go_loopw [10] (fun x wr' => ∃ q : Nat, q ≤ k ∧ x = .int .i64 (q : Int) ∧ Hid (Kept (fun _ => False) w5 wr') ∧ Hid (∀ j (h : j < P.length), q ≤ j → off < poff P[j])) (fun x _ => (intOf x).toNat)
      case atStart => exact ⟨k, Nat.le_refl _, rfl, Lib.hid (Kept.refl _ _), Lib.hid (fun j h hq => by have := HPL.out; omega)⟩
      case round =>
        obtain ⟨q, hqk, rfl, HKq, HGT⟩ := hrel
        have kcI : (q : Int) ≤ (vc : Int) := by omega
        have kcI2 : (q : Int) ≤ (uc : Int) := by omega
        have klI : (q : Int) ≤ (k : Int) := by omega
        have lcI : (k : Int) ≤ (vc : Int) := by omega
        have lcI2 : (k : Int) ≤ (uc : Int) := by omega
        have q0I : (0 : Int) ≤ (q : Int) := Int.natCast_nonneg _
        by_cases hq0 : 0 < q
        · obtain ⟨r, hr⟩ : ∃ r, q - 1 = r := ⟨_, rfl⟩
          have er : (q : Int) - 1 = (r : Int) := by omega
          have hrk : r < k := by omega
          have rI : (r : Int) < (k : Int) := by omega
          have r0I : (0 : Int) ≤ (r : Int) := Int.natCast_nonneg _
          have HRE := Lib.hid hr
          have q0I' : (0 : Int) < (q : Int) := by omega
          clear hr
          obtain ⟨oy, hoy⟩ : ∃ oy, poff (P[r]'(by rw [HPL.out]; exact hrk)) = oy := ⟨_, rfl⟩
          have HOY := Lib.hid hoy
          have hH5 := HR5.out.kept HKq.out (fun _ _ h => h)
          have hh5 := HH.out.kept HKq.out (fun h => h)
          have gl := (hH5.lt _ rfl).2
          have hl := hh5.lt
          have c5 : wr.cell? ⟨g, r * 16 + 5, none⟩ = some (.int .i64 oy) := by
            obtain ⟨g', c', e, _, _, hel⟩ := hH5.at (i := r) (by rw [HLx.out]; exact hrk)
            injection e with e; injection e with e; injection e with e; subst e
            have := hel.get (k := r) (by rw [HLx.out]; exact hrk) 5 (by omega)
            rw [Nat.zero_add] at this
            rw [this, (HF5.out.at (k := r) (by rw [HLx.out]; exact hrk) (by rw [HPL.out]; exact hrk)).off, hoy]
          have d5 := hh5.cell 5
          simp at d5
          clear hoy hH5 hh5
          by_cases hgt : off < oy
          · go_upto_region 10 with fail
            refine wp_region_kept 13 [] ?st ?ne rfl (by kernel_rfl) (by kernel_rfl) ?_
            case st => intro p hp; cases hp
            case ne => intro p hp; cases hp
            simp only [List.take_succ_cons, List.take_zero, List.drop_succ_cons, List.drop_zero]
            intro G pick hR hp1 hp2
            have p0 : ∀ u, (pick u).cell? ⟨g, r * 16 + 5, none⟩ = some (.int .i64 oy) := fun u => ((hp1 u).cell gl (fun h => h) _).trans c5
            have p1 : ∀ u, (pick u).cell? ⟨ht, 5, none⟩ = some (.int .i64 off) := fun u => ((hp1 u).cell hl (fun h => h) _).trans d5
            repeat (first | (refine wpR_det hp2 rfl ((hR.rel _).trans rfl) rfl ?_; intro K hK; go_big_quiet_op; go_big_quiet_on) | (refine wpR_ptr hp2 rfl ((hR.rel _).trans rfl) rfl rfl ?_; intro K hK; go_big_quiet_op; go_big_quiet_on) | (refine wpR_skip pick rfl ?_; intro K hK; go_big_quiet_op; go_big_quiet_on))
            refine wpR_nil ?_
            intro ws hk2 hF hM
            have HKs := Lib.hid (HKq.out.trans hk2)
            clear hF hM hk2 hp1 hp2 hR p0 p1 c5 d5
            go_wp2_with fail
            go_roundw
            case rel => exact ⟨r, by omega, rfl, HKs, Lib.hid (fun j h hq => by
              by_cases e : j = r
              · subst e; rw [HOY.out]; exact hgt
              · exact HGT.out j h (by have := HRE.out; omega))⟩
            case measure => have := HRE.out; simp [intOf]; omega
          · go_upto_region 10 with fail
            refine wp_region_kept 13 [] ?st ?ne rfl (by kernel_rfl) (by kernel_rfl) ?_
            case st => intro p hp; cases hp
            case ne => intro p hp; cases hp
            simp only [List.take_succ_cons, List.take_zero, List.drop_succ_cons, List.drop_zero]
            intro G pick hR hp1 hp2
            have p0 : ∀ u, (pick u).cell? ⟨g, r * 16 + 5, none⟩ = some (.int .i64 oy) := fun u => ((hp1 u).cell gl (fun h => h) _).trans c5
            have p1 : ∀ u, (pick u).cell? ⟨ht, 5, none⟩ = some (.int .i64 off) := fun u => ((hp1 u).cell hl (fun h => h) _).trans d5
            repeat (first | (refine wpR_det hp2 rfl ((hR.rel _).trans rfl) rfl ?_; intro K hK; go_big_quiet_op; go_big_quiet_on) | (refine wpR_ptr hp2 rfl ((hR.rel _).trans rfl) rfl rfl ?_; intro K hK; go_big_quiet_op; go_big_quiet_on) | (refine wpR_skip pick rfl ?_; intro K hK; go_big_quiet_op; go_big_quiet_on))
            refine wpR_nil ?_
            intro ws hk2 hF hM
            have HKs := Lib.hid (HKq.out.trans hk2)
            have HINS := Lib.hid (sins_cut (p := (⟨⟨tos, len, id, stay, more, off, ttl, pr, sm, src, dst, os⟩, X⟩ : Pt)) HSR.out (by rw [HPL.out]; exact hqk) HGT.out (.inr ⟨by rw [HRE.out, HPL.out]; exact hrk, by
              have e := HOY.out
              have e2 := HRE.out
              subst e2
              rw [e]; show oy ≤ off; omega⟩))
            clear hF hM hk2 hp1 hp2 hR p0 p1 c5 d5 HGT HOY HRE
            have HRs := Lib.hid (HR5.out.kept HKs.out (fun _ _ h => h))
            have HUs := Lib.hid (HU5.out.kept HKs.out (fun _ _ h => h))
            have HFs := Lib.hid (show F2 (RH ws w.heap.size) H P from HF5.out.imp (fun a b h => h.kept0 HKs.out))
            have HGs := Lib.hid (show F2 (RL ws w.heap.size) U P from HG5.out.imp (fun a b h => h.kept0 HKs.out))
            have HVs := Lib.hid (HV5.out.kept HKs.out (fun _ _ h => h))
            have HXs := Lib.hid (HX5.out.kept HKs.out (fun _ _ h => h))
            have HHT := Lib.hid (HH.out.kept HKs.out (fun h => h))
            have HWs := Lib.hid (show Below w.heap.size w ws from HW5.out.trans (HKs.out.below hw5 (fun _ h => h.elim)))
            have hws : w.heap.size ≤ ws.heap.size := HWs.out.size
            clear HKq HKs HR5 HU5 HF5 HG5 HV5 HX5 HH HW5 gl hl er rI r0I q0I' hgt hrk
            go_upto_region 12 with fail
            obtain ⟨Bx, hBx⟩ : ∃ Bx, ws.heap.size = Bx := ⟨_, rfl⟩
            have hHx : Bx ≤ ws.heap.size := by omega
            have hBBx : w.heap.size ≤ Bx := by omega
            have HBx := Lib.hid hBx
            have bltx : g < ws.heap.size := (HRs.out.lt _ rfl).2
            have bHx : g < Bx := by omega
            have HEx := Lib.hid (show ElAt ws g 0 16 H by obtain ⟨g', c', e, _, _, h⟩ := HRs.out.at (i := 0) (by have := HLx.out; omega); injection e with e; injection e with e; injection e with e; subst e; exact h)
            have htB : ht < Bx := by have := HHT.out.lt; omega
            clear hBx
            refine wp_region_lax 11 Bx 16 [4, 7] [(0, fun v u => ∃ g, v = .slice (some ⟨g, 0, none⟩) 0 0), (4, fun v u => RowZ u Bx 41 16 v (H.take q)), (6, fun v u => ∃ g, v = .slice (some ⟨g, 0, none⟩) 1 1 ∧ Blk u g 41 #[.int .u8 tos, .int .i64 len, .int .u16 id, .bool stay, .bool more, .int .i64 off, .int .u8 ttl, .int .u8 pr, .int .u16 sm, .bool false, .int .u64 0, .int .u64 src, .bool false, .int .u64 0, .int .u64 dst, .slice OA n oc]), (7, fun v u => RowN u Bx 41 16 v ((H.take q) ++ ([[.int .u8 tos, .int .i64 len, .int .u16 id, .bool stay, .bool more, .int .i64 off, .int .u8 ttl, .int .u8 pr, .int .u16 sm, .bool false, .int .u64 0, .int .u64 src, .bool false, .int .u64 0, .int .u64 dst, .slice OA n oc]] : List (List Value)))), (10, fun v u => ∃ A' c', v = .slice A' (k - q) c' ∧ ES u Bx A' 16 (H.drop q))] ?st ?ne rfl (by kernel_rfl) (by kernel_rfl) (by kernel_rfl) ?_
            case st =>
              intro p hp
              simp only [List.mem_cons, List.not_mem_nil, or_false] at hp
              rcases hp with rfl | rfl | rfl | rfl | rfl
              · intro v u u' h _; exact h
              · intro v u u' h hk; exact h.kept hk
              · rintro v u u' ⟨g, rfl, h⟩ hk; exact ⟨g, rfl, h.lax hk (by simp)⟩
              · intro v u u' h hk; exact h.kept hk (fun _ _ h => h)
              · rintro v u u' ⟨A', c', rfl, h⟩ hk; exact ⟨A', c', rfl, h.laxG (by omega) hk⟩
            case ne =>
              intro p hp
              simp only [List.mem_cons, List.not_mem_nil, or_false] at hp
              rcases hp with rfl | rfl | rfl | rfl | rfl
              · exact ⟨.slice (some ⟨0, 0, none⟩) 0 0, _, Lax.refl _ _ _, 0, rfl⟩
              · exact rowZG_is 41 16 Bx ws (H.take q) (fun y hy => HRs.out.1 y (List.mem_of_mem_take hy)) hHx (by have := HLx.out; simp only [List.length_take, List.length_append, List.length_cons, List.length_nil, List.length_drop]; unfold maxLen; omega)
              · exact ⟨_, _, (Lax.refl _ _ _).alloc _, _, rfl, Blk.new _ _ _⟩
              · exact ⟨_, _, (Lax.refl _ _ _).alloc _, rowG_is 41 16 Bx ws ((H.take q) ++ ([[.int .u8 tos, .int .i64 len, .int .u16 id, .bool stay, .bool more, .int .i64 off, .int .u8 ttl, .int .u8 pr, .int .u16 sm, .bool false, .int .u64 0, .int .u64 src, .bool false, .int .u64 0, .int .u64 dst, .slice OA n oc]] : List (List Value))) (by intro y hy; rcases List.mem_append.1 hy with h | h; exact (fun y hy => HRs.out.1 y (List.mem_of_mem_take hy)) y h; rw [List.mem_singleton.1 h]; rfl) hHx (by have := HLx.out; simp only [List.length_take, List.length_append, List.length_cons, List.length_nil, List.length_drop]; unfold maxLen; omega)⟩
              · exact ⟨_, ws, Lax.refl _ _ _, some ⟨g, q * 16, none⟩, 0, rfl, es_sliceG HEx.out bHx (by have := HLx.out; omega)⟩
            simp only [List.take_succ_cons, List.take_zero, List.drop_succ_cons, List.drop_zero]
            intro G pick hR hp1 hp2
            repeat (first | (refine wpR_det hp2 rfl ((hR.rel _).trans rfl) rfl ?_; intro K hK; (first | (refine quiet_load_row 41 (.tmp 7) ht 0 [.int .u8 tos, .int .i64 len, .int .u16 id, .bool stay, .bool more, .int .i64 off, .int .u8 ttl, .int .u8 pr, .int .u16 sm, .bool false, .int .u64 0, .int .u64 src, .bool false, .int .u64 0, .int .u64 dst, .slice OA n oc] _ rfl (fun u => (HHT.out.laxH (hp1 u) htB).range') Try.underlying41 rfl (by kernel_rfl) ?_)); go_big_quiet_op; go_big_quiet_on) | (refine wpR_det hp2 rfl ((hR.rel _).trans rfl) rfl ?_; intro K hK; go_big_quiet_op; go_big_quiet_on) | (refine wpR_ptr hp2 rfl ((hR.rel _).trans rfl) rfl rfl ?_; intro K hK; go_big_quiet_op; go_big_quiet_on) | (refine wpR_skip pick rfl ?_; intro K hK; go_big_quiet_op; go_big_quiet_on))
            refine wpR_rel pick rfl ((hR.rel _).trans rfl) ((hR.turns _).trans rfl) ?_ ?_
            · intro u hu
              have hk := hR.since hu.1
              have hks := hk.size
              unfold relAt
              go_simp
              exact ⟨hR.into0 ((Kept.refl _ _).alloc _), hR.put 0 rfl rfl ⟨_, rfl⟩⟩
            intro v hv
            obtain ⟨u, _, hu⟩ := hv
            obtain ⟨g0, rfl⟩ := hR.get 0 rfl hu
            clear hu
            intro K hK
            go_big_quiet_op
            go_big_quiet_on
            repeat (first | (refine wpR_det hp2 rfl ((hR.rel _).trans rfl) rfl ?_; intro K hK; (first | (refine quiet_load_row 41 (.tmp 7) ht 0 [.int .u8 tos, .int .i64 len, .int .u16 id, .bool stay, .bool more, .int .i64 off, .int .u8 ttl, .int .u8 pr, .int .u16 sm, .bool false, .int .u64 0, .int .u64 src, .bool false, .int .u64 0, .int .u64 dst, .slice OA n oc] _ rfl (fun u => (HHT.out.laxH (hp1 u) htB).range') Try.underlying41 rfl (by kernel_rfl) ?_)); go_big_quiet_op; go_big_quiet_on) | (refine wpR_det hp2 rfl ((hR.rel _).trans rfl) rfl ?_; intro K hK; go_big_quiet_op; go_big_quiet_on) | (refine wpR_ptr hp2 rfl ((hR.rel _).trans rfl) rfl rfl ?_; intro K hK; go_big_quiet_op; go_big_quiet_on) | (refine wpR_skip pick rfl ?_; intro K hK; go_big_quiet_op; go_big_quiet_on))
            refine wpR_turn pick rfl ((hR.rel _).trans rfl) ((hR.turns _).trans rfl) ((hR.adds _).trans rfl) ?_ ?_
            · intro u hu hM
              have hk := hR.since hu.1
              have hks := hk.size
              refine relAt_append_zero (.tmp 51) (.tmp 54) 59 rfl Bx 41 (.agg #[.int .u8 0, .int .i64 0, .int .u16 0, .bool false, .bool false, .int .i64 0, .int .u8 0, .int .u8 0, .int .u16 0, .bool false, .int .u64 0, .int .u64 0, .bool false, .int .u64 0, .int .u64 0, .slice none 0 0]) 16 112 Try.underlying59 hinfx rfl (by omega) g0 rfl (some ⟨g, 0, none⟩) q vc (H.take q) rfl ?me (fun y hy => HRs.out.1 y (List.mem_of_mem_take hy)) ?se ?le ?be ?he ?_
              case me => have := HLx.out; simp only [List.length_take, List.length_append, List.length_cons, List.length_nil, List.length_drop]; omega
              case se => exact .inr ⟨_, rfl, fun j u hu => by rw [Addr.add_lit]; exact ((HEx.out.take q).keep (w' := _) (fun o => hk.cell bltx bHx o)).2 j u hu⟩
              case le => have := HLx.out; simp only [List.length_take, List.length_append, List.length_cons, List.length_nil, List.length_drop]; unfold maxLen; omega
              case be => have := HLx.out; simp only [List.length_take, List.length_append, List.length_cons, List.length_nil, List.length_drop]; omega
              case he => omega
              intro v' w' h1 h2
              exact ⟨hR.into (Lax.of_below h2), hR.put 1 rfl rfl h1⟩
            intro v hv
            obtain ⟨u, _, hu⟩ := hv
            obtain hT4 := hR.get 1 rfl hu
            clear hu
            intro K hK
            go_big_quiet_op
            go_big_quiet_on
            repeat (first | (refine wpR_det hp2 rfl ((hR.rel _).trans rfl) rfl ?_; intro K hK; (first | (refine quiet_load_row 41 (.tmp 7) ht 0 [.int .u8 tos, .int .i64 len, .int .u16 id, .bool stay, .bool more, .int .i64 off, .int .u8 ttl, .int .u8 pr, .int .u16 sm, .bool false, .int .u64 0, .int .u64 src, .bool false, .int .u64 0, .int .u64 dst, .slice OA n oc] _ rfl (fun u => (HHT.out.laxH (hp1 u) htB).range') Try.underlying41 rfl (by kernel_rfl) ?_)); go_big_quiet_op; go_big_quiet_on) | (refine wpR_det hp2 rfl ((hR.rel _).trans rfl) rfl ?_; intro K hK; go_big_quiet_op; go_big_quiet_on) | (refine wpR_ptr hp2 rfl ((hR.rel _).trans rfl) rfl rfl ?_; intro K hK; go_big_quiet_op; go_big_quiet_on) | (refine wpR_skip pick rfl ?_; intro K hK; go_big_quiet_op; go_big_quiet_on))
            refine wpR_rel pick rfl ((hR.rel _).trans rfl) ((hR.turns _).trans rfl) ?_ ?_
            · intro u hu
              have hk := hR.since hu.1
              have hks := hk.size
              unfold relAt
              go_simp
              exact ⟨hR.into0 ((Kept.refl _ _).alloc _), hR.put 2 rfl rfl ⟨_, rfl, Blk.new _ _ _⟩⟩
            intro v hv
            obtain ⟨u, _, hu⟩ := hv
            obtain ⟨g6, rfl, -⟩ := hR.get 2 rfl hu
            clear hu
            intro K hK
            go_big_quiet_op
            go_big_quiet_on
            repeat (first | (refine wpR_det hp2 rfl ((hR.rel _).trans rfl) rfl ?_; intro K hK; (first | (refine quiet_load_row 41 (.tmp 7) ht 0 [.int .u8 tos, .int .i64 len, .int .u16 id, .bool stay, .bool more, .int .i64 off, .int .u8 ttl, .int .u8 pr, .int .u16 sm, .bool false, .int .u64 0, .int .u64 src, .bool false, .int .u64 0, .int .u64 dst, .slice OA n oc] _ rfl (fun u => (HHT.out.laxH (hp1 u) htB).range') Try.underlying41 rfl (by kernel_rfl) ?_)); go_big_quiet_op; go_big_quiet_on) | (refine wpR_det hp2 rfl ((hR.rel _).trans rfl) rfl ?_; intro K hK; go_big_quiet_op; go_big_quiet_on) | (refine wpR_ptr hp2 rfl ((hR.rel _).trans rfl) rfl rfl ?_; intro K hK; go_big_quiet_op; go_big_quiet_on) | (refine wpR_skip pick rfl ?_; intro K hK; go_big_quiet_op; go_big_quiet_on))
            refine wpR_turn pick rfl ((hR.rel _).trans rfl) ((hR.turns _).trans rfl) ((hR.adds _).trans rfl) ?_ ?_
            · intro u hu hM
              have hk := hR.since hu.1
              have hks := hk.size
              have hz := hR.get 1 rfl hM
              obtain ⟨g6', e, h6⟩ := (hR.get 2 rfl (hu.2 _ _ (Got.upd_self _ _ _) (by kernel_rfl)))
              injection e with e
              injection e with e
              injection e with e
              subst e
              refine relAt_append_lax (.tmp 55) (.tmp 57) 59 rfl Bx 41 (.agg #[.int .u8 0, .int .i64 0, .int .u16 0, .bool false, .bool false, .int .i64 0, .int .u8 0, .int .u8 0, .int .u16 0, .bool false, .int .u64 0, .int .u64 0, .bool false, .int .u64 0, .int .u64 0, .slice none 0 0]) 16 112 Try.underlying59 hinfx rfl (by omega) _ (H.take q) rfl (some ⟨g6, 0, none⟩) 1 1 ([[.int .u8 tos, .int .i64 len, .int .u16 id, .bool stay, .bool more, .int .i64 off, .int .u8 ttl, .int .u8 pr, .int .u16 sm, .bool false, .int .u64 0, .int .u64 src, .bool false, .int .u64 0, .int .u64 dst, .slice OA n oc]] : List (List Value)) rfl rfl hz (by simp) (by simp) (Src.blk h6 (by simp)) (by simp [Value.oneCell']) ?lf ?bf ?hf ?_
              case lf => have := HLx.out; simp only [List.length_take, List.length_append, List.length_cons, List.length_nil, List.length_drop]; unfold maxLen; omega
              case bf => have := HLx.out; simp only [List.length_take, List.length_append, List.length_cons, List.length_nil, List.length_drop]; omega
              case hf => omega
              intro v' w' h1 h2
              exact ⟨hR.into h2, hR.put 3 rfl rfl h1⟩
            intro v hv
            obtain ⟨u, _, hu⟩ := hv
            obtain hT7 := hR.get 3 rfl hu
            clear hu
            intro K hK
            go_big_quiet_op
            go_big_quiet_on
            repeat (first | (refine wpR_det hp2 rfl ((hR.rel _).trans rfl) rfl ?_; intro K hK; (first | (refine quiet_load_row 41 (.tmp 7) ht 0 [.int .u8 tos, .int .i64 len, .int .u16 id, .bool stay, .bool more, .int .i64 off, .int .u8 ttl, .int .u8 pr, .int .u16 sm, .bool false, .int .u64 0, .int .u64 src, .bool false, .int .u64 0, .int .u64 dst, .slice OA n oc] _ rfl (fun u => (HHT.out.laxH (hp1 u) htB).range') Try.underlying41 rfl (by kernel_rfl) ?_)); go_big_quiet_op; go_big_quiet_on) | (refine wpR_det hp2 rfl ((hR.rel _).trans rfl) rfl ?_; intro K hK; go_big_quiet_op; go_big_quiet_on) | (refine wpR_ptr hp2 rfl ((hR.rel _).trans rfl) rfl rfl ?_; intro K hK; go_big_quiet_op; go_big_quiet_on) | (refine wpR_skip pick rfl ?_; intro K hK; go_big_quiet_op; go_big_quiet_on))
            refine wpR_rel pick rfl ((hR.rel _).trans rfl) ((hR.turns _).trans rfl) ?_ ?_
            · intro u hu
              have hk := hR.since hu.1
              have hks := hk.size
              unfold relAt
              go_simp
              refine ⟨hR.into0 (Kept.refl _ _), hR.put 4 rfl rfl ⟨_, _, rfl, ?_⟩⟩
              have hel' := HEx.out.keep (w' := u) (fun o => hk.cell bltx bHx o)
              split
              · rw [show H.drop q = [] from List.drop_eq_nil_of_le (by have := HLx.out; omega)]; exact .inl rfl
              · first | exact es_sliceG (k := q) hel' bHx (by have := HLx.out; omega) | exact es_slice1 hel' bHx (by have := HLx.out; omega)
            intro v hv
            obtain ⟨u, _, hu⟩ := hv
            obtain ⟨A', c', rfl, -⟩ := hR.get 4 rfl hu
            clear hu
            intro K hK
            go_big_quiet_op
            go_big_quiet_on
            repeat (first | (refine wpR_det hp2 rfl ((hR.rel _).trans rfl) rfl ?_; intro K hK; (first | (refine quiet_load_row 41 (.tmp 7) ht 0 [.int .u8 tos, .int .i64 len, .int .u16 id, .bool stay, .bool more, .int .i64 off, .int .u8 ttl, .int .u8 pr, .int .u16 sm, .bool false, .int .u64 0, .int .u64 src, .bool false, .int .u64 0, .int .u64 dst, .slice OA n oc] _ rfl (fun u => (HHT.out.laxH (hp1 u) htB).range') Try.underlying41 rfl (by kernel_rfl) ?_)); go_big_quiet_op; go_big_quiet_on) | (refine wpR_det hp2 rfl ((hR.rel _).trans rfl) rfl ?_; intro K hK; go_big_quiet_op; go_big_quiet_on) | (refine wpR_ptr hp2 rfl ((hR.rel _).trans rfl) rfl rfl ?_; intro K hK; go_big_quiet_op; go_big_quiet_on) | (refine wpR_skip pick rfl ?_; intro K hK; go_big_quiet_op; go_big_quiet_on))
            refine wpR_nil ?_
            intro w4 hk2 hF hM
            have HVx := Lib.hid (hR.get 3 rfl hM)
            have HSx := Lib.hid ((hR.get 4 rfl (hF _ _ (Got.upd_self _ _ _))))
            have HLXx := Lib.hid hk2
            have hs4x := hk2.size
            clear hF hM hk2 hp1 hp2 hR
            obtain ⟨A'', c'', e, hS⟩ := HSx.out
            injection e with e1 e2 e3
            subst e1
            have HSSx := Lib.hid hS
            clear e2 e3 hS HSx
            obtain ⟨WAx, wcx, hve, -, -⟩ := HVx.out.shape
            rw [show ((H.take q) ++ ([[.int .u8 tos, .int .i64 len, .int .u16 id, .bool stay, .bool more, .int .i64 off, .int .u8 ttl, .int .u8 pr, .int .u16 sm, .bool false, .int .u64 0, .int .u64 src, .bool false, .int .u64 0, .int .u64 dst, .slice OA n oc]] : List (List Value))).length = q + 1 by have := HLx.out; simp only [List.length_append, List.length_take, List.length_cons, List.length_nil]; omega] at hve
            subst hve
            go_upto_region 13 with (at_builtin; refine wpList_append_rowN rfl (.tmp 58) (.tmp 61) 59 rfl Bx 41 (.agg #[.int .u8 0, .int .i64 0, .int .u16 0, .bool false, .bool false, .int .i64 0, .int .u8 0, .int .u8 0, .int .u16 0, .bool false, .int .u64 0, .int .u64 0, .bool false, .int .u64 0, .int .u64 0, .slice none 0 0]) 16 112 Try.underlying59 hinfx rfl (by omega) _ ((H.take q) ++ ([[.int .u8 tos, .int .i64 len, .int .u16 id, .bool stay, .bool more, .int .i64 off, .int .u8 ttl, .int .u8 pr, .int .u16 sm, .bool false, .int .u64 0, .int .u64 src, .bool false, .int .u64 0, .int .u64 dst, .slice OA n oc]] : List (List Value))) rfl A' (k - q) c' (H.drop q) rfl ?a0 HVx.out (fun y hy => HRs.out.1 y (List.mem_of_mem_drop hy)) HSSx.out.src ?a2 ?a3 ?a4 ?a5 ?_)
            case a0 => have := HLx.out; simp only [List.length_drop]; omega
            case a2 => exact HONEx.out _ (fun y hy => List.mem_of_mem_drop hy)
            case a3 => have := HLx.out; simp only [List.length_take, List.length_append, List.length_cons, List.length_nil, List.length_drop]; unfold maxLen; omega
            case a4 => have := HLx.out; simp only [List.length_take, List.length_append, List.length_cons, List.length_nil, List.length_drop]; omega
            case a5 => omega
            intro v7 w7 hr7 hg7 _
            have HRx7 := Lib.hid hr7
            have HBBx := Lib.hid (show Below Bx ws w7 from (HLXx.out.below hHx).trans (below_grown hg7 (fun i hi => (HVx.out.lt i hi).1) (by omega)))
            have HKKx := Lib.hid (show Kept (fun _ => False) ws w7 from Kept.ofB (by rw [HBx.out]; exact HBBx.out))
            clear hr7 hg7 HVx HSSx HLXx
            have HU7 := Lib.hid (HUs.out.kept HKKx.out (fun _ _ h => h))
            have hw7 := HKKx.out.size
            go_upto_region 13 with fail
            obtain ⟨By, hBy⟩ : ∃ By, w7.heap.size = By := ⟨_, rfl⟩
            have hHy : By ≤ w7.heap.size := by omega
            have hBBy : w.heap.size ≤ By := by omega
            have HBy := Lib.hid hBy
            have blty : g2 < w7.heap.size := (HU7.out.lt _ rfl).2
            have bHy : g2 < By := by omega
            have HEy := Lib.hid (show ElAt w7 g2 0 1 U by obtain ⟨g', c', e, _, _, h⟩ := HU7.out.at (i := 0) (by have := HLy.out; omega); injection e with e; injection e with e; injection e with e; subst e; exact h)
            clear hBy
            refine wp_region_lax 11 By 1 [4, 7] [(0, fun v u => ∃ g, v = .slice (some ⟨g, 0, none⟩) 0 0), (4, fun v u => RowZ u By 22 1 v (U.take q)), (6, fun v u => ∃ g, v = .slice (some ⟨g, 0, none⟩) 1 1 ∧ Blk u g 22 #[.slice LA m lc]), (7, fun v u => RowN u By 22 1 v ((U.take q) ++ ([[.slice LA m lc]] : List (List Value)))), (10, fun v u => ∃ A' c', v = .slice A' (k - q) c' ∧ ES u By A' 1 (U.drop q))] ?st ?ne rfl (by kernel_rfl) (by kernel_rfl) (by kernel_rfl) ?_
            case st =>
              intro p hp
              simp only [List.mem_cons, List.not_mem_nil, or_false] at hp
              rcases hp with rfl | rfl | rfl | rfl | rfl
              · intro v u u' h _; exact h
              · intro v u u' h hk; exact h.kept hk
              · rintro v u u' ⟨g, rfl, h⟩ hk; exact ⟨g, rfl, h.lax hk (by simp)⟩
              · intro v u u' h hk; exact h.kept hk (fun _ _ h => h)
              · rintro v u u' ⟨A', c', rfl, h⟩ hk; exact ⟨A', c', rfl, h.laxG (by omega) hk⟩
            case ne =>
              intro p hp
              simp only [List.mem_cons, List.not_mem_nil, or_false] at hp
              rcases hp with rfl | rfl | rfl | rfl | rfl
              · exact ⟨.slice (some ⟨0, 0, none⟩) 0 0, _, Lax.refl _ _ _, 0, rfl⟩
              · exact rowZG_is 22 1 By w7 (U.take q) (fun y hy => HU7.out.1 y (List.mem_of_mem_take hy)) hHy (by have := HLy.out; simp only [List.length_take, List.length_append, List.length_cons, List.length_nil, List.length_drop]; unfold maxLen; omega)
              · exact ⟨_, _, (Lax.refl _ _ _).alloc _, _, rfl, Blk.new _ _ _⟩
              · exact ⟨_, _, (Lax.refl _ _ _).alloc _, rowG_is 22 1 By w7 ((U.take q) ++ ([[.slice LA m lc]] : List (List Value))) (by intro y hy; rcases List.mem_append.1 hy with h | h; exact (fun y hy => HU7.out.1 y (List.mem_of_mem_take hy)) y h; rw [List.mem_singleton.1 h]; rfl) hHy (by have := HLy.out; simp only [List.length_take, List.length_append, List.length_cons, List.length_nil, List.length_drop]; unfold maxLen; omega)⟩
              · exact ⟨_, w7, Lax.refl _ _ _, some ⟨g2, q * 1, none⟩, 0, rfl, es_sliceG HEy.out bHy (by have := HLy.out; omega)⟩
            simp only [List.take_succ_cons, List.take_zero, List.drop_succ_cons, List.drop_zero]
            intro G pick hR hp1 hp2
            repeat (first | (refine wpR_det hp2 rfl ((hR.rel _).trans rfl) rfl ?_; intro K hK; go_big_quiet_op; go_big_quiet_on) | (refine wpR_ptr hp2 rfl ((hR.rel _).trans rfl) rfl rfl ?_; intro K hK; go_big_quiet_op; go_big_quiet_on) | (refine wpR_skip pick rfl ?_; intro K hK; go_big_quiet_op; go_big_quiet_on))
            refine wpR_rel pick rfl ((hR.rel _).trans rfl) ((hR.turns _).trans rfl) ?_ ?_
            · intro u hu
              have hk := hR.since hu.1
              have hks := hk.size
              unfold relAt
              go_simp
              exact ⟨hR.into0 ((Kept.refl _ _).alloc _), hR.put 0 rfl rfl ⟨_, rfl⟩⟩
            intro v hv
            obtain ⟨u, _, hu⟩ := hv
            obtain ⟨g0, rfl⟩ := hR.get 0 rfl hu
            clear hu
            intro K hK
            go_big_quiet_op
            go_big_quiet_on
            repeat (first | (refine wpR_det hp2 rfl ((hR.rel _).trans rfl) rfl ?_; intro K hK; go_big_quiet_op; go_big_quiet_on) | (refine wpR_ptr hp2 rfl ((hR.rel _).trans rfl) rfl rfl ?_; intro K hK; go_big_quiet_op; go_big_quiet_on) | (refine wpR_skip pick rfl ?_; intro K hK; go_big_quiet_op; go_big_quiet_on))
            refine wpR_turn pick rfl ((hR.rel _).trans rfl) ((hR.turns _).trans rfl) ((hR.adds _).trans rfl) ?_ ?_
            · intro u hu hM
              have hk := hR.since hu.1
              have hks := hk.size
              refine relAt_append_zero (.tmp 63) (.tmp 66) 24 rfl By 22 (.slice none 0 0) 1 24 Try.underlying24 hinfy rfl (by omega) g0 rfl (some ⟨g2, 0, none⟩) q uc (U.take q) rfl ?me (fun y hy => HU7.out.1 y (List.mem_of_mem_take hy)) ?se ?le ?be ?he ?_
              case me => have := HLy.out; simp only [List.length_take, List.length_append, List.length_cons, List.length_nil, List.length_drop]; omega
              case se => exact .inr ⟨_, rfl, fun j u hu => by rw [Addr.add_lit]; exact ((HEy.out.take q).keep (w' := _) (fun o => hk.cell blty bHy o)).2 j u hu⟩
              case le => have := HLy.out; simp only [List.length_take, List.length_append, List.length_cons, List.length_nil, List.length_drop]; unfold maxLen; omega
              case be => have := HLy.out; simp only [List.length_take, List.length_append, List.length_cons, List.length_nil, List.length_drop]; omega
              case he => omega
              intro v' w' h1 h2
              exact ⟨hR.into (Lax.of_below h2), hR.put 1 rfl rfl h1⟩
            intro v hv
            obtain ⟨u, _, hu⟩ := hv
            obtain hT4 := hR.get 1 rfl hu
            clear hu
            intro K hK
            go_big_quiet_op
            go_big_quiet_on
            repeat (first | (refine wpR_det hp2 rfl ((hR.rel _).trans rfl) rfl ?_; intro K hK; go_big_quiet_op; go_big_quiet_on) | (refine wpR_ptr hp2 rfl ((hR.rel _).trans rfl) rfl rfl ?_; intro K hK; go_big_quiet_op; go_big_quiet_on) | (refine wpR_skip pick rfl ?_; intro K hK; go_big_quiet_op; go_big_quiet_on))
            refine wpR_rel pick rfl ((hR.rel _).trans rfl) ((hR.turns _).trans rfl) ?_ ?_
            · intro u hu
              have hk := hR.since hu.1
              have hks := hk.size
              unfold relAt
              go_simp
              exact ⟨hR.into0 ((Kept.refl _ _).alloc _), hR.put 2 rfl rfl ⟨_, rfl, Blk.new _ _ _⟩⟩
            intro v hv
            obtain ⟨u, _, hu⟩ := hv
            obtain ⟨g6, rfl, -⟩ := hR.get 2 rfl hu
            clear hu
            intro K hK
            go_big_quiet_op
            go_big_quiet_on
            repeat (first | (refine wpR_det hp2 rfl ((hR.rel _).trans rfl) rfl ?_; intro K hK; go_big_quiet_op; go_big_quiet_on) | (refine wpR_ptr hp2 rfl ((hR.rel _).trans rfl) rfl rfl ?_; intro K hK; go_big_quiet_op; go_big_quiet_on) | (refine wpR_skip pick rfl ?_; intro K hK; go_big_quiet_op; go_big_quiet_on))
            refine wpR_turn pick rfl ((hR.rel _).trans rfl) ((hR.turns _).trans rfl) ((hR.adds _).trans rfl) ?_ ?_
            · intro u hu hM
              have hk := hR.since hu.1
              have hks := hk.size
              have hz := hR.get 1 rfl hM
              obtain ⟨g6', e, h6⟩ := (hR.get 2 rfl (hu.2 _ _ (Got.upd_self _ _ _) (by kernel_rfl)))
              injection e with e
              injection e with e
              injection e with e
              subst e
              refine relAt_append_lax (.tmp 67) (.tmp 69) 24 rfl By 22 (.slice none 0 0) 1 24 Try.underlying24 hinfy rfl (by omega) _ (U.take q) rfl (some ⟨g6, 0, none⟩) 1 1 ([[.slice LA m lc]] : List (List Value)) rfl rfl hz (by simp) (by simp) (Src.blk h6 (by simp)) (by simp [Value.oneCell']) ?lf ?bf ?hf ?_
              case lf => have := HLy.out; simp only [List.length_take, List.length_append, List.length_cons, List.length_nil, List.length_drop]; unfold maxLen; omega
              case bf => have := HLy.out; simp only [List.length_take, List.length_append, List.length_cons, List.length_nil, List.length_drop]; omega
              case hf => omega
              intro v' w' h1 h2
              exact ⟨hR.into h2, hR.put 3 rfl rfl h1⟩
            intro v hv
            obtain ⟨u, _, hu⟩ := hv
            obtain hT7 := hR.get 3 rfl hu
            clear hu
            intro K hK
            go_big_quiet_op
            go_big_quiet_on
            repeat (first | (refine wpR_det hp2 rfl ((hR.rel _).trans rfl) rfl ?_; intro K hK; go_big_quiet_op; go_big_quiet_on) | (refine wpR_ptr hp2 rfl ((hR.rel _).trans rfl) rfl rfl ?_; intro K hK; go_big_quiet_op; go_big_quiet_on) | (refine wpR_skip pick rfl ?_; intro K hK; go_big_quiet_op; go_big_quiet_on))
            refine wpR_rel pick rfl ((hR.rel _).trans rfl) ((hR.turns _).trans rfl) ?_ ?_
            · intro u hu
              have hk := hR.since hu.1
              have hks := hk.size
              unfold relAt
              go_simp
              refine ⟨hR.into0 (Kept.refl _ _), hR.put 4 rfl rfl ⟨_, _, rfl, ?_⟩⟩
              have hel' := HEy.out.keep (w' := u) (fun o => hk.cell blty bHy o)
              split
              · rw [show U.drop q = [] from List.drop_eq_nil_of_le (by have := HLy.out; omega)]; exact .inl rfl
              · first | exact es_sliceG (k := q) hel' bHy (by have := HLy.out; omega) | exact es_slice1 hel' bHy (by have := HLy.out; omega)
            intro v hv
            obtain ⟨u, _, hu⟩ := hv
            obtain ⟨A', c', rfl, -⟩ := hR.get 4 rfl hu
            clear hu
            intro K hK
            go_big_quiet_op
            go_big_quiet_on
            repeat (first | (refine wpR_det hp2 rfl ((hR.rel _).trans rfl) rfl ?_; intro K hK; go_big_quiet_op; go_big_quiet_on) | (refine wpR_ptr hp2 rfl ((hR.rel _).trans rfl) rfl rfl ?_; intro K hK; go_big_quiet_op; go_big_quiet_on) | (refine wpR_skip pick rfl ?_; intro K hK; go_big_quiet_op; go_big_quiet_on))
            refine wpR_nil ?_
            intro w8 hk2 hF hM
            have HVy := Lib.hid (hR.get 3 rfl hM)
            have HSy := Lib.hid ((hR.get 4 rfl (hF _ _ (Got.upd_self _ _ _))))
            have HLXy := Lib.hid hk2
            have hs4y := hk2.size
            clear hF hM hk2 hp1 hp2 hR
            obtain ⟨A'', c'', e, hS⟩ := HSy.out
            injection e with e1 e2 e3
            subst e1
            have HSSy := Lib.hid hS
            clear e2 e3 hS HSy
            obtain ⟨WAy, wcy, hve, -, -⟩ := HVy.out.shape
            rw [show ((U.take q) ++ ([[.slice LA m lc]] : List (List Value))).length = q + 1 by have := HLy.out; simp only [List.length_append, List.length_take, List.length_cons, List.length_nil]; omega] at hve
            subst hve
            go_upto_region 5 with (at_builtin; refine wpList_append_rowN rfl (.tmp 70) (.tmp 73) 24 rfl By 22 (.slice none 0 0) 1 24 Try.underlying24 hinfy rfl (by omega) _ ((U.take q) ++ ([[.slice LA m lc]] : List (List Value))) rfl A' (k - q) c' (U.drop q) rfl ?a0 HVy.out (fun y hy => HU7.out.1 y (List.mem_of_mem_drop hy)) HSSy.out.src ?a2 ?a3 ?a4 ?a5 ?_)
            case a0 => have := HLy.out; simp only [List.length_drop]; omega
            case a2 => exact HONEy.out _ (fun y hy => List.mem_of_mem_drop hy)
            case a3 => have := HLy.out; simp only [List.length_take, List.length_append, List.length_cons, List.length_nil, List.length_drop]; unfold maxLen; omega
            case a4 => have := HLy.out; simp only [List.length_take, List.length_append, List.length_cons, List.length_nil, List.length_drop]; omega
            case a5 => omega
            intro v9 w9 hr7 hg7 _
            have HRy7 := Lib.hid hr7
            have HBBy := Lib.hid (show Below By w7 w9 from (HLXy.out.below hHy).trans (below_grown hg7 (fun i hi => (HVy.out.lt i hi).1) (by omega)))
            have HKKy := Lib.hid (show Kept (fun _ => False) w7 w9 from Kept.ofB (by rw [HBy.out]; exact HBBy.out))
            clear hr7 hg7 HVy HSSy HLXy
            have HKA := Lib.hid (HKKx.out.trans HKKy.out)
            have HRn := Lib.hid (show RowN w9 w.heap.size 41 16 _ (H.take q ++ ([[.int .u8 tos, .int .i64 len, .int .u16 id, .bool stay, .bool more, .int .i64 off, .int .u8 ttl, .int .u8 pr, .int .u16 sm, .bool false, .int .u64 0, .int .u64 src, .bool false, .int .u64 0, .int .u64 dst, .slice OA n oc]] : List (List Value)) ++ H.drop q) from by
              have h := (HRx7.out.kept HKKy.out (fun _ _ h => h)).more hBBx
              simp only [List.append_assoc, List.cons_append, List.nil_append, List.append_nil] at h ⊢
              exact h)
            have HUn := Lib.hid (show RowN w9 w.heap.size 22 1 _ (U.take q ++ ([[.slice LA m lc]] : List (List Value)) ++ U.drop q) from by
              have h := HRy7.out.more hBBy
              simp only [List.append_assoc, List.cons_append, List.nil_append, List.append_nil] at h ⊢
              exact h)
            have HFn := Lib.hid (show F2 (RH w9 w.heap.size) (H.take q ++ [[.int .u8 tos, .int .i64 len, .int .u16 id, .bool stay, .bool more, .int .i64 off, .int .u8 ttl, .int .u8 pr, .int .u16 sm, .bool false, .int .u64 0, .int .u64 src, .bool false, .int .u64 0, .int .u64 dst, .slice OA n oc]] ++ H.drop q) (isort poff ((l.take (k + 1)).map pt)) by
              rw [HSNOC.out, List.map_append, List.map_cons, List.map_nil, isort_snoc, HPE2.out, HPT.out, ← HINS.out]
              exact F2.insert (R := RH w9 w.heap.size) (b := (⟨⟨tos, len, id, stay, more, off, ttl, pr, sm, src, dst, os⟩, X⟩ : Pt)) (HFs.out.imp (fun a b h => h.kept0 HKA.out)) ⟨_, rfl, (HVs.out.kept HKA.out (fun _ _ h => h))⟩ q)
            have HGn := Lib.hid (show F2 (RL w9 w.heap.size) (U.take q ++ [[.slice LA m lc]] ++ U.drop q) (isort poff ((l.take (k + 1)).map pt)) by
              rw [HSNOC.out, List.map_append, List.map_cons, List.map_nil, isort_snoc, HPE2.out, HPT.out, ← HINS.out]
              exact F2.insert (R := RL w9 w.heap.size) (b := (⟨⟨tos, len, id, stay, more, off, ttl, pr, sm, src, dst, os⟩, X⟩ : Pt)) (HGs.out.imp (fun a b h => h.kept0 HKA.out)) ⟨_, rfl, (HXs.out.kept HKA.out (fun _ _ h => h))⟩ q)
            have HWn := Lib.hid (show Below w.heap.size w w9 from HWs.out.trans (HKA.out.below (by omega) (fun _ h => h.elim)))
            clear HKKx HKKy HRx7 HRy7 HRs HUs HFs HGs HVs HXs HWs HHT
            go_wp2_with fail
            go_roundw
            case rel => exact ⟨k + 1, _, _, by omega, by go_num, HRn, HUn, HFn, HGn, HWn, HE6⟩
            case measure => simp [intOf]; omega
        · have HQ0 := Lib.hid (show q = 0 by omega)
          have q0n : ¬ (0 : Int) < (q : Int) := by omega
          go_upto_region 10 with fail
          refine wp_region_kept 13 [] ?st ?ne rfl (by kernel_rfl) (by kernel_rfl) ?_
          case st => intro p hp; cases hp
          case ne => intro p hp; cases hp
          simp only [List.take_succ_cons, List.take_zero, List.drop_succ_cons, List.drop_zero]
          intro G pick hR hp1 hp2
          repeat (first | (refine wpR_det hp2 rfl ((hR.rel _).trans rfl) rfl ?_; intro K hK; go_big_quiet_op; go_big_quiet_on) | (refine wpR_ptr hp2 rfl ((hR.rel _).trans rfl) rfl rfl ?_; intro K hK; go_big_quiet_op; go_big_quiet_on) | (refine wpR_skip pick rfl ?_; intro K hK; go_big_quiet_op; go_big_quiet_on))
          refine wpR_nil ?_
          intro ws hk2 hF hM
          have HKs := Lib.hid (HKq.out.trans hk2)
          have HINS := Lib.hid (sins_cut (p := (⟨⟨tos, len, id, stay, more, off, ttl, pr, sm, src, dst, os⟩, X⟩ : Pt)) HSR.out (by rw [HPL.out]; exact hqk) HGT.out (.inl HQ0.out))
          clear hF hM hk2 hp1 hp2 hR HGT HQ0 q0n
          have HRs := Lib.hid (HR5.out.kept HKs.out (fun _ _ h => h))
          have HUs := Lib.hid (HU5.out.kept HKs.out (fun _ _ h => h))
          have HFs := Lib.hid (show F2 (RH ws w.heap.size) H P from HF5.out.imp (fun a b h => h.kept0 HKs.out))
          have HGs := Lib.hid (show F2 (RL ws w.heap.size) U P from HG5.out.imp (fun a b h => h.kept0 HKs.out))
          have HVs := Lib.hid (HV5.out.kept HKs.out (fun _ _ h => h))
          have HXs := Lib.hid (HX5.out.kept HKs.out (fun _ _ h => h))
          have HHT := Lib.hid (HH.out.kept HKs.out (fun h => h))
          have HWs := Lib.hid (show Below w.heap.size w ws from HW5.out.trans (HKs.out.below hw5 (fun _ h => h.elim)))
          have hws : w.heap.size ≤ ws.heap.size := HWs.out.size
          clear HKq HKs HR5 HU5 HF5 HG5 HV5 HX5 HH HW5
          go_upto_region 12 with fail
          obtain ⟨Bx, hBx⟩ : ∃ Bx, ws.heap.size = Bx := ⟨_, rfl⟩
          have hHx : Bx ≤ ws.heap.size := by omega
          have hBBx : w.heap.size ≤ Bx := by omega
          have HBx := Lib.hid hBx
          have bltx : g < ws.heap.size := (HRs.out.lt _ rfl).2
          have bHx : g < Bx := by omega
          have HEx := Lib.hid (show ElAt ws g 0 16 H by obtain ⟨g', c', e, _, _, h⟩ := HRs.out.at (i := 0) (by have := HLx.out; omega); injection e with e; injection e with e; injection e with e; subst e; exact h)
          have htB : ht < Bx := by have := HHT.out.lt; omega
          clear hBx
          refine wp_region_lax 11 Bx 16 [4, 7] [(0, fun v u => ∃ g, v = .slice (some ⟨g, 0, none⟩) 0 0), (4, fun v u => RowZ u Bx 41 16 v (H.take q)), (6, fun v u => ∃ g, v = .slice (some ⟨g, 0, none⟩) 1 1 ∧ Blk u g 41 #[.int .u8 tos, .int .i64 len, .int .u16 id, .bool stay, .bool more, .int .i64 off, .int .u8 ttl, .int .u8 pr, .int .u16 sm, .bool false, .int .u64 0, .int .u64 src, .bool false, .int .u64 0, .int .u64 dst, .slice OA n oc]), (7, fun v u => RowN u Bx 41 16 v ((H.take q) ++ ([[.int .u8 tos, .int .i64 len, .int .u16 id, .bool stay, .bool more, .int .i64 off, .int .u8 ttl, .int .u8 pr, .int .u16 sm, .bool false, .int .u64 0, .int .u64 src, .bool false, .int .u64 0, .int .u64 dst, .slice OA n oc]] : List (List Value)))), (10, fun v u => ∃ A' c', v = .slice A' (k - q) c' ∧ ES u Bx A' 16 (H.drop q))] ?st ?ne rfl (by kernel_rfl) (by kernel_rfl) (by kernel_rfl) ?_
          case st =>
            intro p hp
            simp only [List.mem_cons, List.not_mem_nil, or_false] at hp
            rcases hp with rfl | rfl | rfl | rfl | rfl
            · intro v u u' h _; exact h
            · intro v u u' h hk; exact h.kept hk
            · rintro v u u' ⟨g, rfl, h⟩ hk; exact ⟨g, rfl, h.lax hk (by simp)⟩
            · intro v u u' h hk; exact h.kept hk (fun _ _ h => h)
            · rintro v u u' ⟨A', c', rfl, h⟩ hk; exact ⟨A', c', rfl, h.laxG (by omega) hk⟩
          case ne =>
            intro p hp
            simp only [List.mem_cons, List.not_mem_nil, or_false] at hp
            rcases hp with rfl | rfl | rfl | rfl | rfl
            · exact ⟨.slice (some ⟨0, 0, none⟩) 0 0, _, Lax.refl _ _ _, 0, rfl⟩
            · exact rowZG_is 41 16 Bx ws (H.take q) (fun y hy => HRs.out.1 y (List.mem_of_mem_take hy)) hHx (by have := HLx.out; simp only [List.length_take, List.length_append, List.length_cons, List.length_nil, List.length_drop]; unfold maxLen; omega)
            · exact ⟨_, _, (Lax.refl _ _ _).alloc _, _, rfl, Blk.new _ _ _⟩
            · exact ⟨_, _, (Lax.refl _ _ _).alloc _, rowG_is 41 16 Bx ws ((H.take q) ++ ([[.int .u8 tos, .int .i64 len, .int .u16 id, .bool stay, .bool more, .int .i64 off, .int .u8 ttl, .int .u8 pr, .int .u16 sm, .bool false, .int .u64 0, .int .u64 src, .bool false, .int .u64 0, .int .u64 dst, .slice OA n oc]] : List (List Value))) (by intro y hy; rcases List.mem_append.1 hy with h | h; exact (fun y hy => HRs.out.1 y (List.mem_of_mem_take hy)) y h; rw [List.mem_singleton.1 h]; rfl) hHx (by have := HLx.out; simp only [List.length_take, List.length_append, List.length_cons, List.length_nil, List.length_drop]; unfold maxLen; omega)⟩
            · exact ⟨_, ws, Lax.refl _ _ _, some ⟨g, q * 16, none⟩, 0, rfl, es_sliceG HEx.out bHx (by have := HLx.out; omega)⟩
          simp only [List.take_succ_cons, List.take_zero, List.drop_succ_cons, List.drop_zero]
          intro G pick hR hp1 hp2
          repeat (first | (refine wpR_det hp2 rfl ((hR.rel _).trans rfl) rfl ?_; intro K hK; (first | (refine quiet_load_row 41 (.tmp 7) ht 0 [.int .u8 tos, .int .i64 len, .int .u16 id, .bool stay, .bool more, .int .i64 off, .int .u8 ttl, .int .u8 pr, .int .u16 sm, .bool false, .int .u64 0, .int .u64 src, .bool false, .int .u64 0, .int .u64 dst, .slice OA n oc] _ rfl (fun u => (HHT.out.laxH (hp1 u) htB).range') Try.underlying41 rfl (by kernel_rfl) ?_)); go_big_quiet_op; go_big_quiet_on) | (refine wpR_det hp2 rfl ((hR.rel _).trans rfl) rfl ?_; intro K hK; go_big_quiet_op; go_big_quiet_on) | (refine wpR_ptr hp2 rfl ((hR.rel _).trans rfl) rfl rfl ?_; intro K hK; go_big_quiet_op; go_big_quiet_on) | (refine wpR_skip pick rfl ?_; intro K hK; go_big_quiet_op; go_big_quiet_on))
          refine wpR_rel pick rfl ((hR.rel _).trans rfl) ((hR.turns _).trans rfl) ?_ ?_
          · intro u hu
            have hk := hR.since hu.1
            have hks := hk.size
            unfold relAt
            go_simp
            exact ⟨hR.into0 ((Kept.refl _ _).alloc _), hR.put 0 rfl rfl ⟨_, rfl⟩⟩
          intro v hv
          obtain ⟨u, _, hu⟩ := hv
          obtain ⟨g0, rfl⟩ := hR.get 0 rfl hu
          clear hu
          intro K hK
          go_big_quiet_op
          go_big_quiet_on
          repeat (first | (refine wpR_det hp2 rfl ((hR.rel _).trans rfl) rfl ?_; intro K hK; (first | (refine quiet_load_row 41 (.tmp 7) ht 0 [.int .u8 tos, .int .i64 len, .int .u16 id, .bool stay, .bool more, .int .i64 off, .int .u8 ttl, .int .u8 pr, .int .u16 sm, .bool false, .int .u64 0, .int .u64 src, .bool false, .int .u64 0, .int .u64 dst, .slice OA n oc] _ rfl (fun u => (HHT.out.laxH (hp1 u) htB).range') Try.underlying41 rfl (by kernel_rfl) ?_)); go_big_quiet_op; go_big_quiet_on) | (refine wpR_det hp2 rfl ((hR.rel _).trans rfl) rfl ?_; intro K hK; go_big_quiet_op; go_big_quiet_on) | (refine wpR_ptr hp2 rfl ((hR.rel _).trans rfl) rfl rfl ?_; intro K hK; go_big_quiet_op; go_big_quiet_on) | (refine wpR_skip pick rfl ?_; intro K hK; go_big_quiet_op; go_big_quiet_on))
          refine wpR_turn pick rfl ((hR.rel _).trans rfl) ((hR.turns _).trans rfl) ((hR.adds _).trans rfl) ?_ ?_
          · intro u hu hM
            have hk := hR.since hu.1
            have hks := hk.size
            refine relAt_append_zero (.tmp 51) (.tmp 54) 59 rfl Bx 41 (.agg #[.int .u8 0, .int .i64 0, .int .u16 0, .bool false, .bool false, .int .i64 0, .int .u8 0, .int .u8 0, .int .u16 0, .bool false, .int .u64 0, .int .u64 0, .bool false, .int .u64 0, .int .u64 0, .slice none 0 0]) 16 112 Try.underlying59 hinfx rfl (by omega) g0 rfl (some ⟨g, 0, none⟩) q vc (H.take q) rfl ?me (fun y hy => HRs.out.1 y (List.mem_of_mem_take hy)) ?se ?le ?be ?he ?_
            case me => have := HLx.out; simp only [List.length_take, List.length_append, List.length_cons, List.length_nil, List.length_drop]; omega
            case se => exact .inr ⟨_, rfl, fun j u hu => by rw [Addr.add_lit]; exact ((HEx.out.take q).keep (w' := _) (fun o => hk.cell bltx bHx o)).2 j u hu⟩
            case le => have := HLx.out; simp only [List.length_take, List.length_append, List.length_cons, List.length_nil, List.length_drop]; unfold maxLen; omega
            case be => have := HLx.out; simp only [List.length_take, List.length_append, List.length_cons, List.length_nil, List.length_drop]; omega
            case he => omega
            intro v' w' h1 h2
            exact ⟨hR.into (Lax.of_below h2), hR.put 1 rfl rfl h1⟩
          intro v hv
          obtain ⟨u, _, hu⟩ := hv
          obtain hT4 := hR.get 1 rfl hu
          clear hu
          intro K hK
          go_big_quiet_op
          go_big_quiet_on
          repeat (first | (refine wpR_det hp2 rfl ((hR.rel _).trans rfl) rfl ?_; intro K hK; (first | (refine quiet_load_row 41 (.tmp 7) ht 0 [.int .u8 tos, .int .i64 len, .int .u16 id, .bool stay, .bool more, .int .i64 off, .int .u8 ttl, .int .u8 pr, .int .u16 sm, .bool false, .int .u64 0, .int .u64 src, .bool false, .int .u64 0, .int .u64 dst, .slice OA n oc] _ rfl (fun u => (HHT.out.laxH (hp1 u) htB).range') Try.underlying41 rfl (by kernel_rfl) ?_)); go_big_quiet_op; go_big_quiet_on) | (refine wpR_det hp2 rfl ((hR.rel _).trans rfl) rfl ?_; intro K hK; go_big_quiet_op; go_big_quiet_on) | (refine wpR_ptr hp2 rfl ((hR.rel _).trans rfl) rfl rfl ?_; intro K hK; go_big_quiet_op; go_big_quiet_on) | (refine wpR_skip pick rfl ?_; intro K hK; go_big_quiet_op; go_big_quiet_on))
          refine wpR_rel pick rfl ((hR.rel _).trans rfl) ((hR.turns _).trans rfl) ?_ ?_
          · intro u hu
            have hk := hR.since hu.1
            have hks := hk.size
            unfold relAt
            go_simp
            exact ⟨hR.into0 ((Kept.refl _ _).alloc _), hR.put 2 rfl rfl ⟨_, rfl, Blk.new _ _ _⟩⟩
          intro v hv
          obtain ⟨u, _, hu⟩ := hv
          obtain ⟨g6, rfl, -⟩ := hR.get 2 rfl hu
          clear hu
          intro K hK
          go_big_quiet_op
          go_big_quiet_on
          repeat (first | (refine wpR_det hp2 rfl ((hR.rel _).trans rfl) rfl ?_; intro K hK; (first | (refine quiet_load_row 41 (.tmp 7) ht 0 [.int .u8 tos, .int .i64 len, .int .u16 id, .bool stay, .bool more, .int .i64 off, .int .u8 ttl, .int .u8 pr, .int .u16 sm, .bool false, .int .u64 0, .int .u64 src, .bool false, .int .u64 0, .int .u64 dst, .slice OA n oc] _ rfl (fun u => (HHT.out.laxH (hp1 u) htB).range') Try.underlying41 rfl (by kernel_rfl) ?_)); go_big_quiet_op; go_big_quiet_on) | (refine wpR_det hp2 rfl ((hR.rel _).trans rfl) rfl ?_; intro K hK; go_big_quiet_op; go_big_quiet_on) | (refine wpR_ptr hp2 rfl ((hR.rel _).trans rfl) rfl rfl ?_; intro K hK; go_big_quiet_op; go_big_quiet_on) | (refine wpR_skip pick rfl ?_; intro K hK; go_big_quiet_op; go_big_quiet_on))
          refine wpR_turn pick rfl ((hR.rel _).trans rfl) ((hR.turns _).trans rfl) ((hR.adds _).trans rfl) ?_ ?_
          · intro u hu hM
            have hk := hR.since hu.1
            have hks := hk.size
            have hz := hR.get 1 rfl hM
            obtain ⟨g6', e, h6⟩ := (hR.get 2 rfl (hu.2 _ _ (Got.upd_self _ _ _) (by kernel_rfl)))
            injection e with e
            injection e with e
            injection e with e
            subst e
            refine relAt_append_lax (.tmp 55) (.tmp 57) 59 rfl Bx 41 (.agg #[.int .u8 0, .int .i64 0, .int .u16 0, .bool false, .bool false, .int .i64 0, .int .u8 0, .int .u8 0, .int .u16 0, .bool false, .int .u64 0, .int .u64 0, .bool false, .int .u64 0, .int .u64 0, .slice none 0 0]) 16 112 Try.underlying59 hinfx rfl (by omega) _ (H.take q) rfl (some ⟨g6, 0, none⟩) 1 1 ([[.int .u8 tos, .int .i64 len, .int .u16 id, .bool stay, .bool more, .int .i64 off, .int .u8 ttl, .int .u8 pr, .int .u16 sm, .bool false, .int .u64 0, .int .u64 src, .bool false, .int .u64 0, .int .u64 dst, .slice OA n oc]] : List (List Value)) rfl rfl hz (by simp) (by simp) (Src.blk h6 (by simp)) (by simp [Value.oneCell']) ?lf ?bf ?hf ?_
            case lf => have := HLx.out; simp only [List.length_take, List.length_append, List.length_cons, List.length_nil, List.length_drop]; unfold maxLen; omega
            case bf => have := HLx.out; simp only [List.length_take, List.length_append, List.length_cons, List.length_nil, List.length_drop]; omega
            case hf => omega
            intro v' w' h1 h2
            exact ⟨hR.into h2, hR.put 3 rfl rfl h1⟩
          intro v hv
          obtain ⟨u, _, hu⟩ := hv
          obtain hT7 := hR.get 3 rfl hu
          clear hu
          intro K hK
          go_big_quiet_op
          go_big_quiet_on
          repeat (first | (refine wpR_det hp2 rfl ((hR.rel _).trans rfl) rfl ?_; intro K hK; (first | (refine quiet_load_row 41 (.tmp 7) ht 0 [.int .u8 tos, .int .i64 len, .int .u16 id, .bool stay, .bool more, .int .i64 off, .int .u8 ttl, .int .u8 pr, .int .u16 sm, .bool false, .int .u64 0, .int .u64 src, .bool false, .int .u64 0, .int .u64 dst, .slice OA n oc] _ rfl (fun u => (HHT.out.laxH (hp1 u) htB).range') Try.underlying41 rfl (by kernel_rfl) ?_)); go_big_quiet_op; go_big_quiet_on) | (refine wpR_det hp2 rfl ((hR.rel _).trans rfl) rfl ?_; intro K hK; go_big_quiet_op; go_big_quiet_on) | (refine wpR_ptr hp2 rfl ((hR.rel _).trans rfl) rfl rfl ?_; intro K hK; go_big_quiet_op; go_big_quiet_on) | (refine wpR_skip pick rfl ?_; intro K hK; go_big_quiet_op; go_big_quiet_on))
          refine wpR_rel pick rfl ((hR.rel _).trans rfl) ((hR.turns _).trans rfl) ?_ ?_
          · intro u hu
            have hk := hR.since hu.1
            have hks := hk.size
            unfold relAt
            go_simp
            refine ⟨hR.into0 (Kept.refl _ _), hR.put 4 rfl rfl ⟨_, _, rfl, ?_⟩⟩
            have hel' := HEx.out.keep (w' := u) (fun o => hk.cell bltx bHx o)
            split
            · rw [show H.drop q = [] from List.drop_eq_nil_of_le (by have := HLx.out; omega)]; exact .inl rfl
            · first | exact es_sliceG (k := q) hel' bHx (by have := HLx.out; omega) | exact es_slice1 hel' bHx (by have := HLx.out; omega)
          intro v hv
          obtain ⟨u, _, hu⟩ := hv
          obtain ⟨A', c', rfl, -⟩ := hR.get 4 rfl hu
          clear hu
          intro K hK
          go_big_quiet_op
          go_big_quiet_on
          repeat (first | (refine wpR_det hp2 rfl ((hR.rel _).trans rfl) rfl ?_; intro K hK; (first | (refine quiet_load_row 41 (.tmp 7) ht 0 [.int .u8 tos, .int .i64 len, .int .u16 id, .bool stay, .bool more, .int .i64 off, .int .u8 ttl, .int .u8 pr, .int .u16 sm, .bool false, .int .u64 0, .int .u64 src, .bool false, .int .u64 0, .int .u64 dst, .slice OA n oc] _ rfl (fun u => (HHT.out.laxH (hp1 u) htB).range') Try.underlying41 rfl (by kernel_rfl) ?_)); go_big_quiet_op; go_big_quiet_on) | (refine wpR_det hp2 rfl ((hR.rel _).trans rfl) rfl ?_; intro K hK; go_big_quiet_op; go_big_quiet_on) | (refine wpR_ptr hp2 rfl ((hR.rel _).trans rfl) rfl rfl ?_; intro K hK; go_big_quiet_op; go_big_quiet_on) | (refine wpR_skip pick rfl ?_; intro K hK; go_big_quiet_op; go_big_quiet_on))
          refine wpR_nil ?_
          intro w4 hk2 hF hM
          have HVx := Lib.hid (hR.get 3 rfl hM)
          have HSx := Lib.hid ((hR.get 4 rfl (hF _ _ (Got.upd_self _ _ _))))
          have HLXx := Lib.hid hk2
          have hs4x := hk2.size
          clear hF hM hk2 hp1 hp2 hR
          obtain ⟨A'', c'', e, hS⟩ := HSx.out
          injection e with e1 e2 e3
          subst e1
          have HSSx := Lib.hid hS
          clear e2 e3 hS HSx
          obtain ⟨WAx, wcx, hve, -, -⟩ := HVx.out.shape
          rw [show ((H.take q) ++ ([[.int .u8 tos, .int .i64 len, .int .u16 id, .bool stay, .bool more, .int .i64 off, .int .u8 ttl, .int .u8 pr, .int .u16 sm, .bool false, .int .u64 0, .int .u64 src, .bool false, .int .u64 0, .int .u64 dst, .slice OA n oc]] : List (List Value))).length = q + 1 by have := HLx.out; simp only [List.length_append, List.length_take, List.length_cons, List.length_nil]; omega] at hve
          subst hve
          go_upto_region 13 with (at_builtin; refine wpList_append_rowN rfl (.tmp 58) (.tmp 61) 59 rfl Bx 41 (.agg #[.int .u8 0, .int .i64 0, .int .u16 0, .bool false, .bool false, .int .i64 0, .int .u8 0, .int .u8 0, .int .u16 0, .bool false, .int .u64 0, .int .u64 0, .bool false, .int .u64 0, .int .u64 0, .slice none 0 0]) 16 112 Try.underlying59 hinfx rfl (by omega) _ ((H.take q) ++ ([[.int .u8 tos, .int .i64 len, .int .u16 id, .bool stay, .bool more, .int .i64 off, .int .u8 ttl, .int .u8 pr, .int .u16 sm, .bool false, .int .u64 0, .int .u64 src, .bool false, .int .u64 0, .int .u64 dst, .slice OA n oc]] : List (List Value))) rfl A' (k - q) c' (H.drop q) rfl ?a0 HVx.out (fun y hy => HRs.out.1 y (List.mem_of_mem_drop hy)) HSSx.out.src ?a2 ?a3 ?a4 ?a5 ?_)
          case a0 => have := HLx.out; simp only [List.length_drop]; omega
          case a2 => exact HONEx.out _ (fun y hy => List.mem_of_mem_drop hy)
          case a3 => have := HLx.out; simp only [List.length_take, List.length_append, List.length_cons, List.length_nil, List.length_drop]; unfold maxLen; omega
          case a4 => have := HLx.out; simp only [List.length_take, List.length_append, List.length_cons, List.length_nil, List.length_drop]; omega
          case a5 => omega
          intro v7 w7 hr7 hg7 _
          have HRx7 := Lib.hid hr7
          have HBBx := Lib.hid (show Below Bx ws w7 from (HLXx.out.below hHx).trans (below_grown hg7 (fun i hi => (HVx.out.lt i hi).1) (by omega)))
          have HKKx := Lib.hid (show Kept (fun _ => False) ws w7 from Kept.ofB (by rw [HBx.out]; exact HBBx.out))
          clear hr7 hg7 HVx HSSx HLXx
          have HU7 := Lib.hid (HUs.out.kept HKKx.out (fun _ _ h => h))
          have hw7 := HKKx.out.size
          go_upto_region 13 with fail
          obtain ⟨By, hBy⟩ : ∃ By, w7.heap.size = By := ⟨_, rfl⟩
          have hHy : By ≤ w7.heap.size := by omega
          have hBBy : w.heap.size ≤ By := by omega
          have HBy := Lib.hid hBy
          have blty : g2 < w7.heap.size := (HU7.out.lt _ rfl).2
          have bHy : g2 < By := by omega
          have HEy := Lib.hid (show ElAt w7 g2 0 1 U by obtain ⟨g', c', e, _, _, h⟩ := HU7.out.at (i := 0) (by have := HLy.out; omega); injection e with e; injection e with e; injection e with e; subst e; exact h)
          clear hBy
          refine wp_region_lax 11 By 1 [4, 7] [(0, fun v u => ∃ g, v = .slice (some ⟨g, 0, none⟩) 0 0), (4, fun v u => RowZ u By 22 1 v (U.take q)), (6, fun v u => ∃ g, v = .slice (some ⟨g, 0, none⟩) 1 1 ∧ Blk u g 22 #[.slice LA m lc]), (7, fun v u => RowN u By 22 1 v ((U.take q) ++ ([[.slice LA m lc]] : List (List Value)))), (10, fun v u => ∃ A' c', v = .slice A' (k - q) c' ∧ ES u By A' 1 (U.drop q))] ?st ?ne rfl (by kernel_rfl) (by kernel_rfl) (by kernel_rfl) ?_
          case st =>
            intro p hp
            simp only [List.mem_cons, List.not_mem_nil, or_false] at hp
            rcases hp with rfl | rfl | rfl | rfl | rfl
            · intro v u u' h _; exact h
            · intro v u u' h hk; exact h.kept hk
            · rintro v u u' ⟨g, rfl, h⟩ hk; exact ⟨g, rfl, h.lax hk (by simp)⟩
            · intro v u u' h hk; exact h.kept hk (fun _ _ h => h)
            · rintro v u u' ⟨A', c', rfl, h⟩ hk; exact ⟨A', c', rfl, h.laxG (by omega) hk⟩
          case ne =>
            intro p hp
            simp only [List.mem_cons, List.not_mem_nil, or_false] at hp
            rcases hp with rfl | rfl | rfl | rfl | rfl
            · exact ⟨.slice (some ⟨0, 0, none⟩) 0 0, _, Lax.refl _ _ _, 0, rfl⟩
            · exact rowZG_is 22 1 By w7 (U.take q) (fun y hy => HU7.out.1 y (List.mem_of_mem_take hy)) hHy (by have := HLy.out; simp only [List.length_take, List.length_append, List.length_cons, List.length_nil, List.length_drop]; unfold maxLen; omega)
            · exact ⟨_, _, (Lax.refl _ _ _).alloc _, _, rfl, Blk.new _ _ _⟩
            · exact ⟨_, _, (Lax.refl _ _ _).alloc _, rowG_is 22 1 By w7 ((U.take q) ++ ([[.slice LA m lc]] : List (List Value))) (by intro y hy; rcases List.mem_append.1 hy with h | h; exact (fun y hy => HU7.out.1 y (List.mem_of_mem_take hy)) y h; rw [List.mem_singleton.1 h]; rfl) hHy (by have := HLy.out; simp only [List.length_take, List.length_append, List.length_cons, List.length_nil, List.length_drop]; unfold maxLen; omega)⟩
            · exact ⟨_, w7, Lax.refl _ _ _, some ⟨g2, q * 1, none⟩, 0, rfl, es_sliceG HEy.out bHy (by have := HLy.out; omega)⟩
          simp only [List.take_succ_cons, List.take_zero, List.drop_succ_cons, List.drop_zero]
          intro G pick hR hp1 hp2
          repeat (first | (refine wpR_det hp2 rfl ((hR.rel _).trans rfl) rfl ?_; intro K hK; go_big_quiet_op; go_big_quiet_on) | (refine wpR_ptr hp2 rfl ((hR.rel _).trans rfl) rfl rfl ?_; intro K hK; go_big_quiet_op; go_big_quiet_on) | (refine wpR_skip pick rfl ?_; intro K hK; go_big_quiet_op; go_big_quiet_on))
          refine wpR_rel pick rfl ((hR.rel _).trans rfl) ((hR.turns _).trans rfl) ?_ ?_
          · intro u hu
            have hk := hR.since hu.1
            have hks := hk.size
            unfold relAt
            go_simp
            exact ⟨hR.into0 ((Kept.refl _ _).alloc _), hR.put 0 rfl rfl ⟨_, rfl⟩⟩
          intro v hv
          obtain ⟨u, _, hu⟩ := hv
          obtain ⟨g0, rfl⟩ := hR.get 0 rfl hu
          clear hu
          intro K hK
          go_big_quiet_op
          go_big_quiet_on
          repeat (first | (refine wpR_det hp2 rfl ((hR.rel _).trans rfl) rfl ?_; intro K hK; go_big_quiet_op; go_big_quiet_on) | (refine wpR_ptr hp2 rfl ((hR.rel _).trans rfl) rfl rfl ?_; intro K hK; go_big_quiet_op; go_big_quiet_on) | (refine wpR_skip pick rfl ?_; intro K hK; go_big_quiet_op; go_big_quiet_on))
          refine wpR_turn pick rfl ((hR.rel _).trans rfl) ((hR.turns _).trans rfl) ((hR.adds _).trans rfl) ?_ ?_
          · intro u hu hM
            have hk := hR.since hu.1
            have hks := hk.size
            refine relAt_append_zero (.tmp 63) (.tmp 66) 24 rfl By 22 (.slice none 0 0) 1 24 Try.underlying24 hinfy rfl (by omega) g0 rfl (some ⟨g2, 0, none⟩) q uc (U.take q) rfl ?me (fun y hy => HU7.out.1 y (List.mem_of_mem_take hy)) ?se ?le ?be ?he ?_
            case me => have := HLy.out; simp only [List.length_take, List.length_append, List.length_cons, List.length_nil, List.length_drop]; omega
            case se => exact .inr ⟨_, rfl, fun j u hu => by rw [Addr.add_lit]; exact ((HEy.out.take q).keep (w' := _) (fun o => hk.cell blty bHy o)).2 j u hu⟩
            case le => have := HLy.out; simp only [List.length_take, List.length_append, List.length_cons, List.length_nil, List.length_drop]; unfold maxLen; omega
            case be => have := HLy.out; simp only [List.length_take, List.length_append, List.length_cons, List.length_nil, List.length_drop]; omega
            case he => omega
            intro v' w' h1 h2
            exact ⟨hR.into (Lax.of_below h2), hR.put 1 rfl rfl h1⟩
          intro v hv
          obtain ⟨u, _, hu⟩ := hv
          obtain hT4 := hR.get 1 rfl hu
          clear hu
          intro K hK
          go_big_quiet_op
          go_big_quiet_on
          repeat (first | (refine wpR_det hp2 rfl ((hR.rel _).trans rfl) rfl ?_; intro K hK; go_big_quiet_op; go_big_quiet_on) | (refine wpR_ptr hp2 rfl ((hR.rel _).trans rfl) rfl rfl ?_; intro K hK; go_big_quiet_op; go_big_quiet_on) | (refine wpR_skip pick rfl ?_; intro K hK; go_big_quiet_op; go_big_quiet_on))
          refine wpR_rel pick rfl ((hR.rel _).trans rfl) ((hR.turns _).trans rfl) ?_ ?_
          · intro u hu
            have hk := hR.since hu.1
            have hks := hk.size
            unfold relAt
            go_simp
            exact ⟨hR.into0 ((Kept.refl _ _).alloc _), hR.put 2 rfl rfl ⟨_, rfl, Blk.new _ _ _⟩⟩
          intro v hv
          obtain ⟨u, _, hu⟩ := hv
          obtain ⟨g6, rfl, -⟩ := hR.get 2 rfl hu
          clear hu
          intro K hK
          go_big_quiet_op
          go_big_quiet_on
          repeat (first | (refine wpR_det hp2 rfl ((hR.rel _).trans rfl) rfl ?_; intro K hK; go_big_quiet_op; go_big_quiet_on) | (refine wpR_ptr hp2 rfl ((hR.rel _).trans rfl) rfl rfl ?_; intro K hK; go_big_quiet_op; go_big_quiet_on) | (refine wpR_skip pick rfl ?_; intro K hK; go_big_quiet_op; go_big_quiet_on))
          refine wpR_turn pick rfl ((hR.rel _).trans rfl) ((hR.turns _).trans rfl) ((hR.adds _).trans rfl) ?_ ?_
          · intro u hu hM
            have hk := hR.since hu.1
            have hks := hk.size
            have hz := hR.get 1 rfl hM
            obtain ⟨g6', e, h6⟩ := (hR.get 2 rfl (hu.2 _ _ (Got.upd_self _ _ _) (by kernel_rfl)))
            injection e with e
            injection e with e
            injection e with e
            subst e
            refine relAt_append_lax (.tmp 67) (.tmp 69) 24 rfl By 22 (.slice none 0 0) 1 24 Try.underlying24 hinfy rfl (by omega) _ (U.take q) rfl (some ⟨g6, 0, none⟩) 1 1 ([[.slice LA m lc]] : List (List Value)) rfl rfl hz (by simp) (by simp) (Src.blk h6 (by simp)) (by simp [Value.oneCell']) ?lf ?bf ?hf ?_
            case lf => have := HLy.out; simp only [List.length_take, List.length_append, List.length_cons, List.length_nil, List.length_drop]; unfold maxLen; omega
            case bf => have := HLy.out; simp only [List.length_take, List.length_append, List.length_cons, List.length_nil, List.length_drop]; omega
            case hf => omega
            intro v' w' h1 h2
            exact ⟨hR.into h2, hR.put 3 rfl rfl h1⟩
          intro v hv
          obtain ⟨u, _, hu⟩ := hv
          obtain hT7 := hR.get 3 rfl hu
          clear hu
          intro K hK
          go_big_quiet_op
          go_big_quiet_on
          repeat (first | (refine wpR_det hp2 rfl ((hR.rel _).trans rfl) rfl ?_; intro K hK; go_big_quiet_op; go_big_quiet_on) | (refine wpR_ptr hp2 rfl ((hR.rel _).trans rfl) rfl rfl ?_; intro K hK; go_big_quiet_op; go_big_quiet_on) | (refine wpR_skip pick rfl ?_; intro K hK; go_big_quiet_op; go_big_quiet_on))
          refine wpR_rel pick rfl ((hR.rel _).trans rfl) ((hR.turns _).trans rfl) ?_ ?_
          · intro u hu
            have hk := hR.since hu.1
            have hks := hk.size
            unfold relAt
            go_simp
            refine ⟨hR.into0 (Kept.refl _ _), hR.put 4 rfl rfl ⟨_, _, rfl, ?_⟩⟩
            have hel' := HEy.out.keep (w' := u) (fun o => hk.cell blty bHy o)
            split
            · rw [show U.drop q = [] from List.drop_eq_nil_of_le (by have := HLy.out; omega)]; exact .inl rfl
            · first | exact es_sliceG (k := q) hel' bHy (by have := HLy.out; omega) | exact es_slice1 hel' bHy (by have := HLy.out; omega)
          intro v hv
          obtain ⟨u, _, hu⟩ := hv
          obtain ⟨A', c', rfl, -⟩ := hR.get 4 rfl hu
          clear hu
          intro K hK
          go_big_quiet_op
          go_big_quiet_on
          repeat (first | (refine wpR_det hp2 rfl ((hR.rel _).trans rfl) rfl ?_; intro K hK; go_big_quiet_op; go_big_quiet_on) | (refine wpR_ptr hp2 rfl ((hR.rel _).trans rfl) rfl rfl ?_; intro K hK; go_big_quiet_op; go_big_quiet_on) | (refine wpR_skip pick rfl ?_; intro K hK; go_big_quiet_op; go_big_quiet_on))
          refine wpR_nil ?_
          intro w8 hk2 hF hM
          have HVy := Lib.hid (hR.get 3 rfl hM)
          have HSy := Lib.hid ((hR.get 4 rfl (hF _ _ (Got.upd_self _ _ _))))
          have HLXy := Lib.hid hk2
          have hs4y := hk2.size
          clear hF hM hk2 hp1 hp2 hR
          obtain ⟨A'', c'', e, hS⟩ := HSy.out
          injection e with e1 e2 e3
          subst e1
          have HSSy := Lib.hid hS
          clear e2 e3 hS HSy
          obtain ⟨WAy, wcy, hve, -, -⟩ := HVy.out.shape
          rw [show ((U.take q) ++ ([[.slice LA m lc]] : List (List Value))).length = q + 1 by have := HLy.out; simp only [List.length_append, List.length_take, List.length_cons, List.length_nil]; omega] at hve
          subst hve
          go_upto_region 5 with (at_builtin; refine wpList_append_rowN rfl (.tmp 70) (.tmp 73) 24 rfl By 22 (.slice none 0 0) 1 24 Try.underlying24 hinfy rfl (by omega) _ ((U.take q) ++ ([[.slice LA m lc]] : List (List Value))) rfl A' (k - q) c' (U.drop q) rfl ?a0 HVy.out (fun y hy => HU7.out.1 y (List.mem_of_mem_drop hy)) HSSy.out.src ?a2 ?a3 ?a4 ?a5 ?_)
          case a0 => have := HLy.out; simp only [List.length_drop]; omega
          case a2 => exact HONEy.out _ (fun y hy => List.mem_of_mem_drop hy)
          case a3 => have := HLy.out; simp only [List.length_take, List.length_append, List.length_cons, List.length_nil, List.length_drop]; unfold maxLen; omega
          case a4 => have := HLy.out; simp only [List.length_take, List.length_append, List.length_cons, List.length_nil, List.length_drop]; omega
          case a5 => omega
          intro v9 w9 hr7 hg7 _
          have HRy7 := Lib.hid hr7
          have HBBy := Lib.hid (show Below By w7 w9 from (HLXy.out.below hHy).trans (below_grown hg7 (fun i hi => (HVy.out.lt i hi).1) (by omega)))
          have HKKy := Lib.hid (show Kept (fun _ => False) w7 w9 from Kept.ofB (by rw [HBy.out]; exact HBBy.out))
          clear hr7 hg7 HVy HSSy HLXy
          have HKA := Lib.hid (HKKx.out.trans HKKy.out)
          have HRn := Lib.hid (show RowN w9 w.heap.size 41 16 _ (H.take q ++ ([[.int .u8 tos, .int .i64 len, .int .u16 id, .bool stay, .bool more, .int .i64 off, .int .u8 ttl, .int .u8 pr, .int .u16 sm, .bool false, .int .u64 0, .int .u64 src, .bool false, .int .u64 0, .int .u64 dst, .slice OA n oc]] : List (List Value)) ++ H.drop q) from by
            have h := (HRx7.out.kept HKKy.out (fun _ _ h => h)).more hBBx
            simp only [List.append_assoc, List.cons_append, List.nil_append, List.append_nil] at h ⊢
            exact h)
          have HUn := Lib.hid (show RowN w9 w.heap.size 22 1 _ (U.take q ++ ([[.slice LA m lc]] : List (List Value)) ++ U.drop q) from by
            have h := HRy7.out.more hBBy
            simp only [List.append_assoc, List.cons_append, List.nil_append, List.append_nil] at h ⊢
            exact h)
          have HFn := Lib.hid (show F2 (RH w9 w.heap.size) (H.take q ++ [[.int .u8 tos, .int .i64 len, .int .u16 id, .bool stay, .bool more, .int .i64 off, .int .u8 ttl, .int .u8 pr, .int .u16 sm, .bool false, .int .u64 0, .int .u64 src, .bool false, .int .u64 0, .int .u64 dst, .slice OA n oc]] ++ H.drop q) (isort poff ((l.take (k + 1)).map pt)) by
            rw [HSNOC.out, List.map_append, List.map_cons, List.map_nil, isort_snoc, HPE2.out, HPT.out, ← HINS.out]
            exact F2.insert (R := RH w9 w.heap.size) (b := (⟨⟨tos, len, id, stay, more, off, ttl, pr, sm, src, dst, os⟩, X⟩ : Pt)) (HFs.out.imp (fun a b h => h.kept0 HKA.out)) ⟨_, rfl, (HVs.out.kept HKA.out (fun _ _ h => h))⟩ q)
          have HGn := Lib.hid (show F2 (RL w9 w.heap.size) (U.take q ++ [[.slice LA m lc]] ++ U.drop q) (isort poff ((l.take (k + 1)).map pt)) by
            rw [HSNOC.out, List.map_append, List.map_cons, List.map_nil, isort_snoc, HPE2.out, HPT.out, ← HINS.out]
            exact F2.insert (R := RL w9 w.heap.size) (b := (⟨⟨tos, len, id, stay, more, off, ttl, pr, sm, src, dst, os⟩, X⟩ : Pt)) (HGs.out.imp (fun a b h => h.kept0 HKA.out)) ⟨_, rfl, (HXs.out.kept HKA.out (fun _ _ h => h))⟩ q)
          have HWn := Lib.hid (show Below w.heap.size w w9 from HWs.out.trans (HKA.out.below (by omega) (fun _ h => h.elim)))
          clear HKKx HKKy HRx7 HRy7 HRs HUs HFs HGs HVs HXs HWs HHT
          go_wp2_with fail
          go_roundw
          case rel => exact ⟨k + 1, _, _, by omega, by go_num, HRn, HUn, HFn, HGn, HWn, HE6⟩
          case measure => simp [intOf]; omega
    · have kI : ¬ (k : Int) < (l.length : Int) := by omega
      have hkE : k = l.length := by omega
      rw [hkE, List.take_length] at HE HPE2
      have HJ := Lib.hid (joinR_all HE.out)
      rw [HPE2.out] at HJ
      subst hkE
      by_cases hl0 : l = []
      · subst hl0
        have hj : joinR [] = (6, []) := rfl
        go_wp2_with fail
        go_ret2
        exact ⟨HW.out, _, by rw [hj]; rfl, by rw [hj]; exact Row.nil _ _ _⟩
      have hn0 : 0 < l.length := List.length_pos_iff.2 hl0
      obtain ⟨g, gc, hve, -, hglt, hel⟩ := HR.out.at (i := 0) (by rw [HLx.out]; exact hn0)
      obtain ⟨g2, gc2, hue, -, hglt2, hel2⟩ := HU.out.at (i := 0) (by rw [HLy.out]; exact hn0)
      injection hve with hve1 hve2 hve3
      injection hue with hue1 hue2 hue3
      subst hve1 hue1
      clear hve2 hve3 hue2 hue3
      have HEL := Lib.hid hel
      have HEL2 := Lib.hid hel2
      have HOKP := Lib.hid (show ∀ p ∈ P, OkPt p by rw [← HPE2.out]; exact okPt_isort HE.out)
      have HLD := Lib.hid (show lds P ≤ 50000 by rw [← HPE2.out, lds_isort]; exact Nat.le_trans (lds_le l) HSM.out)
      have hn1 : ¬ (l.length : Int) = 0 := by omega
      have hnb : ((l.length : Int) == 0) = false := by simpa using hn1
      have h0P : 0 < P.length := by rw [HPL.out]; exact hn0
      have n0I : (0 : Int) < (l.length : Int) := by omega
      have lvI : (l.length : Int) ≤ (vc : Int) := by omega
      have luI : (l.length : Int) ≤ (uc : Int) := by omega
      obtain ⟨w3, hw3⟩ : ∃ w3 : World, w3 = wr := ⟨_, rfl⟩
      subst hw3
      have hw3s : w.heap.size ≤ w3.heap.size := HW.out.size
      obtain ⟨vh, hx0, hvh⟩ := HF.out.at (k := 0) (by rw [HLx.out]; exact hn0) h0P
      have HR03 := Lib.hid (show w3.rangeAt g (0 * 16) _ from hel.range (k := 0) (by rw [HLx.out]; exact hn0))
      rw [hx0, Nat.zero_mul] at HR03
      have HGT := Lib.hid (joinS_at h0P)
      rw [← HJ.out] at HGT
      have HOK0 := Lib.hid (HOKP.out _ (List.getElem_mem h0P))
      obtain ⟨hd, hhd⟩ : ∃ hd, P[0].hd = hd := ⟨_, rfl⟩
      rw [hhd] at HGT hvh
      have hcl : (P[0].hd.cells vh).toList = (hd.cells vh).toList := by rw [hhd]
      rw [hcl] at HR03
      have hwf := HOK0.out.wf
      have hof := HOK0.out.o1
      rw [hhd] at hwf hof
      clear hx0 hhd hcl HJ hl0 hel hel2
      obtain ⟨toh, leh, idh, sth, moh, ofh, tth, prh, smh, srh, dsh, osh⟩ := hd
      obtain ⟨ht0, ht1, hi0, hi1, ho0, ho1, hx0, hx1, hp0, hp1, hq0, hq1, hs0, hs1, hd0, hd1, hn0', hn1', h40, h4⟩ := hwf
      simp only at hvh hof ht0 ht1 hi0 hi1 ho0 ho1 hx0 hx1 hp0 hp1 hq0 hq1 hs0 hs1 hd0 hd1 hn0' hn1' h40 h4
      obtain ⟨OAh, och, hve, hoh1, hoh2⟩ := hvh.shape
      obtain ⟨nh, hnh⟩ : ∃ nh, osh.length = nh := ⟨_, rfl⟩
      rw [bcs_length, hnh] at hve hoh1
      rw [hnh] at h40 h4
      subst hve
      have HVH := Lib.hid hvh
      have HNH := Lib.hid hnh
      have HR0h := Lib.hid (show w3.rangeAt g 0 [.int .u8 toh, .int .i64 leh, .int .u16 idh, .bool sth, .bool moh, .int .i64 ofh, .int .u8 tth, .int .u8 prh, .int .u16 smh, .bool false, .int .u64 0, .int .u64 srh, .bool false, .int .u64 0, .int .u64 dsh, .slice OAh nh och] from HR03.out)
      clear hvh hnh HR03
      go_wp2_with fail
      go_loopw [11, 12] (fun y i wr' => ∃ (k : Nat) (mo : Bool) (acc : List UInt8), k ≤ l.length ∧ i = .int .i64 (k : Int) ∧ Hid (Row wr' w3.heap.size 5 y (bcs acc)) ∧ Hid (Below w3.heap.size w3 wr') ∧ Hid (joinR l = finJ (⟨toh, leh, idh, sth, moh, ofh, tth, prh, smh, srh, dsh, osh⟩ : Hd) (gat (⟨toh, leh, idh, sth, moh, ofh, tth, prh, smh, srh, dsh, osh⟩ : Hd) (P.drop k) mo acc)) ∧ Hid (acc.length + lds (P.drop k) ≤ 50000) ∧ Hid ((k = 0 ∧ mo = true) ∨ ∃ h : k - 1 < P.length, 0 < k ∧ P[k - 1].hd.more = mo)) (fun _ i _ => l.length - (intOf i).toNat)
      case atStart => exact ⟨0, true, [], by omega, rfl, Lib.hid (Row.nil _ _ _), Lib.hid (Below.refl _ _), Lib.hid HGT.out, Lib.hid (by simpa using HLD.out), Lib.hid (.inl ⟨rfl, rfl⟩)⟩
      case round =>
        clear HGT
        obtain ⟨k, mo, acc, hk, rfl, HA, HBW3, HG2, HLN, HMO⟩ := hrel
        have HKW := Lib.hid (show Kept (fun _ => False) w3 wr from Kept.ofB HBW3.out)
        have hwr3 : w3.heap.size ≤ wr.heap.size := HBW3.out.size
        obtain ⟨AA, ac, hae, hac1, hac2⟩ := HA.out.shape
        rw [bcs_length] at hae hac1
        obtain ⟨an, han⟩ : ∃ an, acc.length = an := ⟨_, rfl⟩
        rw [han] at hae hac1
        subst hae
        have HAN := Lib.hid han
        have han5 : an ≤ 50000 := by have := HLN.out; omega
        clear han
        have glw : g < wr.heap.size := by omega
        have glw2 : g2 < wr.heap.size := by omega
        have HR0 := Lib.hid (rangeK HR0h.out HKW.out hglt)
        by_cases hkl : k < l.length
        · have kI : (k : Int) < (l.length : Int) := by omega
          have k0 : (0 : Int) ≤ (k : Int) := Int.natCast_nonneg _
          have kv : (k : Int) < (vc : Int) := by omega
          have ku : (k : Int) < (uc : Int) := by omega
          have hkP : k < P.length := by rw [HPL.out]; exact hkl
          have hkH : k < H.length := by rw [HLx.out]; exact hkl
          have hkU : k < U.length := by rw [HLy.out]; exact hkl
          obtain ⟨v, hxk, hv⟩ := HF.out.at hkH hkP
          obtain ⟨lv, hlk, hx⟩ := HG.out.at hkU hkP
          have HRK3 := Lib.hid (HEL.out.range hkH)
          have c2 := HEL2.out.get hkU 0 (by omega)
          rw [hxk] at HRK3
          rw [hlk] at c2
          simp only [Nat.zero_add, Nat.mul_one, Nat.add_zero] at c2
          have HDR := Lib.hid (show P.drop k = P[k] :: P.drop (k + 1) from List.drop_eq_getElem_cons hkP)
          have HOK := Lib.hid (HOKP.out _ (List.getElem_mem hkP))
          obtain ⟨pk, hpk⟩ : ∃ pk, P[k] = pk := ⟨_, rfl⟩
          have HMN := Lib.hid (show ∃ h : k + 1 - 1 < P.length, 0 < k + 1 ∧ P[k + 1 - 1].hd.more = pk.hd.more from ⟨by omega, by omega, by rw [← hpk]; rfl⟩)
          rw [hpk] at hv hx HRK3 HDR HOK
          clear hpk
          obtain ⟨hd, X⟩ := pk
          have hwf := HOK.out.wf
          have hof8 := HOK.out.o1
          simp only at hwf hof8 hv hx HRK3
          obtain ⟨tos, len, id, stay, more, off, ttl, pr, sm, src, dst, os⟩ := hd
          obtain ⟨t0, t1, i0, i1, o0, o1, x0, x1, p0, p1, q0, q1, s0, s1, d0, d1, n0, n1, n40, n4⟩ := hwf
          simp only at t0 t1 i0 i1 o0 o1 x0 x1 p0 p1 q0 q1 s0 s1 d0 d1 n0 n1 n40 n4
          obtain ⟨OA, oc, hve, hoc1, hoc2⟩ := hv.shape
          obtain ⟨LA, lc, hxe, hxc1, hxc2⟩ := hx.shape
          obtain ⟨n, hn⟩ : ∃ n, os.length = n := ⟨_, rfl⟩
          obtain ⟨m, hm⟩ : ∃ m, X.length = m := ⟨_, rfl⟩
          simp only at hof8 hv
          rw [bcs_length, hn] at hve hoc1
          rw [bcs_length, hm] at hxe hxc1
          rw [hn] at n40 n4
          subst hve hxe
          have HX := Lib.hid (hx.kept HKW.out (fun _ _ h => h))
          have HM := Lib.hid hm
          have HRK := Lib.hid (rangeK (show w3.rangeAt g (k * 16) [.int .u8 tos, .int .i64 len, .int .u16 id, .bool stay, .bool more, .int .i64 off, .int .u8 ttl, .int .u8 pr, .int .u16 sm, .bool false, .int .u64 0, .int .u64 src, .bool false, .int .u64 0, .int .u64 dst, .slice OA n oc] from HRK3.out) HKW.out hglt)
          have c2' : wr.cell? ⟨g2, k, none⟩ = some (.slice LA m lc) := (HKW.out.cell hglt2 (fun h => h) _).trans c2
          have HLS := Lib.hid (show an + m + lds (P.drop (k + 1)) ≤ 50000 by have := HLN.out; rw [HDR.out, lds_cons, HAN.out] at this; simp only [hm] at this; omega)
          have hms : an + m ≤ 50000 := by have := HLS.out; omega
          rw [HDR.out] at HG2
          clear hxk hlk hv hx hm hn HRK3 HLN c2
          go_upto_region 20 with fail
          go_cut [13, 14] (fun x y wx => ∃ p q : Nat, x = .pointer (some ⟨p, 0, none⟩) ∧ y = .pointer (some ⟨q, 0, none⟩) ∧ wr.heap.size ≤ p ∧ wr.heap.size ≤ q ∧ Hid (Two2 wr wx p q 41 #[.int .u8 tos, .int .i64 len, .int .u16 id, .bool stay, .bool more, .int .i64 off, .int .u8 ttl, .int .u8 pr, .int .u16 sm, .bool false, .int .u64 0, .int .u64 src, .bool false, .int .u64 0, .int .u64 dst, .slice OA n oc] #[.int .u8 toh, .int .i64 leh, .int .u16 idh, .bool sth, .bool moh, .int .i64 ofh, .int .u8 tth, .int .u8 prh, .int .u16 smh, .bool false, .int .u64 0, .int .u64 srh, .bool false, .int .u64 0, .int .u64 dsh, .slice OAh nh och]))
          case first =>
            refine wp_region_held_drew (S := KS wr) (by kernel_rfl) (show KS wr wr.drew from (Kept.refl _ _).drew) (fun hHeld => ?_)
            refine wpAnyH_take (i := 0) (oi := ({ dst := some 84, op := Op.move (Operand.tmp 4), type := 59, pos := "ref.go:63", after := #[], guard := none } : Oper)) (v := ?_) rfl (by kernel_rfl) (by kernel_rfl) (by kernel_rfl) (fun _ _ _ h => h) (Or.inl ⟨by rfl, ?hyq⟩) (by assumption) ?_
            case hyq =>
              intro w hSw
              go_simp
              try with_reducible rfl
            try simp only [Act.put, List.setIfInBounds_toArray, List.set_cons_zero, List.set_cons_succ]
            refine wpAnyH_take (i := 1) (oi := ({ dst := some 85, op := Op.move (Operand.tmp 12), type := 3, pos := "ref.go:63", after := #[], guard := none } : Oper)) (v := ?_) rfl (by kernel_rfl) (by kernel_rfl) (by kernel_rfl) (fun _ _ _ h => h) (Or.inl ⟨by rfl, ?hyq⟩) (by assumption) ?_
            case hyq =>
              intro w hSw
              go_simp
              try with_reducible rfl
            try simp only [Act.put, List.setIfInBounds_toArray, List.set_cons_zero, List.set_cons_succ]
            refine wpAnyH_take (i := 2) (oi := ({ dst := some 86, op := Op.indexAddr 59 (Operand.tmp 84) (Operand.tmp 85), type := 0, pos := "ref.go:63", after := #[{ on := 0, ground := Ground.data }, { on := 1, ground := Ground.data }], guard := none } : Oper)) (v := ?_) rfl (by kernel_rfl) (by kernel_rfl) (by kernel_rfl) (fun _ _ _ h => h) (Or.inl ⟨by rfl, ?hyq⟩) (by assumption) ?_
            case hyq =>
              intro w hSw
              go_simp
              try with_reducible rfl
            try simp only [Act.put, List.setIfInBounds_toArray, List.set_cons_zero, List.set_cons_succ]
            refine wpAnyH_take (i := 3) (oi := ({ dst := some 87, op := Op.load 41 (Operand.tmp 86), type := 41, pos := "ref.go:63", after := #[{ on := 2, ground := Ground.data }], guard := none } : Oper)) (v := _) rfl (by kernel_rfl) (by kernel_rfl) (by kernel_rfl) (fun _ _ _ h => h) (yieldsIf_load_mid (by rfl) 41 (.tmp 86) rfl g (k * 16) rfl [.int .u8 tos, .int .i64 len, .int .u16 id, .bool stay, .bool more, .int .i64 off, .int .u8 ttl, .int .u8 pr, .int .u16 sm, .bool false, .int .u64 0, .int .u64 src, .bool false, .int .u64 0, .int .u64 dst, .slice OA n oc] _ (fun u hu => rangeK HRK.out hu.out glw) Try.underlying41 rfl (by kernel_rfl)) (by assumption) ?_
            try simp only [Act.put, List.setIfInBounds_toArray, List.set_cons_zero, List.set_cons_succ]
            refine wpAnyH_take (i := 4) (oi := ({ dst := some 88, op := Op.move (Operand.tmp 4), type := 59, pos := "ref.go:63", after := #[{ on := 9, ground := Ground.gcOnly Departure.lateStores }], guard := none } : Oper)) (v := ?_) rfl (by kernel_rfl) (by kernel_rfl) (by kernel_rfl) (fun _ _ _ h => h) (Or.inl ⟨by rfl, ?hyq⟩) (by assumption) ?_
            case hyq =>
              intro w hSw
              go_simp
              try with_reducible rfl
            try simp only [Act.put, List.setIfInBounds_toArray, List.set_cons_zero, List.set_cons_succ]
            refine wpAnyH_take (i := 5) (oi := ({ dst := some 89, op := Op.indexAddr 59 (Operand.tmp 88) (Operand.const (Value.int IntKind.i64 0)), type := 0, pos := "ref.go:63", after := #[{ on := 4, ground := Ground.data }, { on := 9, ground := Ground.gcOnly Departure.lateStores }], guard := none } : Oper)) (v := ?_) rfl (by kernel_rfl) (by kernel_rfl) (by kernel_rfl) (fun _ _ _ h => h) (Or.inl ⟨by rfl, ?hyq⟩) (by assumption) ?_
            case hyq =>
              intro w hSw
              go_simp
              try with_reducible rfl
            try simp only [Act.put, List.setIfInBounds_toArray, List.set_cons_zero, List.set_cons_succ]
            refine wpAnyH_take (i := 6) (oi := ({ dst := some 90, op := Op.load 41 (Operand.tmp 89), type := 41, pos := "ref.go:63", after := #[{ on := 5, ground := Ground.data }, { on := 9, ground := Ground.gcOnly Departure.lateStores }], guard := none } : Oper)) (v := _) rfl (by kernel_rfl) (by kernel_rfl) (by kernel_rfl) (fun _ _ _ h => h) (yieldsIf_load_mid (by rfl) 41 (.tmp 89) rfl g 0 rfl [.int .u8 toh, .int .i64 leh, .int .u16 idh, .bool sth, .bool moh, .int .i64 ofh, .int .u8 tth, .int .u8 prh, .int .u16 smh, .bool false, .int .u64 0, .int .u64 srh, .bool false, .int .u64 0, .int .u64 dsh, .slice OAh nh och] _ (fun u hu => rangeK HR0.out hu.out glw) Try.underlying41 rfl (by kernel_rfl)) (by assumption) ?_
            try simp only [Act.put, List.setIfInBounds_toArray, List.set_cons_zero, List.set_cons_succ]
            refine wpAnyH_ready (rs := [7, 8]) (by kernel_rfl) (by simp) ?_
            refine AllReadyH.cons (o := ({ dst := some 13, op := Op.alloc 41, type := 0, pos := "ref.go:63", after := #[], guard := none } : Oper)) rfl (fun K hK => ?_) ?_
            · go_simp
              refine hK.out _ _ ?_ (fun hHeld1 => ?_)
              · exact hHeld.out.alloc _
              clear hK K hHeld
              try simp only [Act.put, List.setIfInBounds_toArray, List.set_cons_zero, List.set_cons_succ]
              refine wpAnyH_ready (rs := [8]) (by kernel_rfl) (by simp) ?_
              refine AllReadyH.cons (o := ({ dst := some 14, op := Op.alloc 41, type := 0, pos := "ref.go:63", after := #[], guard := none } : Oper)) rfl (fun K hK => ?_) ?_
              · go_simp
                refine hK.out _ _ ?_ (fun hHeld2 => ?_)
                · exact hHeld1.out.alloc _
                clear hK K hHeld1
                try simp only [Act.put, List.setIfInBounds_toArray, List.set_cons_zero, List.set_cons_succ]
                generalize hu : World.alloc _ _ = u at hHeld2 ⊢
                have h0 : Blk u.drew wr.heap.size 41 #[.int .u8 0, .int .i64 0, .int .u16 0, .bool false, .bool false, .int .i64 0, .int .u8 0, .int .u8 0, .int .u16 0, .bool false, .int .u64 0, .int .u64 0, .bool false, .int .u64 0, .int .u64 0, .slice none 0 0] := by rw [← hu]; exact ((Blk.new _ _ _).alloc _).drew
                have h1 : Blk u.drew (wr.heap.size + 1) 41 #[.int .u8 0, .int .i64 0, .int .u16 0, .bool false, .bool false, .int .i64 0, .int .u8 0, .int .u8 0, .int .u16 0, .bool false, .int .u64 0, .int .u64 0, .bool false, .int .u64 0, .int .u64 0, .slice none 0 0] := by rw [← hu]; exact (Blk.new_ (by simp) _ _).drew
                have hH2 : KS wr u.drew := by first | exact hHeld2 | exact hHeld2.out.drew
                clear hu hHeld2
                generalize u.drew = v at h0 h1 hH2 ⊢
                obtain ⟨B0, hB0⟩ : ∃ B0, wr.heap.size = B0 := ⟨_, rfl⟩
                rw [hB0] at h0 h1 ⊢
                refine wpAnyH_ready (rs := [9]) (by kernel_rfl) (by simp) ?_
                refine AllReadyH.cons (o := ({ dst := none, op := Op.store 41 (Operand.tmp 13) (Operand.tmp 87), type := 0, pos := "ref.go:63", after := #[{ on := 7, ground := Ground.data }, { on := 3, ground := Ground.data }, { on := 0, ground := Ground.phase }, { on := 1, ground := Ground.phase }, { on := 2, ground := Ground.phase }, { on := 3, ground := Ground.phase }, { on := 4, ground := Ground.textOnly Departure.lateStores }, { on := 5, ground := Ground.textOnly Departure.lateStores }, { on := 6, ground := Ground.textOnly Departure.lateStores }, { on := 7, ground := Ground.phase }, { on := 8, ground := Ground.phase }], guard := none } : Oper)) rfl (fun K hK => ?_) ?_
                · rw [if_pos (by rfl)]
                  refine wp_store_mid 41 (.tmp 13) (.tmp 87) rfl (B0) 0 #[.int .u8 tos, .int .i64 len, .int .u16 id, .bool stay, .bool more, .int .i64 off, .int .u8 ttl, .int .u8 pr, .int .u16 sm, .bool false, .int .u64 0, .int .u64 src, .bool false, .int .u64 0, .int .u64 dst, .slice OA n oc] rfl rfl (h0.there rfl) (by kernel_rfl) (by simp [Value.oneCell']) ?_
                  refine hK.out _ _ ?_ (fun hHeld3 => ?_)
                  · exact hH2.out.then (Kept.setCells (S := fun i => i = (B0)) rfl _ _ (Kept.refl _ _)) (fun i hi e => by omega)
                  clear hK K
                  try simp only [Act.put, List.setIfInBounds_toArray, List.set_cons_zero, List.set_cons_succ]
                  generalize hv : World.setCells _ _ _ _ = v9 at hHeld3 ⊢
                  have hp9 : Blk v9 (B0) 41 #[.int .u8 tos, .int .i64 len, .int .u16 id, .bool stay, .bool more, .int .i64 off, .int .u8 ttl, .int .u8 pr, .int .u16 sm, .bool false, .int .u64 0, .int .u64 src, .bool false, .int .u64 0, .int .u64 dst, .slice OA n oc] := by rw [← hv]; exact h0.setAll #[.int .u8 tos, .int .i64 len, .int .u16 id, .bool stay, .bool more, .int .i64 off, .int .u8 ttl, .int .u8 pr, .int .u16 sm, .bool false, .int .u64 0, .int .u64 src, .bool false, .int .u64 0, .int .u64 dst, .slice OA n oc] rfl
                  have hq9 : Blk v9 (B0 + 1) 41 #[.int .u8 0, .int .i64 0, .int .u16 0, .bool false, .bool false, .int .i64 0, .int .u8 0, .int .u8 0, .int .u16 0, .bool false, .int .u64 0, .int .u64 0, .bool false, .int .u64 0, .int .u64 0, .slice none 0 0] := by rw [← hv]; exact h1.kept (Kept.setCells (S := fun i => i = B0) rfl _ _ (Kept.refl _ _)) (fun e => by omega)
                  clear hv
                  refine wpAnyH_ready (rs := [10]) (by kernel_rfl) (by simp) ?_
                  refine AllReadyH.cons (o := ({ dst := none, op := Op.store 41 (Operand.tmp 14) (Operand.tmp 90), type := 0, pos := "ref.go:63", after := #[{ on := 8, ground := Ground.data }, { on := 6, ground := Ground.data }, { on := 9, ground := Ground.chain }, { on := 0, ground := Ground.phase }, { on := 1, ground := Ground.phase }, { on := 2, ground := Ground.phase }, { on := 3, ground := Ground.phase }, { on := 4, ground := Ground.phase }, { on := 5, ground := Ground.phase }, { on := 6, ground := Ground.phase }, { on := 7, ground := Ground.phase }, { on := 8, ground := Ground.phase }, { on := 9, ground := Ground.phase }], guard := none } : Oper)) rfl (fun K hK => ?_) ?_
                  · rw [if_pos (by rfl)]
                    refine wp_store_mid 41 (.tmp 14) (.tmp 90) rfl (B0 + 1) 0 #[.int .u8 toh, .int .i64 leh, .int .u16 idh, .bool sth, .bool moh, .int .i64 ofh, .int .u8 tth, .int .u8 prh, .int .u16 smh, .bool false, .int .u64 0, .int .u64 srh, .bool false, .int .u64 0, .int .u64 dsh, .slice OAh nh och] rfl rfl (hq9.there rfl) (by kernel_rfl) (by simp [Value.oneCell']) ?_
                    refine hK.out _ _ ?_ (fun hHeld4 => ?_)
                    · exact hHeld3.out.then (Kept.setCells (S := fun i => i = (B0 + 1)) rfl _ _ (Kept.refl _ _)) (fun i hi e => by omega)
                    clear hK K
                    try simp only [Act.put, List.setIfInBounds_toArray, List.set_cons_zero, List.set_cons_succ]
                    generalize hv : World.setCells _ _ _ _ = v10 at hHeld4 ⊢
                    have hp10 : Blk v10 (B0) 41 #[.int .u8 tos, .int .i64 len, .int .u16 id, .bool stay, .bool more, .int .i64 off, .int .u8 ttl, .int .u8 pr, .int .u16 sm, .bool false, .int .u64 0, .int .u64 src, .bool false, .int .u64 0, .int .u64 dst, .slice OA n oc] := by rw [← hv]; exact hp9.kept (Kept.setCells (S := fun i => i = B0 + 1) rfl _ _ (Kept.refl _ _)) (fun e => by omega)
                    have hq10 : Blk v10 (B0 + 1) 41 #[.int .u8 toh, .int .i64 leh, .int .u16 idh, .bool sth, .bool moh, .int .i64 ofh, .int .u8 tth, .int .u8 prh, .int .u16 smh, .bool false, .int .u64 0, .int .u64 srh, .bool false, .int .u64 0, .int .u64 dsh, .slice OAh nh och] := by rw [← hv]; exact hq9.setAll #[.int .u8 toh, .int .i64 leh, .int .u16 idh, .bool sth, .bool moh, .int .i64 ofh, .int .u8 tth, .int .u8 prh, .int .u16 smh, .bool false, .int .u64 0, .int .u64 srh, .bool false, .int .u64 0, .int .u64 dsh, .slice OAh nh och] rfl
                    clear hv
                    refine wpAnyH_done (by kernel_rfl) ?_ _
                    go_wp2_with fail
                    go_meet
                    exact ⟨B0, B0 + 1, rfl, rfl, by omega, by omega, Lib.hid ⟨hp10, hq10, hHeld4.out⟩⟩
                  exact AllReadyH.nil
                exact AllReadyH.nil
              exact AllReadyH.nil
            refine AllReadyH.cons (o := ({ dst := some 14, op := Op.alloc 41, type := 0, pos := "ref.go:63", after := #[], guard := none } : Oper)) rfl (fun K hK => ?_) ?_
            · go_simp
              refine hK.out _ _ ?_ (fun hHeld1 => ?_)
              · exact hHeld.out.alloc _
              clear hK K hHeld
              try simp only [Act.put, List.setIfInBounds_toArray, List.set_cons_zero, List.set_cons_succ]
              refine wpAnyH_ready (rs := [7]) (by kernel_rfl) (by simp) ?_
              refine AllReadyH.cons (o := ({ dst := some 13, op := Op.alloc 41, type := 0, pos := "ref.go:63", after := #[], guard := none } : Oper)) rfl (fun K hK => ?_) ?_
              · go_simp
                refine hK.out _ _ ?_ (fun hHeld2 => ?_)
                · exact hHeld1.out.alloc _
                clear hK K hHeld1
                try simp only [Act.put, List.setIfInBounds_toArray, List.set_cons_zero, List.set_cons_succ]
                generalize hu : World.alloc _ _ = u at hHeld2 ⊢
                have h0 : Blk u.drew wr.heap.size 41 #[.int .u8 0, .int .i64 0, .int .u16 0, .bool false, .bool false, .int .i64 0, .int .u8 0, .int .u8 0, .int .u16 0, .bool false, .int .u64 0, .int .u64 0, .bool false, .int .u64 0, .int .u64 0, .slice none 0 0] := by rw [← hu]; exact ((Blk.new _ _ _).alloc _).drew
                have h1 : Blk u.drew (wr.heap.size + 1) 41 #[.int .u8 0, .int .i64 0, .int .u16 0, .bool false, .bool false, .int .i64 0, .int .u8 0, .int .u8 0, .int .u16 0, .bool false, .int .u64 0, .int .u64 0, .bool false, .int .u64 0, .int .u64 0, .slice none 0 0] := by rw [← hu]; exact (Blk.new_ (by simp) _ _).drew
                have hH2 : KS wr u.drew := by first | exact hHeld2 | exact hHeld2.out.drew
                clear hu hHeld2
                generalize u.drew = v at h0 h1 hH2 ⊢
                obtain ⟨B0, hB0⟩ : ∃ B0, wr.heap.size = B0 := ⟨_, rfl⟩
                rw [hB0] at h0 h1 ⊢
                refine wpAnyH_ready (rs := [9]) (by kernel_rfl) (by simp) ?_
                refine AllReadyH.cons (o := ({ dst := none, op := Op.store 41 (Operand.tmp 13) (Operand.tmp 87), type := 0, pos := "ref.go:63", after := #[{ on := 7, ground := Ground.data }, { on := 3, ground := Ground.data }, { on := 0, ground := Ground.phase }, { on := 1, ground := Ground.phase }, { on := 2, ground := Ground.phase }, { on := 3, ground := Ground.phase }, { on := 4, ground := Ground.textOnly Departure.lateStores }, { on := 5, ground := Ground.textOnly Departure.lateStores }, { on := 6, ground := Ground.textOnly Departure.lateStores }, { on := 7, ground := Ground.phase }, { on := 8, ground := Ground.phase }], guard := none } : Oper)) rfl (fun K hK => ?_) ?_
                · rw [if_pos (by rfl)]
                  refine wp_store_mid 41 (.tmp 13) (.tmp 87) rfl (B0 + 1) 0 #[.int .u8 tos, .int .i64 len, .int .u16 id, .bool stay, .bool more, .int .i64 off, .int .u8 ttl, .int .u8 pr, .int .u16 sm, .bool false, .int .u64 0, .int .u64 src, .bool false, .int .u64 0, .int .u64 dst, .slice OA n oc] rfl rfl (h1.there rfl) (by kernel_rfl) (by simp [Value.oneCell']) ?_
                  refine hK.out _ _ ?_ (fun hHeld3 => ?_)
                  · exact hH2.out.then (Kept.setCells (S := fun i => i = (B0 + 1)) rfl _ _ (Kept.refl _ _)) (fun i hi e => by omega)
                  clear hK K
                  try simp only [Act.put, List.setIfInBounds_toArray, List.set_cons_zero, List.set_cons_succ]
                  generalize hv : World.setCells _ _ _ _ = v9 at hHeld3 ⊢
                  have hp9 : Blk v9 (B0 + 1) 41 #[.int .u8 tos, .int .i64 len, .int .u16 id, .bool stay, .bool more, .int .i64 off, .int .u8 ttl, .int .u8 pr, .int .u16 sm, .bool false, .int .u64 0, .int .u64 src, .bool false, .int .u64 0, .int .u64 dst, .slice OA n oc] := by rw [← hv]; exact h1.setAll #[.int .u8 tos, .int .i64 len, .int .u16 id, .bool stay, .bool more, .int .i64 off, .int .u8 ttl, .int .u8 pr, .int .u16 sm, .bool false, .int .u64 0, .int .u64 src, .bool false, .int .u64 0, .int .u64 dst, .slice OA n oc] rfl
                  have hq9 : Blk v9 (B0) 41 #[.int .u8 0, .int .i64 0, .int .u16 0, .bool false, .bool false, .int .i64 0, .int .u8 0, .int .u8 0, .int .u16 0, .bool false, .int .u64 0, .int .u64 0, .bool false, .int .u64 0, .int .u64 0, .slice none 0 0] := by rw [← hv]; exact h0.kept (Kept.setCells (S := fun i => i = B0 + 1) rfl _ _ (Kept.refl _ _)) (fun e => by omega)
                  clear hv
                  refine wpAnyH_ready (rs := [10]) (by kernel_rfl) (by simp) ?_
                  refine AllReadyH.cons (o := ({ dst := none, op := Op.store 41 (Operand.tmp 14) (Operand.tmp 90), type := 0, pos := "ref.go:63", after := #[{ on := 8, ground := Ground.data }, { on := 6, ground := Ground.data }, { on := 9, ground := Ground.chain }, { on := 0, ground := Ground.phase }, { on := 1, ground := Ground.phase }, { on := 2, ground := Ground.phase }, { on := 3, ground := Ground.phase }, { on := 4, ground := Ground.phase }, { on := 5, ground := Ground.phase }, { on := 6, ground := Ground.phase }, { on := 7, ground := Ground.phase }, { on := 8, ground := Ground.phase }, { on := 9, ground := Ground.phase }], guard := none } : Oper)) rfl (fun K hK => ?_) ?_
                  · rw [if_pos (by rfl)]
                    refine wp_store_mid 41 (.tmp 14) (.tmp 90) rfl (B0) 0 #[.int .u8 toh, .int .i64 leh, .int .u16 idh, .bool sth, .bool moh, .int .i64 ofh, .int .u8 tth, .int .u8 prh, .int .u16 smh, .bool false, .int .u64 0, .int .u64 srh, .bool false, .int .u64 0, .int .u64 dsh, .slice OAh nh och] rfl rfl (hq9.there rfl) (by kernel_rfl) (by simp [Value.oneCell']) ?_
                    refine hK.out _ _ ?_ (fun hHeld4 => ?_)
                    · exact hHeld3.out.then (Kept.setCells (S := fun i => i = (B0)) rfl _ _ (Kept.refl _ _)) (fun i hi e => by omega)
                    clear hK K
                    try simp only [Act.put, List.setIfInBounds_toArray, List.set_cons_zero, List.set_cons_succ]
                    generalize hv : World.setCells _ _ _ _ = v10 at hHeld4 ⊢
                    have hp10 : Blk v10 (B0 + 1) 41 #[.int .u8 tos, .int .i64 len, .int .u16 id, .bool stay, .bool more, .int .i64 off, .int .u8 ttl, .int .u8 pr, .int .u16 sm, .bool false, .int .u64 0, .int .u64 src, .bool false, .int .u64 0, .int .u64 dst, .slice OA n oc] := by rw [← hv]; exact hp9.kept (Kept.setCells (S := fun i => i = B0) rfl _ _ (Kept.refl _ _)) (fun e => by omega)
                    have hq10 : Blk v10 (B0) 41 #[.int .u8 toh, .int .i64 leh, .int .u16 idh, .bool sth, .bool moh, .int .i64 ofh, .int .u8 tth, .int .u8 prh, .int .u16 smh, .bool false, .int .u64 0, .int .u64 srh, .bool false, .int .u64 0, .int .u64 dsh, .slice OAh nh och] := by rw [← hv]; exact hq9.setAll #[.int .u8 toh, .int .i64 leh, .int .u16 idh, .bool sth, .bool moh, .int .i64 ofh, .int .u8 tth, .int .u8 prh, .int .u16 smh, .bool false, .int .u64 0, .int .u64 srh, .bool false, .int .u64 0, .int .u64 dsh, .slice OAh nh och] rfl
                    clear hv
                    refine wpAnyH_done (by kernel_rfl) ?_ _
                    go_wp2_with fail
                    go_meet
                    exact ⟨B0 + 1, B0, rfl, rfl, by omega, by omega, Lib.hid ⟨hp10, hq10, hHeld4.out⟩⟩
                  exact AllReadyH.nil
                exact AllReadyH.nil
              exact AllReadyH.nil
            exact AllReadyH.nil
          case rest =>
          obtain ⟨p, q, rfl, rfl, hp, hq, HTW⟩ := hcut
          have HBP := Lib.hid HTW.out.pb
          have HBQ := Lib.hid HTW.out.qb
          have HK4 := Lib.hid HTW.out.kept
          have HA4 := Lib.hid (HA.out.kept HK4.out (fun _ _ h => h))
          have HX4 := Lib.hid (HX.out.kept HK4.out (fun _ _ h => h))
          have HBW4 := Lib.hid (show Below w3.heap.size w3 wc from HBW3.out.trans (HK4.out.below hwr3 (fun _ h => h.elim)))
          have HW5 := Lib.hid (show Below w.heap.size w wc from HW.out.trans (HBW4.out.mono hw3s))
          have hw43 : w3.heap.size ≤ wc.heap.size := HBW4.out.size
          have hwwc : wr.heap.size ≤ wc.heap.size := HK4.out.size
          have c24 : wc.cell? ⟨g2, k, none⟩ = some (.slice LA m lc) := (HK4.out.cell glw2 (fun h => h) _).trans c2'
          have cP := HBP.out.cell
          have cQ := HBQ.out.cell
          have lP := HBP.out.lt
          have lQ := HBQ.out.lt
          clear HTW HA HX HBW3 HRK c2'
          go_upto_region 21 with fail
          go_cut [137] (fun x wx => x = .bool (decide (kinB (⟨tos, len, id, stay, more, off, ttl, pr, sm, src, dst, os⟩ : Hd) (⟨toh, leh, idh, sth, moh, ofh, tth, prh, smh, srh, dsh, osh⟩ : Hd) = false ∨ 8 * off < (an : Int) ∨ mo = false)) ∧ wc = wx)
          case first =>
            by_cases h0 : id = idh
            rotate_left
            · have e0 : (id == idh) = false := beq_eq_false_iff_ne.2 h0
              have dd : decide (kinB (⟨tos, len, id, stay, more, off, ttl, pr, sm, src, dst, os⟩ : Hd) (⟨toh, leh, idh, sth, moh, ofh, tth, prh, smh, srh, dsh, osh⟩ : Hd) = false ∨ 8 * off < (an : Int) ∨ mo = false) = true := decide_eq_true (.inl (decide_eq_false (fun h => h0 h.1)))
              go_wp2_with fail
              go_meet
              exact ⟨by rw [dd], rfl⟩
            by_cases h1 : pr = prh
            rotate_left
            · have e0 : (id == idh) = true := by simpa using h0
              have e1 : (pr == prh) = false := beq_eq_false_iff_ne.2 h1
              have dd : decide (kinB (⟨tos, len, id, stay, more, off, ttl, pr, sm, src, dst, os⟩ : Hd) (⟨toh, leh, idh, sth, moh, ofh, tth, prh, smh, srh, dsh, osh⟩ : Hd) = false ∨ 8 * off < (an : Int) ∨ mo = false) = true := decide_eq_true (.inl (decide_eq_false (fun h => h1 h.2.1)))
              go_wp2_with fail
              go_meet
              exact ⟨by rw [dd], rfl⟩
            by_cases h2 : src = srh
            rotate_left
            · have e0 : (id == idh) = true := by simpa using h0
              have e1 : (pr == prh) = true := by simpa using h1
              have e2 : (src == srh) = false := beq_eq_false_iff_ne.2 h2
              have dd : decide (kinB (⟨tos, len, id, stay, more, off, ttl, pr, sm, src, dst, os⟩ : Hd) (⟨toh, leh, idh, sth, moh, ofh, tth, prh, smh, srh, dsh, osh⟩ : Hd) = false ∨ 8 * off < (an : Int) ∨ mo = false) = true := decide_eq_true (.inl (decide_eq_false (fun h => h2 h.2.2.1)))
              go_wp2_with fail
              go_meet
              exact ⟨by rw [dd], rfl⟩
            by_cases h3 : dst = dsh
            rotate_left
            · have e0 : (id == idh) = true := by simpa using h0
              have e1 : (pr == prh) = true := by simpa using h1
              have e2 : (src == srh) = true := by simpa using h2
              have e3 : (dst == dsh) = false := beq_eq_false_iff_ne.2 h3
              have dd : decide (kinB (⟨tos, len, id, stay, more, off, ttl, pr, sm, src, dst, os⟩ : Hd) (⟨toh, leh, idh, sth, moh, ofh, tth, prh, smh, srh, dsh, osh⟩ : Hd) = false ∨ 8 * off < (an : Int) ∨ mo = false) = true := decide_eq_true (.inl (decide_eq_false (fun h => h3 h.2.2.2)))
              go_wp2_with fail
              go_meet
              exact ⟨by rw [dd], rfl⟩
            have e0 : (id == idh) = true := by simpa using h0
            have e1 : (pr == prh) = true := by simpa using h1
            have e2 : (src == srh) = true := by simpa using h2
            have e3 : (dst == dsh) = true := by simpa using h3
            have hkin : kinB (⟨tos, len, id, stay, more, off, ttl, pr, sm, src, dst, os⟩ : Hd) (⟨toh, leh, idh, sth, moh, ofh, tth, prh, smh, srh, dsh, osh⟩ : Hd) = true := decide_eq_true ⟨h0, h1, h2, h3⟩
            by_cases h4 : off * 8 < (an : Int)
            · have dd : decide (kinB (⟨tos, len, id, stay, more, off, ttl, pr, sm, src, dst, os⟩ : Hd) (⟨toh, leh, idh, sth, moh, ofh, tth, prh, smh, srh, dsh, osh⟩ : Hd) = false ∨ 8 * off < (an : Int) ∨ mo = false) = true := decide_eq_true (.inr (.inl (by omega)))
              go_wp2_with fail
              go_meet
              exact ⟨by rw [dd], rfl⟩
            by_cases h5 : k = 0
            · have kz : ¬ (0 : Int) < (k : Int) := by omega
              have hmt : mo = true := by
                rcases HMO.out with h | ⟨_, h, _⟩
                · exact h.2
                · omega
              subst hmt
              clear h5
              have dd : decide (kinB (⟨tos, len, id, stay, more, off, ttl, pr, sm, src, dst, os⟩ : Hd) (⟨toh, leh, idh, sth, moh, ofh, tth, prh, smh, srh, dsh, osh⟩ : Hd) = false ∨ 8 * off < (an : Int) ∨ true = false) = false := decide_eq_false (by rintro (h | h | h); (rw [hkin] at h; cases h); omega; cases h)
              go_wp2_with fail
              go_meet
              exact ⟨by rw [dd], rfl⟩
            obtain ⟨r, hr⟩ : ∃ r, k - 1 = r := ⟨_, rfl⟩
            have kp : (0 : Int) < (k : Int) := by omega
            have er : (k : Int) - 1 = (r : Int) := by omega
            have hrl : r < l.length := by omega
            have rI : (r : Int) < (l.length : Int) := by omega
            have r0I : (0 : Int) ≤ (r : Int) := Int.natCast_nonneg _
            have c4 : wc.cell? ⟨g, r * 16 + 4, none⟩ = some (.bool mo) := by
              rcases HMO.out with h | ⟨h1, h2, h3⟩
              · exact absurd h.1 h5
              · subst hr
                have e := HEL.out.get (k := k - 1) (by rw [HLx.out]; exact hrl) 4 (by omega)
                rw [Nat.zero_add, (HF.out.at (k := k - 1) (by rw [HLx.out]; exact hrl) h1).more, h3] at e
                rw [HK4.out.cell glw (fun h => h), HKW.out.cell hglt (fun h => h)]
                exact e
            clear hr
            cases mo with
            | false =>
              have dd : decide (kinB (⟨tos, len, id, stay, more, off, ttl, pr, sm, src, dst, os⟩ : Hd) (⟨toh, leh, idh, sth, moh, ofh, tth, prh, smh, srh, dsh, osh⟩ : Hd) = false ∨ 8 * off < (an : Int) ∨ false = false) = true := decide_eq_true (.inr (.inr rfl))
              go_wp2_with fail
              go_meet
              exact ⟨by rw [dd], rfl⟩
            | true =>
              have dd : decide (kinB (⟨tos, len, id, stay, more, off, ttl, pr, sm, src, dst, os⟩ : Hd) (⟨toh, leh, idh, sth, moh, ofh, tth, prh, smh, srh, dsh, osh⟩ : Hd) = false ∨ 8 * off < (an : Int) ∨ true = false) = false := decide_eq_false (by rintro (h | h | h); (rw [hkin] at h; cases h); omega; cases h)
              go_wp2_with fail
              go_meet
              exact ⟨by rw [dd], rfl⟩
          case rest =>
          obtain ⟨rfl, rfl⟩ := hcut
          by_cases hbad : (kinB (⟨tos, len, id, stay, more, off, ttl, pr, sm, src, dst, os⟩ : Hd) (⟨toh, leh, idh, sth, moh, ofh, tth, prh, smh, srh, dsh, osh⟩ : Hd) = false ∨ 8 * off < (an : Int) ∨ mo = false)
          · have HBAD := Lib.hid (show kinB (⟨tos, len, id, stay, more, off, ttl, pr, sm, src, dst, os⟩ : Hd) (⟨toh, leh, idh, sth, moh, ofh, tth, prh, smh, srh, dsh, osh⟩ : Hd) = false ∨ 8 * off < ((acc.length : Nat) : Int) ∨ mo = false by rw [HAN.out]; exact hbad)
            rw [decide_eq_true hbad]
            clear hbad
            go_wp2_with fail
            go_ret2
            exact ⟨HW5.out, _, by rw [HG2.out, gat_bad HBAD.out, finJ_bad]; rfl, by rw [HG2.out, gat_bad HBAD.out, finJ_bad]; exact Row.nil _ _ _⟩
          have HKIN := Lib.hid (show kinB (⟨tos, len, id, stay, more, off, ttl, pr, sm, src, dst, os⟩ : Hd) (⟨toh, leh, idh, sth, moh, ofh, tth, prh, smh, srh, dsh, osh⟩ : Hd) = true by
            cases h : kinB (⟨tos, len, id, stay, more, off, ttl, pr, sm, src, dst, os⟩ : Hd) (⟨toh, leh, idh, sth, moh, ofh, tth, prh, smh, srh, dsh, osh⟩ : Hd) with
            | true => rfl
            | false => exact absurd (.inl h) hbad)
          have HMT := Lib.hid (show mo = true by
            cases h : mo with
            | true => rfl
            | false => exact absurd (.inr (.inr h)) hbad)
          have HNO := Lib.hid (show ¬ 8 * off < (an : Int) from fun h => hbad (.inr (.inl h)))
          rw [decide_eq_false hbad]
          clear hbad
          by_cases c3 : (an : Int) < off * 8
          · have HC3 := Lib.hid (show ((acc.length : Nat) : Int) < 8 * off by rw [HAN.out]; omega)
            go_wp2_with fail
            go_ret2
            exact ⟨HW5.out, _, by rw [HG2.out, gat_gap HKIN.out HMT.out HC3.out, finJ_gap]; rfl, by rw [HG2.out, gat_gap HKIN.out HMT.out HC3.out, finJ_gap]; exact Row.nil _ _ _⟩
          have HG3 := Lib.hid (show joinR l = finJ (⟨toh, leh, idh, sth, moh, ofh, tth, prh, smh, srh, dsh, osh⟩ : Hd) (gat (⟨toh, leh, idh, sth, moh, ofh, tth, prh, smh, srh, dsh, osh⟩ : Hd) (P.drop (k + 1)) more (acc ++ X)) by
            rw [HG2.out, gat_on HKIN.out HMT.out (by rw [HAN.out]; show (an : Int) = 8 * off; have := HNO.out; omega)])
          have h5 := Try.info5r
          go_wp2_with (at_builtin; refine wpList_append_row rfl (.tmp 144) (.tmp 148) 22 rfl w3.heap.size 5 (.int .u8 0) 1 Try.underlying22 h5 rfl _ (bcs acc) rfl LA m lc (bcs X) rfl ?a0 HA4.out HX4.out.byt.bs_of.src (bcs_one _) ?a3 ?a4 hw43 ?_)
          case a0 => rw [bcs_length, HM.out]
          case a3 => rw [bcs_length, bcs_length, HM.out, HAN.out]; unfold maxLen; omega
          case a4 => rw [bcs_length, bcs_length, HM.out, HAN.out]; omega
          intro v6 w6 hr6 hg6 _
          have HR6 := Lib.hid (show Row w6 w3.heap.size 5 v6 (bcs (acc ++ X)) by rw [bcs_append]; exact hr6)
          have HBW6 := Lib.hid (show Below w3.heap.size w3 w6 from HBW4.out.trans (below_grown hg6 (fun i hi => (HA4.out.lt i hi).1) hw43))
          clear hr6 hg6 cP cQ lP lQ HA4 HX4
          go_wp2_with fail
          go_roundw
          case rel => exact ⟨k + 1, more, acc ++ X, by omega, by go_num, HR6, HBW6, HG3, Lib.hid (by rw [List.length_append, HAN.out, HM.out]; exact HLS.out), Lib.hid (.inr HMN.out)⟩
          case measure => simp [intOf]; omega
        · have kI : ¬ (k : Int) < (l.length : Int) := by omega
          have hkE : k = l.length := by omega
          have HDN := Lib.hid (show P.drop k = [] from List.drop_eq_nil_of_le (by rw [HPL.out]; omega))
          rw [HDN.out] at HG2
          have HW5 := Lib.hid (show Below w.heap.size w wr from HW.out.trans (HBW3.out.mono hw3s))
          obtain ⟨r, hr⟩ : ∃ r, l.length - 1 = r := ⟨_, rfl⟩
          have er : (l.length : Int) - 1 = (r : Int) := by omega
          have hrl : r < l.length := by omega
          have rI : (r : Int) < (l.length : Int) := by omega
          have r0I : (0 : Int) ≤ (r : Int) := Int.natCast_nonneg _
          have c4 : wr.cell? ⟨g, r * 16 + 4, none⟩ = some (.bool mo) := by
            rcases HMO.out with h | ⟨h1, h2, h3⟩
            · omega
            · have er2 : k - 1 = r := by omega
              subst er2
              have e := HEL.out.get (k := k - 1) (by rw [HLx.out]; exact hrl) 4 (by omega)
              rw [Nat.zero_add, (HF.out.at (k := k - 1) (by rw [HLx.out]; exact hrl) h1).more, h3] at e
              rw [HKW.out.cell hglt (fun h => h)]
              exact e
          clear hr
          cases mo with
          | true =>
            go_wp2_with fail
            go_ret2
            exact ⟨HW5.out, _, by rw [HG2.out, gat, if_pos rfl, finJ_gap]; rfl, by rw [HG2.out, gat, if_pos rfl, finJ_gap]; exact Row.nil _ _ _⟩
          | false =>
          have HVH5 := Lib.hid (HVH.out.kept HKW.out (fun _ _ h => h))
          have hwr : w.heap.size ≤ wr.heap.size := by omega
          go_upto_region 29 with (first | (show wpList _ _ _ ((⟨_, .load 41 (.tmp 158), _, _, _, none⟩ : Oper) :: _) _ _; refine wpList_load_mid rfl 41 (.tmp 158) rfl g 0 rfl [.int .u8 toh, .int .i64 leh, .int .u16 idh, .bool sth, .bool moh, .int .i64 ofh, .int .u8 tth, .int .u8 prh, .int .u16 smh, .bool false, .int .u64 0, .int .u64 srh, .bool false, .int .u64 0, .int .u64 dsh, .slice OAh nh och] _ HR0.out Try.underlying41 rfl (by kernel_rfl) ?_) | (show wpList _ _ _ ((⟨none, .store 41 (.tmp 15) _, _, _, _, none⟩ : Oper) :: _) _ _; refine wpList_store_mid rfl 41 (.tmp 15) _ rfl wr.heap.size 0 #[.int .u8 toh, .int .i64 leh, .int .u16 idh, .bool sth, .bool moh, .int .i64 ofh, .int .u8 tth, .int .u8 prh, .int .u16 smh, .bool false, .int .u64 0, .int .u64 srh, .bool false, .int .u64 0, .int .u64 dsh, .slice OAh nh och] rfl rfl ((Blk.new wr 41 #[.int .u8 0, .int .i64 0, .int .u16 0, .bool false, .bool false, .int .i64 0, .int .u8 0, .int .u8 0, .int .u16 0, .bool false, .int .u64 0, .int .u64 0, .bool false, .int .u64 0, .int .u64 0, .slice none 0 0]).there rfl) (by kernel_rfl) (by simp [Value.oneCell']) ?_))
          generalize hw4 : (World.setCells _ _ _ _) = w4
          have HH4 := Lib.hid (show Blk w4 wr.heap.size 41 #[.int .u8 toh, .int .i64 leh, .int .u16 idh, .bool sth, .bool moh, .int .i64 ofh, .int .u8 tth, .int .u8 prh, .int .u16 smh, .bool false, .int .u64 0, .int .u64 srh, .bool false, .int .u64 0, .int .u64 dsh, .slice OAh nh och] by rw [← hw4]; exact (Blk.new wr 41 #[.int .u8 0, .int .i64 0, .int .u16 0, .bool false, .bool false, .int .i64 0, .int .u8 0, .int .u8 0, .int .u16 0, .bool false, .int .u64 0, .int .u64 0, .bool false, .int .u64 0, .int .u64 0, .slice none 0 0]).setAll #[.int .u8 toh, .int .i64 leh, .int .u16 idh, .bool sth, .bool moh, .int .i64 ofh, .int .u8 tth, .int .u8 prh, .int .u16 smh, .bool false, .int .u64 0, .int .u64 srh, .bool false, .int .u64 0, .int .u64 dsh, .slice OAh nh och] rfl)
          have HKA := Lib.hid (show Kept (fun i => i = wr.heap.size) (wr.alloc (.cells #[.int .u8 0, .int .i64 0, .int .u16 0, .bool false, .bool false, .int .i64 0, .int .u8 0, .int .u8 0, .int .u16 0, .bool false, .int .u64 0, .int .u64 0, .bool false, .int .u64 0, .int .u64 0, .slice none 0 0] 41)) w4 by rw [← hw4]; exact Kept.setCells (S := fun i => i = wr.heap.size) rfl _ _ (Kept.refl _ _))
          have HKB := Lib.hid (show Kept (fun _ => False) wr w4 from ((Kept.refl _ _).alloc _).then HKA.out (fun i hi e => by omega))
          have HW4 := Lib.hid (show Below w.heap.size w w4 from HW5.out.trans (HKB.out.below hwr (fun _ h => h.elim)))
          have HVH4 := Lib.hid (HVH5.out.kept HKB.out (fun _ _ h => h))
          have HA4 := Lib.hid (HA.out.kept HKB.out (fun _ _ h => h))
          clear hw4 HKA HKB HVH5 HA HW5 c4
          obtain ⟨hb, hhb⟩ : ∃ hb, wr.heap.size = hb := ⟨_, rfl⟩
          rw [hhb] at HH4 hwr ⊢
          clear hhb
          have cB := HH4.out.cell
          have fB := HH4.out.frozen
          have lB := HH4.out.lt
          go_upto_region 31 with fail
          generalize hw6 : World.setCell _ _ _ = w6
          have HH6 := Lib.hid (show Blk w6 hb 41 #[.int .u8 toh, .int .i64 leh, .int .u16 idh, .bool sth, .bool false, .int .i64 0, .int .u8 tth, .int .u8 prh, .int .u16 smh, .bool false, .int .u64 0, .int .u64 srh, .bool false, .int .u64 0, .int .u64 dsh, .slice OAh nh och] by
            rw [← hw6]
            have h1 := HH4.out.set_ 4 (.bool false)
            have h2 := h1.set_ 5 (.int .i64 0)
            simp only [List.setIfInBounds_toArray, List.set_cons_succ, List.set_cons_zero] at h2
            exact h2)
          have HKS := Lib.hid (show Kept (fun i => i = hb) w4 w6 by rw [← hw6]; exact Kept.setIn (S := fun i => i = hb) rfl (Kept.setIn (S := fun i => i = hb) rfl (Kept.refl _ _)))
          have HW6 := Lib.hid (show Below w.heap.size w w6 from HW4.out.trans (HKS.out.below HW4.out.size (fun i e => by rw [e]; exact hwr)))
          have HVH6 := Lib.hid (HVH4.out.kept HKS.out (fun i hi e => HVH4.out.ne HH4.out (by decide) (by rw [hi, e])))
          have HA6 := Lib.hid (HA4.out.kept HKS.out (fun i hi e => HA4.out.ne HH4.out (by decide) (by rw [hi, e])))
          have hw6s : w.heap.size ≤ w6.heap.size := HW6.out.size
          clear hw6 HKS cB fB lB HH4 HVH4 HA4
          go_wp2_with (first | (show wpList _ _ _ ((⟨_, .load 41 (.tmp 15), _, _, _, none⟩ : Oper) :: _) _ _; refine wpList_load_mid rfl 41 (.tmp 15) rfl hb 0 rfl [.int .u8 toh, .int .i64 leh, .int .u16 idh, .bool sth, .bool false, .int .i64 0, .int .u8 tth, .int .u8 prh, .int .u16 smh, .bool false, .int .u64 0, .int .u64 srh, .bool false, .int .u64 0, .int .u64 dsh, .slice OAh nh och] _ HH6.out.range' Try.underlying41 rfl (by kernel_rfl) ?_))
          refine (refPacket_yes toh leh idh sth false 0 tth prh smh srh dsh OAh nh och osh HNH.out h40 h4 ht0 ht1 hi0 hi1 (by omega) hx0 hx1 hp0 hp1 hs0 hs1 hd0 hd1 acc AA an ac HAN.out (by omega) ⟨hoh1, hoh2⟩ (by omega) w6 (HVH6.out.byt.bs_of) (HA6.out.byt.bs_of)).mono ?_
          rintro e w7 ⟨v7, rfl, hr7, hb7⟩
          have HR7 := Lib.hid hr7
          have HW7 := Lib.hid (HW6.out.trans (hb7.mono hw6s))
          clear hr7 hb7
          go_wp2_with fail
          go_ret2
          have hj : joinR l = (0, ((⟨toh, leh, idh, sth, false, 0, tth, prh, smh, srh, dsh, osh⟩ : Hd) : Hd).pkt acc) := by rw [HG2.out]; rfl
          exact ⟨HW7.out, _, by rw [hj]; rfl, by rw [hj]; exact HR7.out.more hw6s⟩
end Go.Proofs.Ytidooohgbiiikaa
