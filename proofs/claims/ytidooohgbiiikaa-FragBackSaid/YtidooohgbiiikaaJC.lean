/- frag.Join, walked. -/
import Derived.Test.YtidooohgbiiikaaJB
namespace Go.Proofs.Ytidooohgbiiikaa
open Go.RowKit
set_option linter.unusedVariables false
set_option maxRecDepth 100000 in
set_option maxHeartbeats 16000000 in
theorem join_any (A : Option Addr) (c : Nat) (l : List (List UInt8)) (w : World) (hl : l.length ≤ 1000) (hs : (l.map List.length).sum ≤ 50000) (hI : Ins w w.heap.size A l) :
    Calls Try.prog 9 #[.slice A l.length c] w (JoinP l w) := by
  have HI := Lib.hid hI
  have HSM := Lib.hid hs
  have hmk := fun W => make_parts l.length W hl
  clear hI hs
  go_enter Try.func9, Try.ntmps9
  go_wp2_with fail
  obtain ⟨w1, hw1⟩ : ∃ w1 : World, w1 = w.alloc (.cells (madeCells #[.int .u8 0, .int .i64 0, .int .u16 0, .bool false, .bool false, .int .i64 0, .int .u8 0, .int .u8 0, .int .u16 0, .bool false, .int .u64 0, .int .u64 0, .bool false, .int .u64 0, .int .u64 0, .slice none 0 0, .slice none 0 0] (l.length * 17)) 54) := ⟨_, rfl⟩
  have HR1 := Lib.hid (show RowN w1 w.heap.size 54 17 (.slice (some ⟨w.heap.size, 0, none⟩) 0 l.length) [] by rw [hw1]; exact ⟨(fun x hx => by cases hx), World.ownsRow_made w _ _ (Nat.le_refl _) (by unfold maxLen; omega) (size_madeCells _ _)⟩)
  have HW1 := Lib.hid (show Below w.heap.size w w1 by rw [hw1]; exact (Below.refl _ _).alloc (Nat.le_refl _) _)
  rw [← hw1]
  clear hw1 hmk
  go_loopw [4, 21] (fun v i wr => ∃ (k : Nat) (L : List (List Value)), k ≤ l.length ∧ i = .int .i64 (k : Int) ∧ Hid (RowN wr w.heap.size 54 17 v L) ∧ Hid (F2 (RP wr w.heap.size) L ((l.take k).map pt)) ∧ Hid (Below w.heap.size w wr) ∧ Hid (∀ b ∈ l.take k, perr b = 0)) (fun _ i _ => l.length - (intOf i).toNat)
  case atStart => exact ⟨0, [], by omega, rfl, HR1, Lib.hid .nil, HW1, Lib.hid (fun b hb => by simp at hb)⟩
  case round =>
    clear HR1 HW1
    obtain ⟨k, L, hk, rfl, HR, HF, HW, HE⟩ := hrel
    obtain ⟨VA, vc, hve, hvc1, hvc2⟩ := HR.out.shape
    have hLk : L.length = k := by rw [HF.out.len, List.length_map, List.length_take]; omega
    rw [hLk] at hve hvc1
    subst hve
    have HLK := Lib.hid hLk
    clear hLk
    by_cases hkl : k < l.length
    · have kI : (k : Int) < (l.length : Int) := by omega
      have k0 : (0 : Int) ≤ (k : Int) := Int.natCast_nonneg _
      obtain ⟨b, o, hb, rfl, hc⟩ : ∃ b off, b < w.heap.size ∧ A = some ⟨b, off, none⟩ ∧ ∀ k (h : k < l.length), ∃ C c, w.cell? ⟨b, off + k, none⟩ = some (.slice C l[k].length c) ∧ l[k].length ≤ c ∧ c ≤ maxLen ∧ BS w w.heap.size C l[k] := by
        rcases HI.out with h | h
        · rw [h] at hkl; simp at hkl
        · exact h
      obtain ⟨C, cc, hcell, hcc1, hcc2, hbs⟩ := hc k hkl
      have hxl : l[k].length ≤ 50000 := Nat.le_trans (len_sum (List.getElem_mem hkl)) HSM.out
      have HSNOC := Lib.hid (show l.take (k + 1) = l.take k ++ [l[k]] from List.take_succ_eq_append_getElem hkl)
      have HJE := Lib.hid (fun (hx : perr l[k] ≠ 0) => joinR_err hkl HE.out hx)
      generalize l[k] = x at hcell hcc1 hbs hxl HSNOC HJE
      have hcell' := (HW.out.cell (p := ⟨b, o + k, none⟩) hb).trans hcell
      have hbr : b < wr.heap.size := Nat.lt_of_lt_of_le hb HW.out.size
      have HXS := Lib.hid (show BS wr wr.heap.size C x from hbs.onB HW.out (Nat.le_refl _))
      have hwr : w.heap.size ≤ wr.heap.size := HW.out.size
      clear hc hcell hbs
      go_wp2_with fail
      refine (parse_any C cc x _ (by omega) ⟨hcc1, hcc2⟩ HXS.out).mono ?_
      rintro e w2 ⟨hb2, ⟨hpe, rfl⟩ | ⟨hpe, v, lv, rfl, hv, hx⟩⟩
      · have HPE := Lib.hid hpe
        have HW2 := Lib.hid (HW.out.trans (hb2.mono hwr))
        clear hpe hb2 hcell'
        obtain ⟨pe, hpe⟩ : ∃ pe, perr x = pe := ⟨_, rfl⟩
        rw [hpe]
        have hpe0 : ¬ pe = 0 := by rw [← hpe]; exact HPE.out
        have hpeb : (pe == 0) = false := by simpa using hpe0
        have HPV := Lib.hid hpe
        clear hpe
        go_upto_region 6 with (show wpList _ _ _ ((⟨none, .store 47 (.tmp 7) _, _, _, _, none⟩ : Oper) :: _) _ _; refine wpList_store_mid rfl 47 (.tmp 7) _ rfl w2.heap.size 0 #[.int .u8 0, .int .i64 0, .int .u16 0, .bool false, .bool false, .int .i64 0, .int .u8 0, .int .u8 0, .int .u16 0, .bool false, .int .u64 0, .int .u64 0, .bool false, .int .u64 0, .int .u64 0, .slice none 0 0] rfl rfl ((Blk.new w2 47 #[.int .u8 0, .int .i64 0, .int .u16 0, .bool false, .bool false, .int .i64 0, .int .u8 0, .int .u8 0, .int .u16 0, .bool false, .int .u64 0, .int .u64 0, .bool false, .int .u64 0, .int .u64 0, .slice none 0 0]).there rfl) (by kernel_rfl) (by simp [Value.oneCell']) ?_)
        generalize hw3 : (World.setCells _ _ _ _) = w3
        have HKA := Lib.hid (show Kept (fun i => i = w2.heap.size) (w2.alloc (.cells #[.int .u8 0, .int .i64 0, .int .u16 0, .bool false, .bool false, .int .i64 0, .int .u8 0, .int .u8 0, .int .u16 0, .bool false, .int .u64 0, .int .u64 0, .bool false, .int .u64 0, .int .u64 0, .slice none 0 0] 47)) w3 by rw [← hw3]; exact Kept.setCells (S := fun i => i = w2.heap.size) rfl _ _ (Kept.refl _ _))
        have HW3 := Lib.hid (show Below w.heap.size w w3 from HW2.out.trans ((show Kept (fun _ => False) w2 w3 from ((Kept.refl _ _).alloc _).then HKA.out (fun i hi e => by omega)).below HW2.out.size (fun _ h => h.elim)))
        clear hw3 HKA
        go_wp2_with fail
        go_ret2
        have hj := HJE.out HPE.out
        exact ⟨HW3.out, _, by rw [hj, HPV.out]; rfl, by rw [hj]; exact Row.nil _ _ _⟩
      have HOK := Lib.hid (okPt hpe)
      have HB2 := Lib.hid hb2
      have HPE := Lib.hid hpe
      obtain ⟨hd, hhd⟩ : ∃ hd, phd x = hd := ⟨_, rfl⟩
      obtain ⟨X, hX⟩ : ∃ X, pld x = X := ⟨_, rfl⟩
      have hwf : hd.wf := by rw [← hhd]; exact HOK.out.wf
      have HPT := Lib.hid (show pt x = ⟨hd, X⟩ by unfold pt; rw [hhd, hX])
      rw [hhd] at hv ⊢
      rw [hX] at hx
      clear hpe hb2 hhd hX HJE hcell'
      obtain ⟨OA, oc, hve, hoc1, hoc2⟩ := hv.shape
      obtain ⟨LA, lc, hxe, hxc1, hxc2⟩ := hx.shape
      obtain ⟨tos, len, id, stay, more, off, ttl, pr, sm, src, dst, os⟩ := hd
      obtain ⟨t0, t1, i0, i1, o0, o1, x0, x1, p0, p1, q0, q1, s0, s1, d0, d1, n0, n1, n40, n4⟩ := hwf
      simp only at t0 t1 i0 i1 o0 o1 x0 x1 p0 p1 q0 q1 s0 s1 d0 d1 n0 n1 n40 n4
      obtain ⟨n, hn⟩ : ∃ n, os.length = n := ⟨_, rfl⟩
      obtain ⟨m, hm⟩ : ∃ m, X.length = m := ⟨_, rfl⟩
      rw [bcs_length] at hve hxe hoc1 hxc1
      simp only at hve hoc1 hv
      rw [hn] at hve hoc1 n40 n4
      rw [hm] at hxe hxc1
      subst hve hxe
      have HV := Lib.hid (hv.more hwr)
      have HX := Lib.hid (hx.more hwr)
      have HN := Lib.hid hn
      have HM := Lib.hid hm
      clear hv hx hn hm
      simp only [Hd.cells]
      go_upto_region 6 with (show wpList _ _ _ ((⟨none, .store 47 (.tmp 7) _, _, _, _, none⟩ : Oper) :: _) _ _; refine wpList_store_mid rfl 47 (.tmp 7) _ rfl w2.heap.size 0 #[.int .u8 tos, .int .i64 len, .int .u16 id, .bool stay, .bool more, .int .i64 off, .int .u8 ttl, .int .u8 pr, .int .u16 sm, .bool false, .int .u64 0, .int .u64 src, .bool false, .int .u64 0, .int .u64 dst, .slice OA n oc] rfl rfl ((Blk.new w2 47 #[.int .u8 0, .int .i64 0, .int .u16 0, .bool false, .bool false, .int .i64 0, .int .u8 0, .int .u8 0, .int .u16 0, .bool false, .int .u64 0, .int .u64 0, .bool false, .int .u64 0, .int .u64 0, .slice none 0 0]).there rfl) (by kernel_rfl) (by simp [Value.oneCell']) ?_)
      generalize hw3 : (World.setCells _ _ _ _) = w5
      have HH := Lib.hid (show Blk w5 w2.heap.size 47 #[.int .u8 tos, .int .i64 len, .int .u16 id, .bool stay, .bool more, .int .i64 off, .int .u8 ttl, .int .u8 pr, .int .u16 sm, .bool false, .int .u64 0, .int .u64 src, .bool false, .int .u64 0, .int .u64 dst, .slice OA n oc] by rw [← hw3]; exact (Blk.new w2 47 #[.int .u8 0, .int .i64 0, .int .u16 0, .bool false, .bool false, .int .i64 0, .int .u8 0, .int .u8 0, .int .u16 0, .bool false, .int .u64 0, .int .u64 0, .bool false, .int .u64 0, .int .u64 0, .slice none 0 0]).setAll #[.int .u8 tos, .int .i64 len, .int .u16 id, .bool stay, .bool more, .int .i64 off, .int .u8 ttl, .int .u8 pr, .int .u16 sm, .bool false, .int .u64 0, .int .u64 src, .bool false, .int .u64 0, .int .u64 dst, .slice OA n oc] rfl)
      have HKA := Lib.hid (show Kept (fun i => i = w2.heap.size) (w2.alloc (.cells #[.int .u8 0, .int .i64 0, .int .u16 0, .bool false, .bool false, .int .i64 0, .int .u8 0, .int .u8 0, .int .u16 0, .bool false, .int .u64 0, .int .u64 0, .bool false, .int .u64 0, .int .u64 0, .slice none 0 0] 47)) w5 by rw [← hw3]; exact Kept.setCells (S := fun i => i = w2.heap.size) rfl _ _ (Kept.refl _ _))
      have HKB := Lib.hid (show Kept (fun _ => False) w2 w5 from ((Kept.refl _ _).alloc _).then HKA.out (fun i hi e => by omega))
      have HKC := Lib.hid (show Kept (fun _ => False) wr w5 from (Kept.ofB HB2.out).trans HKB.out)
      have HW5 := Lib.hid (show Below w.heap.size w w5 from HW.out.trans (HKC.out.below hwr (fun _ h => h.elim)))
      have HV5 := Lib.hid (HV.out.kept HKB.out (fun _ _ h => h))
      have HX5 := Lib.hid (HX.out.kept HKB.out (fun _ _ h => h))
      have HR5 := Lib.hid (HR.out.kept HKC.out (fun _ _ h => h))
      have HF5 := Lib.hid (show F2 (RP w5 w.heap.size) L ((l.take k).map pt) from HF.out.imp (fun a b h => h.kept0 HKC.out))
      have hw5 : w.heap.size ≤ w5.heap.size := HW5.out.size
      clear hw3 HKA HV HX HR HF HW HKB HKC
      obtain ⟨ht, hht⟩ : ∃ ht, w2.heap.size = ht := ⟨_, rfl⟩
      rw [hht] at HH ⊢
      clear hht
      have hinf := Try.info54r
      go_upto_region 9 with (first | (show wpList _ _ _ ((⟨_, .load 47 (.tmp 7), _, _, _, none⟩ : Oper) :: _) _ _; refine wpList_load_mid rfl 47 (.tmp 7) rfl ht 0 rfl [.int .u8 tos, .int .i64 len, .int .u16 id, .bool stay, .bool more, .int .i64 off, .int .u8 ttl, .int .u8 pr, .int .u16 sm, .bool false, .int .u64 0, .int .u64 src, .bool false, .int .u64 0, .int .u64 dst, .slice OA n oc] _ HH.out.range' Try.underlying47 rfl (by kernel_rfl) ?_) | (at_builtin; refine wpList_append_rowN rfl (.tmp 34) (.tmp 38) 52 rfl w.heap.size 54 (.agg #[.int .u8 0, .int .i64 0, .int .u16 0, .bool false, .bool false, .int .i64 0, .int .u8 0, .int .u8 0, .int .u16 0, .bool false, .int .u64 0, .int .u64 0, .bool false, .int .u64 0, .int .u64 0, .slice none 0 0, .slice none 0 0]) 17 136 Try.underlying52 hinf rfl (by omega) _ L rfl (some ⟨w5.heap.size, 0, none⟩) 1 1 [[.int .u8 tos, .int .i64 len, .int .u16 id, .bool stay, .bool more, .int .i64 off, .int .u8 ttl, .int .u8 pr, .int .u16 sm, .bool false, .int .u64 0, .int .u64 src, .bool false, .int .u64 0, .int .u64 dst, .slice OA n oc, .slice LA m lc]] rfl rfl (HR5.out.alloc _) (by simp) (Src.blk (Blk.new _ _ _) rfl) ?a2 ?a3 ?a4 ?a5 ?_))
      case a2 => simp [Value.oneCell']
      case a3 => simp [HLK.out]; unfold maxLen; omega
      case a4 => simp [HLK.out]; omega
      case a5 => simp; omega
      intro v6 w6 hr6 hg6 _
      have HR6 := Lib.hid hr6
      have HF6 := Lib.hid (show F2 (RP w6 w.heap.size) (L ++ [[.int .u8 tos, .int .i64 len, .int .u16 id, .bool stay, .bool more, .int .i64 off, .int .u8 ttl, .int .u8 pr, .int .u16 sm, .bool false, .int .u64 0, .int .u64 src, .bool false, .int .u64 0, .int .u64 dst, .slice OA n oc, .slice LA m lc]]) ((l.take (k + 1)).map pt) by
        rw [HSNOC.out, List.map_append]
        refine F2.append (HF5.out.imp fun a b h => (h.kept0 ((Kept.refl _ _).alloc _)).grown (HR5.out.alloc _) hg6) (.one ?_)
        rw [HPT.out]
        refine RP.grown (w := w5.alloc _) ⟨_, _, rfl, HV5.out.alloc _, HX5.out.alloc _⟩ (HR5.out.alloc _) hg6)
      have HW6 := Lib.hid (show Below w.heap.size w w6 from (HW5.out.alloc hw5 _).trans (below_grown hg6 (fun i hi => (HR5.out.lt i hi).1) (by simp; omega)))
      have HE6 := Lib.hid (show ∀ b ∈ l.take (k + 1), perr b = 0 by
        rw [HSNOC.out]
        intro b hb
        rcases List.mem_append.1 hb with h | h
        · exact HE.out b h
        · rw [List.mem_singleton.1 h]; exact HPE.out)
      clear hr6 hg6 HR5 HF5 HW5 HV5 HX5 HH
      go_wp2_with fail
      go_roundw
      case rel => exact ⟨k + 1, _, by omega, by go_num, HR6, HF6, HW6, HE6⟩
      case measure => simp [intOf]; omega
    · have kI : ¬ (k : Int) < (l.length : Int) := by omega
      have hkE : k = l.length := by omega
      rw [hkE, List.take_length] at HF HE
      have HJ := Lib.hid (joinR_all HE.out)
      subst hkE
      by_cases hl0 : l = []
      · subst hl0
        have hj : joinR [] = (6, []) := rfl
        go_wp2_with fail
        go_ret2
        exact ⟨HW.out, _, by rw [hj]; rfl, by rw [hj]; exact Row.nil _ _ _⟩
      have hn0 : 0 < l.length := List.length_pos_iff.2 hl0
      obtain ⟨g, gc, hve, hgb, hglt, -⟩ := HR.out.at (i := 0) (by rw [HLK.out]; exact hn0)
      injection hve with hve1 hve2 hve3
      subst hve1
      have HGOOD := Lib.hid (show ∀ x ∈ L, Good x from fun x hx => by obtain ⟨b, hb⟩ := HF.out.left hx; exact hb.good)
      have HPR0 := Lib.hid (PR.of_row HR.out HGOOD.out).1
      have HGB := Lib.hid hgb
      obtain ⟨P, hP⟩ : ∃ P, isort poff (l.map pt) = P := ⟨_, rfl⟩
      have hPl : P.length = l.length := by rw [← hP, isort_length, List.length_map]
      have HPP := Lib.hid hP
      have HOKP := Lib.hid (show ∀ p ∈ P, OkPt p by rw [← hP]; exact okPt_isort HE.out)
      have HLD := Lib.hid (show lds P ≤ 50000 by rw [← hP, lds_isort]; exact Nat.le_trans (lds_le l) HSM.out)
      rw [hP] at HJ
      have HPL := Lib.hid hPl
      have hn1 : ¬ (l.length : Int) = 0 := by omega
      have hnb : ((l.length : Int) == 0) = false := by simpa using hn1
      have h0P : 0 < P.length := by rw [hPl]; exact hn0
      have n0I : (0 : Int) < (l.length : Int) := by omega
      have HWr := HW
      clear hl0 hve2 hve3 hgb hP hPl HGOOD HW
      go_wp2_with fail
      refine (sort_any g l.length vc _ wr (by omega) HPR0.out).mono ?_
      rintro e w2 ⟨rfl, f, hp, hk, hsg⟩
      have HP := Lib.hid hp
      have HFS := Lib.hid (show F2 (RP w2 w.heap.size) (seg f 0 l.length) P by
        obtain ⟨cur, hbk, -, -⟩ := HPR0.out.blk
        have hsl := seg_list (L := L)
        rw [HLK.out] at hsl
        rw [hsg, hsl, ← HPP.out]
        exact F2.isort (fun a b h => h.key) (HF.out.imp fun a b h => h.kept hk hbk))
      have HW2 := Lib.hid (show Below w.heap.size w w2 from HWr.out.trans (hk.below HWr.out.size (fun i e => by rw [e]; exact HGB.out)))
      have hw2 : w.heap.size ≤ w2.heap.size := HW2.out.size
      clear hp hk hsg HF HR HPR0 HWr
      obtain ⟨vh, lvh, hx0, hvh, -⟩ := HFS.out.seg (k := 0) hn0 h0P
      have HRG := Lib.hid (HP.out.range hn0)
      rw [hx0, Nat.zero_mul] at HRG
      have HGT := Lib.hid (joinS_at h0P)
      rw [← HJ.out] at HGT
      have HOK0 := Lib.hid (HOKP.out _ (List.getElem_mem h0P))
      obtain ⟨hd, hhd⟩ : ∃ hd, P[0].hd = hd := ⟨_, rfl⟩
      rw [hhd] at HGT hvh
      have hcl : (P[0].hd.cells vh).toList = (hd.cells vh).toList := by rw [hhd]
      rw [hcl] at HRG
      have hwf := HOK0.out.wf
      have hof := HOK0.out.o1
      rw [hhd] at hwf hof
      clear hx0 hhd hcl HJ
      obtain ⟨toh, leh, idh, sth, moh, ofh, tth, prh, smh, srh, dsh, osh⟩ := hd
      obtain ⟨ht0, ht1, hi0, hi1, ho0, ho1, hx0, hx1, hp0, hp1, hq0, hq1, hs0, hs1, hd0, hd1, hn0', hn1', h40, h4⟩ := hwf
      simp only at hvh hof ht0 ht1 hi0 hi1 ho0 ho1 hx0 hx1 hp0 hp1 hq0 hq1 hs0 hs1 hd0 hd1 hn0' hn1' h40 h4
      obtain ⟨OAh, och, hve, hoh1, hoh2⟩ := hvh.shape
      obtain ⟨nh, hnh⟩ : ∃ nh, osh.length = nh := ⟨_, rfl⟩
      rw [bcs_length, hnh] at hve hoh1
      rw [hnh] at h40 h4
      subst hve
      have HVH := Lib.hid hvh
      have HNH := Lib.hid hnh
      have HRH := Lib.hid (show w2.rangeAt g 0 [.int .u8 toh, .int .i64 leh, .int .u16 idh, .bool sth, .bool moh, .int .i64 ofh, .int .u8 tth, .int .u8 prh, .int .u16 smh, .bool false, .int .u64 0, .int .u64 srh, .bool false, .int .u64 0, .int .u64 dsh, .slice OAh nh och] from range_pre HRG.out)
      have glt := HP.out.lt
      clear hvh hnh HRG
      go_upto_region 14 with (first | (show wpList _ _ _ ((⟨_, .load 47 (.tmp 48), _, _, _, none⟩ : Oper) :: _) _ _; refine wpList_load_mid rfl 47 (.tmp 48) rfl g 0 rfl [.int .u8 toh, .int .i64 leh, .int .u16 idh, .bool sth, .bool moh, .int .i64 ofh, .int .u8 tth, .int .u8 prh, .int .u16 smh, .bool false, .int .u64 0, .int .u64 srh, .bool false, .int .u64 0, .int .u64 dsh, .slice OAh nh och] _ HRH.out Try.underlying47 rfl (by kernel_rfl) ?_) | (show wpList _ _ _ ((⟨none, .store 47 (.tmp 10) _, _, _, _, none⟩ : Oper) :: _) _ _; refine wpList_store_mid rfl 47 (.tmp 10) _ rfl w2.heap.size 0 #[.int .u8 toh, .int .i64 leh, .int .u16 idh, .bool sth, .bool moh, .int .i64 ofh, .int .u8 tth, .int .u8 prh, .int .u16 smh, .bool false, .int .u64 0, .int .u64 srh, .bool false, .int .u64 0, .int .u64 dsh, .slice OAh nh och] rfl rfl ((Blk.new w2 47 #[.int .u8 0, .int .i64 0, .int .u16 0, .bool false, .bool false, .int .i64 0, .int .u8 0, .int .u8 0, .int .u16 0, .bool false, .int .u64 0, .int .u64 0, .bool false, .int .u64 0, .int .u64 0, .slice none 0 0]).there rfl) (by kernel_rfl) (by simp [Value.oneCell']) ?_))
      generalize hw3 : (World.setCells _ _ _ _) = w3
      have HH0 := Lib.hid (show Blk w3 w2.heap.size 47 #[.int .u8 toh, .int .i64 leh, .int .u16 idh, .bool sth, .bool moh, .int .i64 ofh, .int .u8 tth, .int .u8 prh, .int .u16 smh, .bool false, .int .u64 0, .int .u64 srh, .bool false, .int .u64 0, .int .u64 dsh, .slice OAh nh och] by rw [← hw3]; exact (Blk.new w2 47 #[.int .u8 0, .int .i64 0, .int .u16 0, .bool false, .bool false, .int .i64 0, .int .u8 0, .int .u8 0, .int .u16 0, .bool false, .int .u64 0, .int .u64 0, .bool false, .int .u64 0, .int .u64 0, .slice none 0 0]).setAll #[.int .u8 toh, .int .i64 leh, .int .u16 idh, .bool sth, .bool moh, .int .i64 ofh, .int .u8 tth, .int .u8 prh, .int .u16 smh, .bool false, .int .u64 0, .int .u64 srh, .bool false, .int .u64 0, .int .u64 dsh, .slice OAh nh och] rfl)
      have HKA := Lib.hid (show Kept (fun i => i = w2.heap.size) (w2.alloc (.cells #[.int .u8 0, .int .i64 0, .int .u16 0, .bool false, .bool false, .int .i64 0, .int .u8 0, .int .u8 0, .int .u16 0, .bool false, .int .u64 0, .int .u64 0, .bool false, .int .u64 0, .int .u64 0, .slice none 0 0] 47)) w3 by rw [← hw3]; exact Kept.setCells (S := fun i => i = w2.heap.size) rfl _ _ (Kept.refl _ _))
      have HKB := Lib.hid (show Kept (fun _ => False) w2 w3 from ((Kept.refl _ _).alloc _).then HKA.out (fun i hi e => by omega))
      have HW3 := Lib.hid (show Below w.heap.size w w3 from HW2.out.trans (HKB.out.below hw2 (fun _ h => h.elim)))
      have hw3s : w.heap.size ≤ w3.heap.size := HW3.out.size
      have HVH3 := Lib.hid (HVH.out.kept HKB.out (fun _ _ h => h))
      have HP3 := Lib.hid (HP.out.kept HKB.out (fun h => h))
      have HFS3 := Lib.hid (show F2 (RP w3 w.heap.size) (seg f 0 l.length) P from HFS.out.imp (fun a b h => h.kept0 HKB.out))
      have hbl : w2.heap.size < w3.heap.size := HH0.out.lt
      clear hw3 HKA HKB HRH HVH HP HFS HW2 glt
      obtain ⟨hb, hhb⟩ : ∃ hb, w2.heap.size = hb := ⟨_, rfl⟩
      rw [hhb] at HH0 hbl ⊢
      have HBW := Lib.hid (show w.heap.size ≤ hb by omega)
      clear hhb hw2
      go_wp2_with fail
      go_loopw [11, 12, 52] (fun x y i wr => ∃ (k : Nat) (mo : Bool) (acc : List UInt8), k ≤ l.length ∧ x = .bool mo ∧ i = .int .i64 (k : Int) ∧ Hid (Row wr w3.heap.size 5 y (bcs acc)) ∧ Hid (Below w3.heap.size w3 wr) ∧ Hid (joinR l = finJ (⟨toh, leh, idh, sth, moh, ofh, tth, prh, smh, srh, dsh, osh⟩ : Hd) (gat (⟨toh, leh, idh, sth, moh, ofh, tth, prh, smh, srh, dsh, osh⟩ : Hd) (P.drop k) mo acc)) ∧ Hid (acc.length + lds (P.drop k) ≤ 50000)) (fun _ _ i _ => l.length - (intOf i).toNat)
      case atStart => exact ⟨0, true, [], by omega, rfl, rfl, Lib.hid (Row.nil _ _ _), Lib.hid (Below.refl _ _), Lib.hid HGT.out, Lib.hid (by simpa using HLD.out)⟩
      case round =>
        clear HGT
        obtain ⟨k, mo, acc, hk, rfl, rfl, HA, HBW3, HG, HLN⟩ := hrel
        have HKW := Lib.hid (show Kept (fun _ => False) w3 wr from Kept.ofB HBW3.out)
        have hwr3 : w3.heap.size ≤ wr.heap.size := HBW3.out.size
        obtain ⟨AA, ac, hae, hac1, hac2⟩ := HA.out.shape
        rw [bcs_length] at hae hac1
        have HAL := Lib.hid HLN.out
        obtain ⟨an, han⟩ : ∃ an, acc.length = an := ⟨_, rfl⟩
        rw [han] at hae hac1
        subst hae
        have HAN := Lib.hid han
        have han5 : an ≤ 50000 := by have := HLN.out; omega
        clear han
        by_cases hkl : k < l.length
        · have kI : (k : Int) < (l.length : Int) := by omega
          have k0 : (0 : Int) ≤ (k : Int) := Int.natCast_nonneg _
          have hkP : k < P.length := by rw [HPL.out]; exact hkl
          have HPr := Lib.hid (HP3.out.kept HKW.out (fun h => h))
          have HFr := Lib.hid (show F2 (RP wr w.heap.size) (seg f 0 l.length) P from HFS3.out.imp (fun a b h => h.kept0 HKW.out))
          obtain ⟨v, lv, hxk, hv, hx⟩ := HFr.out.seg (k := k) hkl hkP
          have HRG := Lib.hid (HPr.out.range hkl)
          rw [hxk] at HRG
          have HDR := Lib.hid (show P.drop k = P[k] :: P.drop (k + 1) from List.drop_eq_getElem_cons hkP)
          have HOK := Lib.hid (HOKP.out _ (List.getElem_mem hkP))
          generalize P[k] = pk at hv hx HRG HDR HOK
          obtain ⟨hd, X⟩ := pk
          have hwf := HOK.out.wf
          have hof8 := HOK.out.o1
          simp only at hwf hof8 hv hx HRG
          obtain ⟨tos, len, id, stay, more, off, ttl, pr, sm, src, dst, os⟩ := hd
          obtain ⟨t0, t1, i0, i1, o0, o1, x0, x1, p0, p1, q0, q1, s0, s1, d0, d1, n0, n1, n40, n4⟩ := hwf
          simp only at t0 t1 i0 i1 o0 o1 x0 x1 p0 p1 q0 q1 s0 s1 d0 d1 n0 n1 n40 n4
          obtain ⟨OA, oc, hve, hoc1, hoc2⟩ := hv.shape
          obtain ⟨LA, lc, hxe, hxc1, hxc2⟩ := hx.shape
          obtain ⟨n, hn⟩ : ∃ n, os.length = n := ⟨_, rfl⟩
          obtain ⟨m, hm⟩ : ∃ m, X.length = m := ⟨_, rfl⟩
          simp only at hof8 hv
          rw [bcs_length, hn] at hve hoc1
          rw [bcs_length, hm] at hxe hxc1
          rw [hn] at n40 n4
          subst hve hxe
          have HX := Lib.hid hx
          have HM := Lib.hid hm
          have HRP := Lib.hid (show wr.rangeAt g (k * 17) [.int .u8 tos, .int .i64 len, .int .u16 id, .bool stay, .bool more, .int .i64 off, .int .u8 ttl, .int .u8 pr, .int .u16 sm, .bool false, .int .u64 0, .int .u64 src, .bool false, .int .u64 0, .int .u64 dst, .slice OA n oc, .slice LA m lc] from HRG.out)
          have HLS := Lib.hid (show an + m + lds (P.drop (k + 1)) ≤ 50000 by have := HLN.out; rw [HDR.out, lds_cons, HAN.out] at this; simp only [hm] at this; omega)
          have hms : an + m ≤ 50000 := by have := HLS.out; omega
          have glt := HPr.out.lt
          rw [HDR.out] at HG
          clear hxk hv hx hm hn HRG HLN HAL HPr HFr
          go_upto_region 19 with (first | (show wpList _ _ _ ((⟨_, .load 54 (.tmp 54), _, _, _, none⟩ : Oper) :: _) _ _; refine wpList_load_mid rfl 54 (.tmp 54) rfl g (k * 17) rfl [.int .u8 tos, .int .i64 len, .int .u16 id, .bool stay, .bool more, .int .i64 off, .int .u8 ttl, .int .u8 pr, .int .u16 sm, .bool false, .int .u64 0, .int .u64 src, .bool false, .int .u64 0, .int .u64 dst, .slice OA n oc, .slice LA m lc] _ HRP.out Try.underlying54 rfl (by kernel_rfl) ?_) | (show wpList _ _ _ ((⟨none, .store 54 (.tmp 14) _, _, _, _, none⟩ : Oper) :: _) _ _; refine wpList_store_mid rfl 54 (.tmp 14) _ rfl wr.heap.size 0 #[.int .u8 tos, .int .i64 len, .int .u16 id, .bool stay, .bool more, .int .i64 off, .int .u8 ttl, .int .u8 pr, .int .u16 sm, .bool false, .int .u64 0, .int .u64 src, .bool false, .int .u64 0, .int .u64 dst, .slice OA n oc, .slice LA m lc] rfl rfl ((Blk.new wr 54 #[.int .u8 0, .int .i64 0, .int .u16 0, .bool false, .bool false, .int .i64 0, .int .u8 0, .int .u8 0, .int .u16 0, .bool false, .int .u64 0, .int .u64 0, .bool false, .int .u64 0, .int .u64 0, .slice none 0 0, .slice none 0 0]).there rfl) (by kernel_rfl) (by simp [Value.oneCell']) ?_))
          generalize hw4 : (World.setCells _ _ _ _) = w4
          have HB4 := Lib.hid (show Blk w4 wr.heap.size 54 #[.int .u8 tos, .int .i64 len, .int .u16 id, .bool stay, .bool more, .int .i64 off, .int .u8 ttl, .int .u8 pr, .int .u16 sm, .bool false, .int .u64 0, .int .u64 src, .bool false, .int .u64 0, .int .u64 dst, .slice OA n oc, .slice LA m lc] by rw [← hw4]; exact (Blk.new wr 54 #[.int .u8 0, .int .i64 0, .int .u16 0, .bool false, .bool false, .int .i64 0, .int .u8 0, .int .u8 0, .int .u16 0, .bool false, .int .u64 0, .int .u64 0, .bool false, .int .u64 0, .int .u64 0, .slice none 0 0, .slice none 0 0]).setAll #[.int .u8 tos, .int .i64 len, .int .u16 id, .bool stay, .bool more, .int .i64 off, .int .u8 ttl, .int .u8 pr, .int .u16 sm, .bool false, .int .u64 0, .int .u64 src, .bool false, .int .u64 0, .int .u64 dst, .slice OA n oc, .slice LA m lc] rfl)
          have HKA := Lib.hid (show Kept (fun i => i = wr.heap.size) (wr.alloc (.cells #[.int .u8 0, .int .i64 0, .int .u16 0, .bool false, .bool false, .int .i64 0, .int .u8 0, .int .u8 0, .int .u16 0, .bool false, .int .u64 0, .int .u64 0, .bool false, .int .u64 0, .int .u64 0, .slice none 0 0, .slice none 0 0] 54)) w4 by rw [← hw4]; exact Kept.setCells (S := fun i => i = wr.heap.size) rfl _ _ (Kept.refl _ _))
          have HKB := Lib.hid (show Kept (fun _ => False) wr w4 from ((Kept.refl _ _).alloc _).then HKA.out (fun i hi e => by omega))
          have HH4 := Lib.hid ((HH0.out.kept HKW.out (fun h => h)).kept HKB.out (fun h => h))
          have HA4 := Lib.hid (HA.out.kept HKB.out (fun _ _ h => h))
          have HX4 := Lib.hid (HX.out.kept HKB.out (fun _ _ h => h))
          have HBW4 := Lib.hid (show Below w3.heap.size w3 w4 from HBW3.out.trans (HKB.out.below hwr3 (fun _ h => h.elim)))
          have hw43 : w3.heap.size ≤ w4.heap.size := HBW4.out.size
          clear hw4 HKA HKB HA HX HKW HRP glt HBW3
          obtain ⟨pb, hpb⟩ : ∃ pb, wr.heap.size = pb := ⟨_, rfl⟩
          rw [hpb] at HB4 ⊢
          clear hpb hwr3
          have cB := HB4.out.cell
          have lB := HB4.out.lt
          go_wp2_with (first | (show wpList _ _ _ ((⟨_, .load 47 (.tmp 60), _, _, _, none⟩ : Oper) :: _) _ _; refine wpList_load_mid rfl 47 (.tmp 60) rfl pb 0 rfl [.int .u8 tos, .int .i64 len, .int .u16 id, .bool stay, .bool more, .int .i64 off, .int .u8 ttl, .int .u8 pr, .int .u16 sm, .bool false, .int .u64 0, .int .u64 src, .bool false, .int .u64 0, .int .u64 dst, .slice OA n oc] _ (range_pre (ys := [.slice LA m lc]) HB4.out.range') Try.underlying47 rfl (by kernel_rfl) ?_) | (show wpList _ _ _ ((⟨_, .load 47 (.tmp 10), _, _, _, none⟩ : Oper) :: _) _ _; refine wpList_load_mid rfl 47 (.tmp 10) rfl hb 0 rfl [.int .u8 toh, .int .i64 leh, .int .u16 idh, .bool sth, .bool moh, .int .i64 ofh, .int .u8 tth, .int .u8 prh, .int .u16 smh, .bool false, .int .u64 0, .int .u64 srh, .bool false, .int .u64 0, .int .u64 dsh, .slice OAh nh och] _ HH4.out.range' Try.underlying47 rfl (by kernel_rfl) ?_))
          refine (kin_any (⟨tos, len, id, stay, more, off, ttl, pr, sm, src, dst, os⟩ : Hd) (⟨toh, leh, idh, sth, moh, ofh, tth, prh, smh, srh, dsh, osh⟩ : Hd) (.slice OA n oc) (.slice OAh nh och) _).mono ?_
          rintro e w5 ⟨rfl, hk5⟩
          have HB5 := Lib.hid (HB4.out.kept hk5 (fun h => h))
          have HA5 := Lib.hid (HA4.out.kept hk5 (fun _ _ h => h))
          have HX5 := Lib.hid (HX4.out.kept hk5 (fun _ _ h => h))
          have HBW5 := Lib.hid (show Below w3.heap.size w3 w5 from HBW4.out.trans (hk5.below hw43 (fun _ h => h.elim)))
          have HW5 := Lib.hid (show Below w.heap.size w w5 from HW3.out.trans (HBW5.out.mono hw3s))
          have hw53 : w3.heap.size ≤ w5.heap.size := HBW5.out.size
          clear hk5 cB lB HB4 HA4 HX4 HH4 HBW4 hw43
          have cB := HB5.out.cell
          have lB := HB5.out.lt
          obtain ⟨q, hq⟩ : ∃ q, kinB (⟨tos, len, id, stay, more, off, ttl, pr, sm, src, dst, os⟩ : Hd) (⟨toh, leh, idh, sth, moh, ofh, tth, prh, smh, srh, dsh, osh⟩ : Hd) = q := ⟨_, rfl⟩
          have HQ := Lib.hid hq
          rw [hq]
          clear hq
          cases q with
          | false =>
            go_wp2_with fail
            go_ret2
            exact ⟨HW5.out, _, by rw [HG.out, gat_bad (.inl HQ.out), finJ_bad]; rfl, by rw [HG.out, gat_bad (.inl HQ.out), finJ_bad]; exact Row.nil _ _ _⟩
          | true =>
          by_cases c1 : 8 * off < (an : Int)
          · have HC1 := Lib.hid (show 8 * off < ((acc.length : Nat) : Int) by rw [HAN.out]; exact c1)
            go_wp2_with fail
            go_ret2
            exact ⟨HW5.out, _, by rw [HG.out, gat_bad (.inr (.inl HC1.out)), finJ_bad]; rfl, by rw [HG.out, gat_bad (.inr (.inl HC1.out)), finJ_bad]; exact Row.nil _ _ _⟩
          cases mo with
          | false =>
            go_wp2_with fail
            go_ret2
            exact ⟨HW5.out, _, by rw [HG.out, gat_bad (.inr (.inr rfl)), finJ_bad]; rfl, by rw [HG.out, gat_bad (.inr (.inr rfl)), finJ_bad]; exact Row.nil _ _ _⟩
          | true =>
          by_cases c2 : (an : Int) < 8 * off
          · have HC2 := Lib.hid (show ((acc.length : Nat) : Int) < 8 * off by rw [HAN.out]; exact c2)
            go_wp2_with fail
            go_ret2
            exact ⟨HW5.out, _, by rw [HG.out, gat_gap HQ.out rfl HC2.out, finJ_gap]; rfl, by rw [HG.out, gat_gap HQ.out rfl HC2.out, finJ_gap]; exact Row.nil _ _ _⟩
          have HG2 := Lib.hid (show joinR l = finJ (⟨toh, leh, idh, sth, moh, ofh, tth, prh, smh, srh, dsh, osh⟩ : Hd) (gat (⟨toh, leh, idh, sth, moh, ofh, tth, prh, smh, srh, dsh, osh⟩ : Hd) (P.drop (k + 1)) more (acc ++ X)) by
            rw [HG.out, gat_on HQ.out rfl (by rw [HAN.out]; show (an : Int) = 8 * off; omega)])
          have h5 := Try.info5r
          go_wp2_with (at_builtin; refine wpList_append_row rfl (.tmp 79) (.tmp 81) 22 rfl w3.heap.size 5 (.int .u8 0) 1 Try.underlying22 h5 rfl _ (bcs acc) rfl LA m lc (bcs X) rfl ?a0 HA5.out HX5.out.byt.bs_of.src (bcs_one _) ?a3 ?a4 hw53 ?_)
          case a0 => rw [bcs_length, HM.out]
          case a3 => rw [bcs_length, bcs_length, HM.out, HAN.out]; unfold maxLen; omega
          case a4 => rw [bcs_length, bcs_length, HM.out, HAN.out]; omega
          intro v6 w6 hr6 hg6 _
          have HR6 := Lib.hid (show Row w6 w3.heap.size 5 v6 (bcs (acc ++ X)) by rw [bcs_append]; exact hr6)
          have HB6 := Lib.hid (show Blk w6 pb 54 #[.int .u8 tos, .int .i64 len, .int .u16 id, .bool stay, .bool more, .int .i64 off, .int .u8 ttl, .int .u8 pr, .int .u16 sm, .bool false, .int .u64 0, .int .u64 src, .bool false, .int .u64 0, .int .u64 dst, .slice OA n oc, .slice LA m lc] from (hg6.block pb lB (fun e => HA5.out.ne HB5.out (by decide) e.symm)).trans HB5.out)
          have HBW6 := Lib.hid (show Below w3.heap.size w3 w6 from HBW5.out.trans (below_grown hg6 (fun i hi => (HA5.out.lt i hi).1) hw53))
          clear hr6 hg6 cB lB HB5 HA5 HX5
          have cB := HB6.out.cell
          have lB := HB6.out.lt
          go_wp2_with fail
          go_roundw
          case rel => exact ⟨k + 1, more, acc ++ X, by omega, rfl, by go_num, HR6, HBW6, HG2, Lib.hid (by rw [List.length_append, HAN.out, HM.out]; exact HLS.out)⟩
          case measure => simp [intOf]; omega
        · have kI : ¬ (k : Int) < (l.length : Int) := by omega
          have hkE : k = l.length := by omega
          have HDN := Lib.hid (show P.drop k = [] from List.drop_eq_nil_of_le (by rw [HPL.out]; omega))
          rw [HDN.out] at HG
          have HW5 := Lib.hid (show Below w.heap.size w wr from HW3.out.trans (HBW3.out.mono hw3s))
          cases mo with
          | true =>
            go_wp2_with fail
            go_ret2
            exact ⟨HW5.out, _, by rw [HG.out, gat, if_pos rfl, finJ_gap]; rfl, by rw [HG.out, gat, if_pos rfl, finJ_gap]; exact Row.nil _ _ _⟩
          | false =>
          have HH5 := Lib.hid (HH0.out.kept HKW.out (fun h => h))
          have HVH5 := Lib.hid (HVH3.out.kept HKW.out (fun _ _ h => h))
          have cB := HH5.out.cell
          have fB := HH5.out.frozen
          have lB := HH5.out.lt
          have hwr : w.heap.size ≤ wr.heap.size := by omega
          clear HKW HVH3 HFS3 HP3 HH0
          go_upto_region 30 with fail
          generalize hw6 : World.setCell _ _ _ = w6
          have HH6 := Lib.hid (show Blk w6 hb 47 #[.int .u8 toh, .int .i64 leh, .int .u16 idh, .bool sth, .bool false, .int .i64 0, .int .u8 tth, .int .u8 prh, .int .u16 smh, .bool false, .int .u64 0, .int .u64 srh, .bool false, .int .u64 0, .int .u64 dsh, .slice OAh nh och] by
            rw [← hw6]
            have h1 := HH5.out.set_ 4 (.bool false)
            have h2 := h1.set_ 5 (.int .i64 0)
            simp only [List.setIfInBounds_toArray, List.set_cons_succ, List.set_cons_zero] at h2
            exact h2)
          have HKS := Lib.hid (show Kept (fun i => i = hb) wr w6 by rw [← hw6]; exact Kept.setIn (S := fun i => i = hb) rfl (Kept.setIn (S := fun i => i = hb) rfl (Kept.refl _ _)))
          have HW6 := Lib.hid (show Below w.heap.size w w6 from HW5.out.trans (HKS.out.below hwr (fun i e => by rw [e]; exact HBW.out)))
          have HVH6 := Lib.hid (HVH5.out.kept HKS.out (fun i hi e => HVH5.out.ne HH5.out (by decide) (by rw [hi, e])))
          have HA6 := Lib.hid (HA.out.kept HKS.out (fun i hi e => HA.out.ne HH5.out (by decide) (by rw [hi, e])))
          have hw6s : w.heap.size ≤ w6.heap.size := HW6.out.size
          clear hw6 HKS cB fB lB HH5 HVH5
          go_wp2_with (first | (show wpList _ _ _ ((⟨_, .load 47 (.tmp 10), _, _, _, none⟩ : Oper) :: _) _ _; refine wpList_load_mid rfl 47 (.tmp 10) rfl hb 0 rfl [.int .u8 toh, .int .i64 leh, .int .u16 idh, .bool sth, .bool false, .int .i64 0, .int .u8 tth, .int .u8 prh, .int .u16 smh, .bool false, .int .u64 0, .int .u64 srh, .bool false, .int .u64 0, .int .u64 dsh, .slice OAh nh och] _ HH6.out.range' Try.underlying47 rfl (by kernel_rfl) ?_))
          refine (packet_yes toh leh idh sth false 0 tth prh smh srh dsh OAh nh och osh HNH.out h40 h4 ht0 ht1 hi0 hi1 (by omega) hx0 hx1 hp0 hp1 hs0 hs1 hd0 hd1 acc AA an ac HAN.out (by omega) (by omega) w6 (HVH6.out.byt.bs_of) (HA6.out.byt.bs_of)).mono ?_
          rintro e w7 ⟨v7, rfl, hr7, hb7⟩
          have HR7 := Lib.hid hr7
          have HW7 := Lib.hid (HW6.out.trans (hb7.mono hw6s))
          clear hr7 hb7
          go_wp2_with fail
          go_ret2
          have hj : joinR l = (0, ((⟨toh, leh, idh, sth, false, 0, tth, prh, smh, srh, dsh, osh⟩ : Hd) : Hd).pkt acc) := by rw [HG.out]; rfl
          exact ⟨HW7.out, _, by rw [hj]; rfl, by rw [hj]; exact HR7.out.more hw6s⟩
end Go.Proofs.Ytidooohgbiiikaa
