/- The reference's Scan, walked. -/
import Derived.Test.YtnfolopodjdlbaaP
import Derived.Test.YtnfolopodjdlbaaRowX
namespace Go.Proofs.Ytnfolopodjdlbaa
open Go.RowKit
set_option linter.unusedVariables false
/-- Records that are parts of what lay below block B. -/
def RecsR (w : World) (B base : Nat) (v : Value) (ls : List (List UInt8)) : Prop := ∃ vs : List Value, Row w base 22 v vs ∧ vs.length = ls.length ∧ ∀ k (h : k < vs.length) (h' : k < ls.length), ∃ A c, vs[k] = .slice A ls[k].length c ∧ ls[k].length ≤ c ∧ c ≤ maxLen ∧ BS w B A ls[k]
theorem RecsR.nil (w : World) (B base : Nat) : RecsR w B base (.slice none 0 0) [] := ⟨[], Row.nil _ _ _, rfl, fun k h => absurd h (by simp)⟩
theorem RecsR.shape {w : World} {B base : Nat} {v : Value} {ls : List (List UInt8)} (h : RecsR w B base v ls) : ∃ A c, v = .slice A ls.length c ∧ ls.length ≤ c ∧ c ≤ maxLen := by
  obtain ⟨vs, h1, h2, h3⟩ := h
  obtain ⟨A, c, e, h4, h5⟩ := h1.shape
  rw [h2] at e h4
  exact ⟨A, c, e, h4, h5⟩
theorem RecsR.on {w w' : World} {B base : Nat} {v : Value} {ls : List (List UInt8)} (h : RecsR w B base v ls) (hB : B ≤ w.heap.size) (hk : Kept (fun _ => False) w w') : RecsR w' B base v ls := by
  obtain ⟨vs, h1, h2, h3⟩ := h
  refine ⟨vs, h1.kept hk (fun _ _ h => h), h2, fun k a b => ?_⟩
  obtain ⟨A, c, e, e1, e2, e3⟩ := h3 k a b
  exact ⟨A, c, e, e1, e2, e3.kept hk hB (fun _ _ h => h)⟩
def RefScanPost (b : List UInt8) (w : World) (e : Ending) (w' : World) : Prop :=
  ∃ v, e = .returned (.tuple #[v, .int .i64 ((scan b 0).2 : Int)]) ∧ RecsR w' w.heap.size w.heap.size v (scan b 0).1
set_option maxRecDepth 10000 in
set_option maxHeartbeats 8000000 in
theorem refScan_any (A : Option Addr) (c : Nat) (b : List UInt8) (w : World) (hl : b.length ≤ 100000) (hc : b.length ≤ c) (hcm : c ≤ maxLen) (hB : BS w w.heap.size A b) :
    Calls Try.prog 6 #[.slice A b.length c] w fun e w' => RefScanPost b w e w' ∧ Below w.heap.size w w' := by
  have h22 := Try.info22r
  have HB := Lib.hid hB
  have HCM := Lib.hid hcm
  unfold maxLen at hcm
  clear hB
  go_enter Try.func6, Try.ntmps6
  go_wp2_with fail
  go_loopw [4, 5] (fun v i wr => ∃ (ls : List (List UInt8)) (at_ : Nat), at_ ≤ b.length ∧ i = .int .i64 (at_ : Int) ∧ 14 * ls.length ≤ at_ ∧ Hid (RecsR wr w.heap.size w.heap.size v ls) ∧ Hid (scan b 0 = (ls ++ (scan (b.drop at_) ls.length).1, at_ + (scan (b.drop at_) ls.length).2)) ∧ Hid (Below w.heap.size w wr)) (fun _ i _ => b.length - (intOf i).toNat)
  case atStart => exact ⟨[], 0, by omega, rfl, by simp, Lib.hid (RecsR.nil _ _ _), Lib.hid (by simp), Lib.hid (Below.refl _ _)⟩
  case round =>
    obtain ⟨ls, at_, hat, rfl, hls, HR, HS, HW⟩ := hrel
    obtain ⟨VA, vc, hve, hv1, hv2⟩ := HR.out.shape
    subst hve
    have at0 : (0 : Int) ≤ (at_ : Int) := Int.natCast_nonneg _
    have at1 : (at_ : Int) ≤ 100000 := by omega
    have bc : (b.length : Int) ≤ (c : Int) := by omega
    have l0 : (0 : Int) ≤ (ls.length : Int) := Int.natCast_nonneg _
    have l1 : (ls.length : Int) ≤ 100000 := by omega
    obtain ⟨x, hx⟩ : ∃ x, b.drop at_ = x := ⟨_, rfl⟩
    have hxl : b.length - at_ = x.length := by rw [← hx]; simp
    have HXS := Lib.hid hx
    have HXL := Lib.hid hxl
    rw [hx] at HS
    clear hx hxl
    have STOP : ¬ firstOk x ((ls.length : Int) + 1) → scan b 0 = (ls, at_) := fun h => by rw [HS.out, scan_no x ls.length h]; simp
    have STOP := Lib.hid STOP
    by_cases h14 : at_ + 14 ≤ b.length
    · obtain ⟨bb, o, hbb, rfl, hby⟩ := HB.out.at (k := 0) (by omega)
      have i14 : (at_ : Int) + 14 ≤ (b.length : Int) := by omega
      have hz := get2_any (some ⟨bb, o, none⟩) c (at_ + 8) b wr hl hc HCM.out (by omega) (HB.out.onB HW.out (Nat.le_refl _))
      rw [show ((at_ + 8 : Nat) : Int) = (at_ : Int) + 8 by omega] at hz
      have e8 : (b.drop (at_ + 8)).take 2 = (x.drop 8).take 2 := by rw [← HXS.out, List.drop_drop]
      rw [e8] at hz
      have hxl : b.length - at_ = x.length := HXL.out
      have hsr := num_range (x.drop 8) 2 (by rw [List.length_drop]; omega)
      obtain ⟨sz, hsz⟩ : ∃ sz : Nat, szOf x = sz := ⟨_, rfl⟩
      have hs1 : num ((x.drop 8).take 2) = (sz : Int) := by rw [← hsz]; unfold szOf; omega
      rw [hs1] at hz hsr
      have s1 : (sz : Int) ≤ 65535 := by have := hsr.2; omega
      have s0 : (0 : Int) ≤ (sz : Int) := Int.natCast_nonneg _
      have HZ := Lib.hid hz
      have HSZ := Lib.hid hsz
      clear hz e8 hsr hs1 hsz hby
      go_wp2_with fail
      refine HZ.out.mono ?_
      rintro e w1 ⟨rfl, rfl⟩
      by_cases h4 : sz ≤ 4096
      · by_cases h5 : at_ + 14 + sz ≤ b.length
        · have i1 : ¬ (4096 : Int) < (sz : Int) := by omega
          have i2 : ¬ (b.length : Int) < (at_ : Int) + 14 + (sz : Int) := by omega
          have i3 : (at_ : Int) + 14 + (sz : Int) ≤ (c : Int) := by omega
          have i4 : at_ < c := by omega
          have i5 : (at_ : Int) < (c : Int) := by omega
          have hxl : b.length - at_ = x.length := HXL.out
          go_wp2_with fail
          · obtain ⟨y, hy⟩ : ∃ y, (x.drop 14).take sz = y := ⟨_, rfl⟩
            have hyl : y.length = sz := by rw [← hy, List.length_take, List.length_drop]; omega
            have hyb : BS w w.heap.size (some ⟨bb, o, none⟩) y := by exact .inl (List.eq_nil_of_length_eq_zero (by omega))
            have hcm2 := HCM.out
            have hfr := fun u (hu : Kept (fun _ => False) w1 u) => refFrame_any (some ⟨bb, o, none⟩) 0 y ((ls.length : Int) + 1) u (by omega) (by omega) (by omega) (by omega) (by omega) ((hyb.onB HW.out (Nat.le_refl _)).on hu (fun _ _ h => h))
            obtain ⟨F, hF⟩ : ∃ F, frame ((ls.length : Int) + 1) y = F := ⟨_, rfl⟩
            have HFM := Lib.hid (show F.length ≤ maxLen by rw [← hF, frame_len]; unfold maxLen; omega)
            rw [hF, hyl] at hfr
            have HFR := Lib.hid hfr
            obtain ⟨TK, hTK⟩ : ∃ TK, x.take (14 + sz) = TK := ⟨_, rfl⟩
            have htl : TK.length = 14 + sz := by rw [← hTK, List.length_take]; omega
            have htb := (HB.out.drop_ at_).take_ (14 + sz)
            rw [HXS.out, hTK] at htb
            have HTB := Lib.hid (htb.onB HW.out (Nat.le_refl _))
            have HTL := Lib.hid htl
            have HEQ := Lib.hid (show F = TK ↔ firstOk x ((ls.length : Int) + 1) by
              have := frame_iff x ((ls.length : Int) + 1) (by omega) (by rw [HSZ.out]; omega) (by rw [HSZ.out]; omega) (by omega) (by omega)
              rw [HSZ.out, hy, hF, hTK] at this
              exact this)
            have HYB := Lib.hid hyb
            have HYL := Lib.hid hyl
            have HY := Lib.hid hy
            clear hy hyl hyb hcm2 hfr hF hTK htl htb
            refine wp_region_kept 15 [(5, fun v u => Byt u v F), (6, fun v u => v = .string ⟨F.toArray⟩), (14, fun v u => v = .string ⟨TK.toArray⟩)] ?st ?ne rfl (by kernel_rfl) (by kernel_rfl) ?_
            case st =>
              intro p hp
              simp only [List.mem_cons, List.not_mem_nil, or_false] at hp
              rcases hp with rfl | rfl | rfl
              · intro v u u' h hk; exact h.on0 hk
              · intro v u u' h hk; exact h
              · intro v u u' h hk; exact h
            case ne =>
              intro p hp
              simp only [List.mem_cons, List.not_mem_nil, or_false] at hp
              rcases hp with rfl | rfl | rfl
              · exact Byt.some _ _ HFM.out
              · exact ⟨_, _, Kept.refl _ _, rfl⟩
              · exact ⟨_, _, Kept.refl _ _, rfl⟩
            simp only [List.take_succ_cons, List.take_zero, List.drop_succ_cons, List.drop_zero]
            intro G pick hR hp1 hp2
            repeat (first | (refine wpR_det hp2 rfl ((hR.rel _).trans rfl) rfl ?_; intro K hK; go_big_quiet_op; go_big_quiet_on) | (refine wpR_ptr hp2 rfl ((hR.rel _).trans rfl) rfl rfl ?_; intro K hK; go_big_quiet_op; go_big_quiet_on) | (refine wpR_skip pick rfl ?_; intro K hK; go_big_quiet_op; go_big_quiet_on))
            refine wpR_rel pick rfl ((hR.rel _).trans rfl) ((hR.turns _).trans rfl) ?_ ?_
            · intro u hu
              have hk := hR.since hu.1
              have hks := hk.size
              have hz := HFR.out u hk
              unfold relAt
              go_simp
              refine hz.mono ?_
              rintro e w' ⟨v, rfl, hT, hb'⟩
              exact ⟨_, rfl, hR.intoB hb', hR.put 0 rfl rfl hT⟩
            intro v hv
            obtain ⟨u, _, hu⟩ := hv
            obtain ⟨FA, fc, rfl, -, -, -⟩ := hR.get 0 rfl hu
            clear hu
            intro K hK
            go_big_quiet_op
            go_big_quiet_on
            repeat (first | (refine wpR_det hp2 rfl ((hR.rel _).trans rfl) rfl ?_; intro K hK; go_big_quiet_op; go_big_quiet_on) | (refine wpR_ptr hp2 rfl ((hR.rel _).trans rfl) rfl rfl ?_; intro K hK; go_big_quiet_op; go_big_quiet_on) | (refine wpR_skip pick rfl ?_; intro K hK; go_big_quiet_op; go_big_quiet_on))
            refine wpR_rel pick rfl ((hR.rel _).trans rfl) ((hR.turns _).trans rfl) ?_ ?_
            · intro u hu
              have hk := hR.since hu.1
              have hks := hk.size
              obtain ⟨A', c', e, -, -, hB⟩ := (hR.get 0 rfl (hu.2 _ _ (Got.upd_self _ _ _) (by kernel_rfl)))
              injection e with e1 e2 e3
              subst e1 e3
              have hcv := hB.conv (P := Try.prog) (c := fc) Try.underlying22 Try.underlying5 Try.underlying9
              clear hB
              unfold relAt
              go_simp
              exact ⟨hR.into0 (Kept.refl _ _), hR.put 1 rfl rfl rfl⟩
            intro v hv
            obtain ⟨u, _, hu⟩ := hv
            obtain rfl := hR.get 1 rfl hu
            clear hu
            intro K hK
            go_big_quiet_op
            go_big_quiet_on
            repeat (first | (refine wpR_det hp2 rfl ((hR.rel _).trans rfl) rfl ?_; intro K hK; go_big_quiet_op; go_big_quiet_on) | (refine wpR_ptr hp2 rfl ((hR.rel _).trans rfl) rfl rfl ?_; intro K hK; go_big_quiet_op; go_big_quiet_on) | (refine wpR_skip pick rfl ?_; intro K hK; go_big_quiet_op; go_big_quiet_on))
            refine wpR_rel pick rfl ((hR.rel _).trans rfl) ((hR.turns _).trans rfl) ?_ ?_
            · intro u hu
              have hk := hR.since hu.1
              have hks := hk.size
              have hB := HTB.out.on hk (fun _ _ h => h)
              have h2 : TK.length = at_ + 14 + sz - at_ := by rw [HTL.out]; omega
              have hcv := fun c' => hB.conv (P := Try.prog) (c := c') Try.underlying22 Try.underlying5 Try.underlying9
              simp only [h2] at hcv
              clear hB h2
              unfold relAt
              go_simp
              exact ⟨hR.into0 (Kept.refl _ _), hR.put 2 rfl rfl rfl⟩
            intro v hv
            obtain ⟨u, _, hu⟩ := hv
            obtain rfl := hR.get 2 rfl hu
            clear hu
            intro K hK
            go_big_quiet_op
            go_big_quiet_on
            repeat (first | (refine wpR_det hp2 rfl ((hR.rel _).trans rfl) rfl ?_; intro K hK; go_big_quiet_op; go_big_quiet_on) | (refine wpR_ptr hp2 rfl ((hR.rel _).trans rfl) rfl rfl ?_; intro K hK; go_big_quiet_op; go_big_quiet_on) | (refine wpR_skip pick rfl ?_; intro K hK; go_big_quiet_op; go_big_quiet_on))
            refine wpR_nil ?_
            intro w2 hk2 hF hM
            have HW2 := Lib.hid (HW.out.trans (hk2.below HW.out.size (fun i h => h.elim)))
            have HR2 := Lib.hid (HR.out.on HW.out.size hk2)
            clear hF hM hk2 hp1 hp2 hR
            by_cases heq : F = TK
            · have hb : (F == TK) = true := by simpa using heq
              have HOK := Lib.hid (HEQ.out.1 heq)
              clear heq
              have HS1 := Lib.hid (show scan x ls.length = (y :: (scan (b.drop (at_ + 14 + sz)) (ls ++ [y]).length).1, 14 + sz + (scan (b.drop (at_ + 14 + sz)) (ls ++ [y]).length).2) by
                rw [scan_yes x ls.length HOK.out, HSZ.out, HY.out, ← HXS.out, List.drop_drop, ← Nat.add_assoc]; simp)
              obtain ⟨vs, hvr, hvl, hve⟩ := HR2.out
              have HVR := Lib.hid hvr
              have HVL := Lib.hid hvl
              have HVE := Lib.hid hve
              have HS2 := Lib.hid HW2.out.size
              clear hvr hvl hve
              go_wp2_with (at_builtin; refine wpList_append_row rfl (.tmp 57) (.tmp 59) 25 rfl w.heap.size 22 (.slice none 0 0) 24 Try.underlying25 h22 rfl _ vs rfl (some ⟨w2.heap.size, 0, none⟩) 1 1 [.slice (some ⟨bb, o, none⟩) sz 0] rfl rfl (HVR.out.alloc _) (Src.new _ _ _ rfl) (by intro u hu; simp at hu; subst hu; rfl) (by rw [HVL.out]; unfold maxLen; simp; omega) (by rw [HVL.out]; simp; omega) (by rw [World.size_alloc]; have := HS2.out; omega) ?_)
              intro v2 w3 hrow hgr _
              have HK3 := Lib.hid (show Kept (fun i => w.heap.size ≤ i) w2 w3 from Kept.trans ((Kept.refl _ _).alloc _) (kept_grown hgr (fun i e _ => (HVR.out.lt i e).1)))
              have HR3 := Lib.hid (show RecsR w3 w.heap.size w.heap.size v2 (ls ++ [y]) from ⟨_, hrow, by simp [HVL.out], fun k h h' => by
                by_cases hk : k < vs.length
                · obtain ⟨A', c', e1, e2, e3, e4⟩ := HVE.out k hk (by rw [← HVL.out]; exact hk)
                  refine ⟨A', c', by rw [List.getElem_append_left hk, List.getElem_append_left (by rw [← HVL.out]; exact hk)]; exact e1, by rw [List.getElem_append_left (by rw [← HVL.out]; exact hk)]; exact e2, e3, ?_⟩
                  rw [List.getElem_append_left (by rw [← HVL.out]; exact hk)]
                  exact e4.kept HK3.out HS2.out (fun i h1 h2 => by omega)
                · obtain rfl : k = vs.length := by simp at h; omega
                  have e2 : (ls ++ [y])[vs.length] = y := by rw [List.getElem_append_right (by rw [HVL.out]; exact Nat.le_refl _)]; simp [HVL.out]
                  refine ⟨(some ⟨bb, o, none⟩), 0, by rw [e2]; simp [HYL.out], by rw [e2, HYL.out]; omega, by have := HCM.out; omega, ?_⟩
                  rw [e2]
                  exact (HYB.out.below HW2.out).kept HK3.out HS2.out (fun i h1 h2 => by omega)⟩)
              obtain ⟨VA2, vc2, hve2, -, -⟩ := HR3.out.shape
              rw [show (ls ++ [y]).length = ls.length + 1 by simp] at hve2
              subst hve2
              clear hrow hgr
              go_wp2_with fail
              go_roundw
              case rel =>
                have hrel9 : ∃ (ls' : List (List UInt8)) (at' : Nat), at' ≤ b.length ∧ Value.int .i64 ((at_ : Int) + 14 + (sz : Int)) = .int .i64 (at' : Int) ∧ 14 * ls'.length ≤ at' ∧ Hid (RecsR w3 w.heap.size w.heap.size (.slice VA2 (ls.length + 1) vc2) ls') ∧ Hid (scan b 0 = (ls' ++ (scan (b.drop at') ls'.length).1, at' + (scan (b.drop at') ls'.length).2)) ∧ Hid (Below w.heap.size w w3) := by
                  refine ⟨ls ++ [y], at_ + 14 + sz, by omega, ?_, ?_, HR3, Lib.hid ?_, Lib.hid ?_⟩
                  · exact congrArg (Value.int .i64) (by omega)
                  · simp; omega
                  · rw [HS.out, HS1.out]; simp [Nat.add_assoc]
                  · exact HW2.out.trans (HK3.out.below HW2.out.size (fun i h => h))
                first
                | exact hrel9
                | (rw [show at_ + 14 = c by omega]
                   (repeat apply Exists.intro)
                   exact ⟨hrel9, rfl⟩)
              case measure => simp [intOf]; omega
            · have hb : (F == TK) = false := by simpa using heq
              have HNO := Lib.hid (STOP.out (fun h => heq (HEQ.out.2 h)))
              clear heq
              go_wp2_with fail
              go_ret2
              refine ⟨?_, HW2.out⟩
              unfold RefScanPost
              rw [HNO.out]
              exact ⟨_, rfl, HR2.out⟩
          · obtain ⟨y, hy⟩ : ∃ y, (x.drop 14).take sz = y := ⟨_, rfl⟩
            have hyl : y.length = sz := by rw [← hy, List.length_take, List.length_drop]; omega
            have hyb : BS w w.heap.size (some ⟨bb, o + (at_ + 14), none⟩) y := by have h9 := (HB.out.drop_ (at_ + 14)).take_ sz; rwa [show (b.drop (at_ + 14)).take sz = y by rw [← hy, ← HXS.out, List.drop_drop]] at h9
            have hcm2 := HCM.out
            have hfr := fun u (hu : Kept (fun _ => False) w1 u) => refFrame_any (some ⟨bb, o + (at_ + 14), none⟩) (c - (at_ + 14)) y ((ls.length : Int) + 1) u (by omega) (by omega) (by omega) (by omega) (by omega) ((hyb.onB HW.out (Nat.le_refl _)).on hu (fun _ _ h => h))
            obtain ⟨F, hF⟩ : ∃ F, frame ((ls.length : Int) + 1) y = F := ⟨_, rfl⟩
            have HFM := Lib.hid (show F.length ≤ maxLen by rw [← hF, frame_len]; unfold maxLen; omega)
            rw [hF, hyl] at hfr
            have HFR := Lib.hid hfr
            obtain ⟨TK, hTK⟩ : ∃ TK, x.take (14 + sz) = TK := ⟨_, rfl⟩
            have htl : TK.length = 14 + sz := by rw [← hTK, List.length_take]; omega
            have htb := (HB.out.drop_ at_).take_ (14 + sz)
            rw [HXS.out, hTK] at htb
            have HTB := Lib.hid (htb.onB HW.out (Nat.le_refl _))
            have HTL := Lib.hid htl
            have HEQ := Lib.hid (show F = TK ↔ firstOk x ((ls.length : Int) + 1) by
              have := frame_iff x ((ls.length : Int) + 1) (by omega) (by rw [HSZ.out]; omega) (by rw [HSZ.out]; omega) (by omega) (by omega)
              rw [HSZ.out, hy, hF, hTK] at this
              exact this)
            have HYB := Lib.hid hyb
            have HYL := Lib.hid hyl
            have HY := Lib.hid hy
            clear hy hyl hyb hcm2 hfr hF hTK htl htb
            refine wp_region_kept 15 [(5, fun v u => Byt u v F), (6, fun v u => v = .string ⟨F.toArray⟩), (14, fun v u => v = .string ⟨TK.toArray⟩)] ?st ?ne rfl (by kernel_rfl) (by kernel_rfl) ?_
            case st =>
              intro p hp
              simp only [List.mem_cons, List.not_mem_nil, or_false] at hp
              rcases hp with rfl | rfl | rfl
              · intro v u u' h hk; exact h.on0 hk
              · intro v u u' h hk; exact h
              · intro v u u' h hk; exact h
            case ne =>
              intro p hp
              simp only [List.mem_cons, List.not_mem_nil, or_false] at hp
              rcases hp with rfl | rfl | rfl
              · exact Byt.some _ _ HFM.out
              · exact ⟨_, _, Kept.refl _ _, rfl⟩
              · exact ⟨_, _, Kept.refl _ _, rfl⟩
            simp only [List.take_succ_cons, List.take_zero, List.drop_succ_cons, List.drop_zero]
            intro G pick hR hp1 hp2
            repeat (first | (refine wpR_det hp2 rfl ((hR.rel _).trans rfl) rfl ?_; intro K hK; go_big_quiet_op; go_big_quiet_on) | (refine wpR_ptr hp2 rfl ((hR.rel _).trans rfl) rfl rfl ?_; intro K hK; go_big_quiet_op; go_big_quiet_on) | (refine wpR_skip pick rfl ?_; intro K hK; go_big_quiet_op; go_big_quiet_on))
            refine wpR_rel pick rfl ((hR.rel _).trans rfl) ((hR.turns _).trans rfl) ?_ ?_
            · intro u hu
              have hk := hR.since hu.1
              have hks := hk.size
              have hz := HFR.out u hk
              unfold relAt
              go_simp
              refine hz.mono ?_
              rintro e w' ⟨v, rfl, hT, hb'⟩
              exact ⟨_, rfl, hR.intoB hb', hR.put 0 rfl rfl hT⟩
            intro v hv
            obtain ⟨u, _, hu⟩ := hv
            obtain ⟨FA, fc, rfl, -, -, -⟩ := hR.get 0 rfl hu
            clear hu
            intro K hK
            go_big_quiet_op
            go_big_quiet_on
            repeat (first | (refine wpR_det hp2 rfl ((hR.rel _).trans rfl) rfl ?_; intro K hK; go_big_quiet_op; go_big_quiet_on) | (refine wpR_ptr hp2 rfl ((hR.rel _).trans rfl) rfl rfl ?_; intro K hK; go_big_quiet_op; go_big_quiet_on) | (refine wpR_skip pick rfl ?_; intro K hK; go_big_quiet_op; go_big_quiet_on))
            refine wpR_rel pick rfl ((hR.rel _).trans rfl) ((hR.turns _).trans rfl) ?_ ?_
            · intro u hu
              have hk := hR.since hu.1
              have hks := hk.size
              obtain ⟨A', c', e, -, -, hB⟩ := (hR.get 0 rfl (hu.2 _ _ (Got.upd_self _ _ _) (by kernel_rfl)))
              injection e with e1 e2 e3
              subst e1 e3
              have hcv := hB.conv (P := Try.prog) (c := fc) Try.underlying22 Try.underlying5 Try.underlying9
              clear hB
              unfold relAt
              go_simp
              exact ⟨hR.into0 (Kept.refl _ _), hR.put 1 rfl rfl rfl⟩
            intro v hv
            obtain ⟨u, _, hu⟩ := hv
            obtain rfl := hR.get 1 rfl hu
            clear hu
            intro K hK
            go_big_quiet_op
            go_big_quiet_on
            repeat (first | (refine wpR_det hp2 rfl ((hR.rel _).trans rfl) rfl ?_; intro K hK; go_big_quiet_op; go_big_quiet_on) | (refine wpR_ptr hp2 rfl ((hR.rel _).trans rfl) rfl rfl ?_; intro K hK; go_big_quiet_op; go_big_quiet_on) | (refine wpR_skip pick rfl ?_; intro K hK; go_big_quiet_op; go_big_quiet_on))
            refine wpR_rel pick rfl ((hR.rel _).trans rfl) ((hR.turns _).trans rfl) ?_ ?_
            · intro u hu
              have hk := hR.since hu.1
              have hks := hk.size
              have hB := HTB.out.on hk (fun _ _ h => h)
              have h2 : TK.length = at_ + 14 + sz - at_ := by rw [HTL.out]; omega
              have hcv := fun c' => hB.conv (P := Try.prog) (c := c') Try.underlying22 Try.underlying5 Try.underlying9
              simp only [h2] at hcv
              clear hB h2
              unfold relAt
              go_simp
              exact ⟨hR.into0 (Kept.refl _ _), hR.put 2 rfl rfl rfl⟩
            intro v hv
            obtain ⟨u, _, hu⟩ := hv
            obtain rfl := hR.get 2 rfl hu
            clear hu
            intro K hK
            go_big_quiet_op
            go_big_quiet_on
            repeat (first | (refine wpR_det hp2 rfl ((hR.rel _).trans rfl) rfl ?_; intro K hK; go_big_quiet_op; go_big_quiet_on) | (refine wpR_ptr hp2 rfl ((hR.rel _).trans rfl) rfl rfl ?_; intro K hK; go_big_quiet_op; go_big_quiet_on) | (refine wpR_skip pick rfl ?_; intro K hK; go_big_quiet_op; go_big_quiet_on))
            refine wpR_nil ?_
            intro w2 hk2 hF hM
            have HW2 := Lib.hid (HW.out.trans (hk2.below HW.out.size (fun i h => h.elim)))
            have HR2 := Lib.hid (HR.out.on HW.out.size hk2)
            clear hF hM hk2 hp1 hp2 hR
            by_cases heq : F = TK
            · have hb : (F == TK) = true := by simpa using heq
              have HOK := Lib.hid (HEQ.out.1 heq)
              clear heq
              have HS1 := Lib.hid (show scan x ls.length = (y :: (scan (b.drop (at_ + 14 + sz)) (ls ++ [y]).length).1, 14 + sz + (scan (b.drop (at_ + 14 + sz)) (ls ++ [y]).length).2) by
                rw [scan_yes x ls.length HOK.out, HSZ.out, HY.out, ← HXS.out, List.drop_drop, ← Nat.add_assoc]; simp)
              obtain ⟨vs, hvr, hvl, hve⟩ := HR2.out
              have HVR := Lib.hid hvr
              have HVL := Lib.hid hvl
              have HVE := Lib.hid hve
              have HS2 := Lib.hid HW2.out.size
              clear hvr hvl hve
              go_wp2_with (at_builtin; refine wpList_append_row rfl (.tmp 57) (.tmp 59) 25 rfl w.heap.size 22 (.slice none 0 0) 24 Try.underlying25 h22 rfl _ vs rfl (some ⟨w2.heap.size, 0, none⟩) 1 1 [.slice (some ⟨bb, o + (at_ + 14), none⟩) sz (c - (at_ + 14))] rfl rfl (HVR.out.alloc _) (Src.new _ _ _ rfl) (by intro u hu; simp at hu; subst hu; rfl) (by rw [HVL.out]; unfold maxLen; simp; omega) (by rw [HVL.out]; simp; omega) (by rw [World.size_alloc]; have := HS2.out; omega) ?_)
              intro v2 w3 hrow hgr _
              have HK3 := Lib.hid (show Kept (fun i => w.heap.size ≤ i) w2 w3 from Kept.trans ((Kept.refl _ _).alloc _) (kept_grown hgr (fun i e _ => (HVR.out.lt i e).1)))
              have HR3 := Lib.hid (show RecsR w3 w.heap.size w.heap.size v2 (ls ++ [y]) from ⟨_, hrow, by simp [HVL.out], fun k h h' => by
                by_cases hk : k < vs.length
                · obtain ⟨A', c', e1, e2, e3, e4⟩ := HVE.out k hk (by rw [← HVL.out]; exact hk)
                  refine ⟨A', c', by rw [List.getElem_append_left hk, List.getElem_append_left (by rw [← HVL.out]; exact hk)]; exact e1, by rw [List.getElem_append_left (by rw [← HVL.out]; exact hk)]; exact e2, e3, ?_⟩
                  rw [List.getElem_append_left (by rw [← HVL.out]; exact hk)]
                  exact e4.kept HK3.out HS2.out (fun i h1 h2 => by omega)
                · obtain rfl : k = vs.length := by simp at h; omega
                  have e2 : (ls ++ [y])[vs.length] = y := by rw [List.getElem_append_right (by rw [HVL.out]; exact Nat.le_refl _)]; simp [HVL.out]
                  refine ⟨(some ⟨bb, o + (at_ + 14), none⟩), (c - (at_ + 14)), by rw [e2]; simp [HYL.out], by rw [e2, HYL.out]; omega, by have := HCM.out; omega, ?_⟩
                  rw [e2]
                  exact (HYB.out.below HW2.out).kept HK3.out HS2.out (fun i h1 h2 => by omega)⟩)
              obtain ⟨VA2, vc2, hve2, -, -⟩ := HR3.out.shape
              rw [show (ls ++ [y]).length = ls.length + 1 by simp] at hve2
              subst hve2
              clear hrow hgr
              go_wp2_with fail
              go_roundw
              case rel =>
                have hrel9 : ∃ (ls' : List (List UInt8)) (at' : Nat), at' ≤ b.length ∧ Value.int .i64 ((at_ : Int) + 14 + (sz : Int)) = .int .i64 (at' : Int) ∧ 14 * ls'.length ≤ at' ∧ Hid (RecsR w3 w.heap.size w.heap.size (.slice VA2 (ls.length + 1) vc2) ls') ∧ Hid (scan b 0 = (ls' ++ (scan (b.drop at') ls'.length).1, at' + (scan (b.drop at') ls'.length).2)) ∧ Hid (Below w.heap.size w w3) := by
                  refine ⟨ls ++ [y], at_ + 14 + sz, by omega, ?_, ?_, HR3, Lib.hid ?_, Lib.hid ?_⟩
                  · exact congrArg (Value.int .i64) (by omega)
                  · simp; omega
                  · rw [HS.out, HS1.out]; simp [Nat.add_assoc]
                  · exact HW2.out.trans (HK3.out.below HW2.out.size (fun i h => h))
                first
                | exact hrel9
                | (rw [show at_ + 14 = c by omega]
                   (repeat apply Exists.intro)
                   exact ⟨hrel9, rfl⟩)
              case measure => simp [intOf]; omega
            · have hb : (F == TK) = false := by simpa using heq
              have HNO := Lib.hid (STOP.out (fun h => heq (HEQ.out.2 h)))
              clear heq
              go_wp2_with fail
              go_ret2
              refine ⟨?_, HW2.out⟩
              unfold RefScanPost
              rw [HNO.out]
              exact ⟨_, rfl, HR2.out⟩
        · have i1 : ¬ (4096 : Int) < (sz : Int) := by omega
          have i2 : (b.length : Int) < (at_ : Int) + 14 + (sz : Int) := by omega
          have HNO := Lib.hid (STOP.out fun h => h5 (by have := h.2.2.2.1; rw [HSZ.out] at this; omega))
          go_wp2_with fail
          go_ret2
          refine ⟨?_, HW.out⟩
          unfold RefScanPost
          rw [HNO.out]
          exact ⟨_, rfl, HR.out⟩
      · have i1 : (4096 : Int) < (sz : Int) := by omega
        have HNO := Lib.hid (STOP.out fun h => h4 (by have := h.2.2.1; rw [HSZ.out] at this; exact this))
        go_wp2_with fail
        go_ret2
        refine ⟨?_, HW.out⟩
        unfold RefScanPost
        rw [HNO.out]
        exact ⟨_, rfl, HR.out⟩
    · have i14 : ¬ (at_ : Int) + 14 ≤ (b.length : Int) := by omega
      have HNO := Lib.hid (STOP.out fun h => h14 (by have := h.1; have := HXL.out; omega))
      go_wp2_with fail
      go_ret2
      refine ⟨?_, HW.out⟩
      unfold RefScanPost
      rw [HNO.out]
      exact ⟨_, rfl, HR.out⟩
end Go.Proofs.Ytnfolopodjdlbaa
