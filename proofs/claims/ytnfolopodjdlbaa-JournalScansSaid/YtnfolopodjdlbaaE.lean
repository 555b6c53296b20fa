/- journal.Frame and Scan, walked. -/
import Derived.Test.YtnfolopodjdlbaaD
import Derived.Test.YtnfolopodjdlbaaRowX
namespace Go.Proofs.Ytnfolopodjdlbaa
open Go.RowKit
set_option linter.unusedVariables false
def hd (n : Int) (x : List UInt8) : List UInt8 := digs 8 n ++ digs 2 (x.length : Int)
theorem hd_len (n : Int) (x : List UInt8) : (hd n x).length = 10 := by simp [hd, digs_length]
def frame (n : Int) (x : List UInt8) : List UInt8 := (hd n x ++ digs 4 (crcOf (hd n x ++ x) : Int)) ++ x
theorem frame_len (n : Int) (x : List UInt8) : (frame n x).length = 14 + x.length := by simp [frame, hd_len, digs_length]; omega
theorem frame_long (A : Option Addr) (c : Nat) (x : List UInt8) (n : Int) (w : World) (hx : 4096 < x.length) :
    Calls Try.prog 7 #[.int .u64 n, .slice A x.length c] w fun e w' => e = .returned (.slice none 0 0) ∧ Below w.heap.size w w' := by
  have h1 : (4096 : Int) < (x.length : Int) := by omega
  go_enter Try.func7, Try.ntmps7
  go_wp2_with fail
  go_ret
  exact ⟨rfl, Below.refl _ _⟩
set_option maxHeartbeats 4000000 in
theorem frame_any (A : Option Addr) (c : Nat) (x : List UInt8) (n : Int) (w : World) (hx : x.length ≤ 4096) (n0 : 0 ≤ n) (n1 : n < 18446744073709551616) (hB : BS w w.heap.size A x) :
    Calls Try.prog 7 #[.int .u64 n, .slice A x.length c] w fun e w' => ∃ v, e = .returned v ∧ Row w' w.heap.size 5 v (bcs (frame n x)) ∧ Below w.heap.size w w' := by
  have h5 := Try.info5d
  have HB := Lib.hid hB
  have h1 : ¬ (4096 : Int) < (x.length : Int) := by omega
  have xl : (0 : Int) ≤ (x.length : Int) := Int.natCast_nonneg _
  have xl2 : (x.length : Int) ≤ 4096 := by omega
  clear hB
  go_enter Try.func7, Try.ntmps7
  go_wp2_with fail
  refine (put_nil 8 n w n0 n1 (by omega)).mono ?_
  rintro e w1 ⟨rfl, ho1, hb1⟩
  have HO1 := Lib.hid ho1
  have HW1 := Lib.hid hb1
  clear ho1 hb1
  go_wp2_with fail
  have hz := put_any (some ⟨w.heap.size, 0, none⟩) 8 2 (digs 8 n) (x.length : Int) 2 w1 (by rw [digs_length]; omega) HO1.out.bs (by omega) (by omega) (by omega)
  rw [digs_length] at hz
  refine hz.mono ?_
  clear hz
  rintro e w2 ⟨rfl, ho2, hb2⟩
  have HO2 := Lib.hid (show Own w2 5 w1.heap.size 10 (hd n x) from ho2)
  have HW2 := Lib.hid (show Below w.heap.size w w2 from HW1.out.trans (hb2.mono HW1.out.size))
  clear ho2 hb2
  go_wp2_with fail
  refine (cast_any w2.heap.size (some ⟨w1.heap.size, 0, none⟩) A 10 c (hd n x) x _ (by simp) ((Blk.new _ _ _).cell 0 |>.trans (by rw [hd_len]; rfl)) ((Blk.new _ _ _).cell 1 |>.trans (by rfl)) (by rw [hd_len]; omega) (by omega) (HO2.out.alloc _).bs (HB.out.onB (HW2.out.alloc HW2.out.size _) (Nat.le_refl _))).mono ?_
  rintro e w3 ⟨rfl, hb3⟩
  have HK3 := Lib.hid (show Kept (fun _ => False) w2 w3 from ((Kept.refl _ _).alloc _).then (Kept.ofB (S := fun _ => False) hb3) (fun _ _ h => h.elim))
  have HO3 := Lib.hid (HO2.out.kept HK3.out (fun h => h))
  have HW3 := Lib.hid (show Below w.heap.size w w3 from HW2.out.trans (HK3.out.below HW2.out.size (fun i h => h.elim)))
  have HCR := Lib.hid (show (crc 4294967295 (hd n x ++ x) ^^^ 4294967295 : Nat) = crcOf (hd n x ++ x) from rfl)
  rw [HCR.out]
  have HCL := Lib.hid (crcOf_lt (hd n x ++ x))
  obtain ⟨cv, hcv⟩ : ∃ cv, crcOf (hd n x ++ x) = cv := ⟨_, rfl⟩
  rw [hcv] at HCL ⊢
  have HCV := Lib.hid hcv
  have cv0 : (0 : Int) ≤ (cv : Int) := Int.natCast_nonneg _
  have cv1 : (cv : Int) < 4294967296 := by have := HCL.out; omega
  clear hb3 hcv
  go_wp2_with fail
  have hz := put_any (some ⟨w1.heap.size, 0, none⟩) 10 4 (hd n x) (cv : Int) 4 w3 (by rw [hd_len]; omega) HO3.out.bs (by omega) (by omega) (by omega)
  rw [hd_len] at hz
  refine hz.mono ?_
  clear hz
  rintro e w4 ⟨rfl, ho4, hb4⟩
  obtain ⟨F, hF⟩ : ∃ F, hd n x ++ digs 4 (cv : Int) = F := ⟨_, rfl⟩
  have hFl : F.length = 14 := by rw [← hF]; simp [hd_len, digs_length]
  rw [hF] at ho4
  have HO4 := Lib.hid (show Own w4 5 w3.heap.size 14 F from ho4)
  have HW4 := Lib.hid (show Below w.heap.size w w4 from HW3.out.trans (hb4.mono HW3.out.size))
  have HS4 := Lib.hid hb4.size
  have HF := Lib.hid hF
  have HFL := Lib.hid hFl
  clear ho4 hb4 hF hFl
  go_wp2_with (at_builtin; refine wpList_append_row rfl (.tmp 23) (.tmp 24) 22 rfl w3.heap.size 5 (.int .u8 0) 1 Try.underlying22 h5 rfl _ (bcs F) rfl A x.length c (bcs x) rfl ?a0 ?a1 ?a2 (bcs_one _) ?a3 ?a4 ?a5 ?_)
  case a0 => rw [bcs_length]
  case a1 =>
    have := HO4.out.own (Nat.le_refl _)
    rw [HFL.out] at this
    exact (show Row w4 w3.heap.size 5 (.slice (some ⟨w3.heap.size, 0, none⟩) 14 14) (bcs F) by unfold Row; rw [bcs_length, HFL.out]; exact this)
  case a2 => exact (HB.out.onB HW4.out (Nat.le_refl _)).src
  case a3 => rw [bcs_length, bcs_length, HFL.out]; unfold maxLen; omega
  case a4 => rw [bcs_length, bcs_length, HFL.out]; omega
  case a5 => exact HS4.out
  intro v5 w5 hrow hgr _
  rw [← bcs_append] at hrow
  have HR := Lib.hid (hrow.more (show w.heap.size ≤ w3.heap.size from HW3.out.size))
  have hk5 : Kept (fun i => w3.heap.size ≤ i) w4 w5 := kept_grown hgr (fun i e _ => by simp [Value.ownBlock] at e; omega)
  have HW5 := Lib.hid (show Below w.heap.size w w5 from HW4.out.trans (hk5.below HW4.out.size (fun i h => by have := HW3.out.size; omega)))
  clear hrow hgr hk5
  go_wp2_with fail
  go_ret
  refine ⟨_, rfl, ?_, HW5.out⟩
  have := HR.out
  rw [← HF.out, ← HCV.out] at this
  exact this
/-- Records that lie in blocks of the call's own. -/
def Recs (w : World) (base : Nat) (v : Value) (ls : List (List UInt8)) : Prop := ∃ vs : List Value, Row w base 22 v vs ∧ vs.length = ls.length ∧ ∀ k (h : k < vs.length) (h' : k < ls.length), Row w base 5 vs[k] (bcs ls[k])
theorem Recs.nil (w : World) (base : Nat) : Recs w base (.slice none 0 0) [] := ⟨[], Row.nil _ _ _, rfl, fun k h => absurd h (by simp)⟩
theorem Recs.shape {w : World} {base : Nat} {v : Value} {ls : List (List UInt8)} (h : Recs w base v ls) : ∃ A c, v = .slice A ls.length c ∧ ls.length ≤ c ∧ c ≤ maxLen := by
  obtain ⟨vs, h1, h2, h3⟩ := h
  obtain ⟨A, c, e, h4, h5⟩ := h1.shape
  rw [h2] at e h4
  exact ⟨A, c, e, h4, h5⟩
theorem Recs.belowAll {w w' : World} {base : Nat} {v : Value} {ls : List (List UInt8)} (h : Recs w base v ls) (hk : Below w.heap.size w w') : Recs w' base v ls := by
  obtain ⟨vs, h1, h2, h3⟩ := h
  exact ⟨vs, h1.belowAll hk, h2, fun k a b => (h3 k a b).belowAll hk⟩
theorem Recs.more {w : World} {base base' : Nat} {v : Value} {ls : List (List UInt8)} (h : Recs w base v ls) (hb : base' ≤ base) : Recs w base' v ls := by
  obtain ⟨vs, h1, h2, h3⟩ := h
  exact ⟨vs, h1.more hb, h2, fun k a b => (h3 k a b).more hb⟩
theorem BS.drop_opt {w : World} {B k : Nat} {A : Option Addr} {l : List UInt8} (h : BS w B A l) : BS w B (Option.map (fun x => x.add k) A) (l.drop k) := by
  rcases h with rfl | ⟨b, o, hb, rfl, h2⟩
  · exact .inl (by simp)
  · exact .inr ⟨b, o + k, hb, by simp [Addr.add_lit], h2.drop k⟩
theorem Try.info22r : (Try.prog.info? 22).map (fun i => (i.zero, i.size, i.bytes)) = some (some (.slice none 0 0), 1, 24) := by kernel_rfl
/-- What the records of bytes are, from the number n + 1 on. -/
noncomputable def scanR : Nat → List UInt8 → Nat → List (List UInt8) × Nat
  | 0, _, _ => ([], 0)
  | f + 1, b, n => @ite _ (firstOk b ((n : Int) + 1)) (Classical.propDecidable _)
      (((b.drop 14).take (szOf b)) :: (scanR f (b.drop (14 + szOf b)) (n + 1)).1, 14 + szOf b + (scanR f (b.drop (14 + szOf b)) (n + 1)).2)
      ([], 0)
theorem scanR_no (f : Nat) (b : List UInt8) (n : Nat) (h : ¬ firstOk b ((n : Int) + 1)) : scanR f b n = ([], 0) := by
  cases f with
  | zero => rfl
  | succ f => simp only [scanR]; rw [if_neg h]
theorem scanR_yes (f : Nat) (b : List UInt8) (n : Nat) (h : firstOk b ((n : Int) + 1)) : scanR (f + 1) b n = (((b.drop 14).take (szOf b)) :: (scanR f (b.drop (14 + szOf b)) (n + 1)).1, 14 + szOf b + (scanR f (b.drop (14 + szOf b)) (n + 1)).2) := by
  simp only [scanR]; rw [if_pos h]
/-- The same at any fuel that is enough. -/
theorem scanR_fuel : ∀ (f g : Nat) (b : List UInt8) (n : Nat), b.length < f → b.length < g → scanR f b n = scanR g b n
  | 0, _, _, _, h, _ => absurd h (by omega)
  | _ + 1, 0, _, _, _, h => absurd h (by omega)
  | f + 1, g + 1, b, n, h1, h2 => by
    by_cases h : firstOk b ((n : Int) + 1)
    · have hl := h.1
      rw [scanR_yes f b n h, scanR_yes g b n h, scanR_fuel f g (b.drop (14 + szOf b)) (n + 1) (by simp; omega) (by simp; omega)]
    · rw [scanR_no _ _ _ h, scanR_no _ _ _ h]
noncomputable def scan (b : List UInt8) (n : Nat) : List (List UInt8) × Nat := scanR (b.length + 1) b n
theorem scan_no (b : List UInt8) (n : Nat) (h : ¬ firstOk b ((n : Int) + 1)) : scan b n = ([], 0) := scanR_no _ _ _ h
theorem scan_yes (b : List UInt8) (n : Nat) (h : firstOk b ((n : Int) + 1)) : scan b n = (((b.drop 14).take (szOf b)) :: (scan (b.drop (14 + szOf b)) (n + 1)).1, 14 + szOf b + (scan (b.drop (14 + szOf b)) (n + 1)).2) := by
  have hl := h.1
  unfold scan
  rw [scanR_yes _ _ _ h, scanR_fuel b.length ((b.drop (14 + szOf b)).length + 1) (b.drop (14 + szOf b)) (n + 1) (by simp; omega) (by omega)]
def ScanPost (b : List UInt8) (w : World) (e : Ending) (w' : World) : Prop :=
  ∃ v, e = .returned (.tuple #[v, .int .i64 ((scan b 0).2 : Int)]) ∧ Recs w' w.heap.size v (scan b 0).1
set_option maxHeartbeats 4000000 in
theorem scan_any (A : Option Addr) (c : Nat) (b : List UInt8) (w : World) (hl : b.length ≤ 100000) (hc : b.length ≤ c) (hcm : c ≤ maxLen) (hB : BS w w.heap.size A b) :
    Calls Try.prog 5 #[.slice A b.length c] w fun e w' => ScanPost b w e w' ∧ Below w.heap.size w w' := by
  have h22 := Try.info22r
  have HB := Lib.hid hB
  have HCM := Lib.hid hcm
  unfold maxLen at hcm
  clear hB
  go_enter Try.func5, Try.ntmps5
  go_wp2_with fail
  go_loopw [4, 5] (fun v i wr => ∃ (ls : List (List UInt8)) (at_ : Nat), at_ ≤ b.length ∧ i = .int .i64 (at_ : Int) ∧ 14 * ls.length ≤ at_ ∧ Hid (Recs wr w.heap.size v ls) ∧ Hid (scan b 0 = (ls ++ (scan (b.drop at_) ls.length).1, at_ + (scan (b.drop at_) ls.length).2)) ∧ Hid (Below w.heap.size w wr)) (fun _ i _ => b.length - (intOf i).toNat)
  case atStart => exact ⟨[], 0, by omega, rfl, by simp, Lib.hid (Recs.nil _ _), Lib.hid (by simp), Lib.hid (Below.refl _ _)⟩
  case round =>
    obtain ⟨ls, at_, hat, rfl, hls, HR, HS, HW⟩ := hrel
    obtain ⟨VA, vc, hve, hv1, hv2⟩ := HR.out.shape
    subst hve
    have at0 : (0 : Int) ≤ (at_ : Int) := Int.natCast_nonneg _
    have at1 : (at_ : Int) ≤ (b.length : Int) := by omega
    have at2 : (at_ : Int) ≤ (c : Int) := by omega
    have bc : (b.length : Int) ≤ (c : Int) := by omega
    have l0 : (0 : Int) ≤ (ls.length : Int) := Int.natCast_nonneg _
    have l1 : (ls.length : Int) ≤ 100000 := by omega
    obtain ⟨x, hx⟩ : ∃ x, b.drop at_ = x := ⟨_, rfl⟩
    have hxl : b.length - at_ = x.length := by rw [← hx]; simp
    have HXS := Lib.hid hx
    have HXL := Lib.hid hxl
    have hxc : x.length ≤ c - at_ := by omega
    have hq := fun A' c' W => first_any A' c' x ((ls.length : Int) + 1) W (by omega)
    rw [hx] at HS
    clear hx hxl
    go_wp2_with fail
    · rw [HXL.out]
      refine (hq _ _ _ (by omega) (by have := HCM.out; omega) (by omega) (by omega) (by first | exact .inl (List.eq_nil_of_length_eq_zero (by omega)) | (have h9 := (HB.out.onB HW.out (Nat.le_refl _)).drop_opt (k := at_); rw [HXS.out] at h9; exact h9))).mono ?_
      rintro e w1 ⟨hp, hb1⟩
      have HW1 := Lib.hid (show Below w.heap.size w w1 from HW.out.trans (hb1.mono HW.out.size))
      have HR1 := Lib.hid (HR.out.belowAll hb1)
      have HBW := Lib.hid HW.out.size
      clear hb1
      rcases hp with ⟨hok, u, rfl, hrow⟩ | ⟨hno, rfl⟩
      · exfalso
        have := hok.1
        omega
      · have HS1 := Lib.hid (scan_no x ls.length hno)
        go_wp2_with fail
        go_ret2
        have hr := HR1.out
        have hs : scan b 0 = (ls, at_) := by rw [HS.out, HS1.out]; simp
        refine ⟨?_, HW1.out⟩
        unfold ScanPost
        rw [hs]
        exact ⟨_, rfl, hr⟩
    · rw [HXL.out]
      refine (hq _ _ _ (by omega) (by have := HCM.out; omega) (by omega) (by omega) (by first | exact .inl (List.eq_nil_of_length_eq_zero (by omega)) | (have h9 := (HB.out.onB HW.out (Nat.le_refl _)).drop_opt (k := at_); rw [HXS.out] at h9; exact h9))).mono ?_
      rintro e w1 ⟨hp, hb1⟩
      have HW1 := Lib.hid (show Below w.heap.size w w1 from HW.out.trans (hb1.mono HW.out.size))
      have HR1 := Lib.hid (HR.out.belowAll hb1)
      have HBW := Lib.hid HW.out.size
      clear hb1
      rcases hp with ⟨hok, u, rfl, hrow⟩ | ⟨hno, rfl⟩
      · obtain ⟨y, hy⟩ : ∃ y, (x.drop 14).take (szOf x) = y := ⟨_, rfl⟩
        have hyl : y.length = szOf x := by rw [← hy]; have := hok.2.2.2.1; simp; omega
        have h14 := hok.2.2.2.1
        have HS1 := Lib.hid (show scan x ls.length = (y :: (scan (b.drop (at_ + (14 + y.length))) (ls ++ [y]).length).1, 14 + y.length + (scan (b.drop (at_ + (14 + y.length))) (ls ++ [y]).length).2) by
          rw [scan_yes x ls.length hok, hy, hyl, ← HXS.out, List.drop_drop]; simp)
        rw [hy] at hrow
        have HY := Lib.hid (show Row w1 w.heap.size 5 u (bcs y) from hrow.more HBW.out)
        obtain ⟨YA, yc, hye, hy1, hy2⟩ := hrow.shape
        rw [bcs_length] at hye
        subst hye
        have hat2 : at_ + (14 + y.length) ≤ b.length := by have := HXL.out; rw [hyl]; omega
        have y0 : (0 : Int) ≤ (y.length : Int) := Int.natCast_nonneg _
        have y1 : (y.length : Int) ≤ 100000 := by omega
        obtain ⟨vs, hvr, hvl, hve⟩ := HR1.out
        have HVR := Lib.hid hvr
        have HVL := Lib.hid hvl
        have HVE := Lib.hid hve
        have HOK := Lib.hid hok
        have HYL := Lib.hid hyl
        clear hrow hy hvr hvl hve hok hy1 hy2 hyl h14
        have HX14 := Lib.hid (show x.length ≤ 100000 by have := HXL.out; omega)
        go_wp2_with (at_builtin; refine wpList_append_row rfl (.tmp 23) (.tmp 25) 25 rfl w.heap.size 22 (.slice none 0 0) 24 Try.underlying25 h22 rfl _ vs rfl (some ⟨w1.heap.size, 0, none⟩) 1 1 [.slice YA y.length yc] rfl rfl (HVR.out.alloc _) (Src.new _ _ _ rfl) (by intro u hu; simp at hu; subst hu; rfl) (by rw [HVL.out]; unfold maxLen; simp; omega) (by rw [HVL.out]; simp; omega) (by rw [World.size_alloc]; have := HW1.out.size; omega) ?_)
        intro v2 w2 hrow hgr _
        have HK2 := Lib.hid (show Kept (fun i => w.heap.size ≤ i) w1 w2 from Kept.trans ((Kept.refl _ _).alloc _) (kept_grown hgr (fun i e _ => (HVR.out.lt i e).1)))
        have HR2 := Lib.hid (show Recs w2 w.heap.size v2 (ls ++ [y]) from ⟨_, hrow, by simp [HVL.out], fun k h h' => by
          by_cases hk : k < vs.length
          · rw [List.getElem_append_left hk, List.getElem_append_left (by rw [← HVL.out]; exact hk)]
            exact ((HVE.out k hk (by rw [← HVL.out]; exact hk)).alloc _).grown hgr (HVR.out.apart (HVE.out k hk (by rw [← HVL.out]; exact hk)) (by decide))
          · obtain rfl : k = vs.length := by simp at h; omega
            have e1 : (vs ++ [Value.slice YA y.length yc])[vs.length] = .slice YA y.length yc := by simp
            have e2 : (ls ++ [y])[vs.length] = y := by rw [List.getElem_append_right (by rw [HVL.out]; exact Nat.le_refl _)]; simp [HVL.out]
            rw [e1, e2]
            exact (HY.out.alloc _).grown hgr (HVR.out.apart HY.out (by decide))⟩)
        obtain ⟨VA2, vc2, hve2, -, -⟩ := HR2.out.shape
        rw [show (ls ++ [y]).length = ls.length + 1 by simp] at hve2
        subst hve2
        clear hrow hgr
        go_wp2_with fail
        go_roundw
        case rel =>
          refine ⟨ls ++ [y], at_ + (14 + y.length), hat2, ?_, ?_, by simpa using HR2.out |> Lib.hid, Lib.hid ?_, Lib.hid ?_⟩
          · exact congrArg (Value.int .i64) (by omega)
          · simp; omega
          · rw [HS.out, HS1.out]; simp [Nat.add_assoc]
          · exact HW1.out.trans (HK2.out.below HW1.out.size (fun i h => h))
        case measure => simp [intOf]; omega
      · have HS1 := Lib.hid (scan_no x ls.length hno)
        go_wp2_with fail
        go_ret2
        have hr := HR1.out
        have hs : scan b 0 = (ls, at_) := by rw [HS.out, HS1.out]; simp
        refine ⟨?_, HW1.out⟩
        unfold ScanPost
        rw [hs]
        exact ⟨_, rfl, hr⟩
end Go.Proofs.Ytnfolopodjdlbaa
