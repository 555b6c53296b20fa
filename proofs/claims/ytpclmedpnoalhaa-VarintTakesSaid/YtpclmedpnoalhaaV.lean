/- The law VarintTakes, walked. -/
import Derived.Test.YtpclmedpnoalhaaU
namespace Go.Proofs.Ytpclmedpnoalhaa
open Go.RowKit
set_option linter.unusedVariables false

theorem takes_long (A : Option Addr) (c n : Nat) (w : World) (h : 500 < n) (hn : n ≤ maxLen) :
    Calls Try.prog 5 #[.slice A n c] w fun e w' => e = .returned (.bool true) ∧ Below w.heap.size w w' := by
  unfold maxLen at hn
  go_enter Try.func5, Try.ntmps5
  go_wp2_with fail
  refine (awake_any w).mono ?_
  rintro e w1 ⟨rfl, rfl⟩
  go_wp2_with fail
  go_ret
  exact ⟨rfl, Below.refl _ _⟩
theorem tkV_zero (l : List UInt8) (h : tkN l = 0) : tkV l = 0 := by
  cases l with
  | nil => rfl
  | cons x l =>
    simp only [tkN, tkV] at *
    split
    · rfl
    · rename_i hn
      rw [if_neg hn] at h
      have : 0 < szOf x := Nat.two_pow_pos _
      omega

set_option maxRecDepth 100000 in
set_option maxHeartbeats 8000000 in
theorem takes_any (A : Option Addr) (c : Nat) (l : List UInt8) (w : World) (hl : l.length ≤ 500) (hc : l.length ≤ c) (hcm : c ≤ maxLen) (hB : BS w w.heap.size A l) :
    Calls Try.prog 5 #[.slice A l.length c] w fun e w' => e = .returned (.bool true) ∧ Below w.heap.size w w' := by
  have HB := Lib.hid hB
  have HCM := Lib.hid hcm
  have hn := tkN_le l
  have h5 := Try.info22
  unfold maxLen at hcm
  clear hB
  go_enter Try.func5, Try.ntmps5
  go_wp2_with fail
  refine (take_any A c l w (by omega) hc HCM.out HB.out).mono ?_
  rintro e w1 ⟨htk, hb1⟩
  have hs1 := hb1.size
  have HB1 := Lib.hid hb1
  have HBS1 := Lib.hid (HB.out.onB hb1 (Nat.le_refl _))
  clear hb1
  -- up to the call of All
  have key : ∀ (R5 : Value) (n5 e5 : Int), (tkN l = 0 ∧ R5 = .slice none 0 0 ∧ n5 = 0 ∧ e5 = 20 ∨ tkN l ≠ 0 ∧ n5 = tkV l ∧ e5 = 0 ∧ Byt w1 R5 (l.drop (tkN l))) → True := fun _ _ _ _ => trivial
  clear key
  rcases htk with ⟨ht, rfl⟩ | ⟨ht, v, rfl, hy⟩
  · have HT0 := Lib.hid ht
    have HR := Lib.hid (refTake_any A c l w1 (by omega) hc HCM.out HBS1.out)
    rw [ht, tkV_zero l ht] at HR
    clear ht
    go_wp2_with fail
    refine HR.out.mono ?_
    rintro e w2 ⟨rfl, hb2⟩
    have hs2 := hb2.size
    have HB2 := Lib.hid (HB1.out.trans (hb2.mono hs1))
    have HBS2 := Lib.hid (HBS1.out.onB hb2 (Nat.le_refl _))
    clear hb2
    go_wp2_with fail
    refine wp_region_kept 36 [] ?st ?ne rfl (by kernel_rfl) (by kernel_rfl) ?_
    case st => intro p hp; cases hp
    case ne => intro p hp; cases hp
    simp only [List.take_succ_cons, List.take_zero, List.drop_succ_cons, List.drop_zero]
    intro G pick hR hp1 hp2
    repeat (first | (refine wpR_det hp2 rfl ((hR.rel _).trans rfl) rfl ?_; intro K hK; go_big_quiet_op; go_big_quiet_on) | (refine wpR_skip pick rfl ?_; intro K hK; go_big_quiet_op; go_big_quiet_on))
    refine wpR_nil ?_
    intro wX hk2 hF hM
    have hsX : w.heap.size ≤ wX.heap.size := by have := hk2.size; omega
    have HBX := Lib.hid (HB2.out.trans (hk2.below (by omega) (fun _ h => h.elim)))
    have HSX := Lib.hid (HBS2.out.on hk2 (fun _ _ h => h))
    clear hF hM hk2 hp1 hp2 hR HB2 HBS2 HB1 HBS1
    go_wp2_with fail
    refine (all_any A c l wX (by omega) hc HCM.out HSX.out).mono ?_
    rintro e w4 ⟨hall0, hb4⟩
    obtain ⟨LA, ln, lc, er, rfl, hall⟩ : ∃ LA ln lc er, e = .returned (.tuple #[.slice LA ln lc, .int .i64 er]) ∧ (allOf l = none ∧ ln = 0 ∧ er = 20 ∨ ∃ ds, allOf l = some ds ∧ er = 0 ∧ ln = ds.length ∧ Row w4 wX.heap.size 22 (.slice LA ln lc) (us ds)) := by
      rcases hall0 with ⟨h1, rfl⟩ | ⟨ds, v, h1, rfl, h2⟩
      · exact ⟨none, 0, 0, 20, rfl, .inl ⟨h1, rfl, rfl⟩⟩
      · obtain ⟨A1, c1, rfl, _⟩ := h2.shape
        exact ⟨A1, _, c1, 0, rfl, .inr ⟨ds, h1, rfl, us_length ds, h2⟩⟩
    have hs4 := hb4.size
    have HALL := Lib.hid hall
    have HB4 := Lib.hid (HBX.out.trans (hb4.mono hsX))
    have HS4 := Lib.hid (HSX.out.onB hb4 (Nat.le_refl _))
    clear hall0 hall hb4
    go_wp2_with fail
    go_loopg [0, 10, 11, 12, 13, 14] 502 (fun g b v ok i _ _ wr => ∃ (A' : Option Addr) (c' k : Nat) (r : List UInt8) (ds : List Int) (o : Bool), b = .slice A' r.length c' ∧ r.length ≤ c' ∧ c' ≤ c ∧ i = .int .i64 (k : Int) ∧ k + g = 502 ∧ k ≤ 500 ∧ r.length ≤ 500 ∧ ds.length = k ∧ ok = .bool o ∧ (o = true ∧ k + r.length ≤ 500 ∧ Thus l ds r ∨ o = false ∧ 0 < r.length ∧ allOf l = none) ∧ BS w4 w4.heap.size A' r ∧ Row wr w4.heap.size 22 v (us ds) ∧ Below w4.heap.size w4 wr)
    case atStart => exact ⟨A, c, 0, l, [], true, rfl, hc, Nat.le_refl _, rfl, by omega, by omega, by omega, rfl, rfl, .inl ⟨rfl, by omega, Thus.start l⟩, HS4.out, Row.nil _ _ _, Below.refl _ _⟩
    case round =>
      obtain ⟨A', c', k, r, ds, ok, rfl, hr1, hr2, rfl, hgk, hk5, hr5, hdk, rfl, hst, hbs, hrw, hbw⟩ := hrel
      have HGK := Lib.hid hgk
      have HDK := Lib.hid hdk
      have HBR := Lib.hid hbs
      have HRW := Lib.hid hrw
      have HBW := Lib.hid hbw
      have hsw := hbw.size
      have HUL := Lib.hid (show (us ds).length = k by rw [us_length, hdk])
      obtain ⟨vA, vc, hve, _⟩ := hrw.shape
      subst hve
      rw [us_length, hdk]
      clear hgk hdk hbs hrw hbw
      rcases hst with ⟨rfl, hkr, hth⟩ | ⟨rfl, hr0, hnone⟩
      · have HTH := Lib.hid hth
        clear hth
        rcases Nat.eq_zero_or_pos r.length with h0 | h0
        · obtain rfl : r = [] := List.eq_nil_of_length_eq_zero h0
          have HSOME := Lib.hid HTH.out.done
          rcases HALL.out with ⟨h, _⟩ | ⟨ds', h, rfl, rfl, hrow⟩
          · rw [HSOME.out] at h; cases h
          · obtain rfl : ds = ds' := by rw [HSOME.out] at h; injection h
            have HROW := Lib.hid hrow
            rw [HDK.out]
            clear h hrow h0 hkr
            by_cases hk500 : k < 500
            all_goals
              go_wp2_with fail
              go_loopg [15] (k + 1) (fun g i wq => ∃ j : Nat, i = .int .i64 (j : Int) ∧ j + g = k + 1 ∧ j ≤ k ∧ Row wq w4.heap.size 22 (.slice vA k vc) (us ds) ∧ Row wq wX.heap.size 22 (.slice LA k lc) (us ds) ∧ Below w.heap.size w wq)
              case atStart => exact ⟨0, rfl, by omega, by omega, by have h := HRW.out; rw [HUL.out] at h; exact h, by have h := HROW.out.belowAll HBW.out; rw [HDK.out] at h; exact h, HB4.out.trans (HBW.out.mono (by omega))⟩
              case round =>
                obtain ⟨j, rfl, hjg, hjk, hq1, hq2, hqb⟩ := hrel
                have HJG := Lib.hid hjg
                have HQ1 := Lib.hid hq1
                have HQ2 := Lib.hid hq2
                have HQB := Lib.hid hqb
                have hqs := hqb.size
                clear hjg hq1 hq2 hqb HRW HROW HBW
                by_cases hj : j < k
                · have hjI : (j : Int) < (k : Int) := by omega
                  obtain ⟨g1, c1, e1, _, hg1, cc1⟩ := HQ1.out.at (i := j) (by rw [HUL.out]; exact hj)
                  obtain ⟨g2, c2, e2, _, hg2, cc2⟩ := HQ2.out.at (i := j) (by rw [HUL.out]; exact hj)
                  injection e1 with e1 y1 y2
                  injection e2 with e2 y3 y4
                  clear y1 y2 y3 y4
                  subst e1 e2
                  obtain ⟨x, hx⟩ : ∃ x, (us ds)[j]'(by rw [HUL.out]; exact hj) = .int .u64 x := ⟨_, by simp [us]; rfl⟩
                  have cA : wr.cell? ⟨g1, j, none⟩ = some (.int .u64 x) := by rw [cc1 j (by rw [HUL.out]; exact hj), hx]
                  have cB : wr.cell? ⟨g2, j, none⟩ = some (.int .u64 x) := by rw [cc2 j (by rw [HUL.out]; exact hj), hx]
                  have hjD : decide (k ≤ j) = false := by simp; omega
                  clear cc1 cc2 hx
                  go_wp2_with fail
                  refine wp_region_kept 15 [] ?st ?ne rfl (by kernel_rfl) (by kernel_rfl) ?_
                  case st => intro p hp; cases hp
                  case ne => intro p hp; cases hp
                  simp only [List.take_succ_cons, List.take_zero, List.drop_succ_cons, List.drop_zero]
                  intro G pick hR hp1 hp2
                  have pA : ∀ u, (pick u).cell? ⟨g1, j, none⟩ = some (.int .u64 x) := fun u => ((hp1 u).cell hg1 (fun h => h) _).trans cA
                  have pB : ∀ u, (pick u).cell? ⟨g2, j, none⟩ = some (.int .u64 x) := fun u => ((hp1 u).cell hg2 (fun h => h) _).trans cB
                  repeat (first | (refine wpR_det hp2 rfl ((hR.rel _).trans rfl) rfl ?_; intro K hK; go_big_quiet_op; go_big_quiet_on) | (refine wpR_skip pick rfl ?_; intro K hK; go_big_quiet_op; go_big_quiet_on))
                  refine wpR_nil ?_
                  intro w9 hk2 hF hM
                  have HQ3 := Lib.hid (HQ1.out.kept hk2 (fun _ _ h => h))
                  have HQ4 := Lib.hid (HQ2.out.kept hk2 (fun _ _ h => h))
                  have HQ5 := Lib.hid (HQB.out.trans (hk2.below hqs (fun _ h => h.elim)))
                  clear hF hM hk2 hp1 hp2 hR pA pB
                  go_wp2_with fail
                  go_roundg (gk - 1)
                  case measure => have := HJG.out; omega
                  case rel => exact ⟨j + 1, by go_num, by have := HJG.out; omega, by omega, HQ3.out, HQ4.out, HQ5.out⟩
                · obtain rfl : j = k := by omega
                  go_wp2_with fail
                  refine (awake_any _).mono ?_
                  rintro e w9 ⟨rfl, rfl⟩
                  go_wp2_with fail
                  go_ret
                  exact ⟨rfl, HQB.out⟩
        · have hk500 : k < 500 := by omega
          have hr0I : (0 : Int) < (r.length : Int) := by omega
          have hne : r ≠ [] := List.length_pos_iff.1 h0
          have HF := Lib.hid (refTake_any A' c' r wr (by omega) hr1 (by have := HCM.out; omega) ((HBR.out.below HBW.out).more hsw))
          have hn := tkN_le r
          have hv := tkV_range r
          obtain ⟨b, o, hb, rfl, _⟩ := HBR.out.at (k := 0) h0
          by_cases ht : tkN r = 0
          · have HNO := Lib.hid (HTH.out.stop hne ht)
            rw [ht, tkV_zero r ht] at HF
            have hc0 : ¬ c' = 0 := by omega
            have hc0' : ¬ 0 = c' := by omega
            clear ht
            go_wp2_with fail
            refine HF.out.mono ?_
            rintro e w5 ⟨rfl, hb5⟩
            have hs5 := hb5.size
            have HR5 := Lib.hid (HRW.out.belowAll hb5)
            have HB5 := Lib.hid (HBW.out.trans (hb5.mono hsw))
            clear hb5
            go_wp2_with (at_builtin; refine wpList_append_row rfl (.tmp 91) (.tmp 93) 39 rfl w4.heap.size 22 (.int .u64 0) 8 Try.underlying39 h5 rfl _ (us ds) rfl (some ⟨w5.heap.size, 0, none⟩) 1 1 [.int .u64 0] rfl rfl ?a1 ?a2 (one_u _ rfl) ?a3 ?a4 ?a5 ?_)
            case a1 => have h := HR5.out.alloc (.cells #[.int .u64 0] 22); rw [us_length, HDK.out] at h; exact h
            case a2 => exact Src.new _ _ _ rfl
            case a3 => rw [HUL.out]; unfold maxLen; simp; omega
            case a4 => rw [HUL.out]; simp; omega
            case a5 => simp; omega
            intro v1 w6 hrow hgr _
            have HR6 := Lib.hid (show Row w6 w4.heap.size 22 v1 (us (ds ++ [0])) by rw [us_append]; exact hrow)
            have HB6 := Lib.hid ((HB5.out.alloc (by omega) (.cells #[.int .u64 0] 22)).trans (below_grown hgr (fun i e => by have h := HRW.out; rw [us_length, HDK.out] at h; exact (h.lt i e).1) (by simp; omega)))
            clear hrow hgr
            go_wp2_with fail
            go_roundg (gk - 1)
            case measure => have := HGK.out; omega
            case rel => exact ⟨some ⟨b, o, none⟩, c', k + 1, r, ds ++ [0], false, rfl, hr1, hr2, by go_num, by have := HGK.out; omega, by omega, hr5, by rw [List.length_append, HDK.out]; rfl, rfl, .inr ⟨rfl, h0, HNO.out⟩, HBR.out, HR6.out, HB6.out⟩
          · have HST := Lib.hid (HTH.out.step ht)
            have HDL := Lib.hid (show (r.drop (tkN r)).length = r.length - tkN r by simp)
            have HBD := Lib.hid (HBR.out.drop_ (tkN r))
            obtain ⟨n, hnn⟩ : ∃ n, tkN r = n := ⟨_, rfl⟩
            obtain ⟨V, hV⟩ : ∃ V, tkV r = V := ⟨_, rfl⟩
            rw [hnn] at ht HF HST HDL HBD hn
            rw [hV] at HF HST hv
            have hnp : 0 < n := Nat.pos_of_ne_zero ht
            have hnI : (0 : Int) < (n : Int) := by omega
            have hnD : decide ((0 : Int) < (n : Int)) = true := by simp; omega
            clear hnn hV ht
            by_cases hcn : c' = n
            · subst hcn
              have hrn : r.length - c' = 0 := by omega
              go_wp2_with fail
              refine HF.out.mono ?_
              rintro e w5 ⟨rfl, hb5⟩
              have hs5 := hb5.size
              have HR5 := Lib.hid (HRW.out.belowAll hb5)
              have HB5 := Lib.hid (HBW.out.trans (hb5.mono hsw))
              clear hb5
              go_wp2_with (at_builtin; refine wpList_append_row rfl (.tmp 91) (.tmp 93) 39 rfl w4.heap.size 22 (.int .u64 0) 8 Try.underlying39 h5 rfl _ (us ds) rfl (some ⟨w5.heap.size, 0, none⟩) 1 1 [.int .u64 V] rfl rfl ?a1 ?a2 (one_u _ rfl) ?a3 ?a4 ?a5 ?_)
              case a1 => have h := HR5.out.alloc (.cells #[.int .u64 V] 22); rw [us_length, HDK.out] at h; exact h
              case a2 => exact Src.new _ _ _ rfl
              case a3 => rw [HUL.out]; unfold maxLen; simp; omega
              case a4 => rw [HUL.out]; simp; omega
              case a5 => simp; omega
              intro v1 w6 hrow hgr _
              have HR6 := Lib.hid (show Row w6 w4.heap.size 22 v1 (us (ds ++ [V])) by rw [us_append]; exact hrow)
              have HB6 := Lib.hid ((HB5.out.alloc (by omega) (.cells #[.int .u64 V] 22)).trans (below_grown hgr (fun i e => by have h := HRW.out; rw [us_length, HDK.out] at h; exact (h.lt i e).1) (by simp; omega)))
              clear hrow hgr
              go_wp2_with fail
              go_roundg (gk - 1)
              case measure => have := HGK.out; omega
              case rel => exact ⟨some ⟨b, o, none⟩, 0, k + 1, r.drop c', ds ++ [V], true, by rw [HDL.out, hrn], by rw [HDL.out]; omega, by omega, by go_num, by have := HGK.out; omega, by omega, by rw [HDL.out]; omega, by rw [List.length_append, HDK.out]; rfl, rfl, .inl ⟨rfl, by rw [HDL.out]; omega, HST.out⟩, .inl (List.drop_eq_nil_of_le hr1), HR6.out, HB6.out⟩
            · have hcn' : ¬ n = c' := fun h => hcn h.symm
              go_wp2_with fail
              refine HF.out.mono ?_
              rintro e w5 ⟨rfl, hb5⟩
              have hs5 := hb5.size
              have HR5 := Lib.hid (HRW.out.belowAll hb5)
              have HB5 := Lib.hid (HBW.out.trans (hb5.mono hsw))
              clear hb5
              go_wp2_with (at_builtin; refine wpList_append_row rfl (.tmp 91) (.tmp 93) 39 rfl w4.heap.size 22 (.int .u64 0) 8 Try.underlying39 h5 rfl _ (us ds) rfl (some ⟨w5.heap.size, 0, none⟩) 1 1 [.int .u64 V] rfl rfl ?a1 ?a2 (one_u _ rfl) ?a3 ?a4 ?a5 ?_)
              case a1 => have h := HR5.out.alloc (.cells #[.int .u64 V] 22); rw [us_length, HDK.out] at h; exact h
              case a2 => exact Src.new _ _ _ rfl
              case a3 => rw [HUL.out]; unfold maxLen; simp; omega
              case a4 => rw [HUL.out]; simp; omega
              case a5 => simp; omega
              intro v1 w6 hrow hgr _
              have HR6 := Lib.hid (show Row w6 w4.heap.size 22 v1 (us (ds ++ [V])) by rw [us_append]; exact hrow)
              have HB6 := Lib.hid ((HB5.out.alloc (by omega) (.cells #[.int .u64 V] 22)).trans (below_grown hgr (fun i e => by have h := HRW.out; rw [us_length, HDK.out] at h; exact (h.lt i e).1) (by simp; omega)))
              clear hrow hgr
              go_wp2_with fail
              go_roundg (gk - 1)
              case measure => have := HGK.out; omega
              case rel => exact ⟨some ⟨b, o + n, none⟩, c' - n, k + 1, r.drop n, ds ++ [V], true, by rw [HDL.out], by rw [HDL.out]; omega, by omega, by go_num, by have := HGK.out; omega, by omega, by rw [HDL.out]; omega, by rw [List.length_append, HDK.out]; rfl, rfl, .inl ⟨rfl, by rw [HDL.out]; omega, HST.out⟩, HBD.out, HR6.out, HB6.out⟩
      · have HNO := Lib.hid hnone
        rcases HALL.out with ⟨_, rfl, rfl⟩ | ⟨ds', h, _⟩
        · have hr0I : (0 : Int) < (r.length : Int) := by omega
          clear hnone
          by_cases hk500 : k < 500
          all_goals
            go_wp2_with fail
            refine (awake_any _).mono ?_
            rintro e w9 ⟨rfl, rfl⟩
            go_wp2_with fail
            go_ret
            exact ⟨rfl, HB4.out.trans (HBW.out.mono (by omega))⟩
        · rw [hnone] at h; cases h
  · have hl0 : 0 < l.length := by omega
    obtain ⟨RA, rc, rfl, hr1, hr2, hbr⟩ := hy
    obtain ⟨b, o, hb, rfl, _⟩ := HBS1.out.at (k := 0) hl0
    have HBR := Lib.hid hbr
    have HR := Lib.hid (refTake_any (some ⟨b, o, none⟩) c l w1 (by omega) hc HCM.out HBS1.out)
    have HDL := Lib.hid (show (l.drop (tkN l)).length = l.length - tkN l by simp)
    have HBD := Lib.hid (HBS1.out.drop_ (tkN l))
    have hv := tkV_range l
    rw [HDL.out] at hr1 ⊢
    obtain ⟨n, hnn⟩ : ∃ n, tkN l = n := ⟨_, rfl⟩
    obtain ⟨V, hV⟩ : ∃ V, tkV l = V := ⟨_, rfl⟩
    rw [hnn] at ht HR HDL HBR HBD hn hr1 ⊢
    rw [hV] at HR hv ⊢
    have hnp : 0 < n := Nat.pos_of_ne_zero ht
    have hnI : (0 : Int) < (n : Int) := by omega
    have hnz : ((n : Int) == 0) = false := by simp; omega
    have hnz' : ¬ (n : Int) = 0 := by omega
    unfold maxLen at hr2
    clear hnn hV ht hbr
    by_cases hcn : c = n
    · subst hcn
      have hrn : l.length - c = 0 := by omega
      rw [hrn] at HDL hr1 ⊢
      have HBD : Hid (BS w1 w1.heap.size (some ⟨b, o, none⟩) (l.drop c)) := Lib.hid (.inl (List.drop_eq_nil_of_le hc))
      go_wp2_with fail
      refine HR.out.mono ?_
      rintro e w2 ⟨rfl, hb2⟩
      have hs2 := hb2.size
      have HB2 := Lib.hid (HB1.out.trans (hb2.mono hs1))
      have HBS2 := Lib.hid (HBS1.out.onB hb2 (Nat.le_refl _))
      have HBR2 := Lib.hid (HBR.out.onB hb2 (Nat.le_refl _))
      have HBD2 := Lib.hid (HBD.out.onB hb2 (Nat.le_refl _))
      clear hb2
      go_wp2_with fail
      refine wp_region_kept 36 [] ?st ?ne rfl (by kernel_rfl) (by kernel_rfl) ?_
      case st => intro p hp; cases hp
      case ne => intro p hp; cases hp
      simp only [List.take_succ_cons, List.take_zero, List.drop_succ_cons, List.drop_zero]
      intro G pick hR hp1 hp2
      have hcA : ∀ u, (convert 34 9 (.slice RA 0 rc)).run Try.prog (pick u) = .ok (.string ⟨(l.drop c).toArray⟩) (pick u) := fun u => by have h := (HBR2.out.on (hp1 u) (fun _ _ h => h)).conv Try.underlying34 Try.underlying5 Try.underlying9 (c := rc); rw [HDL.out] at h; exact h
      have hcB : ∀ u, (convert 34 9 (.slice (some ⟨b, o, none⟩) 0 0)).run Try.prog (pick u) = .ok (.string ⟨(l.drop c).toArray⟩) (pick u) := fun u => by have h := (HBD2.out.on (hp1 u) (fun _ _ h => h)).conv Try.underlying34 Try.underlying5 Try.underlying9 (c := 0); rw [HDL.out] at h; exact h
      repeat (first | (refine wpR_det hp2 rfl ((hR.rel _).trans rfl) rfl ?_; intro K hK; go_big_quiet_op; go_big_quiet_on) | (refine wpR_skip pick rfl ?_; intro K hK; go_big_quiet_op; go_big_quiet_on))
      refine wpR_nil ?_
      intro wX hk2 hF hM
      have hsX : w.heap.size ≤ wX.heap.size := by have := hk2.size; omega
      have HBX := Lib.hid (HB2.out.trans (hk2.below (by omega) (fun _ h => h.elim)))
      have HSX := Lib.hid (HBS2.out.on hk2 (fun _ _ h => h))
      clear hF hM hk2 hp1 hp2 hR HB2 HBS2 HB1 HBS1 hcA hcB HBR HBR2 HBD HBD2 HDL
      go_wp2_with fail
      refine (all_any (some ⟨b, o, none⟩) c l wX (by omega) hc HCM.out HSX.out).mono ?_
      rintro e w4 ⟨hall0, hb4⟩
      obtain ⟨LA, ln, lc, er, rfl, hall⟩ : ∃ LA ln lc er, e = .returned (.tuple #[.slice LA ln lc, .int .i64 er]) ∧ (allOf l = none ∧ ln = 0 ∧ er = 20 ∨ ∃ ds, allOf l = some ds ∧ er = 0 ∧ ln = ds.length ∧ Row w4 wX.heap.size 22 (.slice LA ln lc) (us ds)) := by
        rcases hall0 with ⟨h1, rfl⟩ | ⟨ds, v, h1, rfl, h2⟩
        · exact ⟨none, 0, 0, 20, rfl, .inl ⟨h1, rfl, rfl⟩⟩
        · obtain ⟨A1, c1, rfl, _⟩ := h2.shape
          exact ⟨A1, _, c1, 0, rfl, .inr ⟨ds, h1, rfl, us_length ds, h2⟩⟩
      have hs4 := hb4.size
      have HALL := Lib.hid hall
      have HB4 := Lib.hid (HBX.out.trans (hb4.mono hsX))
      have HS4 := Lib.hid (HSX.out.onB hb4 (Nat.le_refl _))
      clear hall0 hall hb4
      go_wp2_with fail
      go_loopg [0, 10, 11, 12, 13, 14] 502 (fun g b v ok i _ _ wr => ∃ (A' : Option Addr) (c' k : Nat) (r : List UInt8) (ds : List Int) (o : Bool), b = .slice A' r.length c' ∧ r.length ≤ c' ∧ c' ≤ c ∧ i = .int .i64 (k : Int) ∧ k + g = 502 ∧ k ≤ 500 ∧ r.length ≤ 500 ∧ ds.length = k ∧ ok = .bool o ∧ (o = true ∧ k + r.length ≤ 500 ∧ Thus l ds r ∨ o = false ∧ 0 < r.length ∧ allOf l = none) ∧ BS w4 w4.heap.size A' r ∧ Row wr w4.heap.size 22 v (us ds) ∧ Below w4.heap.size w4 wr)
      case atStart => exact ⟨some ⟨b, o, none⟩, c, 0, l, [], true, rfl, hc, Nat.le_refl _, rfl, by omega, by omega, by omega, rfl, rfl, .inl ⟨rfl, by omega, Thus.start l⟩, HS4.out, Row.nil _ _ _, Below.refl _ _⟩
      case round =>
        obtain ⟨A', c', k, r, ds, ok, rfl, hr1, hr2, rfl, hgk, hk5, hr5, hdk, rfl, hst, hbs, hrw, hbw⟩ := hrel
        have HGK := Lib.hid hgk
        have HDK := Lib.hid hdk
        have HBR := Lib.hid hbs
        have HRW := Lib.hid hrw
        have HBW := Lib.hid hbw
        have hsw := hbw.size
        have HUL := Lib.hid (show (us ds).length = k by rw [us_length, hdk])
        obtain ⟨vA, vc, hve, _⟩ := hrw.shape
        subst hve
        rw [us_length, hdk]
        clear hgk hdk hbs hrw hbw
        rcases hst with ⟨rfl, hkr, hth⟩ | ⟨rfl, hr0, hnone⟩
        · have HTH := Lib.hid hth
          clear hth
          rcases Nat.eq_zero_or_pos r.length with h0 | h0
          · obtain rfl : r = [] := List.eq_nil_of_length_eq_zero h0
            have HSOME := Lib.hid HTH.out.done
            rcases HALL.out with ⟨h, _⟩ | ⟨ds', h, rfl, rfl, hrow⟩
            · rw [HSOME.out] at h; cases h
            · obtain rfl : ds = ds' := by rw [HSOME.out] at h; injection h
              have HROW := Lib.hid hrow
              rw [HDK.out]
              clear h hrow h0 hkr
              by_cases hk500 : k < 500
              all_goals
                go_wp2_with fail
                go_loopg [15] (k + 1) (fun g i wq => ∃ j : Nat, i = .int .i64 (j : Int) ∧ j + g = k + 1 ∧ j ≤ k ∧ Row wq w4.heap.size 22 (.slice vA k vc) (us ds) ∧ Row wq wX.heap.size 22 (.slice LA k lc) (us ds) ∧ Below w.heap.size w wq)
                case atStart => exact ⟨0, rfl, by omega, by omega, by have h := HRW.out; rw [HUL.out] at h; exact h, by have h := HROW.out.belowAll HBW.out; rw [HDK.out] at h; exact h, HB4.out.trans (HBW.out.mono (by omega))⟩
                case round =>
                  obtain ⟨j, rfl, hjg, hjk, hq1, hq2, hqb⟩ := hrel
                  have HJG := Lib.hid hjg
                  have HQ1 := Lib.hid hq1
                  have HQ2 := Lib.hid hq2
                  have HQB := Lib.hid hqb
                  have hqs := hqb.size
                  clear hjg hq1 hq2 hqb HRW HROW HBW
                  by_cases hj : j < k
                  · have hjI : (j : Int) < (k : Int) := by omega
                    obtain ⟨g1, c1, e1, _, hg1, cc1⟩ := HQ1.out.at (i := j) (by rw [HUL.out]; exact hj)
                    obtain ⟨g2, c2, e2, _, hg2, cc2⟩ := HQ2.out.at (i := j) (by rw [HUL.out]; exact hj)
                    injection e1 with e1 y1 y2
                    injection e2 with e2 y3 y4
                    clear y1 y2 y3 y4
                    subst e1 e2
                    obtain ⟨x, hx⟩ : ∃ x, (us ds)[j]'(by rw [HUL.out]; exact hj) = .int .u64 x := ⟨_, by simp [us]; rfl⟩
                    have cA : wr.cell? ⟨g1, j, none⟩ = some (.int .u64 x) := by rw [cc1 j (by rw [HUL.out]; exact hj), hx]
                    have cB : wr.cell? ⟨g2, j, none⟩ = some (.int .u64 x) := by rw [cc2 j (by rw [HUL.out]; exact hj), hx]
                    have hjD : decide (k ≤ j) = false := by simp; omega
                    clear cc1 cc2 hx
                    go_wp2_with fail
                    refine wp_region_kept 15 [] ?st ?ne rfl (by kernel_rfl) (by kernel_rfl) ?_
                    case st => intro p hp; cases hp
                    case ne => intro p hp; cases hp
                    simp only [List.take_succ_cons, List.take_zero, List.drop_succ_cons, List.drop_zero]
                    intro G pick hR hp1 hp2
                    have pA : ∀ u, (pick u).cell? ⟨g1, j, none⟩ = some (.int .u64 x) := fun u => ((hp1 u).cell hg1 (fun h => h) _).trans cA
                    have pB : ∀ u, (pick u).cell? ⟨g2, j, none⟩ = some (.int .u64 x) := fun u => ((hp1 u).cell hg2 (fun h => h) _).trans cB
                    repeat (first | (refine wpR_det hp2 rfl ((hR.rel _).trans rfl) rfl ?_; intro K hK; go_big_quiet_op; go_big_quiet_on) | (refine wpR_skip pick rfl ?_; intro K hK; go_big_quiet_op; go_big_quiet_on))
                    refine wpR_nil ?_
                    intro w9 hk2 hF hM
                    have HQ3 := Lib.hid (HQ1.out.kept hk2 (fun _ _ h => h))
                    have HQ4 := Lib.hid (HQ2.out.kept hk2 (fun _ _ h => h))
                    have HQ5 := Lib.hid (HQB.out.trans (hk2.below hqs (fun _ h => h.elim)))
                    clear hF hM hk2 hp1 hp2 hR pA pB
                    go_wp2_with fail
                    go_roundg (gk - 1)
                    case measure => have := HJG.out; omega
                    case rel => exact ⟨j + 1, by go_num, by have := HJG.out; omega, by omega, HQ3.out, HQ4.out, HQ5.out⟩
                  · obtain rfl : j = k := by omega
                    go_wp2_with fail
                    refine (awake_any _).mono ?_
                    rintro e w9 ⟨rfl, rfl⟩
                    go_wp2_with fail
                    go_ret
                    exact ⟨rfl, HQB.out⟩
          · have hk500 : k < 500 := by omega
            have hr0I : (0 : Int) < (r.length : Int) := by omega
            have hne : r ≠ [] := List.length_pos_iff.1 h0
            have HF := Lib.hid (refTake_any A' c' r wr (by omega) hr1 (by have := HCM.out; omega) ((HBR.out.below HBW.out).more hsw))
            have hn := tkN_le r
            have hv := tkV_range r
            obtain ⟨b', o', hb', rfl, _⟩ := HBR.out.at (k := 0) h0
            by_cases ht : tkN r = 0
            · have HNO := Lib.hid (HTH.out.stop hne ht)
              rw [ht, tkV_zero r ht] at HF
              have hc0 : ¬ c' = 0 := by omega
              have hc0' : ¬ 0 = c' := by omega
              clear ht
              go_wp2_with fail
              refine HF.out.mono ?_
              rintro e w5 ⟨rfl, hb5⟩
              have hs5 := hb5.size
              have HR5 := Lib.hid (HRW.out.belowAll hb5)
              have HB5 := Lib.hid (HBW.out.trans (hb5.mono hsw))
              clear hb5
              go_wp2_with (at_builtin; refine wpList_append_row rfl (.tmp 91) (.tmp 93) 39 rfl w4.heap.size 22 (.int .u64 0) 8 Try.underlying39 h5 rfl _ (us ds) rfl (some ⟨w5.heap.size, 0, none⟩) 1 1 [.int .u64 0] rfl rfl ?a1 ?a2 (one_u _ rfl) ?a3 ?a4 ?a5 ?_)
              case a1 => have h := HR5.out.alloc (.cells #[.int .u64 0] 22); rw [us_length, HDK.out] at h; exact h
              case a2 => exact Src.new _ _ _ rfl
              case a3 => rw [HUL.out]; unfold maxLen; simp; omega
              case a4 => rw [HUL.out]; simp; omega
              case a5 => simp; omega
              intro v1 w6 hrow hgr _
              have HR6 := Lib.hid (show Row w6 w4.heap.size 22 v1 (us (ds ++ [0])) by rw [us_append]; exact hrow)
              have HB6 := Lib.hid ((HB5.out.alloc (by omega) (.cells #[.int .u64 0] 22)).trans (below_grown hgr (fun i e => by have h := HRW.out; rw [us_length, HDK.out] at h; exact (h.lt i e).1) (by simp; omega)))
              clear hrow hgr
              go_wp2_with fail
              go_roundg (gk - 1)
              case measure => have := HGK.out; omega
              case rel => exact ⟨some ⟨b', o', none⟩, c', k + 1, r, ds ++ [0], false, rfl, hr1, hr2, by go_num, by have := HGK.out; omega, by omega, hr5, by rw [List.length_append, HDK.out]; rfl, rfl, .inr ⟨rfl, h0, HNO.out⟩, HBR.out, HR6.out, HB6.out⟩
            · have HST := Lib.hid (HTH.out.step ht)
              have HDL := Lib.hid (show (r.drop (tkN r)).length = r.length - tkN r by simp)
              have HBD := Lib.hid (HBR.out.drop_ (tkN r))
              obtain ⟨n, hnn⟩ : ∃ n, tkN r = n := ⟨_, rfl⟩
              obtain ⟨V, hV⟩ : ∃ V, tkV r = V := ⟨_, rfl⟩
              rw [hnn] at ht HF HST HDL HBD hn
              rw [hV] at HF HST hv
              have hnp : 0 < n := Nat.pos_of_ne_zero ht
              have hnI : (0 : Int) < (n : Int) := by omega
              have hnD : decide ((0 : Int) < (n : Int)) = true := by simp; omega
              clear hnn hV ht
              by_cases hcn : c' = n
              · subst hcn
                have hrn : r.length - c' = 0 := by omega
                go_wp2_with fail
                refine HF.out.mono ?_
                rintro e w5 ⟨rfl, hb5⟩
                have hs5 := hb5.size
                have HR5 := Lib.hid (HRW.out.belowAll hb5)
                have HB5 := Lib.hid (HBW.out.trans (hb5.mono hsw))
                clear hb5
                go_wp2_with (at_builtin; refine wpList_append_row rfl (.tmp 91) (.tmp 93) 39 rfl w4.heap.size 22 (.int .u64 0) 8 Try.underlying39 h5 rfl _ (us ds) rfl (some ⟨w5.heap.size, 0, none⟩) 1 1 [.int .u64 V] rfl rfl ?a1 ?a2 (one_u _ rfl) ?a3 ?a4 ?a5 ?_)
                case a1 => have h := HR5.out.alloc (.cells #[.int .u64 V] 22); rw [us_length, HDK.out] at h; exact h
                case a2 => exact Src.new _ _ _ rfl
                case a3 => rw [HUL.out]; unfold maxLen; simp; omega
                case a4 => rw [HUL.out]; simp; omega
                case a5 => simp; omega
                intro v1 w6 hrow hgr _
                have HR6 := Lib.hid (show Row w6 w4.heap.size 22 v1 (us (ds ++ [V])) by rw [us_append]; exact hrow)
                have HB6 := Lib.hid ((HB5.out.alloc (by omega) (.cells #[.int .u64 V] 22)).trans (below_grown hgr (fun i e => by have h := HRW.out; rw [us_length, HDK.out] at h; exact (h.lt i e).1) (by simp; omega)))
                clear hrow hgr
                go_wp2_with fail
                go_roundg (gk - 1)
                case measure => have := HGK.out; omega
                case rel => exact ⟨some ⟨b', o', none⟩, 0, k + 1, r.drop c', ds ++ [V], true, by rw [HDL.out, hrn], by rw [HDL.out]; omega, by omega, by go_num, by have := HGK.out; omega, by omega, by rw [HDL.out]; omega, by rw [List.length_append, HDK.out]; rfl, rfl, .inl ⟨rfl, by rw [HDL.out]; omega, HST.out⟩, .inl (List.drop_eq_nil_of_le hr1), HR6.out, HB6.out⟩
              · have hcn' : ¬ n = c' := fun h => hcn h.symm
                go_wp2_with fail
                refine HF.out.mono ?_
                rintro e w5 ⟨rfl, hb5⟩
                have hs5 := hb5.size
                have HR5 := Lib.hid (HRW.out.belowAll hb5)
                have HB5 := Lib.hid (HBW.out.trans (hb5.mono hsw))
                clear hb5
                go_wp2_with (at_builtin; refine wpList_append_row rfl (.tmp 91) (.tmp 93) 39 rfl w4.heap.size 22 (.int .u64 0) 8 Try.underlying39 h5 rfl _ (us ds) rfl (some ⟨w5.heap.size, 0, none⟩) 1 1 [.int .u64 V] rfl rfl ?a1 ?a2 (one_u _ rfl) ?a3 ?a4 ?a5 ?_)
                case a1 => have h := HR5.out.alloc (.cells #[.int .u64 V] 22); rw [us_length, HDK.out] at h; exact h
                case a2 => exact Src.new _ _ _ rfl
                case a3 => rw [HUL.out]; unfold maxLen; simp; omega
                case a4 => rw [HUL.out]; simp; omega
                case a5 => simp; omega
                intro v1 w6 hrow hgr _
                have HR6 := Lib.hid (show Row w6 w4.heap.size 22 v1 (us (ds ++ [V])) by rw [us_append]; exact hrow)
                have HB6 := Lib.hid ((HB5.out.alloc (by omega) (.cells #[.int .u64 V] 22)).trans (below_grown hgr (fun i e => by have h := HRW.out; rw [us_length, HDK.out] at h; exact (h.lt i e).1) (by simp; omega)))
                clear hrow hgr
                go_wp2_with fail
                go_roundg (gk - 1)
                case measure => have := HGK.out; omega
                case rel => exact ⟨some ⟨b', o' + n, none⟩, c' - n, k + 1, r.drop n, ds ++ [V], true, by rw [HDL.out], by rw [HDL.out]; omega, by omega, by go_num, by have := HGK.out; omega, by omega, by rw [HDL.out]; omega, by rw [List.length_append, HDK.out]; rfl, rfl, .inl ⟨rfl, by rw [HDL.out]; omega, HST.out⟩, HBD.out, HR6.out, HB6.out⟩
        · have HNO := Lib.hid hnone
          rcases HALL.out with ⟨_, rfl, rfl⟩ | ⟨ds', h, _⟩
          · have hr0I : (0 : Int) < (r.length : Int) := by omega
            clear hnone
            by_cases hk500 : k < 500
            all_goals
              go_wp2_with fail
              refine (awake_any _).mono ?_
              rintro e w9 ⟨rfl, rfl⟩
              go_wp2_with fail
              go_ret
              exact ⟨rfl, HB4.out.trans (HBW.out.mono (by omega))⟩
          · rw [hnone] at h; cases h
    · have hcn' : ¬ n = c := fun h => hcn h.symm
      go_wp2_with fail
      refine HR.out.mono ?_
      rintro e w2 ⟨rfl, hb2⟩
      have hs2 := hb2.size
      have HB2 := Lib.hid (HB1.out.trans (hb2.mono hs1))
      have HBS2 := Lib.hid (HBS1.out.onB hb2 (Nat.le_refl _))
      have HBR2 := Lib.hid (HBR.out.onB hb2 (Nat.le_refl _))
      have HBD2 := Lib.hid (HBD.out.onB hb2 (Nat.le_refl _))
      clear hb2
      go_wp2_with fail
      refine wp_region_kept 36 [] ?st ?ne rfl (by kernel_rfl) (by kernel_rfl) ?_
      case st => intro p hp; cases hp
      case ne => intro p hp; cases hp
      simp only [List.take_succ_cons, List.take_zero, List.drop_succ_cons, List.drop_zero]
      intro G pick hR hp1 hp2
      have hcA : ∀ u, (convert 34 9 (.slice RA (l.length - n) rc)).run Try.prog (pick u) = .ok (.string ⟨(l.drop n).toArray⟩) (pick u) := fun u => by have h := (HBR2.out.on (hp1 u) (fun _ _ h => h)).conv Try.underlying34 Try.underlying5 Try.underlying9 (c := rc); rw [HDL.out] at h; exact h
      have hcB : ∀ u, (convert 34 9 (.slice (some ⟨b, o + n, none⟩) (l.length - n) (c - n))).run Try.prog (pick u) = .ok (.string ⟨(l.drop n).toArray⟩) (pick u) := fun u => by have h := (HBD2.out.on (hp1 u) (fun _ _ h => h)).conv Try.underlying34 Try.underlying5 Try.underlying9 (c := (c - n)); rw [HDL.out] at h; exact h
      repeat (first | (refine wpR_det hp2 rfl ((hR.rel _).trans rfl) rfl ?_; intro K hK; go_big_quiet_op; go_big_quiet_on) | (refine wpR_skip pick rfl ?_; intro K hK; go_big_quiet_op; go_big_quiet_on))
      refine wpR_nil ?_
      intro wX hk2 hF hM
      have hsX : w.heap.size ≤ wX.heap.size := by have := hk2.size; omega
      have HBX := Lib.hid (HB2.out.trans (hk2.below (by omega) (fun _ h => h.elim)))
      have HSX := Lib.hid (HBS2.out.on hk2 (fun _ _ h => h))
      clear hF hM hk2 hp1 hp2 hR HB2 HBS2 HB1 HBS1 hcA hcB HBR HBR2 HBD HBD2 HDL
      go_wp2_with fail
      refine (all_any (some ⟨b, o, none⟩) c l wX (by omega) hc HCM.out HSX.out).mono ?_
      rintro e w4 ⟨hall0, hb4⟩
      obtain ⟨LA, ln, lc, er, rfl, hall⟩ : ∃ LA ln lc er, e = .returned (.tuple #[.slice LA ln lc, .int .i64 er]) ∧ (allOf l = none ∧ ln = 0 ∧ er = 20 ∨ ∃ ds, allOf l = some ds ∧ er = 0 ∧ ln = ds.length ∧ Row w4 wX.heap.size 22 (.slice LA ln lc) (us ds)) := by
        rcases hall0 with ⟨h1, rfl⟩ | ⟨ds, v, h1, rfl, h2⟩
        · exact ⟨none, 0, 0, 20, rfl, .inl ⟨h1, rfl, rfl⟩⟩
        · obtain ⟨A1, c1, rfl, _⟩ := h2.shape
          exact ⟨A1, _, c1, 0, rfl, .inr ⟨ds, h1, rfl, us_length ds, h2⟩⟩
      have hs4 := hb4.size
      have HALL := Lib.hid hall
      have HB4 := Lib.hid (HBX.out.trans (hb4.mono hsX))
      have HS4 := Lib.hid (HSX.out.onB hb4 (Nat.le_refl _))
      clear hall0 hall hb4
      go_wp2_with fail
      go_loopg [0, 10, 11, 12, 13, 14] 502 (fun g b v ok i _ _ wr => ∃ (A' : Option Addr) (c' k : Nat) (r : List UInt8) (ds : List Int) (o : Bool), b = .slice A' r.length c' ∧ r.length ≤ c' ∧ c' ≤ c ∧ i = .int .i64 (k : Int) ∧ k + g = 502 ∧ k ≤ 500 ∧ r.length ≤ 500 ∧ ds.length = k ∧ ok = .bool o ∧ (o = true ∧ k + r.length ≤ 500 ∧ Thus l ds r ∨ o = false ∧ 0 < r.length ∧ allOf l = none) ∧ BS w4 w4.heap.size A' r ∧ Row wr w4.heap.size 22 v (us ds) ∧ Below w4.heap.size w4 wr)
      case atStart => exact ⟨some ⟨b, o, none⟩, c, 0, l, [], true, rfl, hc, Nat.le_refl _, rfl, by omega, by omega, by omega, rfl, rfl, .inl ⟨rfl, by omega, Thus.start l⟩, HS4.out, Row.nil _ _ _, Below.refl _ _⟩
      case round =>
        obtain ⟨A', c', k, r, ds, ok, rfl, hr1, hr2, rfl, hgk, hk5, hr5, hdk, rfl, hst, hbs, hrw, hbw⟩ := hrel
        have HGK := Lib.hid hgk
        have HDK := Lib.hid hdk
        have HBR := Lib.hid hbs
        have HRW := Lib.hid hrw
        have HBW := Lib.hid hbw
        have hsw := hbw.size
        have HUL := Lib.hid (show (us ds).length = k by rw [us_length, hdk])
        obtain ⟨vA, vc, hve, _⟩ := hrw.shape
        subst hve
        rw [us_length, hdk]
        clear hgk hdk hbs hrw hbw
        rcases hst with ⟨rfl, hkr, hth⟩ | ⟨rfl, hr0, hnone⟩
        · have HTH := Lib.hid hth
          clear hth
          rcases Nat.eq_zero_or_pos r.length with h0 | h0
          · obtain rfl : r = [] := List.eq_nil_of_length_eq_zero h0
            have HSOME := Lib.hid HTH.out.done
            rcases HALL.out with ⟨h, _⟩ | ⟨ds', h, rfl, rfl, hrow⟩
            · rw [HSOME.out] at h; cases h
            · obtain rfl : ds = ds' := by rw [HSOME.out] at h; injection h
              have HROW := Lib.hid hrow
              rw [HDK.out]
              clear h hrow h0 hkr
              by_cases hk500 : k < 500
              all_goals
                go_wp2_with fail
                go_loopg [15] (k + 1) (fun g i wq => ∃ j : Nat, i = .int .i64 (j : Int) ∧ j + g = k + 1 ∧ j ≤ k ∧ Row wq w4.heap.size 22 (.slice vA k vc) (us ds) ∧ Row wq wX.heap.size 22 (.slice LA k lc) (us ds) ∧ Below w.heap.size w wq)
                case atStart => exact ⟨0, rfl, by omega, by omega, by have h := HRW.out; rw [HUL.out] at h; exact h, by have h := HROW.out.belowAll HBW.out; rw [HDK.out] at h; exact h, HB4.out.trans (HBW.out.mono (by omega))⟩
                case round =>
                  obtain ⟨j, rfl, hjg, hjk, hq1, hq2, hqb⟩ := hrel
                  have HJG := Lib.hid hjg
                  have HQ1 := Lib.hid hq1
                  have HQ2 := Lib.hid hq2
                  have HQB := Lib.hid hqb
                  have hqs := hqb.size
                  clear hjg hq1 hq2 hqb HRW HROW HBW
                  by_cases hj : j < k
                  · have hjI : (j : Int) < (k : Int) := by omega
                    obtain ⟨g1, c1, e1, _, hg1, cc1⟩ := HQ1.out.at (i := j) (by rw [HUL.out]; exact hj)
                    obtain ⟨g2, c2, e2, _, hg2, cc2⟩ := HQ2.out.at (i := j) (by rw [HUL.out]; exact hj)
                    injection e1 with e1 y1 y2
                    injection e2 with e2 y3 y4
                    clear y1 y2 y3 y4
                    subst e1 e2
                    obtain ⟨x, hx⟩ : ∃ x, (us ds)[j]'(by rw [HUL.out]; exact hj) = .int .u64 x := ⟨_, by simp [us]; rfl⟩
                    have cA : wr.cell? ⟨g1, j, none⟩ = some (.int .u64 x) := by rw [cc1 j (by rw [HUL.out]; exact hj), hx]
                    have cB : wr.cell? ⟨g2, j, none⟩ = some (.int .u64 x) := by rw [cc2 j (by rw [HUL.out]; exact hj), hx]
                    have hjD : decide (k ≤ j) = false := by simp; omega
                    clear cc1 cc2 hx
                    go_wp2_with fail
                    refine wp_region_kept 15 [] ?st ?ne rfl (by kernel_rfl) (by kernel_rfl) ?_
                    case st => intro p hp; cases hp
                    case ne => intro p hp; cases hp
                    simp only [List.take_succ_cons, List.take_zero, List.drop_succ_cons, List.drop_zero]
                    intro G pick hR hp1 hp2
                    have pA : ∀ u, (pick u).cell? ⟨g1, j, none⟩ = some (.int .u64 x) := fun u => ((hp1 u).cell hg1 (fun h => h) _).trans cA
                    have pB : ∀ u, (pick u).cell? ⟨g2, j, none⟩ = some (.int .u64 x) := fun u => ((hp1 u).cell hg2 (fun h => h) _).trans cB
                    repeat (first | (refine wpR_det hp2 rfl ((hR.rel _).trans rfl) rfl ?_; intro K hK; go_big_quiet_op; go_big_quiet_on) | (refine wpR_skip pick rfl ?_; intro K hK; go_big_quiet_op; go_big_quiet_on))
                    refine wpR_nil ?_
                    intro w9 hk2 hF hM
                    have HQ3 := Lib.hid (HQ1.out.kept hk2 (fun _ _ h => h))
                    have HQ4 := Lib.hid (HQ2.out.kept hk2 (fun _ _ h => h))
                    have HQ5 := Lib.hid (HQB.out.trans (hk2.below hqs (fun _ h => h.elim)))
                    clear hF hM hk2 hp1 hp2 hR pA pB
                    go_wp2_with fail
                    go_roundg (gk - 1)
                    case measure => have := HJG.out; omega
                    case rel => exact ⟨j + 1, by go_num, by have := HJG.out; omega, by omega, HQ3.out, HQ4.out, HQ5.out⟩
                  · obtain rfl : j = k := by omega
                    go_wp2_with fail
                    refine (awake_any _).mono ?_
                    rintro e w9 ⟨rfl, rfl⟩
                    go_wp2_with fail
                    go_ret
                    exact ⟨rfl, HQB.out⟩
          · have hk500 : k < 500 := by omega
            have hr0I : (0 : Int) < (r.length : Int) := by omega
            have hne : r ≠ [] := List.length_pos_iff.1 h0
            have HF := Lib.hid (refTake_any A' c' r wr (by omega) hr1 (by have := HCM.out; omega) ((HBR.out.below HBW.out).more hsw))
            have hn := tkN_le r
            have hv := tkV_range r
            obtain ⟨b', o', hb', rfl, _⟩ := HBR.out.at (k := 0) h0
            by_cases ht : tkN r = 0
            · have HNO := Lib.hid (HTH.out.stop hne ht)
              rw [ht, tkV_zero r ht] at HF
              have hc0 : ¬ c' = 0 := by omega
              have hc0' : ¬ 0 = c' := by omega
              clear ht
              go_wp2_with fail
              refine HF.out.mono ?_
              rintro e w5 ⟨rfl, hb5⟩
              have hs5 := hb5.size
              have HR5 := Lib.hid (HRW.out.belowAll hb5)
              have HB5 := Lib.hid (HBW.out.trans (hb5.mono hsw))
              clear hb5
              go_wp2_with (at_builtin; refine wpList_append_row rfl (.tmp 91) (.tmp 93) 39 rfl w4.heap.size 22 (.int .u64 0) 8 Try.underlying39 h5 rfl _ (us ds) rfl (some ⟨w5.heap.size, 0, none⟩) 1 1 [.int .u64 0] rfl rfl ?a1 ?a2 (one_u _ rfl) ?a3 ?a4 ?a5 ?_)
              case a1 => have h := HR5.out.alloc (.cells #[.int .u64 0] 22); rw [us_length, HDK.out] at h; exact h
              case a2 => exact Src.new _ _ _ rfl
              case a3 => rw [HUL.out]; unfold maxLen; simp; omega
              case a4 => rw [HUL.out]; simp; omega
              case a5 => simp; omega
              intro v1 w6 hrow hgr _
              have HR6 := Lib.hid (show Row w6 w4.heap.size 22 v1 (us (ds ++ [0])) by rw [us_append]; exact hrow)
              have HB6 := Lib.hid ((HB5.out.alloc (by omega) (.cells #[.int .u64 0] 22)).trans (below_grown hgr (fun i e => by have h := HRW.out; rw [us_length, HDK.out] at h; exact (h.lt i e).1) (by simp; omega)))
              clear hrow hgr
              go_wp2_with fail
              go_roundg (gk - 1)
              case measure => have := HGK.out; omega
              case rel => exact ⟨some ⟨b', o', none⟩, c', k + 1, r, ds ++ [0], false, rfl, hr1, hr2, by go_num, by have := HGK.out; omega, by omega, hr5, by rw [List.length_append, HDK.out]; rfl, rfl, .inr ⟨rfl, h0, HNO.out⟩, HBR.out, HR6.out, HB6.out⟩
            · have HST := Lib.hid (HTH.out.step ht)
              have HDL := Lib.hid (show (r.drop (tkN r)).length = r.length - tkN r by simp)
              have HBD := Lib.hid (HBR.out.drop_ (tkN r))
              obtain ⟨n, hnn⟩ : ∃ n, tkN r = n := ⟨_, rfl⟩
              obtain ⟨V, hV⟩ : ∃ V, tkV r = V := ⟨_, rfl⟩
              rw [hnn] at ht HF HST HDL HBD hn
              rw [hV] at HF HST hv
              have hnp : 0 < n := Nat.pos_of_ne_zero ht
              have hnI : (0 : Int) < (n : Int) := by omega
              have hnD : decide ((0 : Int) < (n : Int)) = true := by simp; omega
              clear hnn hV ht
              by_cases hcn : c' = n
              · subst hcn
                have hrn : r.length - c' = 0 := by omega
                go_wp2_with fail
                refine HF.out.mono ?_
                rintro e w5 ⟨rfl, hb5⟩
                have hs5 := hb5.size
                have HR5 := Lib.hid (HRW.out.belowAll hb5)
                have HB5 := Lib.hid (HBW.out.trans (hb5.mono hsw))
                clear hb5
                go_wp2_with (at_builtin; refine wpList_append_row rfl (.tmp 91) (.tmp 93) 39 rfl w4.heap.size 22 (.int .u64 0) 8 Try.underlying39 h5 rfl _ (us ds) rfl (some ⟨w5.heap.size, 0, none⟩) 1 1 [.int .u64 V] rfl rfl ?a1 ?a2 (one_u _ rfl) ?a3 ?a4 ?a5 ?_)
                case a1 => have h := HR5.out.alloc (.cells #[.int .u64 V] 22); rw [us_length, HDK.out] at h; exact h
                case a2 => exact Src.new _ _ _ rfl
                case a3 => rw [HUL.out]; unfold maxLen; simp; omega
                case a4 => rw [HUL.out]; simp; omega
                case a5 => simp; omega
                intro v1 w6 hrow hgr _
                have HR6 := Lib.hid (show Row w6 w4.heap.size 22 v1 (us (ds ++ [V])) by rw [us_append]; exact hrow)
                have HB6 := Lib.hid ((HB5.out.alloc (by omega) (.cells #[.int .u64 V] 22)).trans (below_grown hgr (fun i e => by have h := HRW.out; rw [us_length, HDK.out] at h; exact (h.lt i e).1) (by simp; omega)))
                clear hrow hgr
                go_wp2_with fail
                go_roundg (gk - 1)
                case measure => have := HGK.out; omega
                case rel => exact ⟨some ⟨b', o', none⟩, 0, k + 1, r.drop c', ds ++ [V], true, by rw [HDL.out, hrn], by rw [HDL.out]; omega, by omega, by go_num, by have := HGK.out; omega, by omega, by rw [HDL.out]; omega, by rw [List.length_append, HDK.out]; rfl, rfl, .inl ⟨rfl, by rw [HDL.out]; omega, HST.out⟩, .inl (List.drop_eq_nil_of_le hr1), HR6.out, HB6.out⟩
              · have hcn' : ¬ n = c' := fun h => hcn h.symm
                go_wp2_with fail
                refine HF.out.mono ?_
                rintro e w5 ⟨rfl, hb5⟩
                have hs5 := hb5.size
                have HR5 := Lib.hid (HRW.out.belowAll hb5)
                have HB5 := Lib.hid (HBW.out.trans (hb5.mono hsw))
                clear hb5
                go_wp2_with (at_builtin; refine wpList_append_row rfl (.tmp 91) (.tmp 93) 39 rfl w4.heap.size 22 (.int .u64 0) 8 Try.underlying39 h5 rfl _ (us ds) rfl (some ⟨w5.heap.size, 0, none⟩) 1 1 [.int .u64 V] rfl rfl ?a1 ?a2 (one_u _ rfl) ?a3 ?a4 ?a5 ?_)
                case a1 => have h := HR5.out.alloc (.cells #[.int .u64 V] 22); rw [us_length, HDK.out] at h; exact h
                case a2 => exact Src.new _ _ _ rfl
                case a3 => rw [HUL.out]; unfold maxLen; simp; omega
                case a4 => rw [HUL.out]; simp; omega
                case a5 => simp; omega
                intro v1 w6 hrow hgr _
                have HR6 := Lib.hid (show Row w6 w4.heap.size 22 v1 (us (ds ++ [V])) by rw [us_append]; exact hrow)
                have HB6 := Lib.hid ((HB5.out.alloc (by omega) (.cells #[.int .u64 V] 22)).trans (below_grown hgr (fun i e => by have h := HRW.out; rw [us_length, HDK.out] at h; exact (h.lt i e).1) (by simp; omega)))
                clear hrow hgr
                go_wp2_with fail
                go_roundg (gk - 1)
                case measure => have := HGK.out; omega
                case rel => exact ⟨some ⟨b', o' + n, none⟩, c' - n, k + 1, r.drop n, ds ++ [V], true, by rw [HDL.out], by rw [HDL.out]; omega, by omega, by go_num, by have := HGK.out; omega, by omega, by rw [HDL.out]; omega, by rw [List.length_append, HDK.out]; rfl, rfl, .inl ⟨rfl, by rw [HDL.out]; omega, HST.out⟩, HBD.out, HR6.out, HB6.out⟩
        · have HNO := Lib.hid hnone
          rcases HALL.out with ⟨_, rfl, rfl⟩ | ⟨ds', h, _⟩
          · have hr0I : (0 : Int) < (r.length : Int) := by omega
            clear hnone
            by_cases hk500 : k < 500
            all_goals
              go_wp2_with fail
              refine (awake_any _).mono ?_
              rintro e w9 ⟨rfl, rfl⟩
              go_wp2_with fail
              go_ret
              exact ⟨rfl, HB4.out.trans (HBW.out.mono (by omega))⟩
          · rw [hnone] at h; cases h
end Go.Proofs.Ytpclmedpnoalhaa
