/- symMergeCmpFunc: the general case; the whole. -/
import Derived.Test.YtidooohgbiiikaaQD
import Derived.Deep.DeepCutAuto
namespace Go.Proofs.Ytidooohgbiiikaa
open Go.RowKit
set_option linter.unusedVariables false
def SymI (g n c d : Nat) : Prop := ∀ (a m b : Nat) (f0 : Nat → List Value) (w : World), b - a ≤ d → a < m → m < b → b ≤ n → PR w g n f0 → Srt kof (seg f0 a m) → Srt kof (seg f0 m b) →
    Calls Try.prog 49 #[(.slice (some ⟨g, 0, none⟩) n c), .int .i64 (a : Int), .int .i64 (m : Int), .int .i64 (b : Int), (.func (.func 18) #[] #[])] w (SymP g n a m b f0 w)
set_option maxRecDepth 100000 in
set_option maxHeartbeats 8000000 in
theorem symC_any (g n c a m b d : Nat) (f0 : Nat → List Value) (w : World) (hn : n ≤ 100000) (ham : a + 1 < m) (hmb : m + 1 < b) (hbn : b ≤ n) (hd : b - a ≤ d + 1) (hP : PR w g n f0) (hs : Srt kof (seg f0 a m)) (ht : Srt kof (seg f0 m b)) (ih : SymI g n c d) :
    Calls Try.prog 49 #[(.slice (some ⟨g, 0, none⟩) n c), .int .i64 (a : Int), .int .i64 (m : Int), .int .i64 (b : Int), (.func (.func 18) #[] #[])] w (SymP g n a m b f0 w) := by
  have HP0 := Lib.hid hP
  have HS := Lib.hid hs
  have HT := Lib.hid ht
  have IH := Lib.hid ih
  have em : ¬ (m : Int) - (a : Int) = 1 := by omega
  have em' : ¬ (b : Int) - (m : Int) = 1 := by omega
  obtain ⟨v, hv⟩ : ∃ v, (a + b) / 2 = v := ⟨_, rfl⟩
  obtain ⟨nu, hu⟩ : ∃ nu, v + m = nu := ⟨_, rfl⟩
  obtain ⟨p, hp⟩ : ∃ p, nu - 1 = p := ⟨_, rfl⟩
  have ev : ((a : Int) + (b : Int)) / 2 = (v : Int) := by omega
  have eu : (v : Int) + (m : Int) = (nu : Int) := by omega
  have ep : (nu : Int) - 1 = (p : Int) := by omega
  have v1 : 2 * v ≤ a + b := by omega
  have v2 : a + b ≤ 2 * v + 1 := by omega
  have v3 : v < b := by omega
  have v4 : a < v := by omega
  have HU := Lib.hid hu
  have HPE := Lib.hid (show nu = p + 1 by omega)
  clear hP hs ht ih hv hu hp
  go_enter Try.func49, Try.ntmps49
  go_upto_if 140 with fail
  go_cut [20, 21] (fun x y wx => ∃ lo hi : Nat, x = .int .i64 (lo : Int) ∧ y = .int .i64 (hi : Int) ∧ a ≤ lo ∧ lo ≤ hi ∧ hi ≤ m ∧ hi ≤ v ∧ nu ≤ lo + b ∧ w = wx ∧ Hid (lo = a ∨ lo + b = nu) ∧ Hid (hi = m ∨ hi = v))
  case first =>
    have hu := HU.out
    by_cases hvm : v < m
    · have vI : (v : Int) < (m : Int) := by omega
      have e1 : (nu : Int) - (b : Int) = ((nu - b : Nat) : Int) := by omega
      have h1 : a ≤ nu - b := by omega
      have h2 : nu - b ≤ v := by omega
      have h3 : nu ≤ nu - b + b := by omega
      have h4 : v ≤ m := by omega
      have H5 := Lib.hid (show nu - b + b = nu by omega)
      clear hu
      go_wp2_with fail
      go_meet
      exact ⟨nu - b, v, rfl, rfl, h1, h2, h4, Nat.le_refl _, h3, rfl, Lib.hid (.inr H5.out), Lib.hid (.inr rfl)⟩
    · have vI : ¬ (v : Int) < (m : Int) := by omega
      have h1 : m ≤ v := by omega
      have h2 : nu ≤ a + b := by omega
      have h3 : a ≤ m := by omega
      clear hu
      go_wp2_with fail
      go_meet
      exact ⟨a, m, rfl, rfl, Nat.le_refl _, h3, Nat.le_refl _, h1, h2, rfl, Lib.hid (.inl rfl), Lib.hid (.inl rfl)⟩
  case rest =>
  obtain ⟨lo, hi, rfl, rfl, lo1, lo2, lo3, lo4, lo5, rfl, HLO, HHI⟩ := hcut
  have hu1 : nu ≤ v + m := by have := HU.out; omega
  have hu2 : v + m ≤ nu := by have := HU.out; omega
  have hp1 : nu ≤ p + 1 := by have := HPE.out; omega
  have hp2 : p + 1 ≤ nu := by have := HPE.out; omega
  go_wp2_with fail
  go_loopw [20, 21] (fun x y wr => ∃ i j : Nat, lo ≤ i ∧ i ≤ j ∧ j ≤ hi ∧ x = .int .i64 (i : Int) ∧ y = .int .i64 (j : Int) ∧ Hid (Kept (fun _ => False) w wr) ∧ Hid (i = lo ∨ ¬ kof (f0 (nu - i)) < kof (f0 (i - 1))) ∧ Hid (j = hi ∨ kof (f0 (p - j)) < kof (f0 j))) (fun x y _ => (intOf y).toNat - (intOf x).toNat)
  case atStart => exact ⟨lo, hi, by omega, by omega, by omega, rfl, rfl, Lib.hid (Kept.refl _ _), Lib.hid (.inl rfl), Lib.hid (.inl rfl)⟩
  case round =>
    obtain ⟨i, j, hi1, hij, hjb, rfl, rfl, HK1, HL, HR⟩ := hrel
    by_cases hlt : i < j
    · have lI : (i : Int) < (j : Int) := by omega
      obtain ⟨h, hh⟩ : ∃ h, (i + j) / 2 = h := ⟨_, rfl⟩
      have hh1 : i ≤ h := by omega
      have hh2 : h < j := by omega
      have eh : ((i : Int) + (j : Int)) / 2 = (h : Int) := by omega
      have HHE := Lib.hid hh
      clear hh
      obtain ⟨q, hq⟩ : ∃ q, p - h = q := ⟨_, rfl⟩
      have eq : (p : Int) - (h : Int) = (q : Int) := by omega
      have hqb : q < b := by omega
      have hq1 : q + h ≤ p := by omega
      have hq2 : p ≤ q + h := by omega
      have HQE := Lib.hid hq
      clear hq
      have hhn : h < n := by omega
      have hqn : q < n := by omega
      have h0 : (0 : Int) ≤ (h : Int) := by omega
      have hI : (h : Int) < (n : Int) := by omega
      have q0 : (0 : Int) ≤ (q : Int) := by omega
      have qI : (q : Int) < (n : Int) := by omega
      have HP := Lib.hid (HP0.out.kept HK1.out (fun h => h))
      have glt := HP.out.lt
      obtain ⟨f, hf⟩ : ∃ f, f0 = f := ⟨_, rfl⟩
      rw [hf] at HP HL HR
      have HF := Lib.hid hf
      clear hf
      obtain ⟨z, hz⟩ : ∃ z, cmpI (kof (f q)) (kof (f h)) = z := ⟨_, rfl⟩
      have HZ := Lib.hid hz
      clear hz
      by_cases z0 : z < 0
      · as_aux_lemma =>
        go_upto_region 35 with fail
        refine wp_region_kept 14 [(11, fun v u => v = .int .i64 z)] ?st ?ne rfl (by kernel_rfl) (by kernel_rfl) ?_
        case st =>
          intro p hp
          simp only [List.mem_cons, List.not_mem_nil, or_false] at hp
          subst hp
          · intro v u u' h hk; exact h
        case ne =>
          intro p hp
          simp only [List.mem_cons, List.not_mem_nil, or_false] at hp
          subst hp
          · exact ⟨_, _, Kept.refl _ _, rfl⟩
        simp only [List.take_succ_cons, List.take_zero, List.drop_succ_cons, List.drop_zero]
        intro G pick hR hp1 hp2
        repeat (first | (refine wpR_det hp2 rfl ((hR.rel _).trans rfl) rfl ?_; intro K hK; (first | (refine quiet_load_row 54 (.tmp 163) g (q * 17) (f (q)) _ rfl (fun u => (HP.out.kept (hp1 u) (fun h => h)).range (hqn)) Try.underlying54 rfl (by rw [(HP.out.good _ (hqn)).1]; kernel_rfl) ?_) | (refine quiet_load_row 54 (.tmp 167) g (h * 17) (f (h)) _ rfl (fun u => (HP.out.kept (hp1 u) (fun h => h)).range (hhn)) Try.underlying54 rfl (by rw [(HP.out.good _ (hhn)).1]; kernel_rfl) ?_)); go_big_quiet_op; go_big_quiet_on) | (refine wpR_det hp2 rfl ((hR.rel _).trans rfl) rfl ?_; intro K hK; go_big_quiet_op; go_big_quiet_on) | (refine wpR_ptr hp2 rfl ((hR.rel _).trans rfl) rfl rfl ?_; intro K hK; go_big_quiet_op; go_big_quiet_on) | (refine wpR_skip pick rfl ?_; intro K hK; go_big_quiet_op; go_big_quiet_on))
        refine wpR_rel pick rfl ((hR.rel _).trans rfl) ((hR.turns _).trans rfl) ?_ ?_
        · intro u hu
          have hk := hR.since hu.1
          have hks := hk.size
          unfold relAt
          go_simp
          refine (join1_any (f (q)) (f (h)) u (HP.out.good _ (hqn)) (HP.out.good _ (hhn))).mono ?_
          rintro e w' ⟨rfl, hb⟩
          exact ⟨_, rfl, hR.into0 hb, hR.put 0 rfl rfl (by rw [HZ.out])⟩
        intro v hv
        obtain ⟨u, _, hu⟩ := hv
        obtain rfl := hR.get 0 rfl hu
        clear hu
        intro K hK
        go_big_quiet_op
        go_big_quiet_on
        repeat (first | (refine wpR_det hp2 rfl ((hR.rel _).trans rfl) rfl ?_; intro K hK; (first | (refine quiet_load_row 54 (.tmp 163) g (q * 17) (f (q)) _ rfl (fun u => (HP.out.kept (hp1 u) (fun h => h)).range (hqn)) Try.underlying54 rfl (by rw [(HP.out.good _ (hqn)).1]; kernel_rfl) ?_) | (refine quiet_load_row 54 (.tmp 167) g (h * 17) (f (h)) _ rfl (fun u => (HP.out.kept (hp1 u) (fun h => h)).range (hhn)) Try.underlying54 rfl (by rw [(HP.out.good _ (hhn)).1]; kernel_rfl) ?_)); go_big_quiet_op; go_big_quiet_on) | (refine wpR_det hp2 rfl ((hR.rel _).trans rfl) rfl ?_; intro K hK; go_big_quiet_op; go_big_quiet_on) | (refine wpR_ptr hp2 rfl ((hR.rel _).trans rfl) rfl rfl ?_; intro K hK; go_big_quiet_op; go_big_quiet_on) | (refine wpR_skip pick rfl ?_; intro K hK; go_big_quiet_op; go_big_quiet_on))
        refine wpR_nil ?_
        intro w2 hk2 hF hM
        have HK2 := Lib.hid (HK1.out.trans hk2)
        clear hF hM hk2 hp1 hp2 hR
        go_wp2_with fail
        go_roundw
        case rel => exact ⟨i, h, by omega, by omega, by omega, rfl, rfl, HK2, Lib.hid (by rw [HF.out]; exact HL.out), Lib.hid (.inr (by rw [HF.out, HQE.out]; exact (cmpI_neg _ _).1 (by rw [HZ.out]; exact z0)))⟩
        case measure => simp [intOf]; omega
      · as_aux_lemma =>
        go_upto_region 35 with fail
        refine wp_region_kept 14 [(11, fun v u => v = .int .i64 z)] ?st ?ne rfl (by kernel_rfl) (by kernel_rfl) ?_
        case st =>
          intro p hp
          simp only [List.mem_cons, List.not_mem_nil, or_false] at hp
          subst hp
          · intro v u u' h hk; exact h
        case ne =>
          intro p hp
          simp only [List.mem_cons, List.not_mem_nil, or_false] at hp
          subst hp
          · exact ⟨_, _, Kept.refl _ _, rfl⟩
        simp only [List.take_succ_cons, List.take_zero, List.drop_succ_cons, List.drop_zero]
        intro G pick hR hp1 hp2
        repeat (first | (refine wpR_det hp2 rfl ((hR.rel _).trans rfl) rfl ?_; intro K hK; (first | (refine quiet_load_row 54 (.tmp 163) g (q * 17) (f (q)) _ rfl (fun u => (HP.out.kept (hp1 u) (fun h => h)).range (hqn)) Try.underlying54 rfl (by rw [(HP.out.good _ (hqn)).1]; kernel_rfl) ?_) | (refine quiet_load_row 54 (.tmp 167) g (h * 17) (f (h)) _ rfl (fun u => (HP.out.kept (hp1 u) (fun h => h)).range (hhn)) Try.underlying54 rfl (by rw [(HP.out.good _ (hhn)).1]; kernel_rfl) ?_)); go_big_quiet_op; go_big_quiet_on) | (refine wpR_det hp2 rfl ((hR.rel _).trans rfl) rfl ?_; intro K hK; go_big_quiet_op; go_big_quiet_on) | (refine wpR_ptr hp2 rfl ((hR.rel _).trans rfl) rfl rfl ?_; intro K hK; go_big_quiet_op; go_big_quiet_on) | (refine wpR_skip pick rfl ?_; intro K hK; go_big_quiet_op; go_big_quiet_on))
        refine wpR_rel pick rfl ((hR.rel _).trans rfl) ((hR.turns _).trans rfl) ?_ ?_
        · intro u hu
          have hk := hR.since hu.1
          have hks := hk.size
          unfold relAt
          go_simp
          refine (join1_any (f (q)) (f (h)) u (HP.out.good _ (hqn)) (HP.out.good _ (hhn))).mono ?_
          rintro e w' ⟨rfl, hb⟩
          exact ⟨_, rfl, hR.into0 hb, hR.put 0 rfl rfl (by rw [HZ.out])⟩
        intro v hv
        obtain ⟨u, _, hu⟩ := hv
        obtain rfl := hR.get 0 rfl hu
        clear hu
        intro K hK
        go_big_quiet_op
        go_big_quiet_on
        repeat (first | (refine wpR_det hp2 rfl ((hR.rel _).trans rfl) rfl ?_; intro K hK; (first | (refine quiet_load_row 54 (.tmp 163) g (q * 17) (f (q)) _ rfl (fun u => (HP.out.kept (hp1 u) (fun h => h)).range (hqn)) Try.underlying54 rfl (by rw [(HP.out.good _ (hqn)).1]; kernel_rfl) ?_) | (refine quiet_load_row 54 (.tmp 167) g (h * 17) (f (h)) _ rfl (fun u => (HP.out.kept (hp1 u) (fun h => h)).range (hhn)) Try.underlying54 rfl (by rw [(HP.out.good _ (hhn)).1]; kernel_rfl) ?_)); go_big_quiet_op; go_big_quiet_on) | (refine wpR_det hp2 rfl ((hR.rel _).trans rfl) rfl ?_; intro K hK; go_big_quiet_op; go_big_quiet_on) | (refine wpR_ptr hp2 rfl ((hR.rel _).trans rfl) rfl rfl ?_; intro K hK; go_big_quiet_op; go_big_quiet_on) | (refine wpR_skip pick rfl ?_; intro K hK; go_big_quiet_op; go_big_quiet_on))
        refine wpR_nil ?_
        intro w2 hk2 hF hM
        have HK2 := Lib.hid (HK1.out.trans hk2)
        clear hF hM hk2 hR
        go_wp2_with fail
        go_roundw
        case rel => exact ⟨h + 1, j, by omega, by omega, by omega, by go_num, rfl, HK2, Lib.hid (.inr (by rw [HF.out, Nat.add_sub_cancel, show nu - (h + 1) = q by have := HPE.out; omega]; exact fun h' => z0 (by rw [← HZ.out]; exact (cmpI_neg _ _).2 h'))), Lib.hid (by rw [HF.out]; exact HR.out)⟩
        case measure => simp [intOf]; omega
    · as_aux_lemma =>
      obtain rfl : j = i := by omega
      have lI : ¬ (j : Int) < (j : Int) := by omega
      obtain ⟨e, he⟩ : ∃ e, nu - j = e := ⟨_, rfl⟩
      have ee : (nu : Int) - (j : Int) = (e : Int) := by omega
      have HPT := Lib.hid (show Parts kof f0 a m b j e from ⟨by omega, by omega, by omega, by omega, by
        rcases HL.out with h | h
        · rcases HLO.out with h' | h'
          · exact .inl (by omega)
          · exact .inr (.inl (by omega))
        · rw [he] at h
          exact .inr (.inr (by omega)), by
        rcases HR.out with h | h
        · rcases HHI.out with h' | h'
          · exact .inl (by omega)
          · exact .inr (.inl (by omega))
        · rw [show p - j = e - 1 by omega] at h
          exact .inr (.inr h)⟩)
      have HMID := Lib.hid (show v = j + (e - m) by omega)
      have x1 : a ≤ j := by omega
      have x2 : j ≤ m := by omega
      have x3 : m ≤ e := by omega
      have x4 : e ≤ b := by omega
      have x5 : j ≤ v := by omega
      have x6 : v ≤ e := by omega
      have HP1 := Lib.hid (HP0.out.kept HK1.out (fun h => h))
      clear he HLO HHI HL HR hi1 hij hjb
      go_upto_region 39 with fail
      go_cut [185] (fun x wx => x = .bool (decide (j < m ∧ m < e)) ∧ wr = wx)
      case first =>
        by_cases c1 : j < m
        · by_cases c2 : m < e
          · have i1 : (j : Int) < (m : Int) := by omega
            have i2 : (m : Int) < (e : Int) := by omega
            have dd : decide (j < m ∧ m < e) = true := decide_eq_true ⟨c1, c2⟩
            go_wp2_with fail
            go_meet
            exact ⟨by rw [dd], rfl⟩
          · have i1 : (j : Int) < (m : Int) := by omega
            have i2 : ¬ (m : Int) < (e : Int) := by omega
            have dd : decide (j < m ∧ m < e) = false := decide_eq_false (by omega)
            go_wp2_with fail
            go_meet
            exact ⟨by rw [dd], rfl⟩
        · have i1 : ¬ (j : Int) < (m : Int) := by omega
          have dd : decide (j < m ∧ m < e) = false := decide_eq_false (by omega)
          go_wp2_with fail
          go_meet
          exact ⟨by rw [dd], rfl⟩
      case rest =>
      obtain ⟨rfl, rfl⟩ := hcut
      go_upto_if 185 with fail
      go_cut [] (fun wx => Hid (PR wx g n (rot f0 j m e)) ∧ Hid (Kept (fun k => k = g) w wx))
      case first =>
        by_cases hc : j < m ∧ m < e
        · rw [decide_eq_true hc]
          as_aux_lemma =>
          go_wp2_with fail
          refine (rot_any g n c j m e f0 _ hn hc.1 hc.2 (by omega) HP1.out).mono ?_
          rintro e w1 ⟨rfl, hp1, hk1⟩
          have HP2 := Lib.hid hp1
          have HK2 := Lib.hid (HK1.out.gF.trans hk1)
          clear hp1 hk1
          go_wp2_with fail
          go_meet
          exact ⟨HP2, HK2⟩
        · rw [decide_eq_false hc]
          have HP2 := Lib.hid (show PR wr g n (rot f0 j m e) by rw [rot_none x2 x3 hc]; exact HP1.out)
          go_wp2_with fail
          go_meet
          exact ⟨HP2, Lib.hid HK1.out.gF⟩
      case rest =>
      obtain ⟨HP2, HK2⟩ := hcut
      obtain ⟨f1, hf1⟩ : ∃ f1, rot f0 j m e = f1 := ⟨_, rfl⟩
      rw [hf1] at HP2
      have HSG := Lib.hid (HPT.out.segs HMID.out)
      rw [hf1] at HSG
      have HF1 := Lib.hid hf1
      have HSA := Lib.hid (show Srt kof (seg f1 a j) by rw [HSG.out.1]; exact srt_sub HS.out (Nat.le_refl _) x2)
      have HSB := Lib.hid (show Srt kof (seg f1 j v) by rw [HSG.out.2.1]; exact srt_sub HT.out (Nat.le_refl _) x4)
      have HSC := Lib.hid (show Srt kof (seg f1 v e) by rw [HSG.out.2.2.1]; exact srt_sub HS.out x1 (Nat.le_refl _))
      have HSD := Lib.hid (show Srt kof (seg f1 e b) by rw [HSG.out.2.2.2]; exact srt_sub HT.out x3 (Nat.le_refl _))
      clear hf1 HP1 HK1
      go_upto_region 41 with fail
      go_cut [199] (fun x wx => x = .bool (decide (a < j ∧ j < v)) ∧ wc = wx)
      case first =>
        by_cases c1 : a < j
        · by_cases c2 : j < v
          · have i1 : (a : Int) < (j : Int) := by omega
            have i2 : (j : Int) < (v : Int) := by omega
            have dd : decide (a < j ∧ j < v) = true := decide_eq_true ⟨c1, c2⟩
            go_wp2_with fail
            go_meet
            exact ⟨by rw [dd], rfl⟩
          · have i1 : (a : Int) < (j : Int) := by omega
            have i2 : ¬ (j : Int) < (v : Int) := by omega
            have dd : decide (a < j ∧ j < v) = false := decide_eq_false (by omega)
            go_wp2_with fail
            go_meet
            exact ⟨by rw [dd], rfl⟩
        · have i1 : ¬ (a : Int) < (j : Int) := by omega
          have dd : decide (a < j ∧ j < v) = false := decide_eq_false (by omega)
          go_wp2_with fail
          go_meet
          exact ⟨by rw [dd], rfl⟩
      case rest =>
      obtain ⟨rfl, rfl⟩ := hcut
      go_upto_if 199 with fail
      go_cut [] (fun wx => ∃ g1 : Nat → List Value, Hid (PR wx g n g1) ∧ Hid (Kept (fun k => k = g) w wx) ∧ Hid (Merged kof f1 g1 a j v))
      case first =>
        by_cases hc : a < j ∧ j < v
        · rw [decide_eq_true hc]
          as_aux_lemma =>
          go_wp2_with fail
          refine (IH.out a j v f1 _ (by omega) hc.1 hc.2 (by omega) HP2.out HSA.out HSB.out).mono ?_
          rintro e w1 ⟨rfl, g1, hp1, hk1, hm1⟩
          have HP3 := Lib.hid hp1
          have HK3 := Lib.hid (HK2.out.trans hk1)
          have HM1 := Lib.hid hm1
          clear hp1 hk1 hm1
          go_wp2_with fail
          go_meet
          exact ⟨g1, HP3, HK3, HM1⟩
        · rw [decide_eq_false hc]
          have HM1 := Lib.hid (merged_none (key := kof) (f := f1) x1 x5 HSA.out HSB.out hc)
          go_wp2_with fail
          go_meet
          exact ⟨f1, HP2, HK2, HM1⟩
      case rest =>
      obtain ⟨g1, HP3, HK3, HM1⟩ := hcut
      have HSC1 := Lib.hid (show Srt kof (seg g1 v e) by rw [seg_congr (f := g1) (g := f1) (fun k p q => HM1.out.2 k (by omega))]; exact HSC.out)
      have HSD1 := Lib.hid (show Srt kof (seg g1 e b) by rw [seg_congr (f := g1) (g := f1) (fun k p q => HM1.out.2 k (by omega))]; exact HSD.out)
      clear HP2 HK2 HSA HSB HSC HSD HSG
      by_cases c1 : v < e
      · by_cases c2 : e < b
        · have i1 : (v : Int) < (e : Int) := by omega
          have i2 : (e : Int) < (b : Int) := by omega
          as_aux_lemma =>
          go_wp2_with fail
          refine (IH.out v e b g1 _ (by omega) c1 c2 hbn HP3.out HSC1.out HSD1.out).mono ?_
          rintro e w1 ⟨rfl, g2, hp1, hk1, hm1⟩
          have HP4 := Lib.hid hp1
          have HK4 := Lib.hid (HK3.out.trans hk1)
          have HM2 := Lib.hid hm1
          clear hp1 hk1 hm1
          go_wp2_with fail
          go_end0
          exact ⟨rfl, g2, HP4.out, HK4.out, HPT.out.join HMID.out HS.out HT.out (by rw [HF1.out]; exact HM1.out) HM2.out⟩
        · have i1 : (v : Int) < (e : Int) := by omega
          have i2 : ¬ (e : Int) < (b : Int) := by omega
          have HM2 := Lib.hid (merged_none (key := kof) (f := g1) x6 x4 HSC1.out HSD1.out (fun h => c2 h.2))
          go_wp2_with fail
          go_end0
          exact ⟨rfl, g1, HP3.out, HK3.out, HPT.out.join HMID.out HS.out HT.out (by rw [HF1.out]; exact HM1.out) HM2.out⟩
      · have i1 : ¬ (v : Int) < (e : Int) := by omega
        have HM2 := Lib.hid (merged_none (key := kof) (f := g1) x6 x4 HSC1.out HSD1.out (fun h => c1 h.1))
        go_wp2_with fail
        go_end0
        exact ⟨rfl, g1, HP3.out, HK3.out, HPT.out.join HMID.out HS.out HT.out (by rw [HF1.out]; exact HM1.out) HM2.out⟩
theorem sym_any (g n c : Nat) (hn : n ≤ 100000) : ∀ d, SymI g n c d := by
  intro d
  induction d with
  | zero => intro a m b f0 w h1 h2 h3; omega
  | succ d ih =>
    intro a m b f0 w hd ham hmb hbn hP hs ht
    by_cases h1 : a + 1 = m
    · exact symA_any g n c a m b f0 w hn h1 hmb hbn hP ht
    by_cases h2 : m + 1 = b
    · exact symB_any g n c a m b f0 w hn (by omega) h2 hbn hP hs
    exact symC_any g n c a m b d f0 w hn (by omega) (by omega) hbn hd hP hs ht ih
end Go.Proofs.Ytidooohgbiiikaa
