/- symMergeCmpFunc at one part on the right. -/
import Derived.Test.YtidooohgbiiikaaQC
namespace Go.Proofs.Ytidooohgbiiikaa
open Go.RowKit
set_option linter.unusedVariables false
set_option maxRecDepth 100000 in
set_option maxHeartbeats 4000000 in
theorem symB_any (g n c a m b : Nat) (f0 : Nat → List Value) (w : World) (hn : n ≤ 100000) (ham : a + 1 < m) (hmb : m + 1 = b) (hbn : b ≤ n) (hP : PR w g n f0) (hs : Srt kof (seg f0 a m)) :
    Calls Try.prog 49 #[(.slice (some ⟨g, 0, none⟩) n c), .int .i64 (a : Int), .int .i64 (m : Int), .int .i64 (b : Int), (.func (.func 18) #[] #[])] w (SymP g n a m b f0 w) := by
  have HP0 := Lib.hid hP
  have HM := Lib.hid hmb
  have HS := Lib.hid hs
  have em : (b : Int) - (m : Int) = 1 := by omega
  have em' : ¬ (m : Int) - (a : Int) = 1 := by omega
  have hm : m < n := by omega
  have m0 : (0 : Int) ≤ (m : Int) := by omega
  have mI : (m : Int) < (n : Int) := by omega
  clear hP hs hmb
  go_enter Try.func49, Try.ntmps49
  go_wp2_with fail
  go_loopw [14, 15] (fun x y wr => ∃ i j : Nat, a ≤ i ∧ i ≤ j ∧ j ≤ m ∧ x = .int .i64 (i : Int) ∧ y = .int .i64 (j : Int) ∧ Hid (Kept (fun _ => False) w wr) ∧ Hid (i = a ∨ ¬ kof (f0 m) < kof (f0 (i - 1))) ∧ Hid (j = m ∨ kof (f0 m) < kof (f0 j))) (fun x y _ => (intOf y).toNat - (intOf x).toNat)
  case atStart => exact ⟨a, m, by omega, by omega, by omega, rfl, rfl, Lib.hid (Kept.refl _ _), Lib.hid (.inl rfl), Lib.hid (.inl rfl)⟩
  case round =>
    obtain ⟨i, j, hi1, hij, hjb, rfl, rfl, HK1, HL, HR⟩ := hrel
    by_cases hlt : i < j
    · have lI : (i : Int) < (j : Int) := by omega
      obtain ⟨h, hh⟩ : ∃ h, (i + j) / 2 = h := ⟨_, rfl⟩
      have hh1 : i ≤ h := by omega
      have hh2 : h < j := by omega
      have eh : ((i : Int) + (j : Int)) / 2 = (h : Int) := by omega
      have HHE := Lib.hid hh
      clear hh
      have hi : h < n := by omega
      have h0 : (0 : Int) ≤ (h : Int) := by omega
      have hI : (h : Int) < (n : Int) := by omega
      have HP := Lib.hid (HP0.out.kept HK1.out (fun h => h))
      have glt := HP.out.lt
      obtain ⟨f, hf⟩ : ∃ f, f0 = f := ⟨_, rfl⟩
      rw [hf] at HP HL HR
      have HF := Lib.hid hf
      clear hf
      obtain ⟨z, hz⟩ : ∃ z, cmpI (kof (f m)) (kof (f h)) = z := ⟨_, rfl⟩
      have HZ := Lib.hid hz
      clear hz
      by_cases z0 : z < 0
      · go_upto_region 17 with fail
        refine wp_region_kept 12 [(9, fun v u => v = .int .i64 z)] ?st ?ne rfl (by kernel_rfl) (by kernel_rfl) ?_
        case st =>
          intro p hp
          simp only [List.mem_cons, List.not_mem_nil, or_false] at hp
          subst hp
          · intro v u u' h hk; exact h
        case ne =>
          intro p hp
          simp only [List.mem_cons, List.not_mem_nil, or_false] at hp
          subst hp
          · exact ⟨_, _, Kept.refl _ _, rfl⟩
        simp only [List.take_succ_cons, List.take_zero, List.drop_succ_cons, List.drop_zero]
        intro G pick hR hp1 hp2
        repeat (first | (refine wpR_det hp2 rfl ((hR.rel _).trans rfl) rfl ?_; intro K hK; (first | (refine quiet_load_row 54 (.tmp 95) g (m * 17) (f (m)) _ rfl (fun u => (HP.out.kept (hp1 u) (fun h => h)).range (hm)) Try.underlying54 rfl (by rw [(HP.out.good _ (hm)).1]; kernel_rfl) ?_) | (refine quiet_load_row 54 (.tmp 99) g (h * 17) (f (h)) _ rfl (fun u => (HP.out.kept (hp1 u) (fun h => h)).range (hi)) Try.underlying54 rfl (by rw [(HP.out.good _ (hi)).1]; kernel_rfl) ?_)); go_big_quiet_op; go_big_quiet_on) | (refine wpR_det hp2 rfl ((hR.rel _).trans rfl) rfl ?_; intro K hK; go_big_quiet_op; go_big_quiet_on) | (refine wpR_ptr hp2 rfl ((hR.rel _).trans rfl) rfl rfl ?_; intro K hK; go_big_quiet_op; go_big_quiet_on) | (refine wpR_skip pick rfl ?_; intro K hK; go_big_quiet_op; go_big_quiet_on))
        refine wpR_rel pick rfl ((hR.rel _).trans rfl) ((hR.turns _).trans rfl) ?_ ?_
        · intro u hu
          have hk := hR.since hu.1
          have hks := hk.size
          unfold relAt
          go_simp
          refine (join1_any (f (m)) (f (h)) u (HP.out.good _ (hm)) (HP.out.good _ (hi))).mono ?_
          rintro e w' ⟨rfl, hb⟩
          exact ⟨_, rfl, hR.into0 hb, hR.put 0 rfl rfl (by rw [HZ.out])⟩
        intro v hv
        obtain ⟨u, _, hu⟩ := hv
        obtain rfl := hR.get 0 rfl hu
        clear hu
        intro K hK
        go_big_quiet_op
        go_big_quiet_on
        repeat (first | (refine wpR_det hp2 rfl ((hR.rel _).trans rfl) rfl ?_; intro K hK; (first | (refine quiet_load_row 54 (.tmp 95) g (m * 17) (f (m)) _ rfl (fun u => (HP.out.kept (hp1 u) (fun h => h)).range (hm)) Try.underlying54 rfl (by rw [(HP.out.good _ (hm)).1]; kernel_rfl) ?_) | (refine quiet_load_row 54 (.tmp 99) g (h * 17) (f (h)) _ rfl (fun u => (HP.out.kept (hp1 u) (fun h => h)).range (hi)) Try.underlying54 rfl (by rw [(HP.out.good _ (hi)).1]; kernel_rfl) ?_)); go_big_quiet_op; go_big_quiet_on) | (refine wpR_det hp2 rfl ((hR.rel _).trans rfl) rfl ?_; intro K hK; go_big_quiet_op; go_big_quiet_on) | (refine wpR_ptr hp2 rfl ((hR.rel _).trans rfl) rfl rfl ?_; intro K hK; go_big_quiet_op; go_big_quiet_on) | (refine wpR_skip pick rfl ?_; intro K hK; go_big_quiet_op; go_big_quiet_on))
        refine wpR_nil ?_
        intro w2 hk2 hF hM
        have HK2 := Lib.hid (HK1.out.trans hk2)
        clear hF hM hk2 hp1 hp2 hR
        go_wp2_with fail
        go_roundw
        case rel => exact ⟨i, h, by omega, by omega, by omega, rfl, rfl, HK2, Lib.hid (by rw [HF.out]; exact HL.out), Lib.hid (.inr (by rw [HF.out]; exact (cmpI_neg _ _).1 (by rw [HZ.out]; exact z0)))⟩
        case measure => simp [intOf]; omega
      · go_upto_region 17 with fail
        refine wp_region_kept 12 [(9, fun v u => v = .int .i64 z)] ?st ?ne rfl (by kernel_rfl) (by kernel_rfl) ?_
        case st =>
          intro p hp
          simp only [List.mem_cons, List.not_mem_nil, or_false] at hp
          subst hp
          · intro v u u' h hk; exact h
        case ne =>
          intro p hp
          simp only [List.mem_cons, List.not_mem_nil, or_false] at hp
          subst hp
          · exact ⟨_, _, Kept.refl _ _, rfl⟩
        simp only [List.take_succ_cons, List.take_zero, List.drop_succ_cons, List.drop_zero]
        intro G pick hR hp1 hp2
        repeat (first | (refine wpR_det hp2 rfl ((hR.rel _).trans rfl) rfl ?_; intro K hK; (first | (refine quiet_load_row 54 (.tmp 95) g (m * 17) (f (m)) _ rfl (fun u => (HP.out.kept (hp1 u) (fun h => h)).range (hm)) Try.underlying54 rfl (by rw [(HP.out.good _ (hm)).1]; kernel_rfl) ?_) | (refine quiet_load_row 54 (.tmp 99) g (h * 17) (f (h)) _ rfl (fun u => (HP.out.kept (hp1 u) (fun h => h)).range (hi)) Try.underlying54 rfl (by rw [(HP.out.good _ (hi)).1]; kernel_rfl) ?_)); go_big_quiet_op; go_big_quiet_on) | (refine wpR_det hp2 rfl ((hR.rel _).trans rfl) rfl ?_; intro K hK; go_big_quiet_op; go_big_quiet_on) | (refine wpR_ptr hp2 rfl ((hR.rel _).trans rfl) rfl rfl ?_; intro K hK; go_big_quiet_op; go_big_quiet_on) | (refine wpR_skip pick rfl ?_; intro K hK; go_big_quiet_op; go_big_quiet_on))
        refine wpR_rel pick rfl ((hR.rel _).trans rfl) ((hR.turns _).trans rfl) ?_ ?_
        · intro u hu
          have hk := hR.since hu.1
          have hks := hk.size
          unfold relAt
          go_simp
          refine (join1_any (f (m)) (f (h)) u (HP.out.good _ (hm)) (HP.out.good _ (hi))).mono ?_
          rintro e w' ⟨rfl, hb⟩
          exact ⟨_, rfl, hR.into0 hb, hR.put 0 rfl rfl (by rw [HZ.out])⟩
        intro v hv
        obtain ⟨u, _, hu⟩ := hv
        obtain rfl := hR.get 0 rfl hu
        clear hu
        intro K hK
        go_big_quiet_op
        go_big_quiet_on
        repeat (first | (refine wpR_det hp2 rfl ((hR.rel _).trans rfl) rfl ?_; intro K hK; (first | (refine quiet_load_row 54 (.tmp 95) g (m * 17) (f (m)) _ rfl (fun u => (HP.out.kept (hp1 u) (fun h => h)).range (hm)) Try.underlying54 rfl (by rw [(HP.out.good _ (hm)).1]; kernel_rfl) ?_) | (refine quiet_load_row 54 (.tmp 99) g (h * 17) (f (h)) _ rfl (fun u => (HP.out.kept (hp1 u) (fun h => h)).range (hi)) Try.underlying54 rfl (by rw [(HP.out.good _ (hi)).1]; kernel_rfl) ?_)); go_big_quiet_op; go_big_quiet_on) | (refine wpR_det hp2 rfl ((hR.rel _).trans rfl) rfl ?_; intro K hK; go_big_quiet_op; go_big_quiet_on) | (refine wpR_ptr hp2 rfl ((hR.rel _).trans rfl) rfl rfl ?_; intro K hK; go_big_quiet_op; go_big_quiet_on) | (refine wpR_skip pick rfl ?_; intro K hK; go_big_quiet_op; go_big_quiet_on))
        refine wpR_nil ?_
        intro w2 hk2 hF hM
        have HK2 := Lib.hid (HK1.out.trans hk2)
        clear hF hM hk2 hp1 hp2 hR
        go_wp2_with fail
        go_roundw
        case rel => exact ⟨h + 1, j, by omega, by omega, by omega, by go_num, rfl, HK2, Lib.hid (.inr (by rw [HF.out, Nat.add_sub_cancel]; exact fun h' => z0 (by rw [← HZ.out]; exact (cmpI_neg _ _).2 h'))), Lib.hid (by rw [HF.out]; exact HR.out)⟩
        case measure => simp [intOf]; omega
    · obtain rfl : j = i := by omega
      have lI : ¬ (j : Int) < (j : Int) := by omega
      have HP1 := Lib.hid (HP0.out.kept HK1.out (fun h => h))
      go_wp2_with fail
      go_loopw [17] (fun x ws => ∃ k : Nat, j ≤ k ∧ k ≤ m ∧ x = .int .i64 (k : Int) ∧ Hid (PR ws g n (movL f0 m k)) ∧ Hid (Kept (fun k => k = g) w ws)) (fun x _ => (intOf x).toNat)
      case atStart => exact ⟨m, by omega, by omega, rfl, Lib.hid (by rw [movL_zero]; exact HP1.out), Lib.hid HK1.out.gF⟩
      case round =>
        obtain ⟨k, hk1, hk2', rfl, HP, HK3⟩ := hrel
        by_cases hkl : j < k
        · obtain ⟨r, hr⟩ : ∃ r, k = r + 1 := ⟨k - 1, by omega⟩
          obtain ⟨f, hf⟩ : ∃ f, movL f0 m k = f := ⟨_, rfl⟩
          rw [hf] at HP
          have HF := Lib.hid hf
          have HRE := Lib.hid hr
          have er : (k : Int) - 1 = (r : Int) := by omega
          have hi : k < n := by omega
          have hj : r < n := by omega
          have k0 : (0 : Int) ≤ (k : Int) := by omega
          have r0 : (0 : Int) ≤ (r : Int) := by omega
          have kI : (k : Int) < (n : Int) := by omega
          have rI : (r : Int) < (n : Int) := by omega
          have lI2 : (j : Int) < (k : Int) := by omega
          clear hr hf
          have glt := HP.out.lt
          go_upto_region 23 with fail
          refine wp_region_peek 18 (fun k => k = g) [15, 17] [] [9, 13] [(15, fun v u => PR u g n (setF f (k) (f (r)))), (17, fun v u => PR u g n (setF (setF f (k) (f (r))) (r) (f (k))))] ?st ?ne rfl (by kernel_rfl) (by kernel_rfl) (by kernel_rfl) (by kernel_rfl) ?_
          case st =>
            intro p hp
            simp only [List.mem_cons, List.not_mem_nil, or_false] at hp
            rcases hp with rfl | rfl
            · intro v u u' h hk; exact h.kept hk (fun h => h)
            · intro v u u' h hk; exact h.kept hk (fun h => h)
          case ne =>
            intro p hp
            simp only [List.mem_cons, List.not_mem_nil, or_false] at hp
            rcases hp with rfl | rfl
            · exact ⟨undef, _, PR.keptS _ _, HP.out.put (hi) (HP.out.good _ (hj)) (HP.out.one (hj))⟩
            · exact ⟨undef, _, (PR.keptS _ _).trans (PR.keptS _ _), (HP.out.put (hi) (HP.out.good _ (hj)) (HP.out.one (hj))).put (hj) (HP.out.good _ (hi)) (HP.out.one (hi))⟩
          simp only [List.take_succ_cons, List.take_zero, List.drop_succ_cons, List.drop_zero]
          intro G pick pick0 hR hp1 hp2 hpk hq1 hq2
          repeat (first | (refine wpR_peek hq2 rfl ((hR.rel _).trans rfl) ((hpk _).trans rfl) rfl ?_; intro K hK; (first | (refine quiet_load_row 54 (.tmp 121) g (r * 17) (f (r)) _ rfl (fun u => (HP.out.kept (hq1 u) (fun h => h)).range (hj)) Try.underlying54 rfl (by rw [(HP.out.good _ (hj)).1]; kernel_rfl) ?_) | (refine quiet_load_row 54 (.tmp 125) g (k * 17) (f (k)) _ rfl (fun u => (HP.out.kept (hq1 u) (fun h => h)).range (hi)) Try.underlying54 rfl (by rw [(HP.out.good _ (hi)).1]; kernel_rfl) ?_)); go_big_quiet_op; go_big_quiet_on) | (refine wpR_peek hq2 rfl ((hR.rel _).trans rfl) ((hpk _).trans rfl) rfl ?_; intro K hK; go_big_quiet_op; go_big_quiet_on) | (refine wpR_det hp2 rfl ((hR.rel _).trans rfl) rfl ?_; intro K hK; (first | (refine quiet_load_row 54 (.tmp 121) g (r * 17) (f (r)) _ rfl (fun u => (HP.out.kept (hp1 u) (fun h => h)).range (hj)) Try.underlying54 rfl (by rw [(HP.out.good _ (hj)).1]; kernel_rfl) ?_) | (refine quiet_load_row 54 (.tmp 125) g (k * 17) (f (k)) _ rfl (fun u => (HP.out.kept (hp1 u) (fun h => h)).range (hi)) Try.underlying54 rfl (by rw [(HP.out.good _ (hi)).1]; kernel_rfl) ?_)); go_big_quiet_op; go_big_quiet_on) | (refine wpR_det hp2 rfl ((hR.rel _).trans rfl) rfl ?_; intro K hK; go_big_quiet_op; go_big_quiet_on) | (refine wpR_ptr hp2 rfl ((hR.rel _).trans rfl) rfl rfl ?_; intro K hK; go_big_quiet_op; go_big_quiet_on) | (refine wpR_skip pick rfl ?_; intro K hK; go_big_quiet_op; go_big_quiet_on))
          refine wpR_turn pick rfl ((hR.rel _).trans rfl) ((hR.turns _).trans rfl) ((hR.adds _).trans rfl) ?_ ?_
          · intro u hu hM
            have hk := hR.since hu.1
            have hks := hk.size
            have hP0 := HP.out.kept (hR.first hM) (fun h => h)
            exact relAt_store_row 54 (.tmp 127) (.tmp 122) g (k * 17) (f (r)) rfl ⟨rfl, rfl⟩ (hP0.there (hi) (HP.out.good _ (hj)).1) (by rw [List.size_toArray, (HP.out.good _ (hj)).1]; kernel_rfl) (HP.out.one (hj)) ⟨hR.into (PR.keptS _ _), hR.put 0 rfl rfl (hP0.put (hi) (HP.out.good _ (hj)) (HP.out.one (hj)))⟩
          intro v hv
          obtain ⟨u, _, hu⟩ := hv
          obtain - := hR.get 0 rfl hu
          clear hu
          intro K hK
          go_big_quiet_op
          go_big_quiet_on
          repeat (first | (refine wpR_peek hq2 rfl ((hR.rel _).trans rfl) ((hpk _).trans rfl) rfl ?_; intro K hK; (first | (refine quiet_load_row 54 (.tmp 121) g (r * 17) (f (r)) _ rfl (fun u => (HP.out.kept (hq1 u) (fun h => h)).range (hj)) Try.underlying54 rfl (by rw [(HP.out.good _ (hj)).1]; kernel_rfl) ?_) | (refine quiet_load_row 54 (.tmp 125) g (k * 17) (f (k)) _ rfl (fun u => (HP.out.kept (hq1 u) (fun h => h)).range (hi)) Try.underlying54 rfl (by rw [(HP.out.good _ (hi)).1]; kernel_rfl) ?_)); go_big_quiet_op; go_big_quiet_on) | (refine wpR_peek hq2 rfl ((hR.rel _).trans rfl) ((hpk _).trans rfl) rfl ?_; intro K hK; go_big_quiet_op; go_big_quiet_on) | (refine wpR_det hp2 rfl ((hR.rel _).trans rfl) rfl ?_; intro K hK; (first | (refine quiet_load_row 54 (.tmp 121) g (r * 17) (f (r)) _ rfl (fun u => (HP.out.kept (hp1 u) (fun h => h)).range (hj)) Try.underlying54 rfl (by rw [(HP.out.good _ (hj)).1]; kernel_rfl) ?_) | (refine quiet_load_row 54 (.tmp 125) g (k * 17) (f (k)) _ rfl (fun u => (HP.out.kept (hp1 u) (fun h => h)).range (hi)) Try.underlying54 rfl (by rw [(HP.out.good _ (hi)).1]; kernel_rfl) ?_)); go_big_quiet_op; go_big_quiet_on) | (refine wpR_det hp2 rfl ((hR.rel _).trans rfl) rfl ?_; intro K hK; go_big_quiet_op; go_big_quiet_on) | (refine wpR_ptr hp2 rfl ((hR.rel _).trans rfl) rfl rfl ?_; intro K hK; go_big_quiet_op; go_big_quiet_on) | (refine wpR_skip pick rfl ?_; intro K hK; go_big_quiet_op; go_big_quiet_on))
          refine wpR_turn pick rfl ((hR.rel _).trans rfl) ((hR.turns _).trans rfl) ((hR.adds _).trans rfl) ?_ ?_
          · intro u hu hM
            have hk := hR.since hu.1
            have hks := hk.size
            have hM0 := hR.get 0 rfl hM
            exact relAt_store_row 54 (.tmp 128) (.tmp 126) g (r * 17) (f (k)) rfl ⟨rfl, rfl⟩ (hM0.there (hj) (HP.out.good _ (hi)).1) (by rw [List.size_toArray, (HP.out.good _ (hi)).1]; kernel_rfl) (HP.out.one (hi)) ⟨hR.into (PR.keptS _ _), hR.put 1 rfl rfl (hM0.put (hj) (HP.out.good _ (hi)) (HP.out.one (hi)))⟩
          intro v hv
          obtain ⟨u, _, hu⟩ := hv
          obtain - := hR.get 1 rfl hu
          clear hu
          intro K hK
          go_big_quiet_op
          go_big_quiet_on
          repeat (first | (refine wpR_peek hq2 rfl ((hR.rel _).trans rfl) ((hpk _).trans rfl) rfl ?_; intro K hK; (first | (refine quiet_load_row 54 (.tmp 121) g (r * 17) (f (r)) _ rfl (fun u => (HP.out.kept (hq1 u) (fun h => h)).range (hj)) Try.underlying54 rfl (by rw [(HP.out.good _ (hj)).1]; kernel_rfl) ?_) | (refine quiet_load_row 54 (.tmp 125) g (k * 17) (f (k)) _ rfl (fun u => (HP.out.kept (hq1 u) (fun h => h)).range (hi)) Try.underlying54 rfl (by rw [(HP.out.good _ (hi)).1]; kernel_rfl) ?_)); go_big_quiet_op; go_big_quiet_on) | (refine wpR_peek hq2 rfl ((hR.rel _).trans rfl) ((hpk _).trans rfl) rfl ?_; intro K hK; go_big_quiet_op; go_big_quiet_on) | (refine wpR_det hp2 rfl ((hR.rel _).trans rfl) rfl ?_; intro K hK; (first | (refine quiet_load_row 54 (.tmp 121) g (r * 17) (f (r)) _ rfl (fun u => (HP.out.kept (hp1 u) (fun h => h)).range (hj)) Try.underlying54 rfl (by rw [(HP.out.good _ (hj)).1]; kernel_rfl) ?_) | (refine quiet_load_row 54 (.tmp 125) g (k * 17) (f (k)) _ rfl (fun u => (HP.out.kept (hp1 u) (fun h => h)).range (hi)) Try.underlying54 rfl (by rw [(HP.out.good _ (hi)).1]; kernel_rfl) ?_)); go_big_quiet_op; go_big_quiet_on) | (refine wpR_det hp2 rfl ((hR.rel _).trans rfl) rfl ?_; intro K hK; go_big_quiet_op; go_big_quiet_on) | (refine wpR_ptr hp2 rfl ((hR.rel _).trans rfl) rfl rfl ?_; intro K hK; go_big_quiet_op; go_big_quiet_on) | (refine wpR_skip pick rfl ?_; intro K hK; go_big_quiet_op; go_big_quiet_on))
          refine wpR_nil ?_
          intro w2 hk2 hF hM
          have HPZ := Lib.hid (hR.get 1 rfl hM)
          have HKZ := Lib.hid hk2
          clear hF hM hk2 hp1 hp2 hR hpk hq1 hq2
          go_wp2_with fail
          go_roundw
          case rel => exact ⟨r, by have := HRE.out; omega, by have := HRE.out; omega, rfl, Lib.hid (by rw [← movL_step f0 m r (by have := HRE.out; omega), ← HRE.out, HF.out]; exact HPZ.out.swp), Lib.hid (HK3.out.trans HKZ.out)⟩
          case measure => have := HRE.out; simp [intOf]; omega
        · have HKE := Lib.hid (show k = j by omega)
          have lI2 : ¬ (j : Int) < (k : Int) := by omega
          go_wp2_with fail
          first | go_end0 | go_ret
          have e1 := HM.out
          subst e1
          refine ⟨rfl, movL f0 m j, by rw [← HKE.out]; exact HP.out, HK3.out, merged_last hi1 hjb HS.out ?_ HR.out⟩
          rcases HL.out with h | h
          · exact .inl h
          · exact .inr (by omega)
end Go.Proofs.Ytidooohgbiiikaa
