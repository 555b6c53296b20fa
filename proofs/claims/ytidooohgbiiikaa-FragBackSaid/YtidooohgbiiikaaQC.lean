/- symMergeCmpFunc at one part on the left. -/
import Derived.Test.YtidooohgbiiikaaQB
namespace Go.Proofs.Ytidooohgbiiikaa
open Go.RowKit
set_option linter.unusedVariables false
def SymP (g n a m b : Nat) (f0 : Nat → List Value) (w : World) (e : Ending) (w' : World) : Prop := e = .returned (.tuple #[]) ∧ ∃ f, PR w' g n f ∧ Kept (fun k => k = g) w w' ∧ Merged kof f0 f a m b
theorem Kept.gF {g : Nat} {w w' : World} (h : Kept (fun _ => False) w w') : Kept (fun k => k = g) w w' := h.mono (fun _ _ h => h.elim)
set_option maxRecDepth 100000 in
set_option maxHeartbeats 4000000 in
theorem symA_any (g n c a m b : Nat) (f0 : Nat → List Value) (w : World) (hn : n ≤ 100000) (ham : a + 1 = m) (hmb : m < b) (hbn : b ≤ n) (hP : PR w g n f0) (hs : Srt kof (seg f0 m b)) :
    Calls Try.prog 49 #[(.slice (some ⟨g, 0, none⟩) n c), .int .i64 (a : Int), .int .i64 (m : Int), .int .i64 (b : Int), (.func (.func 18) #[] #[])] w (SymP g n a m b f0 w) := by
  have HP0 := Lib.hid hP
  have HM := Lib.hid ham
  have HS := Lib.hid hs
  have em : (m : Int) - (a : Int) = 1 := by omega
  have hal : a < m := by omega
  have ha : a < n := by omega
  have a0 : (0 : Int) ≤ (a : Int) := by omega
  have aI : (a : Int) < (n : Int) := by omega
  clear hP hs ham
  go_enter Try.func49, Try.ntmps49
  go_wp2_with fail
  go_loopw [10, 11] (fun x y wr => ∃ i j : Nat, m ≤ i ∧ i ≤ j ∧ j ≤ b ∧ x = .int .i64 (i : Int) ∧ y = .int .i64 (j : Int) ∧ Hid (Kept (fun _ => False) w wr) ∧ Hid (i = m ∨ kof (f0 (i - 1)) < kof (f0 a)) ∧ Hid (j = b ∨ ¬ kof (f0 j) < kof (f0 a))) (fun x y _ => (intOf y).toNat - (intOf x).toNat)
  case atStart => exact ⟨m, b, by omega, by omega, by omega, rfl, rfl, Lib.hid (Kept.refl _ _), Lib.hid (.inl rfl), Lib.hid (.inl rfl)⟩
  case round =>
    obtain ⟨i, j, hi1, hij, hjb, rfl, rfl, HK1, HL, HR⟩ := hrel
    by_cases hlt : i < j
    · have lI : (i : Int) < (j : Int) := by omega
      obtain ⟨h, hh⟩ : ∃ h, (i + j) / 2 = h := ⟨_, rfl⟩
      have hh1 : i ≤ h := by omega
      have hh2 : h < j := by omega
      have eh : ((i : Int) + (j : Int)) / 2 = (h : Int) := by omega
      have HHE := Lib.hid hh
      clear hh
      have hi : h < n := by omega
      have h0 : (0 : Int) ≤ (h : Int) := by omega
      have hI : (h : Int) < (n : Int) := by omega
      have HP := Lib.hid (HP0.out.kept HK1.out (fun h => h))
      have glt := HP.out.lt
      obtain ⟨f, hf⟩ : ∃ f, f0 = f := ⟨_, rfl⟩
      rw [hf] at HP HL HR
      have HF := Lib.hid hf
      clear hf
      obtain ⟨z, hz⟩ : ∃ z, cmpI (kof (f h)) (kof (f a)) = z := ⟨_, rfl⟩
      have HZ := Lib.hid hz
      clear hz
      by_cases z0 : z < 0
      · go_upto_region 5 with fail
        refine wp_region_kept 11 [(9, fun v u => v = .int .i64 z)] ?st ?ne rfl (by kernel_rfl) (by kernel_rfl) ?_
        case st =>
          intro p hp
          simp only [List.mem_cons, List.not_mem_nil, or_false] at hp
          subst hp
          · intro v u u' h hk; exact h
        case ne =>
          intro p hp
          simp only [List.mem_cons, List.not_mem_nil, or_false] at hp
          subst hp
          · exact ⟨_, _, Kept.refl _ _, rfl⟩
        simp only [List.take_succ_cons, List.take_zero, List.drop_succ_cons, List.drop_zero]
        intro G pick hR hp1 hp2
        repeat (first | (refine wpR_det hp2 rfl ((hR.rel _).trans rfl) rfl ?_; intro K hK; (first | (refine quiet_load_row 54 (.tmp 43) g (h * 17) (f (h)) _ rfl (fun u => (HP.out.kept (hp1 u) (fun h => h)).range (hi)) Try.underlying54 rfl (by rw [(HP.out.good _ (hi)).1]; kernel_rfl) ?_) | (refine quiet_load_row 54 (.tmp 47) g (a * 17) (f (a)) _ rfl (fun u => (HP.out.kept (hp1 u) (fun h => h)).range (ha)) Try.underlying54 rfl (by rw [(HP.out.good _ (ha)).1]; kernel_rfl) ?_)); go_big_quiet_op; go_big_quiet_on) | (refine wpR_det hp2 rfl ((hR.rel _).trans rfl) rfl ?_; intro K hK; go_big_quiet_op; go_big_quiet_on) | (refine wpR_ptr hp2 rfl ((hR.rel _).trans rfl) rfl rfl ?_; intro K hK; go_big_quiet_op; go_big_quiet_on) | (refine wpR_skip pick rfl ?_; intro K hK; go_big_quiet_op; go_big_quiet_on))
        refine wpR_rel pick rfl ((hR.rel _).trans rfl) ((hR.turns _).trans rfl) ?_ ?_
        · intro u hu
          have hk := hR.since hu.1
          have hks := hk.size
          unfold relAt
          go_simp
          refine (join1_any (f (h)) (f (a)) u (HP.out.good _ (hi)) (HP.out.good _ (ha))).mono ?_
          rintro e w' ⟨rfl, hb⟩
          exact ⟨_, rfl, hR.into0 hb, hR.put 0 rfl rfl (by rw [HZ.out])⟩
        intro v hv
        obtain ⟨u, _, hu⟩ := hv
        obtain rfl := hR.get 0 rfl hu
        clear hu
        intro K hK
        go_big_quiet_op
        go_big_quiet_on
        repeat (first | (refine wpR_det hp2 rfl ((hR.rel _).trans rfl) rfl ?_; intro K hK; (first | (refine quiet_load_row 54 (.tmp 43) g (h * 17) (f (h)) _ rfl (fun u => (HP.out.kept (hp1 u) (fun h => h)).range (hi)) Try.underlying54 rfl (by rw [(HP.out.good _ (hi)).1]; kernel_rfl) ?_) | (refine quiet_load_row 54 (.tmp 47) g (a * 17) (f (a)) _ rfl (fun u => (HP.out.kept (hp1 u) (fun h => h)).range (ha)) Try.underlying54 rfl (by rw [(HP.out.good _ (ha)).1]; kernel_rfl) ?_)); go_big_quiet_op; go_big_quiet_on) | (refine wpR_det hp2 rfl ((hR.rel _).trans rfl) rfl ?_; intro K hK; go_big_quiet_op; go_big_quiet_on) | (refine wpR_ptr hp2 rfl ((hR.rel _).trans rfl) rfl rfl ?_; intro K hK; go_big_quiet_op; go_big_quiet_on) | (refine wpR_skip pick rfl ?_; intro K hK; go_big_quiet_op; go_big_quiet_on))
        refine wpR_nil ?_
        intro w2 hk2 hF hM
        have HK2 := Lib.hid (HK1.out.trans hk2)
        clear hF hM hk2 hp1 hp2 hR
        go_wp2_with fail
        go_roundw
        case rel => exact ⟨h + 1, j, by omega, by omega, by omega, by go_num, rfl, HK2, Lib.hid (.inr (by rw [HF.out, Nat.add_sub_cancel]; exact (cmpI_neg _ _).1 (by rw [HZ.out]; exact z0))), Lib.hid (by rw [HF.out]; exact HR.out)⟩
        case measure => simp [intOf]; omega
      · go_upto_region 5 with fail
        refine wp_region_kept 11 [(9, fun v u => v = .int .i64 z)] ?st ?ne rfl (by kernel_rfl) (by kernel_rfl) ?_
        case st =>
          intro p hp
          simp only [List.mem_cons, List.not_mem_nil, or_false] at hp
          subst hp
          · intro v u u' h hk; exact h
        case ne =>
          intro p hp
          simp only [List.mem_cons, List.not_mem_nil, or_false] at hp
          subst hp
          · exact ⟨_, _, Kept.refl _ _, rfl⟩
        simp only [List.take_succ_cons, List.take_zero, List.drop_succ_cons, List.drop_zero]
        intro G pick hR hp1 hp2
        repeat (first | (refine wpR_det hp2 rfl ((hR.rel _).trans rfl) rfl ?_; intro K hK; (first | (refine quiet_load_row 54 (.tmp 43) g (h * 17) (f (h)) _ rfl (fun u => (HP.out.kept (hp1 u) (fun h => h)).range (hi)) Try.underlying54 rfl (by rw [(HP.out.good _ (hi)).1]; kernel_rfl) ?_) | (refine quiet_load_row 54 (.tmp 47) g (a * 17) (f (a)) _ rfl (fun u => (HP.out.kept (hp1 u) (fun h => h)).range (ha)) Try.underlying54 rfl (by rw [(HP.out.good _ (ha)).1]; kernel_rfl) ?_)); go_big_quiet_op; go_big_quiet_on) | (refine wpR_det hp2 rfl ((hR.rel _).trans rfl) rfl ?_; intro K hK; go_big_quiet_op; go_big_quiet_on) | (refine wpR_ptr hp2 rfl ((hR.rel _).trans rfl) rfl rfl ?_; intro K hK; go_big_quiet_op; go_big_quiet_on) | (refine wpR_skip pick rfl ?_; intro K hK; go_big_quiet_op; go_big_quiet_on))
        refine wpR_rel pick rfl ((hR.rel _).trans rfl) ((hR.turns _).trans rfl) ?_ ?_
        · intro u hu
          have hk := hR.since hu.1
          have hks := hk.size
          unfold relAt
          go_simp
          refine (join1_any (f (h)) (f (a)) u (HP.out.good _ (hi)) (HP.out.good _ (ha))).mono ?_
          rintro e w' ⟨rfl, hb⟩
          exact ⟨_, rfl, hR.into0 hb, hR.put 0 rfl rfl (by rw [HZ.out])⟩
        intro v hv
        obtain ⟨u, _, hu⟩ := hv
        obtain rfl := hR.get 0 rfl hu
        clear hu
        intro K hK
        go_big_quiet_op
        go_big_quiet_on
        repeat (first | (refine wpR_det hp2 rfl ((hR.rel _).trans rfl) rfl ?_; intro K hK; (first | (refine quiet_load_row 54 (.tmp 43) g (h * 17) (f (h)) _ rfl (fun u => (HP.out.kept (hp1 u) (fun h => h)).range (hi)) Try.underlying54 rfl (by rw [(HP.out.good _ (hi)).1]; kernel_rfl) ?_) | (refine quiet_load_row 54 (.tmp 47) g (a * 17) (f (a)) _ rfl (fun u => (HP.out.kept (hp1 u) (fun h => h)).range (ha)) Try.underlying54 rfl (by rw [(HP.out.good _ (ha)).1]; kernel_rfl) ?_)); go_big_quiet_op; go_big_quiet_on) | (refine wpR_det hp2 rfl ((hR.rel _).trans rfl) rfl ?_; intro K hK; go_big_quiet_op; go_big_quiet_on) | (refine wpR_ptr hp2 rfl ((hR.rel _).trans rfl) rfl rfl ?_; intro K hK; go_big_quiet_op; go_big_quiet_on) | (refine wpR_skip pick rfl ?_; intro K hK; go_big_quiet_op; go_big_quiet_on))
        refine wpR_nil ?_
        intro w2 hk2 hF hM
        have HK2 := Lib.hid (HK1.out.trans hk2)
        clear hF hM hk2 hp1 hp2 hR
        go_wp2_with fail
        go_roundw
        case rel => exact ⟨i, h, by omega, by omega, by omega, rfl, rfl, HK2, Lib.hid (by rw [HF.out]; exact HL.out), Lib.hid (.inr (by rw [HF.out]; exact fun h' => z0 (by rw [← HZ.out]; exact (cmpI_neg _ _).2 h')))⟩
        case measure => simp [intOf]; omega
    · obtain rfl : j = i := by omega
      have lI : ¬ (j : Int) < (j : Int) := by omega
      obtain ⟨l, hl⟩ : ∃ l, j - 1 = l := ⟨_, rfl⟩
      have HLE := Lib.hid hl
      have el : (j : Int) - 1 = (l : Int) := by omega
      have hl1 : a ≤ l := by omega
      have hl2 : l + 1 = j := by omega
      have HL2 := Lib.hid hl2
      have hl3 : l < n := by omega
      have HP1 := Lib.hid (HP0.out.kept HK1.out (fun h => h))
      clear hl hl2
      go_wp2_with fail
      go_loopw [13] (fun x ws => ∃ k : Nat, a ≤ k ∧ k ≤ l ∧ x = .int .i64 (k : Int) ∧ Hid (PR ws g n (movR f0 a k)) ∧ Hid (Kept (fun k => k = g) w ws)) (fun x _ => l - (intOf x).toNat)
      case atStart => exact ⟨a, by omega, by omega, rfl, Lib.hid (by rw [movR_zero]; exact HP1.out), Lib.hid HK1.out.gF⟩
      case round =>
        obtain ⟨k, hk1, hk2', rfl, HP, HK3⟩ := hrel
        by_cases hkl : k < l
        · obtain ⟨r, hr⟩ : ∃ r, k + 1 = r := ⟨_, rfl⟩
          obtain ⟨f, hf⟩ : ∃ f, movR f0 a k = f := ⟨_, rfl⟩
          rw [hf] at HP
          have HF := Lib.hid hf
          have HRE := Lib.hid hr
          have er : (k : Int) + 1 = (r : Int) := by omega
          have hi : k < n := by omega
          have hj : r < n := by omega
          have k0 : (0 : Int) ≤ (k : Int) := by omega
          have r0 : (0 : Int) ≤ (r : Int) := by omega
          have kI : (k : Int) < (n : Int) := by omega
          have rI : (r : Int) < (n : Int) := by omega
          have lI2 : (k : Int) < (l : Int) := by omega
          clear hr hf
          have glt := HP.out.lt
          go_upto_region 11 with fail
          refine wp_region_peek 18 (fun k => k = g) [15, 17] [] [9, 13] [(15, fun v u => PR u g n (setF f (k) (f (r)))), (17, fun v u => PR u g n (setF (setF f (k) (f (r))) (r) (f (k))))] ?st ?ne rfl (by kernel_rfl) (by kernel_rfl) (by kernel_rfl) (by kernel_rfl) ?_
          case st =>
            intro p hp
            simp only [List.mem_cons, List.not_mem_nil, or_false] at hp
            rcases hp with rfl | rfl
            · intro v u u' h hk; exact h.kept hk (fun h => h)
            · intro v u u' h hk; exact h.kept hk (fun h => h)
          case ne =>
            intro p hp
            simp only [List.mem_cons, List.not_mem_nil, or_false] at hp
            rcases hp with rfl | rfl
            · exact ⟨undef, _, PR.keptS _ _, HP.out.put (hi) (HP.out.good _ (hj)) (HP.out.one (hj))⟩
            · exact ⟨undef, _, (PR.keptS _ _).trans (PR.keptS _ _), (HP.out.put (hi) (HP.out.good _ (hj)) (HP.out.one (hj))).put (hj) (HP.out.good _ (hi)) (HP.out.one (hi))⟩
          simp only [List.take_succ_cons, List.take_zero, List.drop_succ_cons, List.drop_zero]
          intro G pick pick0 hR hp1 hp2 hpk hq1 hq2
          repeat (first | (refine wpR_peek hq2 rfl ((hR.rel _).trans rfl) ((hpk _).trans rfl) rfl ?_; intro K hK; (first | (refine quiet_load_row 54 (.tmp 69) g (r * 17) (f (r)) _ rfl (fun u => (HP.out.kept (hq1 u) (fun h => h)).range (hj)) Try.underlying54 rfl (by rw [(HP.out.good _ (hj)).1]; kernel_rfl) ?_) | (refine quiet_load_row 54 (.tmp 73) g (k * 17) (f (k)) _ rfl (fun u => (HP.out.kept (hq1 u) (fun h => h)).range (hi)) Try.underlying54 rfl (by rw [(HP.out.good _ (hi)).1]; kernel_rfl) ?_)); go_big_quiet_op; go_big_quiet_on) | (refine wpR_peek hq2 rfl ((hR.rel _).trans rfl) ((hpk _).trans rfl) rfl ?_; intro K hK; go_big_quiet_op; go_big_quiet_on) | (refine wpR_det hp2 rfl ((hR.rel _).trans rfl) rfl ?_; intro K hK; (first | (refine quiet_load_row 54 (.tmp 69) g (r * 17) (f (r)) _ rfl (fun u => (HP.out.kept (hp1 u) (fun h => h)).range (hj)) Try.underlying54 rfl (by rw [(HP.out.good _ (hj)).1]; kernel_rfl) ?_) | (refine quiet_load_row 54 (.tmp 73) g (k * 17) (f (k)) _ rfl (fun u => (HP.out.kept (hp1 u) (fun h => h)).range (hi)) Try.underlying54 rfl (by rw [(HP.out.good _ (hi)).1]; kernel_rfl) ?_)); go_big_quiet_op; go_big_quiet_on) | (refine wpR_det hp2 rfl ((hR.rel _).trans rfl) rfl ?_; intro K hK; go_big_quiet_op; go_big_quiet_on) | (refine wpR_ptr hp2 rfl ((hR.rel _).trans rfl) rfl rfl ?_; intro K hK; go_big_quiet_op; go_big_quiet_on) | (refine wpR_skip pick rfl ?_; intro K hK; go_big_quiet_op; go_big_quiet_on))
          refine wpR_turn pick rfl ((hR.rel _).trans rfl) ((hR.turns _).trans rfl) ((hR.adds _).trans rfl) ?_ ?_
          · intro u hu hM
            have hk := hR.since hu.1
            have hks := hk.size
            have hP0 := HP.out.kept (hR.first hM) (fun h => h)
            exact relAt_store_row 54 (.tmp 75) (.tmp 70) g (k * 17) (f (r)) rfl ⟨rfl, rfl⟩ (hP0.there (hi) (HP.out.good _ (hj)).1) (by rw [List.size_toArray, (HP.out.good _ (hj)).1]; kernel_rfl) (HP.out.one (hj)) ⟨hR.into (PR.keptS _ _), hR.put 0 rfl rfl (hP0.put (hi) (HP.out.good _ (hj)) (HP.out.one (hj)))⟩
          intro v hv
          obtain ⟨u, _, hu⟩ := hv
          obtain - := hR.get 0 rfl hu
          clear hu
          intro K hK
          go_big_quiet_op
          go_big_quiet_on
          repeat (first | (refine wpR_peek hq2 rfl ((hR.rel _).trans rfl) ((hpk _).trans rfl) rfl ?_; intro K hK; (first | (refine quiet_load_row 54 (.tmp 69) g (r * 17) (f (r)) _ rfl (fun u => (HP.out.kept (hq1 u) (fun h => h)).range (hj)) Try.underlying54 rfl (by rw [(HP.out.good _ (hj)).1]; kernel_rfl) ?_) | (refine quiet_load_row 54 (.tmp 73) g (k * 17) (f (k)) _ rfl (fun u => (HP.out.kept (hq1 u) (fun h => h)).range (hi)) Try.underlying54 rfl (by rw [(HP.out.good _ (hi)).1]; kernel_rfl) ?_)); go_big_quiet_op; go_big_quiet_on) | (refine wpR_peek hq2 rfl ((hR.rel _).trans rfl) ((hpk _).trans rfl) rfl ?_; intro K hK; go_big_quiet_op; go_big_quiet_on) | (refine wpR_det hp2 rfl ((hR.rel _).trans rfl) rfl ?_; intro K hK; (first | (refine quiet_load_row 54 (.tmp 69) g (r * 17) (f (r)) _ rfl (fun u => (HP.out.kept (hp1 u) (fun h => h)).range (hj)) Try.underlying54 rfl (by rw [(HP.out.good _ (hj)).1]; kernel_rfl) ?_) | (refine quiet_load_row 54 (.tmp 73) g (k * 17) (f (k)) _ rfl (fun u => (HP.out.kept (hp1 u) (fun h => h)).range (hi)) Try.underlying54 rfl (by rw [(HP.out.good _ (hi)).1]; kernel_rfl) ?_)); go_big_quiet_op; go_big_quiet_on) | (refine wpR_det hp2 rfl ((hR.rel _).trans rfl) rfl ?_; intro K hK; go_big_quiet_op; go_big_quiet_on) | (refine wpR_ptr hp2 rfl ((hR.rel _).trans rfl) rfl rfl ?_; intro K hK; go_big_quiet_op; go_big_quiet_on) | (refine wpR_skip pick rfl ?_; intro K hK; go_big_quiet_op; go_big_quiet_on))
          refine wpR_turn pick rfl ((hR.rel _).trans rfl) ((hR.turns _).trans rfl) ((hR.adds _).trans rfl) ?_ ?_
          · intro u hu hM
            have hk := hR.since hu.1
            have hks := hk.size
            have hM0 := hR.get 0 rfl hM
            exact relAt_store_row 54 (.tmp 76) (.tmp 74) g (r * 17) (f (k)) rfl ⟨rfl, rfl⟩ (hM0.there (hj) (HP.out.good _ (hi)).1) (by rw [List.size_toArray, (HP.out.good _ (hi)).1]; kernel_rfl) (HP.out.one (hi)) ⟨hR.into (PR.keptS _ _), hR.put 1 rfl rfl (hM0.put (hj) (HP.out.good _ (hi)) (HP.out.one (hi)))⟩
          intro v hv
          obtain ⟨u, _, hu⟩ := hv
          obtain - := hR.get 1 rfl hu
          clear hu
          intro K hK
          go_big_quiet_op
          go_big_quiet_on
          repeat (first | (refine wpR_peek hq2 rfl ((hR.rel _).trans rfl) ((hpk _).trans rfl) rfl ?_; intro K hK; (first | (refine quiet_load_row 54 (.tmp 69) g (r * 17) (f (r)) _ rfl (fun u => (HP.out.kept (hq1 u) (fun h => h)).range (hj)) Try.underlying54 rfl (by rw [(HP.out.good _ (hj)).1]; kernel_rfl) ?_) | (refine quiet_load_row 54 (.tmp 73) g (k * 17) (f (k)) _ rfl (fun u => (HP.out.kept (hq1 u) (fun h => h)).range (hi)) Try.underlying54 rfl (by rw [(HP.out.good _ (hi)).1]; kernel_rfl) ?_)); go_big_quiet_op; go_big_quiet_on) | (refine wpR_peek hq2 rfl ((hR.rel _).trans rfl) ((hpk _).trans rfl) rfl ?_; intro K hK; go_big_quiet_op; go_big_quiet_on) | (refine wpR_det hp2 rfl ((hR.rel _).trans rfl) rfl ?_; intro K hK; (first | (refine quiet_load_row 54 (.tmp 69) g (r * 17) (f (r)) _ rfl (fun u => (HP.out.kept (hp1 u) (fun h => h)).range (hj)) Try.underlying54 rfl (by rw [(HP.out.good _ (hj)).1]; kernel_rfl) ?_) | (refine quiet_load_row 54 (.tmp 73) g (k * 17) (f (k)) _ rfl (fun u => (HP.out.kept (hp1 u) (fun h => h)).range (hi)) Try.underlying54 rfl (by rw [(HP.out.good _ (hi)).1]; kernel_rfl) ?_)); go_big_quiet_op; go_big_quiet_on) | (refine wpR_det hp2 rfl ((hR.rel _).trans rfl) rfl ?_; intro K hK; go_big_quiet_op; go_big_quiet_on) | (refine wpR_ptr hp2 rfl ((hR.rel _).trans rfl) rfl rfl ?_; intro K hK; go_big_quiet_op; go_big_quiet_on) | (refine wpR_skip pick rfl ?_; intro K hK; go_big_quiet_op; go_big_quiet_on))
          refine wpR_nil ?_
          intro w2 hk2 hF hM
          have HPZ := Lib.hid (hR.get 1 rfl hM)
          have HKZ := Lib.hid hk2
          clear hF hM hk2 hp1 hp2 hR hpk hq1 hq2
          go_wp2_with fail
          go_roundw
          case rel => exact ⟨r, by have := HRE.out; omega, by have := HRE.out; omega, rfl, Lib.hid (by rw [← HRE.out, ← movR_step f0 a k hk1, HF.out, HRE.out]; exact HPZ.out.swp), Lib.hid (HK3.out.trans HKZ.out)⟩
          case measure => have := HRE.out; simp [intOf]; omega
        · have HKE := Lib.hid (show k = l by omega)
          have lI2 : ¬ (k : Int) < (l : Int) := by omega
          go_wp2_with fail
          first | go_end0 | go_ret
          have e1 := HM.out
          have e2 := HLE.out
          subst e1
          refine ⟨rfl, movR f0 a (j - 1), by rw [e2, ← HKE.out]; exact HP.out, HK3.out, merged_one hi1 hjb HS.out HL.out ?_⟩
          rcases HR.out with h | h
          · exact .inl h
          · exact .inr (by omega)
end Go.Proofs.Ytidooohgbiiikaa
