/- swapRangeCmpFunc, rotateCmpFunc at parts. -/
import Derived.Test.YtidooohgbiiikaaQ
import Derived.Deep.LoopGhost
namespace Go.Proofs.Ytidooohgbiiikaa
open Go.RowKit
set_option linter.unusedVariables false
set_option maxRecDepth 100000 in
set_option maxHeartbeats 4000000 in
theorem swr_any (g n c a b l : Nat) (f0 : Nat → List Value) (w : World) (hn : n ≤ 100000) (hab : a + l ≤ b) (hbn : b + l ≤ n) (hP : PR w g n f0) :
    Calls Try.prog 56 #[(.slice (some ⟨g, 0, none⟩) n c), .int .i64 (a : Int), .int .i64 (b : Int), .int .i64 (l : Int), (.func (.func 18) #[] #[])] w fun e w' => e = .returned (.tuple #[]) ∧ PR w' g n (swr f0 a b l) ∧ Kept (fun k => k = g) w w' := by
  have HP0 := Lib.hid hP
  clear hP
  go_enter Try.func56, Try.ntmps56
  go_wp2_with fail
  go_loopw [10] (fun i wr => ∃ k : Nat, k ≤ l ∧ i = .int .i64 (k : Int) ∧ Hid (PR wr g n (swr f0 a b k)) ∧ Hid (Kept (fun k => k = g) w wr)) (fun i _ => l - (intOf i).toNat)
  case atStart => exact ⟨0, by omega, rfl, Lib.hid (by rw [swr_zero]; exact HP0.out), Lib.hid (Kept.refl _ _)⟩
  case round =>
    clear HP0
    obtain ⟨k, hk, rfl, HP, HK1⟩ := hrel
    by_cases hkl : k < l
    · obtain ⟨p, hp⟩ : ∃ p, a + k = p := ⟨_, rfl⟩
      obtain ⟨q, hq⟩ : ∃ q, b + k = q := ⟨_, rfl⟩
      obtain ⟨f, hf⟩ : ∃ f, swr f0 a b k = f := ⟨_, rfl⟩
      rw [hf] at HP
      have HF := Lib.hid hf
      have HPE := Lib.hid hp
      have HQE := Lib.hid hq
      have hi : p < n := by omega
      have hj : q < n := by omega
      have pI : (p : Int) < (n : Int) := by omega
      have qI : (q : Int) < (n : Int) := by omega
      have p0 : (0 : Int) ≤ (p : Int) := by omega
      have q0 : (0 : Int) ≤ (q : Int) := by omega
      have ep : (a : Int) + (k : Int) = (p : Int) := by omega
      have eq : (b : Int) + (k : Int) = (q : Int) := by omega
      have kI : (k : Int) < (l : Int) := by omega
      clear hp hq hf
      have glt := HP.out.lt
      go_upto_region 3 with fail
      refine wp_region_peek 24 (fun k => k = g) [21, 23] [] [13, 19] [(21, fun v u => PR u g n (setF f (p) (f (q)))), (23, fun v u => PR u g n (setF (setF f (p) (f (q))) (q) (f (p))))] ?st ?ne rfl (by kernel_rfl) (by kernel_rfl) (by kernel_rfl) (by kernel_rfl) ?_
      case st =>
        intro p hp
        simp only [List.mem_cons, List.not_mem_nil, or_false] at hp
        rcases hp with rfl | rfl
        · intro v u u' h hk; exact h.kept hk (fun h => h)
        · intro v u u' h hk; exact h.kept hk (fun h => h)
      case ne =>
        intro p hp
        simp only [List.mem_cons, List.not_mem_nil, or_false] at hp
        rcases hp with rfl | rfl
        · exact ⟨undef, _, PR.keptS _ _, HP.out.put (hi) (HP.out.good _ (hj)) (HP.out.one (hj))⟩
        · exact ⟨undef, _, (PR.keptS _ _).trans (PR.keptS _ _), (HP.out.put (hi) (HP.out.good _ (hj)) (HP.out.one (hj))).put (hj) (HP.out.good _ (hi)) (HP.out.one (hi))⟩
      simp only [List.take_succ_cons, List.take_zero, List.drop_succ_cons, List.drop_zero]
      intro G pick pick0 hR hp1 hp2 hpk hq1 hq2
      repeat (first | (refine wpR_peek hq2 rfl ((hR.rel _).trans rfl) ((hpk _).trans rfl) rfl ?_; intro K hK; (first | (refine quiet_load_row 54 (.tmp 28) g (q * 17) (f (q)) _ rfl (fun u => (HP.out.kept (hq1 u) (fun h => h)).range (hj)) Try.underlying54 rfl (by rw [(HP.out.good _ (hj)).1]; kernel_rfl) ?_) | (refine quiet_load_row 54 (.tmp 34) g (p * 17) (f (p)) _ rfl (fun u => (HP.out.kept (hq1 u) (fun h => h)).range (hi)) Try.underlying54 rfl (by rw [(HP.out.good _ (hi)).1]; kernel_rfl) ?_)); go_big_quiet_op; go_big_quiet_on) | (refine wpR_peek hq2 rfl ((hR.rel _).trans rfl) ((hpk _).trans rfl) rfl ?_; intro K hK; go_big_quiet_op; go_big_quiet_on) | (refine wpR_det hp2 rfl ((hR.rel _).trans rfl) rfl ?_; intro K hK; (first | (refine quiet_load_row 54 (.tmp 28) g (q * 17) (f (q)) _ rfl (fun u => (HP.out.kept (hp1 u) (fun h => h)).range (hj)) Try.underlying54 rfl (by rw [(HP.out.good _ (hj)).1]; kernel_rfl) ?_) | (refine quiet_load_row 54 (.tmp 34) g (p * 17) (f (p)) _ rfl (fun u => (HP.out.kept (hp1 u) (fun h => h)).range (hi)) Try.underlying54 rfl (by rw [(HP.out.good _ (hi)).1]; kernel_rfl) ?_)); go_big_quiet_op; go_big_quiet_on) | (refine wpR_det hp2 rfl ((hR.rel _).trans rfl) rfl ?_; intro K hK; go_big_quiet_op; go_big_quiet_on) | (refine wpR_ptr hp2 rfl ((hR.rel _).trans rfl) rfl rfl ?_; intro K hK; go_big_quiet_op; go_big_quiet_on) | (refine wpR_skip pick rfl ?_; intro K hK; go_big_quiet_op; go_big_quiet_on))
      refine wpR_turn pick rfl ((hR.rel _).trans rfl) ((hR.turns _).trans rfl) ((hR.adds _).trans rfl) ?_ ?_
      · intro u hu hM
        have hk := hR.since hu.1
        have hks := hk.size
        have hP0 := HP.out.kept (hR.first hM) (fun h => h)
        exact relAt_store_row 54 (.tmp 36) (.tmp 29) g (p * 17) (f (q)) rfl ⟨rfl, rfl⟩ (hP0.there (hi) (HP.out.good _ (hj)).1) (by rw [List.size_toArray, (HP.out.good _ (hj)).1]; kernel_rfl) (HP.out.one (hj)) ⟨hR.into (PR.keptS _ _), hR.put 0 rfl rfl (hP0.put (hi) (HP.out.good _ (hj)) (HP.out.one (hj)))⟩
      intro v hv
      obtain ⟨u, _, hu⟩ := hv
      obtain - := hR.get 0 rfl hu
      clear hu
      intro K hK
      go_big_quiet_op
      go_big_quiet_on
      repeat (first | (refine wpR_peek hq2 rfl ((hR.rel _).trans rfl) ((hpk _).trans rfl) rfl ?_; intro K hK; (first | (refine quiet_load_row 54 (.tmp 28) g (q * 17) (f (q)) _ rfl (fun u => (HP.out.kept (hq1 u) (fun h => h)).range (hj)) Try.underlying54 rfl (by rw [(HP.out.good _ (hj)).1]; kernel_rfl) ?_) | (refine quiet_load_row 54 (.tmp 34) g (p * 17) (f (p)) _ rfl (fun u => (HP.out.kept (hq1 u) (fun h => h)).range (hi)) Try.underlying54 rfl (by rw [(HP.out.good _ (hi)).1]; kernel_rfl) ?_)); go_big_quiet_op; go_big_quiet_on) | (refine wpR_peek hq2 rfl ((hR.rel _).trans rfl) ((hpk _).trans rfl) rfl ?_; intro K hK; go_big_quiet_op; go_big_quiet_on) | (refine wpR_det hp2 rfl ((hR.rel _).trans rfl) rfl ?_; intro K hK; (first | (refine quiet_load_row 54 (.tmp 28) g (q * 17) (f (q)) _ rfl (fun u => (HP.out.kept (hp1 u) (fun h => h)).range (hj)) Try.underlying54 rfl (by rw [(HP.out.good _ (hj)).1]; kernel_rfl) ?_) | (refine quiet_load_row 54 (.tmp 34) g (p * 17) (f (p)) _ rfl (fun u => (HP.out.kept (hp1 u) (fun h => h)).range (hi)) Try.underlying54 rfl (by rw [(HP.out.good _ (hi)).1]; kernel_rfl) ?_)); go_big_quiet_op; go_big_quiet_on) | (refine wpR_det hp2 rfl ((hR.rel _).trans rfl) rfl ?_; intro K hK; go_big_quiet_op; go_big_quiet_on) | (refine wpR_ptr hp2 rfl ((hR.rel _).trans rfl) rfl rfl ?_; intro K hK; go_big_quiet_op; go_big_quiet_on) | (refine wpR_skip pick rfl ?_; intro K hK; go_big_quiet_op; go_big_quiet_on))
      refine wpR_turn pick rfl ((hR.rel _).trans rfl) ((hR.turns _).trans rfl) ((hR.adds _).trans rfl) ?_ ?_
      · intro u hu hM
        have hk := hR.since hu.1
        have hks := hk.size
        have hM0 := hR.get 0 rfl hM
        exact relAt_store_row 54 (.tmp 37) (.tmp 35) g (q * 17) (f (p)) rfl ⟨rfl, rfl⟩ (hM0.there (hj) (HP.out.good _ (hi)).1) (by rw [List.size_toArray, (HP.out.good _ (hi)).1]; kernel_rfl) (HP.out.one (hi)) ⟨hR.into (PR.keptS _ _), hR.put 1 rfl rfl (hM0.put (hj) (HP.out.good _ (hi)) (HP.out.one (hi)))⟩
      intro v hv
      obtain ⟨u, _, hu⟩ := hv
      obtain - := hR.get 1 rfl hu
      clear hu
      intro K hK
      go_big_quiet_op
      go_big_quiet_on
      repeat (first | (refine wpR_peek hq2 rfl ((hR.rel _).trans rfl) ((hpk _).trans rfl) rfl ?_; intro K hK; (first | (refine quiet_load_row 54 (.tmp 28) g (q * 17) (f (q)) _ rfl (fun u => (HP.out.kept (hq1 u) (fun h => h)).range (hj)) Try.underlying54 rfl (by rw [(HP.out.good _ (hj)).1]; kernel_rfl) ?_) | (refine quiet_load_row 54 (.tmp 34) g (p * 17) (f (p)) _ rfl (fun u => (HP.out.kept (hq1 u) (fun h => h)).range (hi)) Try.underlying54 rfl (by rw [(HP.out.good _ (hi)).1]; kernel_rfl) ?_)); go_big_quiet_op; go_big_quiet_on) | (refine wpR_peek hq2 rfl ((hR.rel _).trans rfl) ((hpk _).trans rfl) rfl ?_; intro K hK; go_big_quiet_op; go_big_quiet_on) | (refine wpR_det hp2 rfl ((hR.rel _).trans rfl) rfl ?_; intro K hK; (first | (refine quiet_load_row 54 (.tmp 28) g (q * 17) (f (q)) _ rfl (fun u => (HP.out.kept (hp1 u) (fun h => h)).range (hj)) Try.underlying54 rfl (by rw [(HP.out.good _ (hj)).1]; kernel_rfl) ?_) | (refine quiet_load_row 54 (.tmp 34) g (p * 17) (f (p)) _ rfl (fun u => (HP.out.kept (hp1 u) (fun h => h)).range (hi)) Try.underlying54 rfl (by rw [(HP.out.good _ (hi)).1]; kernel_rfl) ?_)); go_big_quiet_op; go_big_quiet_on) | (refine wpR_det hp2 rfl ((hR.rel _).trans rfl) rfl ?_; intro K hK; go_big_quiet_op; go_big_quiet_on) | (refine wpR_ptr hp2 rfl ((hR.rel _).trans rfl) rfl rfl ?_; intro K hK; go_big_quiet_op; go_big_quiet_on) | (refine wpR_skip pick rfl ?_; intro K hK; go_big_quiet_op; go_big_quiet_on))
      refine wpR_nil ?_
      intro w2 hk2 hF hM
      have HPZ := Lib.hid (hR.get 1 rfl hM)
      have HKZ := Lib.hid hk2
      clear hF hM hk2 hp1 hp2 hR hpk hq1 hq2
      go_wp2_with fail
      go_roundw
      case rel => exact ⟨k + 1, by omega, by go_num, Lib.hid (by rw [← swr_step f0 a b k (by omega), HF.out, HPE.out, HQE.out]; exact HPZ.out.swp), Lib.hid (HK1.out.trans HKZ.out)⟩
      case measure => simp [intOf]; omega
    · have HKE := Lib.hid (show k = l by omega)
      have kI : ¬ (k : Int) < (l : Int) := by omega
      go_wp2_with fail
      go_end0
      exact ⟨rfl, by rw [← HKE.out]; exact HP.out, HK1.out⟩
set_option maxRecDepth 100000 in
set_option maxHeartbeats 4000000 in
theorem rot_any (g n c a m b : Nat) (f0 : Nat → List Value) (w : World) (hn : n ≤ 100000) (ham : a < m) (hmb : m < b) (hbn : b ≤ n) (hP : PR w g n f0) :
    Calls Try.prog 54 #[(.slice (some ⟨g, 0, none⟩) n c), .int .i64 (a : Int), .int .i64 (m : Int), .int .i64 (b : Int), (.func (.func 18) #[] #[])] w fun e w' => e = .returned (.tuple #[]) ∧ PR w' g n (rot f0 a m b) ∧ Kept (fun k => k = g) w w' := by
  have HP0 := Lib.hid hP
  clear hP
  obtain ⟨i0, hi0⟩ : ∃ i0, m - a = i0 := ⟨_, rfl⟩
  obtain ⟨j0, hj0⟩ : ∃ j0, b - m = j0 := ⟨_, rfl⟩
  have e1 : (m : Int) - (a : Int) = (i0 : Int) := by omega
  have e2 : (b : Int) - (m : Int) = (j0 : Int) := by omega
  have HI0 := Lib.hid hi0
  have HJ0 := Lib.hid hj0
  clear hi0 hj0
  go_enter Try.func54, Try.ntmps54
  go_wp2_with fail
  go_loopw [10, 11] (fun x y wr => ∃ (i j : Nat) (f : Nat → List Value), 0 < i ∧ 0 < j ∧ i ≤ m ∧ m + j ≤ n ∧ x = .int .i64 (i : Int) ∧ y = .int .i64 (j : Int) ∧ Hid (PR wr g n f) ∧ Hid (Kept (fun k => k = g) w wr) ∧ Hid (rot f (m - i) m (m + j) = rot f0 a m b)) (fun x y _ => (intOf x).toNat + (intOf y).toNat)
  case atStart =>
    have h1 := HI0.out
    have h2 := HJ0.out
    exact ⟨i0, j0, f0, by omega, by omega, by omega, by omega, rfl, rfl, HP0, Lib.hid (Kept.refl _ _), Lib.hid (by rw [show m - i0 = a by omega, show m + j0 = b by omega])⟩
  case round =>
    clear HP0 HI0 HJ0 e1 e2
    obtain ⟨i, j, f, hi, hj, him, hjn, rfl, rfl, HP, HK1, HR⟩ := hrel
    obtain ⟨p, hp⟩ : ∃ p, m - i = p := ⟨_, rfl⟩
    have ep : (m : Int) - (i : Int) = (p : Int) := by omega
    have hpm : p + i ≤ m := by omega
    have HPE := Lib.hid hp
    clear hp
    by_cases hij : i = j
    · obtain rfl : j = i := hij.symm
      clear hij
      have hne : ¬ (j : Int) ≠ (j : Int) := fun h => h rfl
      go_wp2_with fail
      refine (swr_any g n c p m j f _ hn (by omega) (by omega) HP.out).mono ?_
      rintro e w1 ⟨rfl, hp1, hk1⟩
      have HP1 := Lib.hid hp1
      have HK2 := Lib.hid hk1
      clear hp1 hk1
      go_wp2_with fail
      go_end0
      exact ⟨rfl, by rw [← HR.out, ← rot_same f m j him, HPE.out]; exact HP1.out, HK1.out.trans HK2.out⟩
    have hne : ¬ (i : Int) = (j : Int) := by omega
    by_cases hgt : j < i
    · obtain ⟨r, hr⟩ : ∃ r, i - j = r := ⟨_, rfl⟩
      have er : (i : Int) - (j : Int) = (r : Int) := by omega
      have HRE := Lib.hid hr
      have hr0 : 0 < r := by omega
      have hrm : r ≤ m := by omega
      have hrd : r + j ≤ i := by omega
      have hgI : (j : Int) < (i : Int) := by omega
      clear hr
      go_wp2_with fail
      refine (swr_any g n c p m j f _ hn (by omega) (by omega) HP.out).mono ?_
      rintro e w1 ⟨rfl, hp1, hk1⟩
      have HP1 := Lib.hid hp1
      have HK2 := Lib.hid hk1
      clear hp1 hk1
      go_wp2_with fail
      go_roundw
      case rel => exact ⟨r, j, swr f p m j, hr0, hj, hrm, hjn, rfl, rfl, HP1, Lib.hid (HK1.out.trans HK2.out), Lib.hid (by rw [← HR.out, ← rot_gt f m i j him hgt, HPE.out, HRE.out])⟩
      case measure => simp [intOf]; omega
    · obtain ⟨r, hr⟩ : ∃ r, j - i = r := ⟨_, rfl⟩
      obtain ⟨q, hq⟩ : ∃ q, m + j - i = q := ⟨_, rfl⟩
      have er : (j : Int) - (i : Int) = (r : Int) := by omega
      have eq : (m : Int) + (j : Int) - (i : Int) = (q : Int) := by omega
      have HRE := Lib.hid hr
      have HQE := Lib.hid hq
      have hr0 : 0 < r := by omega
      have hrd : r + i ≤ j := by omega
      have hmq : m ≤ q := by omega
      have hqn : q + i ≤ n := by omega
      have hgI : ¬ (j : Int) < (i : Int) := by omega
      clear hr hq
      go_wp2_with fail
      refine (swr_any g n c p q i f _ hn (by omega) (by omega) HP.out).mono ?_
      rintro e w1 ⟨rfl, hp1, hk1⟩
      have HP1 := Lib.hid hp1
      have HK2 := Lib.hid hk1
      clear hp1 hk1
      go_wp2_with fail
      go_roundw
      case rel => exact ⟨i, r, swr f p q i, hi, hr0, him, by omega, rfl, rfl, HP1, Lib.hid (HK1.out.trans HK2.out), Lib.hid (by rw [← HR.out, ← rot_lt f m i j him (by omega), HPE.out, HQE.out, HRE.out])⟩
      case measure => simp [intOf]; omega
end Go.Proofs.Ytidooohgbiiikaa
