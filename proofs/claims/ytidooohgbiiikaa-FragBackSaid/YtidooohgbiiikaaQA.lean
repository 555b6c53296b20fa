/- insertionSortCmpFunc at parts. -/
import Derived.Test.YtidooohgbiiikaaQ
import Derived.Deep.LoopGhost
namespace Go.Proofs.Ytidooohgbiiikaa
open Go.RowKit
set_option linter.unusedVariables false
def InsP (g n a b : Nat) (f0 : Nat → List Value) (w : World) (e : Ending) (w' : World) : Prop := e = .returned (.tuple #[]) ∧ ∃ f, PR w' g n f ∧ Kept (fun k => k = g) w w' ∧ Isd kof f0 f a b
theorem ins_step {f0 f1 : Nat → List Value} {a k q : Nat} (h : Isd kof f0 f1 a k) (ha : a ≤ q) (hq : q ≤ k) (hg : ∀ p, q ≤ p → p < k → kof (f1 k) < kof (f1 p)) (hl : a < q → ¬ kof (f1 k) < kof (f1 (q - 1))) : Isd kof f0 (movL f1 k q) a (k + 1) := by
  obtain ⟨h1, h2⟩ := h
  have hs : Srt kof (seg f1 a k) := by rw [h1]; exact srt_isort _
  have hm := merged_last (key := kof) (f := f1) (i := q) ha hq hs (by by_cases h : q = a
                                                                      · exact .inl h
                                                                      · have := hl (by omega); exact .inr (by omega)) (by by_cases h : q = k
                                                                                                                          · exact .inl h
                                                                                                                          · exact .inr (hg q (Nat.le_refl _) (by omega)))
  refine ⟨?_, fun p hp => ?_⟩
  · rw [hm.1, seg_snoc f0 (by omega), isort_snoc, h1, seg_one, show mrg kof (isort kof (seg f0 a k)) [f1 k] = sins kof (f1 k) (isort kof (seg f0 a k)) from rfl, h2 k (by omega)]
  · rw [hm.2 p (by omega), h2 p (by omega)]
set_option maxRecDepth 100000 in
set_option maxHeartbeats 4000000 in
theorem ins_any (g n c a b : Nat) (f0 : Nat → List Value) (w : World) (hn : n ≤ 100000) (hab : a ≤ b) (hbn : b ≤ n) (hP : PR w g n f0) :
    Calls Try.prog 48 #[(.slice (some ⟨g, 0, none⟩) n c), .int .i64 (a : Int), .int .i64 (b : Int), (.func (.func 18) #[] #[])] w (InsP g n a b f0 w) := by
  have HP0 := Lib.hid hP
  clear hP
  by_cases he : a = b
  · subst he
    go_enter Try.func48, Try.ntmps48
    go_wp2_with fail
    go_loopw [8, 9] (fun i _ wr => i = .int .i64 ((a : Int) + 1) ∧ wr = w) (fun i _ _ => 0)
    case atStart => exact ⟨by go_num, rfl⟩
    case round =>
      obtain ⟨rfl, rfl⟩ := hrel
      go_wp2_with fail
      go_end0
      exact ⟨rfl, f0, HP0.out, Kept.refl _ _, by rw [seg_nil f0 (Nat.le_refl a)]; rfl, fun _ _ => rfl⟩
  have hab' : a < b := by omega
  clear he hab
  go_enter Try.func48, Try.ntmps48
  go_wp2_with fail
  go_loopw [8, 9] (fun i _ wr => ∃ (k : Nat) (f1 : Nat → List Value), a < k ∧ k ≤ b ∧ i = .int .i64 (k : Int) ∧ Hid (PR wr g n f1) ∧ Hid (Kept (fun k => k = g) w wr) ∧ Hid (Isd kof f0 f1 a k)) (fun i _ _ => b - (intOf i).toNat)
  case atStart => exact ⟨a + 1, f0, by omega, by omega, by go_num, HP0, Lib.hid (Kept.refl _ _), Lib.hid ⟨by rw [seg_one]; rfl, fun _ _ => rfl⟩⟩
  case round =>
    clear HP0
    obtain ⟨k, f1, hak, hkb, rfl, HP1, HK1, HI1⟩ := hrel
    by_cases hkl : k < b
    · have kI : (k : Int) < (b : Int) := by omega
      go_wp2_with fail
      go_loopw [9] (fun j wr => ∃ q : Nat, a ≤ q ∧ q ≤ k ∧ j = .int .i64 (q : Int) ∧ Hid (PR wr g n (movL f1 k q)) ∧ Hid (Kept (fun k => k = g) w wr) ∧ Hid (∀ p, q ≤ p → p < k → kof (f1 k) < kof (f1 p))) (fun j _ => (intOf j).toNat)
      case atStart => exact ⟨k, by omega, by omega, rfl, Lib.hid (by rw [movL_zero]; exact HP1.out), HK1, Lib.hid (fun p h1 h2 => by omega)⟩
      case round =>
        clear HP1 HK1
        obtain ⟨q, haq, hqk, rfl, HPQ, HK1, HG⟩ := hrel
        by_cases hlt : a < q
        · obtain ⟨r, hr⟩ : ∃ r, q = r + 1 := ⟨q - 1, by omega⟩
          obtain ⟨f, hf⟩ : ∃ f, movL f1 k q = f := ⟨_, rfl⟩
          rw [hf] at HPQ
          have HF := Lib.hid hf
          have HP := HPQ
          have HX := Lib.hid (show f q = f1 k by rw [← hf]; unfold movL; rw [if_neg (by omega), if_pos rfl])
          have HY := Lib.hid (show f r = f1 r by rw [← hf]; unfold movL; rw [if_neg (by omega), if_neg (by omega)])
          have HQ := Lib.hid hr
          clear hf HPQ
          have hi : q < n := by omega
          have hj : r < n := by omega
          have qI : (q : Int) < (n : Int) := by omega
          have rI : (r : Int) < (n : Int) := by omega
          have q0 : (0 : Int) ≤ (q : Int) := by omega
          have r0 : (0 : Int) ≤ (r : Int) := by omega
          have er : (q : Int) - 1 = (r : Int) := by omega
          have aq : (a : Int) < (q : Int) := by omega
          clear hr
          have glt := HP.out.lt
          obtain ⟨z, hz⟩ : ∃ z, cmpI (kof (f q)) (kof (f r)) = z := ⟨_, rfl⟩
          have HZ := Lib.hid hz
          clear hz
          by_cases z0 : z < 0
          · go_upto_region 4 with fail
            refine wp_region_kept 17 [(14, fun v u => v = .int .i64 z)] ?st ?ne rfl (by kernel_rfl) (by kernel_rfl) ?_
            case st =>
              intro p hp
              simp only [List.mem_cons, List.not_mem_nil, or_false] at hp
              subst hp
              · intro v u u' h hk; exact h
            case ne =>
              intro p hp
              simp only [List.mem_cons, List.not_mem_nil, or_false] at hp
              subst hp
              · exact ⟨_, _, Kept.refl _ _, rfl⟩
            simp only [List.take_succ_cons, List.take_zero, List.drop_succ_cons, List.drop_zero]
            intro G pick hR hp1 hp2
            repeat (first | (refine wpR_det hp2 rfl ((hR.rel _).trans rfl) rfl ?_; intro K hK; (first | (refine quiet_load_row 54 (.tmp 25) g (q * 17) (f (q)) _ rfl (fun u => (HP.out.kept (hp1 u) (fun h => h)).range (hi)) Try.underlying54 rfl (by rw [(HP.out.good _ (hi)).1]; kernel_rfl) ?_) | (refine quiet_load_row 54 (.tmp 30) g (r * 17) (f (r)) _ rfl (fun u => (HP.out.kept (hp1 u) (fun h => h)).range (hj)) Try.underlying54 rfl (by rw [(HP.out.good _ (hj)).1]; kernel_rfl) ?_)); go_big_quiet_op; go_big_quiet_on) | (refine wpR_det hp2 rfl ((hR.rel _).trans rfl) rfl ?_; intro K hK; go_big_quiet_op; go_big_quiet_on) | (refine wpR_ptr hp2 rfl ((hR.rel _).trans rfl) rfl rfl ?_; intro K hK; go_big_quiet_op; go_big_quiet_on) | (refine wpR_skip pick rfl ?_; intro K hK; go_big_quiet_op; go_big_quiet_on))
            refine wpR_rel pick rfl ((hR.rel _).trans rfl) ((hR.turns _).trans rfl) ?_ ?_
            · intro u hu
              have hk := hR.since hu.1
              have hks := hk.size
              unfold relAt
              go_simp
              refine (join1_any (f (q)) (f (r)) u (HP.out.good _ (hi)) (HP.out.good _ (hj))).mono ?_
              rintro e w' ⟨rfl, hb⟩
              exact ⟨_, rfl, hR.into0 hb, hR.put 0 rfl rfl (by rw [HZ.out])⟩
            intro v hv
            obtain ⟨u, _, hu⟩ := hv
            obtain rfl := hR.get 0 rfl hu
            clear hu
            intro K hK
            go_big_quiet_op
            go_big_quiet_on
            repeat (first | (refine wpR_det hp2 rfl ((hR.rel _).trans rfl) rfl ?_; intro K hK; (first | (refine quiet_load_row 54 (.tmp 25) g (q * 17) (f (q)) _ rfl (fun u => (HP.out.kept (hp1 u) (fun h => h)).range (hi)) Try.underlying54 rfl (by rw [(HP.out.good _ (hi)).1]; kernel_rfl) ?_) | (refine quiet_load_row 54 (.tmp 30) g (r * 17) (f (r)) _ rfl (fun u => (HP.out.kept (hp1 u) (fun h => h)).range (hj)) Try.underlying54 rfl (by rw [(HP.out.good _ (hj)).1]; kernel_rfl) ?_)); go_big_quiet_op; go_big_quiet_on) | (refine wpR_det hp2 rfl ((hR.rel _).trans rfl) rfl ?_; intro K hK; go_big_quiet_op; go_big_quiet_on) | (refine wpR_ptr hp2 rfl ((hR.rel _).trans rfl) rfl rfl ?_; intro K hK; go_big_quiet_op; go_big_quiet_on) | (refine wpR_skip pick rfl ?_; intro K hK; go_big_quiet_op; go_big_quiet_on))
            refine wpR_nil ?_
            intro w2 hk2 hF hM
            have HKC := Lib.hid hk2
            have HP2 := Lib.hid (HP.out.kept hk2 (fun h => h))
            clear hF hM hk2 hp1 hp2 hR HP
            have HP := HP2
            clear HP2
            go_upto_region 6 with fail
            refine wp_region_peek 18 (fun k => k = g) [15, 17] [] [9, 13] [(15, fun v u => PR u g n (setF f (q) (f (r)))), (17, fun v u => PR u g n (setF (setF f (q) (f (r))) (r) (f (q))))] ?st ?ne rfl (by kernel_rfl) (by kernel_rfl) (by kernel_rfl) (by kernel_rfl) ?_
            case st =>
              intro p hp
              simp only [List.mem_cons, List.not_mem_nil, or_false] at hp
              rcases hp with rfl | rfl
              · intro v u u' h hk; exact h.kept hk (fun h => h)
              · intro v u u' h hk; exact h.kept hk (fun h => h)
            case ne =>
              intro p hp
              simp only [List.mem_cons, List.not_mem_nil, or_false] at hp
              rcases hp with rfl | rfl
              · exact ⟨undef, _, PR.keptS _ _, HP.out.put (hi) (HP.out.good _ (hj)) (HP.out.one (hj))⟩
              · exact ⟨undef, _, (PR.keptS _ _).trans (PR.keptS _ _), (HP.out.put (hi) (HP.out.good _ (hj)) (HP.out.one (hj))).put (hj) (HP.out.good _ (hi)) (HP.out.one (hi))⟩
            simp only [List.take_succ_cons, List.take_zero, List.drop_succ_cons, List.drop_zero]
            intro G pick pick0 hR hp1 hp2 hpk hq1 hq2
            repeat (first | (refine wpR_peek hq2 rfl ((hR.rel _).trans rfl) ((hpk _).trans rfl) rfl ?_; intro K hK; (first | (refine quiet_load_row 54 (.tmp 45) g (r * 17) (f (r)) _ rfl (fun u => (HP.out.kept (hq1 u) (fun h => h)).range (hj)) Try.underlying54 rfl (by rw [(HP.out.good _ (hj)).1]; kernel_rfl) ?_) | (refine quiet_load_row 54 (.tmp 49) g (q * 17) (f (q)) _ rfl (fun u => (HP.out.kept (hq1 u) (fun h => h)).range (hi)) Try.underlying54 rfl (by rw [(HP.out.good _ (hi)).1]; kernel_rfl) ?_)); go_big_quiet_op; go_big_quiet_on) | (refine wpR_peek hq2 rfl ((hR.rel _).trans rfl) ((hpk _).trans rfl) rfl ?_; intro K hK; go_big_quiet_op; go_big_quiet_on) | (refine wpR_det hp2 rfl ((hR.rel _).trans rfl) rfl ?_; intro K hK; (first | (refine quiet_load_row 54 (.tmp 45) g (r * 17) (f (r)) _ rfl (fun u => (HP.out.kept (hp1 u) (fun h => h)).range (hj)) Try.underlying54 rfl (by rw [(HP.out.good _ (hj)).1]; kernel_rfl) ?_) | (refine quiet_load_row 54 (.tmp 49) g (q * 17) (f (q)) _ rfl (fun u => (HP.out.kept (hp1 u) (fun h => h)).range (hi)) Try.underlying54 rfl (by rw [(HP.out.good _ (hi)).1]; kernel_rfl) ?_)); go_big_quiet_op; go_big_quiet_on) | (refine wpR_det hp2 rfl ((hR.rel _).trans rfl) rfl ?_; intro K hK; go_big_quiet_op; go_big_quiet_on) | (refine wpR_ptr hp2 rfl ((hR.rel _).trans rfl) rfl rfl ?_; intro K hK; go_big_quiet_op; go_big_quiet_on) | (refine wpR_skip pick rfl ?_; intro K hK; go_big_quiet_op; go_big_quiet_on))
            refine wpR_turn pick rfl ((hR.rel _).trans rfl) ((hR.turns _).trans rfl) ((hR.adds _).trans rfl) ?_ ?_
            · intro u hu hM
              have hk := hR.since hu.1
              have hks := hk.size
              have hP0 := HP.out.kept (hR.first hM) (fun h => h)
              exact relAt_store_row 54 (.tmp 51) (.tmp 46) g (q * 17) (f (r)) rfl ⟨rfl, rfl⟩ (hP0.there (hi) (HP.out.good _ (hj)).1) (by rw [List.size_toArray, (HP.out.good _ (hj)).1]; kernel_rfl) (HP.out.one (hj)) ⟨hR.into (PR.keptS _ _), hR.put 0 rfl rfl (hP0.put (hi) (HP.out.good _ (hj)) (HP.out.one (hj)))⟩
            intro v hv
            obtain ⟨u, _, hu⟩ := hv
            obtain - := hR.get 0 rfl hu
            clear hu
            intro K hK
            go_big_quiet_op
            go_big_quiet_on
            repeat (first | (refine wpR_peek hq2 rfl ((hR.rel _).trans rfl) ((hpk _).trans rfl) rfl ?_; intro K hK; (first | (refine quiet_load_row 54 (.tmp 45) g (r * 17) (f (r)) _ rfl (fun u => (HP.out.kept (hq1 u) (fun h => h)).range (hj)) Try.underlying54 rfl (by rw [(HP.out.good _ (hj)).1]; kernel_rfl) ?_) | (refine quiet_load_row 54 (.tmp 49) g (q * 17) (f (q)) _ rfl (fun u => (HP.out.kept (hq1 u) (fun h => h)).range (hi)) Try.underlying54 rfl (by rw [(HP.out.good _ (hi)).1]; kernel_rfl) ?_)); go_big_quiet_op; go_big_quiet_on) | (refine wpR_peek hq2 rfl ((hR.rel _).trans rfl) ((hpk _).trans rfl) rfl ?_; intro K hK; go_big_quiet_op; go_big_quiet_on) | (refine wpR_det hp2 rfl ((hR.rel _).trans rfl) rfl ?_; intro K hK; (first | (refine quiet_load_row 54 (.tmp 45) g (r * 17) (f (r)) _ rfl (fun u => (HP.out.kept (hp1 u) (fun h => h)).range (hj)) Try.underlying54 rfl (by rw [(HP.out.good _ (hj)).1]; kernel_rfl) ?_) | (refine quiet_load_row 54 (.tmp 49) g (q * 17) (f (q)) _ rfl (fun u => (HP.out.kept (hp1 u) (fun h => h)).range (hi)) Try.underlying54 rfl (by rw [(HP.out.good _ (hi)).1]; kernel_rfl) ?_)); go_big_quiet_op; go_big_quiet_on) | (refine wpR_det hp2 rfl ((hR.rel _).trans rfl) rfl ?_; intro K hK; go_big_quiet_op; go_big_quiet_on) | (refine wpR_ptr hp2 rfl ((hR.rel _).trans rfl) rfl rfl ?_; intro K hK; go_big_quiet_op; go_big_quiet_on) | (refine wpR_skip pick rfl ?_; intro K hK; go_big_quiet_op; go_big_quiet_on))
            refine wpR_turn pick rfl ((hR.rel _).trans rfl) ((hR.turns _).trans rfl) ((hR.adds _).trans rfl) ?_ ?_
            · intro u hu hM
              have hk := hR.since hu.1
              have hks := hk.size
              have hM0 := hR.get 0 rfl hM
              exact relAt_store_row 54 (.tmp 52) (.tmp 50) g (r * 17) (f (q)) rfl ⟨rfl, rfl⟩ (hM0.there (hj) (HP.out.good _ (hi)).1) (by rw [List.size_toArray, (HP.out.good _ (hi)).1]; kernel_rfl) (HP.out.one (hi)) ⟨hR.into (PR.keptS _ _), hR.put 1 rfl rfl (hM0.put (hj) (HP.out.good _ (hi)) (HP.out.one (hi)))⟩
            intro v hv
            obtain ⟨u, _, hu⟩ := hv
            obtain - := hR.get 1 rfl hu
            clear hu
            intro K hK
            go_big_quiet_op
            go_big_quiet_on
            repeat (first | (refine wpR_peek hq2 rfl ((hR.rel _).trans rfl) ((hpk _).trans rfl) rfl ?_; intro K hK; (first | (refine quiet_load_row 54 (.tmp 45) g (r * 17) (f (r)) _ rfl (fun u => (HP.out.kept (hq1 u) (fun h => h)).range (hj)) Try.underlying54 rfl (by rw [(HP.out.good _ (hj)).1]; kernel_rfl) ?_) | (refine quiet_load_row 54 (.tmp 49) g (q * 17) (f (q)) _ rfl (fun u => (HP.out.kept (hq1 u) (fun h => h)).range (hi)) Try.underlying54 rfl (by rw [(HP.out.good _ (hi)).1]; kernel_rfl) ?_)); go_big_quiet_op; go_big_quiet_on) | (refine wpR_peek hq2 rfl ((hR.rel _).trans rfl) ((hpk _).trans rfl) rfl ?_; intro K hK; go_big_quiet_op; go_big_quiet_on) | (refine wpR_det hp2 rfl ((hR.rel _).trans rfl) rfl ?_; intro K hK; (first | (refine quiet_load_row 54 (.tmp 45) g (r * 17) (f (r)) _ rfl (fun u => (HP.out.kept (hp1 u) (fun h => h)).range (hj)) Try.underlying54 rfl (by rw [(HP.out.good _ (hj)).1]; kernel_rfl) ?_) | (refine quiet_load_row 54 (.tmp 49) g (q * 17) (f (q)) _ rfl (fun u => (HP.out.kept (hp1 u) (fun h => h)).range (hi)) Try.underlying54 rfl (by rw [(HP.out.good _ (hi)).1]; kernel_rfl) ?_)); go_big_quiet_op; go_big_quiet_on) | (refine wpR_det hp2 rfl ((hR.rel _).trans rfl) rfl ?_; intro K hK; go_big_quiet_op; go_big_quiet_on) | (refine wpR_ptr hp2 rfl ((hR.rel _).trans rfl) rfl rfl ?_; intro K hK; go_big_quiet_op; go_big_quiet_on) | (refine wpR_skip pick rfl ?_; intro K hK; go_big_quiet_op; go_big_quiet_on))
            refine wpR_nil ?_
            intro w3 hk2 hF hM
            have HPZ := Lib.hid (hR.get 1 rfl hM)
            have HKZ := Lib.hid hk2
            clear hF hM hk2 hp1 hp2 hR hpk hq1 hq2
            go_wp2_with fail
            go_roundw
            case rel =>
              refine ⟨r, by have := HQ.out; omega, by have := HQ.out; omega, rfl, Lib.hid ?_, Lib.hid ?_, Lib.hid ?_⟩
              · rw [← movL_step f1 k r (by have := HQ.out; omega), ← HQ.out, HF.out]
                exact HPZ.out.swp
              · exact HK1.out.trans ((HKC.out.mono (fun _ _ h => h.elim)).trans HKZ.out)
              · intro p h1 h2
                by_cases hp : p = r
                · have := (cmpI_neg _ _).1 (by rw [HZ.out]; exact z0)
                  rw [HX.out, HY.out] at this
                  rw [hp]; exact this
                · exact HG.out p (by have := HQ.out; omega) h2
            case measure => have := HQ.out; simp [intOf]; omega
          · go_upto_region 4 with fail
            refine wp_region_kept 17 [(14, fun v u => v = .int .i64 z)] ?st ?ne rfl (by kernel_rfl) (by kernel_rfl) ?_
            case st =>
              intro p hp
              simp only [List.mem_cons, List.not_mem_nil, or_false] at hp
              subst hp
              · intro v u u' h hk; exact h
            case ne =>
              intro p hp
              simp only [List.mem_cons, List.not_mem_nil, or_false] at hp
              subst hp
              · exact ⟨_, _, Kept.refl _ _, rfl⟩
            simp only [List.take_succ_cons, List.take_zero, List.drop_succ_cons, List.drop_zero]
            intro G pick hR hp1 hp2
            repeat (first | (refine wpR_det hp2 rfl ((hR.rel _).trans rfl) rfl ?_; intro K hK; (first | (refine quiet_load_row 54 (.tmp 25) g (q * 17) (f (q)) _ rfl (fun u => (HP.out.kept (hp1 u) (fun h => h)).range (hi)) Try.underlying54 rfl (by rw [(HP.out.good _ (hi)).1]; kernel_rfl) ?_) | (refine quiet_load_row 54 (.tmp 30) g (r * 17) (f (r)) _ rfl (fun u => (HP.out.kept (hp1 u) (fun h => h)).range (hj)) Try.underlying54 rfl (by rw [(HP.out.good _ (hj)).1]; kernel_rfl) ?_)); go_big_quiet_op; go_big_quiet_on) | (refine wpR_det hp2 rfl ((hR.rel _).trans rfl) rfl ?_; intro K hK; go_big_quiet_op; go_big_quiet_on) | (refine wpR_ptr hp2 rfl ((hR.rel _).trans rfl) rfl rfl ?_; intro K hK; go_big_quiet_op; go_big_quiet_on) | (refine wpR_skip pick rfl ?_; intro K hK; go_big_quiet_op; go_big_quiet_on))
            refine wpR_rel pick rfl ((hR.rel _).trans rfl) ((hR.turns _).trans rfl) ?_ ?_
            · intro u hu
              have hk := hR.since hu.1
              have hks := hk.size
              unfold relAt
              go_simp
              refine (join1_any (f (q)) (f (r)) u (HP.out.good _ (hi)) (HP.out.good _ (hj))).mono ?_
              rintro e w' ⟨rfl, hb⟩
              exact ⟨_, rfl, hR.into0 hb, hR.put 0 rfl rfl (by rw [HZ.out])⟩
            intro v hv
            obtain ⟨u, _, hu⟩ := hv
            obtain rfl := hR.get 0 rfl hu
            clear hu
            intro K hK
            go_big_quiet_op
            go_big_quiet_on
            repeat (first | (refine wpR_det hp2 rfl ((hR.rel _).trans rfl) rfl ?_; intro K hK; (first | (refine quiet_load_row 54 (.tmp 25) g (q * 17) (f (q)) _ rfl (fun u => (HP.out.kept (hp1 u) (fun h => h)).range (hi)) Try.underlying54 rfl (by rw [(HP.out.good _ (hi)).1]; kernel_rfl) ?_) | (refine quiet_load_row 54 (.tmp 30) g (r * 17) (f (r)) _ rfl (fun u => (HP.out.kept (hp1 u) (fun h => h)).range (hj)) Try.underlying54 rfl (by rw [(HP.out.good _ (hj)).1]; kernel_rfl) ?_)); go_big_quiet_op; go_big_quiet_on) | (refine wpR_det hp2 rfl ((hR.rel _).trans rfl) rfl ?_; intro K hK; go_big_quiet_op; go_big_quiet_on) | (refine wpR_ptr hp2 rfl ((hR.rel _).trans rfl) rfl rfl ?_; intro K hK; go_big_quiet_op; go_big_quiet_on) | (refine wpR_skip pick rfl ?_; intro K hK; go_big_quiet_op; go_big_quiet_on))
            refine wpR_nil ?_
            intro w2 hk2 hF hM
            have HKC := Lib.hid hk2
            have HP2 := Lib.hid (HP.out.kept hk2 (fun h => h))
            clear hF hM hk2 hp1 hp2 hR HP
            go_wp2_with fail
            go_roundw
            case rel =>
              refine ⟨k + 1, movL f1 k q, by omega, by omega, by go_num, Lib.hid (by rw [HF.out]; exact HP2.out), Lib.hid (HK1.out.trans (HKC.out.mono (fun _ _ h => h.elim))), Lib.hid (ins_step HI1.out (by omega) hqk HG.out (fun _ => ?_))⟩
              have h : ¬ kof (f q) < kof (f r) := fun h => z0 (by rw [← HZ.out]; exact (cmpI_neg _ _).2 h)
              rw [HX.out, HY.out] at h
              rw [show q - 1 = r by have := HQ.out; omega]; exact h
            case measure => simp [intOf]; omega
        · obtain rfl : q = a := by omega
          have aq : ¬ (q : Int) < (q : Int) := by omega
          go_upto_region 4 with fail
          refine wp_region_kept 17 [(14, fun v u => v = .int .i64 0)] ?st ?ne rfl (by kernel_rfl) (by kernel_rfl) ?_
          case st => intro p hp; simp only [List.mem_cons, List.not_mem_nil, or_false] at hp; subst hp; intro v u u' h hk; exact h
          case ne => intro p hp; simp only [List.mem_cons, List.not_mem_nil, or_false] at hp; subst hp; exact ⟨_, _, Kept.refl _ _, rfl⟩
          simp only [List.take_succ_cons, List.take_zero, List.drop_succ_cons, List.drop_zero]
          intro G pick hR hp1 hp2
          repeat (first | (refine wpR_det hp2 rfl ((hR.rel _).trans rfl) rfl ?_; intro K hK; go_big_quiet_op; go_big_quiet_on) | (refine wpR_ptr hp2 rfl ((hR.rel _).trans rfl) rfl rfl ?_; intro K hK; go_big_quiet_op; go_big_quiet_on) | (refine wpR_skip pick rfl ?_; intro K hK; go_big_quiet_op; go_big_quiet_on))
          refine wpR_nil ?_
          intro w2 hk2 hF hM
          have HKC := Lib.hid hk2
          have HP2 := Lib.hid (HPQ.out.kept hk2 (fun h => h))
          have HK2 := Lib.hid (HK1.out.trans (HKC.out.mono (fun _ _ h => h.elim)))
          clear hF hM hk2 hp1 hp2 hR
          go_wp2_with fail
          go_roundw
          case rel => exact ⟨k + 1, movL f1 k q, by omega, by omega, by go_num, HP2, HK2, Lib.hid (ins_step HI1.out (Nat.le_refl _) (by omega) HG.out (fun h => by omega))⟩
          case measure => simp [intOf]; omega
    · obtain rfl : k = b := by omega
      have kI : ¬ (k : Int) < (k : Int) := by omega
      go_wp2_with fail
      go_end0
      exact ⟨rfl, f1, HP1.out, HK1.out, HI1.out⟩
end Go.Proofs.Ytidooohgbiiikaa
