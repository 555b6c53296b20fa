/- spread.Flow; the law SpreadSums, walked. -/
import Derived.Test.YtkkmlpaadbphjaaR
namespace Go.Proofs.Ytkkmlpaadbphjaa
open Go.RowKit
set_option linter.unusedVariables false

def kcut (f : Fl) : List UInt8 := f.key.take (f.key.length - 1)
theorem kcut_len (f : Fl) : (kcut f).length = f.key.length - 1 := by unfold kcut; simp
set_option maxRecDepth 100000 in
set_option maxHeartbeats 1000000 in
theorem flow_any (A : Option Addr) (c : Nat) (key : List UInt8) (f : Fl) (w : World) (hl : key.length ≤ 100000) (hw : f.wf) (hA : BS w w.heap.size A key) :
    Calls Try.prog 18 #[.slice A key.length c, .agg #[.bool f.src.six, .int .u64 f.src.high, .int .u64 f.src.low, .bool f.dst.six, .int .u64 f.dst.high, .int .u64 f.dst.low, .int .u16 f.sp, .int .u16 f.dp, .int .u8 f.pr]] w fun e w' => e = .returned (.int .u32 (sm key (kcut f) (kcut f).length : Int)) ∧ Below w.heap.size w w' := by
  have HA := Lib.hid hA
  have HKL := Lib.hid f.key_len
  have HK := Lib.hid (fun u => adKey_any f u hw)
  clear hA hw
  go_enter Try.func18, Try.ntmps18
  go_wp2_with fail
  refine (HK.out _).mono ?_
  rintro e w1 ⟨v, rfl, hy, hb1⟩
  obtain ⟨KA, kc, rfl, hc1, hc2, hbs⟩ := hy
  have HBS := Lib.hid (show BS w1 w1.heap.size KA (kcut f) from hbs.take_ _)
  have HB1 := Lib.hid (((Below.refl w.heap.size w).alloc (Nat.le_refl _) (.cells #[.bool f.src.six, .int .u64 f.src.high, .int .u64 f.src.low, .bool f.dst.six, .int .u64 f.dst.high, .int .u64 f.dst.low, .int .u16 f.sp, .int .u16 f.dp, .int .u8 f.pr] 45)).trans (hb1.mono (by simp)))
  have HCL := Lib.hid (kcut_len f)
  have hkl := HKL.out
  unfold maxLen at hc2
  obtain ⟨n, hn⟩ : ∃ n, f.key.length = n := ⟨_, rfl⟩
  rw [hn] at hkl hc1 HCL ⊢
  have hz := sum_any A KA c kc key (kcut f) w1 (by omega) (by rw [HCL.out]; omega) (HA.out.onB HB1.out (Nat.le_refl _)) HBS.out
  rw [HCL.out] at hz
  have HZ := Lib.hid hz
  have hnI : (0 : Int) < (n : Int) := by omega
  have hn1 : ((n : Int) - 1).toNat = n - 1 := by omega
  have hn2 : 0 ≤ (n : Int) - 1 := by omega
  have hn3 : 1 ≤ (n : Int) := by omega
  have hn4 : (n : Int) - 1 ≤ (kc : Int) := by omega
  clear hz hb1 hbs hn
  go_wp2_with fail
  refine HZ.out.mono ?_
  rintro e w2 ⟨rfl, rfl⟩
  go_wp2_with fail
  go_ret
  exact ⟨by rw [HCL.out]; rfl, HB1.out⟩
theorem sums_long (A C : Option Addr) (n c m d : Nat) (f : Fl) (w : World) (h : 60 < n ∨ (n ≤ 60 ∧ 100 < m)) (hn : n ≤ maxLen) (hm : m ≤ maxLen) :
    Calls Try.prog 5 #[.slice A n c, .slice C m d, .agg #[.bool f.src.six, .int .u64 f.src.high, .int .u64 f.src.low, .bool f.dst.six, .int .u64 f.dst.high, .int .u64 f.dst.low, .int .u16 f.sp, .int .u16 f.dp, .int .u8 f.pr]] w fun e w' => e = .returned (.bool true) ∧ Below w.heap.size w w' := by
  unfold maxLen at hn hm
  rcases h with h | ⟨h, h'⟩
  all_goals
    go_enter Try.func5, Try.ntmps5
    go_wp2_with fail
    refine (awake_any _).mono ?_
    rintro e w1 ⟨rfl, hb1⟩
    have HB1 := Lib.hid (((Below.refl w.heap.size w).alloc (Nat.le_refl _) (.cells #[.bool f.src.six, .int .u64 f.src.high, .int .u64 f.src.low, .bool f.dst.six, .int .u64 f.dst.high, .int .u64 f.dst.low, .int .u16 f.sp, .int .u16 f.dp, .int .u8 f.pr] 45)).trans (hb1.mono (by simp)))
    clear hb1
    go_wp2_with fail
    go_ret
    exact ⟨rfl, HB1.out⟩
set_option maxRecDepth 100000 in
set_option maxHeartbeats 4000000 in
theorem sums_any (A C : Option Addr) (c d : Nat) (key b : List UInt8) (f : Fl) (w : World) (hl : key.length ≤ 60) (hb : b.length ≤ 100) (hw : f.wf) (hA : BS w w.heap.size A key) (hC : BS w w.heap.size C b) :
    Calls Try.prog 5 #[.slice A key.length c, .slice C b.length d, .agg #[.bool f.src.six, .int .u64 f.src.high, .int .u64 f.src.low, .bool f.dst.six, .int .u64 f.dst.high, .int .u64 f.dst.low, .int .u16 f.sp, .int .u16 f.dp, .int .u8 f.pr]] w fun e w' => e = .returned (.bool true) ∧ Below w.heap.size w w' := by
  have HA := Lib.hid hA
  have HC := Lib.hid hC
  have HRS := Lib.hid (fun u => refRightA_any f.src u)
  have HRD := Lib.hid (fun u => refRightA_any f.dst u)
  have HW := Lib.hid hw
  have HKL := Lib.hid f.key_len
  clear hA hC hw
  go_enter Try.func5, Try.ntmps5
  go_upto_region 3 with fail
  obtain ⟨w1, hw1⟩ : ∃ w1 : World, w1 = w.alloc (.cells #[.bool f.src.six, .int .u64 f.src.high, .int .u64 f.src.low, .bool f.dst.six, .int .u64 f.dst.high, .int .u64 f.dst.low, .int .u16 f.sp, .int .u16 f.dp, .int .u8 f.pr] 45) := ⟨_, rfl⟩
  have HN := Lib.hid (show Blk w1 w.heap.size 45 #[.bool f.src.six, .int .u64 f.src.high, .int .u64 f.src.low, .bool f.dst.six, .int .u64 f.dst.high, .int .u64 f.dst.low, .int .u16 f.sp, .int .u16 f.dp, .int .u8 f.pr] by rw [hw1]; exact Blk.new _ _ _)
  have HB1 := Lib.hid (show Below w.heap.size w w1 by rw [hw1]; exact (Below.refl _ _).alloc (Nat.le_refl _) _)
  have hlt := HN.out.lt
  rw [← hw1]
  clear hw1
  have cN := HN.out.cell
  go_wp2_with fail
  refine (HRS.out w1).mono ?_
  rintro e w2 ⟨rfl, hb2⟩
  have hs2 := hb2.size
  have HN2 := Lib.hid (HN.out.below hb2 hlt)
  have HB2 := Lib.hid (HB1.out.trans (hb2.mono (by omega)))
  clear cN hb2 HN
  have cN := HN2.out.cell
  have hl2 := HN2.out.lt
  obtain ⟨oks, hoks⟩ : ∃ x, f.src.okB = x := ⟨_, rfl⟩
  obtain ⟨okd, hokd⟩ : ∃ x, f.dst.okB = x := ⟨_, rfl⟩
  rw [hoks]
  rw [hokd] at HRD
  clear hoks hokd
  have fin : ∀ w3 : World, Below w.heap.size w w3 → True := fun _ _ => trivial
  clear fin
  cases oks with
  | false =>
    go_wp2_with fail
    refine (sum_any A C c d key b w2 (by omega) (by omega) (HA.out.onB HB2.out (Nat.le_refl _)) (HC.out.onB HB2.out (Nat.le_refl _))).mono ?_
    rintro e w3 ⟨rfl, rfl⟩
    go_wp2_with fail
    refine (refSum_any A C c d key b w2 (by omega) (by omega) (HA.out.onB HB2.out (Nat.le_refl _)) (HC.out.onB HB2.out (Nat.le_refl _))).mono ?_
    rintro e w3 ⟨rfl, rfl⟩
    go_wp2_with fail
    refine (awake_any w2).mono ?_
    rintro e w3 ⟨rfl, hb3⟩
    have HB3 := Lib.hid (HB2.out.trans (hb3.mono (by omega)))
    clear hb3
    go_wp2_with fail
    go_ret
    exact ⟨rfl, HB3.out⟩
  | true =>
    go_wp2_with fail
    refine (HRD.out w2).mono ?_
    rintro e w3 ⟨rfl, hb3⟩
    have hs3 := hb3.size
    have HN3 := Lib.hid (HN2.out.below hb3 hl2)
    have HB3 := Lib.hid (HB2.out.trans (hb3.mono (by omega)))
    clear cN hb3 HN2 hl2
    have cN := HN3.out.cell
    have hl3 := HN3.out.lt
    cases okd with
    | false =>
      go_wp2_with fail
      refine (sum_any A C c d key b w3 (by omega) (by omega) (HA.out.onB HB3.out (Nat.le_refl _)) (HC.out.onB HB3.out (Nat.le_refl _))).mono ?_
      rintro e w4 ⟨rfl, rfl⟩
      go_wp2_with fail
      refine (refSum_any A C c d key b w3 (by omega) (by omega) (HA.out.onB HB3.out (Nat.le_refl _)) (HC.out.onB HB3.out (Nat.le_refl _))).mono ?_
      rintro e w4 ⟨rfl, rfl⟩
      go_wp2_with fail
      refine (awake_any w3).mono ?_
      rintro e w4 ⟨rfl, hb4⟩
      have HB4 := Lib.hid (HB3.out.trans (hb4.mono (by omega)))
      clear hb4
      go_wp2_with fail
      go_ret
      exact ⟨rfl, HB4.out⟩
    | true =>
      go_wp2_with fail
      refine (refAdKey_any f w3 HW.out).mono ?_
      rintro e w4 ⟨v, rfl, hy, hb4⟩
      obtain ⟨KA, kc, rfl, hc1, hc2, hbs⟩ := hy
      have hs4 := hb4.size
      have HN4 := Lib.hid (HN3.out.below hb4 hl3)
      have HB4 := Lib.hid (HB3.out.trans (hb4.mono (by omega)))
      have HBS := Lib.hid (show BS w4 w4.heap.size KA (kcut f) from hbs.take_ _)
      have HCL := Lib.hid (kcut_len f)
      have hkl := HKL.out
      unfold maxLen at hc2
      obtain ⟨n, hn⟩ : ∃ n, f.key.length = n := ⟨_, rfl⟩
      rw [hn] at hkl hc1 HCL ⊢
      have HA4 := Lib.hid (HA.out.onB HB4.out (Nat.le_refl _))
      have HC4 := Lib.hid (HC.out.onB HB4.out (Nat.le_refl _))
      have hn1 : ((n : Int) - 1).toNat = n - 1 := by omega
      have hn2 : 0 ≤ (n : Int) - 1 := by omega
      have hn3 : 1 ≤ (n : Int) := by omega
      have hn4 : (n : Int) - 1 ≤ (kc : Int) := by omega
      have hlt4 := HN4.out.lt
      have HSK := Lib.hid (show (kcut f).length = n - 1 from HCL.out)
      clear cN hb4 hbs hn HN3 hl3
      go_wp2_with fail
      refine wp_region_kept 24 [(2, fun v u => v = .int .u32 (sm key b b.length : Int)), (5, fun v u => v = .int .u32 (sm key b b.length : Int)), (10, fun v u => v = .int .u32 (sm key (kcut f) (kcut f).length : Int)), (17, fun v u => v = .int .u32 (sm key (kcut f) (kcut f).length : Int)), (21, fun v u => v = .bool true)] ?st ?ne rfl (by kernel_rfl) (by kernel_rfl) ?_
      case st =>
        intro p hp
        simp only [List.mem_cons, List.not_mem_nil, or_false] at hp
        rcases hp with rfl | rfl | rfl | rfl | rfl
        · intro v u u' h hk; exact h
        · intro v u u' h hk; exact h
        · intro v u u' h hk; exact h
        · intro v u u' h hk; exact h
        · intro v u u' h hk; exact h
      case ne =>
        intro p hp
        simp only [List.mem_cons, List.not_mem_nil, or_false] at hp
        rcases hp with rfl | rfl | rfl | rfl | rfl
        · exact ⟨_, _, Kept.refl _ _, rfl⟩
        · exact ⟨_, _, Kept.refl _ _, rfl⟩
        · exact ⟨_, _, Kept.refl _ _, rfl⟩
        · exact ⟨_, _, Kept.refl _ _, rfl⟩
        · exact ⟨_, _, Kept.refl _ _, rfl⟩
      simp only [List.take_succ_cons, List.take_zero, List.drop_succ_cons, List.drop_zero]
      intro G pick hR hp1 hp2
      have pc : ∀ u i, (pick u).cell? ⟨w.heap.size, i, none⟩ = (#[.bool f.src.six, .int .u64 f.src.high, .int .u64 f.src.low, .bool f.dst.six, .int .u64 f.dst.high, .int .u64 f.dst.low, .int .u16 f.sp, .int .u16 f.dp, .int .u8 f.pr] : Array Value)[i]? := fun u i => ((hp1 u).cell hlt4 (fun h => h) _).trans (HN4.out.cell i)
      repeat (first | (refine wpR_det hp2 rfl ((hR.rel _).trans rfl) rfl ?_; intro K hK; go_big_quiet_op; go_big_quiet_on) | (refine wpR_ptr hp2 rfl ((hR.rel _).trans rfl) rfl rfl ?_; intro K hK; go_big_quiet_op; go_big_quiet_on) | (refine wpR_skip pick rfl ?_; intro K hK; go_big_quiet_op; go_big_quiet_on))
      refine wpR_rel pick rfl ((hR.rel _).trans rfl) ((hR.turns _).trans rfl) ?_ ?_
      · intro u hu
        have hk := hR.since hu.1
        have hks := hk.size
        unfold relAt
        go_simp
        refine (sum_any A C c d key b u (by omega) (by omega) (HA4.out.on hk (fun _ _ h => h)) (HC4.out.on hk (fun _ _ h => h))).mono ?_
        rintro e w' ⟨rfl, rfl⟩
        exact ⟨_, rfl, hR.same, hR.put 0 rfl rfl rfl⟩
      intro v hv
      obtain ⟨u, _, hu⟩ := hv
      obtain rfl := hR.get 0 rfl hu
      clear hu
      intro K hK
      go_big_quiet_op
      go_big_quiet_on
      repeat (first | (refine wpR_det hp2 rfl ((hR.rel _).trans rfl) rfl ?_; intro K hK; go_big_quiet_op; go_big_quiet_on) | (refine wpR_ptr hp2 rfl ((hR.rel _).trans rfl) rfl rfl ?_; intro K hK; go_big_quiet_op; go_big_quiet_on) | (refine wpR_skip pick rfl ?_; intro K hK; go_big_quiet_op; go_big_quiet_on))
      refine wpR_rel pick rfl ((hR.rel _).trans rfl) ((hR.turns _).trans rfl) ?_ ?_
      · intro u hu
        have hk := hR.since hu.1
        have hks := hk.size
        unfold relAt
        go_simp
        refine (refSum_any A C c d key b u (by omega) (by omega) (HA4.out.on hk (fun _ _ h => h)) (HC4.out.on hk (fun _ _ h => h))).mono ?_
        rintro e w' ⟨rfl, rfl⟩
        exact ⟨_, rfl, hR.same, hR.put 1 rfl rfl rfl⟩
      intro v hv
      obtain ⟨u, _, hu⟩ := hv
      obtain rfl := hR.get 1 rfl hu
      clear hu
      intro K hK
      go_big_quiet_op
      go_big_quiet_on
      repeat (first | (refine wpR_det hp2 rfl ((hR.rel _).trans rfl) rfl ?_; intro K hK; go_big_quiet_op; go_big_quiet_on) | (refine wpR_ptr hp2 rfl ((hR.rel _).trans rfl) rfl rfl ?_; intro K hK; go_big_quiet_op; go_big_quiet_on) | (refine wpR_skip pick rfl ?_; intro K hK; go_big_quiet_op; go_big_quiet_on))
      refine wpR_rel pick rfl ((hR.rel _).trans rfl) ((hR.turns _).trans rfl) ?_ ?_
      · intro u hu
        have hk := hR.since hu.1
        have hks := hk.size
        unfold relAt
        go_simp
        refine (flow_any A c key f u (by omega) HW.out (HA4.out.on hk (fun _ _ h => h))).mono ?_
        rintro e w' ⟨rfl, hb⟩
        exact ⟨_, rfl, hR.intoB hb, hR.put 2 rfl rfl rfl⟩
      intro v hv
      obtain ⟨u, _, hu⟩ := hv
      obtain rfl := hR.get 2 rfl hu
      clear hu
      intro K hK
      go_big_quiet_op
      go_big_quiet_on
      repeat (first | (refine wpR_det hp2 rfl ((hR.rel _).trans rfl) rfl ?_; intro K hK; go_big_quiet_op; go_big_quiet_on) | (refine wpR_ptr hp2 rfl ((hR.rel _).trans rfl) rfl rfl ?_; intro K hK; go_big_quiet_op; go_big_quiet_on) | (refine wpR_skip pick rfl ?_; intro K hK; go_big_quiet_op; go_big_quiet_on))
      refine wpR_rel pick rfl ((hR.rel _).trans rfl) ((hR.turns _).trans rfl) ?_ ?_
      · intro u hu
        have hk := hR.since hu.1
        have hks := hk.size
        have hz := refSum_any A KA c kc key (kcut f) u (by omega) (by rw [HSK.out]; omega) (HA4.out.on hk (fun _ _ h => h)) (HBS.out.on hk (fun _ _ h => h))
        rw [HSK.out] at hz
        unfold relAt
        go_simp
        refine hz.mono ?_
        rintro e w' ⟨rfl, rfl⟩
        exact ⟨_, rfl, hR.same, hR.put 3 rfl rfl (by rw [HSK.out])⟩
      intro v hv
      obtain ⟨u, _, hu⟩ := hv
      obtain rfl := hR.get 3 rfl hu
      clear hu
      intro K hK
      go_big_quiet_op
      go_big_quiet_on
      repeat (first | (refine wpR_det hp2 rfl ((hR.rel _).trans rfl) rfl ?_; intro K hK; go_big_quiet_op; go_big_quiet_on) | (refine wpR_ptr hp2 rfl ((hR.rel _).trans rfl) rfl rfl ?_; intro K hK; go_big_quiet_op; go_big_quiet_on) | (refine wpR_skip pick rfl ?_; intro K hK; go_big_quiet_op; go_big_quiet_on))
      refine wpR_rel pick rfl ((hR.rel _).trans rfl) ((hR.turns _).trans rfl) ?_ ?_
      · intro u hu
        have hk := hR.since hu.1
        have hks := hk.size
        unfold relAt
        go_simp
        refine (awake_any u).mono ?_
        rintro e w' ⟨rfl, hb⟩
        exact ⟨_, rfl, hR.intoB hb, hR.put 4 rfl rfl rfl⟩
      intro v hv
      obtain ⟨u, _, hu⟩ := hv
      obtain rfl := hR.get 4 rfl hu
      clear hu
      intro K hK
      go_big_quiet_op
      go_big_quiet_on
      repeat (first | (refine wpR_det hp2 rfl ((hR.rel _).trans rfl) rfl ?_; intro K hK; go_big_quiet_op; go_big_quiet_on) | (refine wpR_ptr hp2 rfl ((hR.rel _).trans rfl) rfl rfl ?_; intro K hK; go_big_quiet_op; go_big_quiet_on) | (refine wpR_skip pick rfl ?_; intro K hK; go_big_quiet_op; go_big_quiet_on))
      refine wpR_nil ?_
      intro wX hk2 hF hM
      have HB5 := Lib.hid (HB4.out.trans (hk2.below (by omega) (fun _ h => h.elim)))
      clear hF hM hk2 hp1 hp2 hR pc
      go_wp2_with fail
      go_ret
      exact ⟨rfl, HB5.out⟩
theorem sums_l (A C : Option Addr) (c d : Nat) (key b : List UInt8) (f : Fl) (w : World) (hl : key.length ≤ maxLen) (hb : b.length ≤ maxLen) (hw : f.wf) (hA : BS w w.heap.size A key) (hC : BS w w.heap.size C b) :
    Calls Try.prog 5 #[.slice A key.length c, .slice C b.length d, .agg #[.bool f.src.six, .int .u64 f.src.high, .int .u64 f.src.low, .bool f.dst.six, .int .u64 f.dst.high, .int .u64 f.dst.low, .int .u16 f.sp, .int .u16 f.dp, .int .u8 f.pr]] w fun e w' => e = .returned (.bool true) ∧ Below w.heap.size w w' := by
  by_cases h : 60 < key.length ∨ (key.length ≤ 60 ∧ 100 < b.length)
  · exact sums_long A C key.length c b.length d f w h hl hb
  · exact sums_any A C c d key b f w (by omega) (by omega) hw hA hC
end Go.Proofs.Ytkkmlpaadbphjaa
