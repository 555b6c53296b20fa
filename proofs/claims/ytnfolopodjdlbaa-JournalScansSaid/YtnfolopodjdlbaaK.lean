/- The law JournalScans, walked. -/
import Derived.Test.YtnfolopodjdlbaaJ
namespace Go.Proofs.Ytnfolopodjdlbaa
open Go.RowKit
set_option linter.unusedVariables false
theorem scanR_len : ∀ (f : Nat) (b : List UInt8) (n : Nat), (scanR f b n).1.length ≤ b.length
  | 0, _, _ => by simp [scanR]
  | f + 1, b, n => by
    by_cases h : firstOk b ((n : Int) + 1)
    · have hl := h.1
      rw [scanR_yes f b n h]
      have := scanR_len f (b.drop (14 + szOf b)) (n + 1)
      rw [List.length_drop] at this
      simp only [List.length_cons]
      omega
    · rw [scanR_no _ _ _ h]; simp
theorem scan_len (b : List UInt8) (n : Nat) : (scan b n).1.length ≤ b.length := scanR_len _ _ _
theorem scans_long (BA XA : Option Addr) (bc xc : Nat) (b x : List UInt8) (num : Int) (w : World) (hno : ¬ (b.length ≤ 2000 ∧ x.length ≤ 4200)) : Calls Try.prog 3 #[.slice BA b.length bc, .int .u64 num, .slice XA x.length xc] w fun e w' => e = .returned (.bool true) ∧ Below w.heap.size w w' := by
  by_cases h1 : b.length ≤ 2000
  · have i1 : ¬ (2000 : Int) < (b.length : Int) := by omega
    have i2 : (4200 : Int) < (x.length : Int) := by have : ¬ x.length ≤ 4200 := fun h => hno ⟨h1, h⟩; omega
    clear hno h1
    go_enter Try.func3, Try.ntmps3
    go_wp2_with fail
    refine (awake_any w).mono ?_
    rintro e w1 ⟨rfl, hb1⟩
    have HB := Lib.hid hb1
    clear hb1
    go_wp2_with fail
    go_ret
    exact ⟨rfl, HB.out⟩
  · have i1 : (2000 : Int) < (b.length : Int) := by omega
    clear hno h1
    go_enter Try.func3, Try.ntmps3
    go_wp2_with fail
    refine (awake_any w).mono ?_
    rintro e w1 ⟨rfl, hb1⟩
    have HB := Lib.hid hb1
    clear hb1
    go_wp2_with fail
    go_ret
    exact ⟨rfl, HB.out⟩
set_option maxHeartbeats 4000000 in
theorem scans_any (BA XA : Option Addr) (bc xc : Nat) (b x : List UInt8) (num : Int) (w : World) (hb : b.length ≤ 2000) (hx : x.length ≤ 4096) (n0 : 0 ≤ num) (n1 : num < 18446744073709551616) (hbc : b.length ≤ bc) (hbm : bc ≤ maxLen) (hxc : x.length ≤ xc) (hxm : xc ≤ maxLen) (hB : BS w w.heap.size BA b) (hX : BS w w.heap.size XA x) : Calls Try.prog 3 #[.slice BA b.length bc, .int .u64 num, .slice XA x.length xc] w fun e w' => e = .returned (.bool true) ∧ Below w.heap.size w w' := by
  have HX := Lib.hid hX
  have HXC := Lib.hid (show x.length ≤ xc ∧ xc ≤ maxLen from ⟨hxc, hxm⟩)
  clear hX hxc hxm
  have HB := Lib.hid hB
  have HBC := Lib.hid (show b.length ≤ bc ∧ bc ≤ maxLen from ⟨hbc, hbm⟩)
  have i1 : ¬ (2000 : Int) < (b.length : Int) := by omega
  have i2 : ¬ (4200 : Int) < (x.length : Int) := by omega
  clear hB hbc hbm
  go_enter Try.func3, Try.ntmps3
  go_wp2_with fail
  refine (scan_any BA bc b w (by omega) HBC.out.1 HBC.out.2 HB.out).mono ?_
  rintro e w1 ⟨⟨gv, rfl, hrec⟩, hb1⟩
  have HK1 := Lib.hid (show Kept (fun _ => False) w w1 from Kept.ofB hb1)
  obtain ⟨GA, gc, hge, -, hgm⟩ := hrec.shape
  subst hge
  have HG1 := Lib.hid hrec.lst
  clear hrec hb1
  go_wp2_with fail
  refine (refScan_any BA bc b w1 (by omega) HBC.out.1 HBC.out.2 (HB.out.on HK1.out (fun _ _ h => h))).mono ?_
  rintro e w2 ⟨⟨wv, rfl, hrec⟩, hb2⟩
  have HK2 := Lib.hid (show Kept (fun _ => False) w w2 from HK1.out.then (Kept.ofB (S := fun _ => False) hb2) (fun _ _ h => h.elim))
  obtain ⟨WA, wc, hwe, -, hwm⟩ := hrec.shape
  subst hwe
  have HW2 := Lib.hid (hrec.lst hb2.size)
  have HG2 := Lib.hid (HG1.out.on (Kept.ofB (S := fun _ => False) hb2))
  clear hrec hb2 HG1
  obtain ⟨ls, hls⟩ : ∃ ls, (scan b 0).1 = ls := ⟨_, rfl⟩
  obtain ⟨n, hn⟩ : ∃ n, (scan b 0).2 = n := ⟨_, rfl⟩
  rw [hls] at HG2 HW2 ⊢
  rw [hn]
  have HLN := Lib.hid (show ls.length ≤ 100000 by rw [← hls]; exact Nat.le_trans (scan_len b 0) (by omega))
  clear hls hn
  go_wp2_with fail
  refine (frame_any XA xc x num w2 hx n0 n1 (HX.out.on HK2.out (fun _ _ h => h))).mono ?_
  rintro e w4 ⟨fv, rfl, hrow, hb4⟩
  obtain ⟨F, hF⟩ : ∃ F, frame num x = F := ⟨_, rfl⟩
  have HFM := Lib.hid (show F.length ≤ maxLen by rw [← hF, frame_len]; unfold maxLen; omega)
  rw [hF] at hrow
  obtain ⟨FA, fc, rfl, -, -, hfb⟩ := hrow.byt
  have HF4 := Lib.hid hfb
  have HK4 := Lib.hid (show Kept (fun _ => False) w w4 from HK2.out.then (Kept.ofB (S := fun _ => False) hb4) (fun _ _ h => h.elim))
  have HG4 := Lib.hid (HG2.out.on (Kept.ofB (S := fun _ => False) hb4))
  have HW4 := Lib.hid (HW2.out.on (Kept.ofB (S := fun _ => False) hb4))
  have hfr := fun u (hu : Kept (fun _ => False) w4 u) => refFrame_any XA xc x num u hx HXC.out.1 HXC.out.2 n0 n1 (HX.out.on (HK4.out.trans hu) (fun _ _ h => h))
  rw [hF] at hfr
  have HFR := Lib.hid hfr
  clear hrow hfb hb4 hfr hF HG2 HW2
  have j1 : decide ((4096 : Int) < (x.length : Int)) = false := decide_eq_false (by omega)
  have j2 : decide ((x.length : Int) ≤ 4096) = true := decide_eq_true (by omega)
  have j3 : decide (x.length ≤ 4096) = true := decide_eq_true (by omega)
  go_wp2_with fail
  refine wp_region_kept 21 [(14, fun v u => v = .string ⟨F.toArray⟩), (17, fun v u => Byt u v F), (18, fun v u => v = .string ⟨F.toArray⟩)] ?st ?ne rfl (by kernel_rfl) (by kernel_rfl) ?_
  case st =>
    intro p hp
    simp only [List.mem_cons, List.not_mem_nil, or_false] at hp
    rcases hp with rfl | rfl | rfl
    · intro v u u' h hk; exact h
    · intro v u u' h hk; exact h.on0 hk
    · intro v u u' h hk; exact h
  case ne =>
    intro p hp
    simp only [List.mem_cons, List.not_mem_nil, or_false] at hp
    rcases hp with rfl | rfl | rfl
    · exact ⟨_, _, Kept.refl _ _, rfl⟩
    · exact Byt.some _ _ HFM.out
    · exact ⟨_, _, Kept.refl _ _, rfl⟩
  simp only [List.take_succ_cons, List.take_zero, List.drop_succ_cons, List.drop_zero]
  intro G pick hR hp1 hp2
  repeat (first | (refine wpR_det hp2 rfl ((hR.rel _).trans rfl) rfl ?_; intro K hK; go_big_quiet_op; go_big_quiet_on) | (refine wpR_ptr hp2 rfl ((hR.rel _).trans rfl) rfl rfl ?_; intro K hK; go_big_quiet_op; go_big_quiet_on) | (refine wpR_skip pick rfl ?_; intro K hK; go_big_quiet_op; go_big_quiet_on))
  refine wpR_rel pick rfl ((hR.rel _).trans rfl) ((hR.turns _).trans rfl) ?_ ?_
  · intro u hu
    have hk := hR.since hu.1
    have hks := hk.size
    have hcv := (HF4.out.on hk (fun _ _ h => h)).conv (P := Try.prog) (c := fc) Try.underlying22 Try.underlying5 Try.underlying9
    unfold relAt
    go_simp
    exact ⟨hR.into0 (Kept.refl _ _), hR.put 0 rfl rfl rfl⟩
  intro v hv
  obtain ⟨u, _, hu⟩ := hv
  obtain rfl := hR.get 0 rfl hu
  clear hu
  intro K hK
  go_big_quiet_op
  go_big_quiet_on
  repeat (first | (refine wpR_det hp2 rfl ((hR.rel _).trans rfl) rfl ?_; intro K hK; go_big_quiet_op; go_big_quiet_on) | (refine wpR_ptr hp2 rfl ((hR.rel _).trans rfl) rfl rfl ?_; intro K hK; go_big_quiet_op; go_big_quiet_on) | (refine wpR_skip pick rfl ?_; intro K hK; go_big_quiet_op; go_big_quiet_on))
  refine wpR_rel pick rfl ((hR.rel _).trans rfl) ((hR.turns _).trans rfl) ?_ ?_
  · intro u hu
    have hk := hR.since hu.1
    have hks := hk.size
    have hz := HFR.out u hk
    unfold relAt
    go_simp
    refine hz.mono ?_
    rintro e w' ⟨v, rfl, hT, hb'⟩
    exact ⟨_, rfl, hR.intoB hb', hR.put 1 rfl rfl hT⟩
  intro v hv
  obtain ⟨u, _, hu⟩ := hv
  obtain ⟨RFA, rfc, rfl, -, -, -⟩ := hR.get 1 rfl hu
  clear hu
  intro K hK
  go_big_quiet_op
  go_big_quiet_on
  repeat (first | (refine wpR_det hp2 rfl ((hR.rel _).trans rfl) rfl ?_; intro K hK; go_big_quiet_op; go_big_quiet_on) | (refine wpR_ptr hp2 rfl ((hR.rel _).trans rfl) rfl rfl ?_; intro K hK; go_big_quiet_op; go_big_quiet_on) | (refine wpR_skip pick rfl ?_; intro K hK; go_big_quiet_op; go_big_quiet_on))
  refine wpR_rel pick rfl ((hR.rel _).trans rfl) ((hR.turns _).trans rfl) ?_ ?_
  · intro u hu
    have hk := hR.since hu.1
    have hks := hk.size
    obtain ⟨A', c', e, -, -, hB⟩ := (hR.get 1 rfl (hu.2 _ _ (Got.upd_self _ _ _) (by kernel_rfl)))
    injection e with e1 e2 e3
    subst e1 e3
    have hcv := hB.conv (P := Try.prog) (c := rfc) Try.underlying22 Try.underlying5 Try.underlying9
    clear hB
    unfold relAt
    go_simp
    exact ⟨hR.into0 (Kept.refl _ _), hR.put 2 rfl rfl rfl⟩
  intro v hv
  obtain ⟨u, _, hu⟩ := hv
  obtain rfl := hR.get 2 rfl hu
  clear hu
  intro K hK
  go_big_quiet_op
  go_big_quiet_on
  repeat (first | (refine wpR_det hp2 rfl ((hR.rel _).trans rfl) rfl ?_; intro K hK; go_big_quiet_op; go_big_quiet_on) | (refine wpR_ptr hp2 rfl ((hR.rel _).trans rfl) rfl rfl ?_; intro K hK; go_big_quiet_op; go_big_quiet_on) | (refine wpR_skip pick rfl ?_; intro K hK; go_big_quiet_op; go_big_quiet_on))
  refine wpR_nil ?_
  intro w5 hk2 hF hM
  have HK5 := Lib.hid (HK4.out.trans hk2)
  have HG5 := Lib.hid (HG4.out.on hk2)
  have HW5 := Lib.hid (HW4.out.on hk2)
  clear hF hM hk2 hp1 hp2 hR
  go_wp2_with fail
  refine (recSame_any GA WA gc wc ls ls w5 HLN.out HLN.out HG5.out HW5.out).mono ?_
  rintro e w6 ⟨rfl, hk6⟩
  rw [decide_eq_true (rfl : ls = ls)]
  have HK6 := Lib.hid (HK5.out.trans hk6)
  clear hk6
  go_wp2_with fail
  refine (awake_any w6).mono ?_
  rintro e w7 ⟨rfl, hb7⟩
  have HK7 := Lib.hid (show Kept (fun _ => False) w w7 from HK6.out.then (Kept.ofB (S := fun _ => False) hb7) (fun _ _ h => h.elim))
  clear hb7
  go_wp2_with fail
  go_ret
  exact ⟨rfl, HK7.out.below (Nat.le_refl _) (fun i h => h.elim)⟩

set_option maxHeartbeats 4000000 in
theorem scans_mid (BA XA : Option Addr) (bc xc : Nat) (b x : List UInt8) (num : Int) (w : World) (hb : b.length ≤ 2000) (hx : 4096 < x.length) (hx2 : x.length ≤ 4200) (hbc : b.length ≤ bc) (hbm : bc ≤ maxLen) (hB : BS w w.heap.size BA b) : Calls Try.prog 3 #[.slice BA b.length bc, .int .u64 num, .slice XA x.length xc] w fun e w' => e = .returned (.bool true) ∧ Below w.heap.size w w' := by
  have HB := Lib.hid hB
  have HBC := Lib.hid (show b.length ≤ bc ∧ bc ≤ maxLen from ⟨hbc, hbm⟩)
  have i1 : ¬ (2000 : Int) < (b.length : Int) := by omega
  have i2 : ¬ (4200 : Int) < (x.length : Int) := by omega
  clear hB hbc hbm
  go_enter Try.func3, Try.ntmps3
  go_wp2_with fail
  refine (scan_any BA bc b w (by omega) HBC.out.1 HBC.out.2 HB.out).mono ?_
  rintro e w1 ⟨⟨gv, rfl, hrec⟩, hb1⟩
  have HK1 := Lib.hid (show Kept (fun _ => False) w w1 from Kept.ofB hb1)
  obtain ⟨GA, gc, hge, -, hgm⟩ := hrec.shape
  subst hge
  have HG1 := Lib.hid hrec.lst
  clear hrec hb1
  go_wp2_with fail
  refine (refScan_any BA bc b w1 (by omega) HBC.out.1 HBC.out.2 (HB.out.on HK1.out (fun _ _ h => h))).mono ?_
  rintro e w2 ⟨⟨wv, rfl, hrec⟩, hb2⟩
  have HK2 := Lib.hid (show Kept (fun _ => False) w w2 from HK1.out.then (Kept.ofB (S := fun _ => False) hb2) (fun _ _ h => h.elim))
  obtain ⟨WA, wc, hwe, -, hwm⟩ := hrec.shape
  subst hwe
  have HW2 := Lib.hid (hrec.lst hb2.size)
  have HG2 := Lib.hid (HG1.out.on (Kept.ofB (S := fun _ => False) hb2))
  clear hrec hb2 HG1
  obtain ⟨ls, hls⟩ : ∃ ls, (scan b 0).1 = ls := ⟨_, rfl⟩
  obtain ⟨n, hn⟩ : ∃ n, (scan b 0).2 = n := ⟨_, rfl⟩
  rw [hls] at HG2 HW2 ⊢
  rw [hn]
  have HLN := Lib.hid (show ls.length ≤ 100000 by rw [← hls]; exact Nat.le_trans (scan_len b 0) (by omega))
  clear hls hn
  go_wp2_with fail
  refine (frame_long XA xc x num w2 hx).mono ?_
  rintro e w4 ⟨rfl, hb4⟩
  have HK4 := Lib.hid (show Kept (fun _ => False) w w4 from HK2.out.then (Kept.ofB (S := fun _ => False) hb4) (fun _ _ h => h.elim))
  have HG4 := Lib.hid (HG2.out.on (Kept.ofB (S := fun _ => False) hb4))
  have HW4 := Lib.hid (HW2.out.on (Kept.ofB (S := fun _ => False) hb4))
  clear hb4 HG2 HW2
  have j1 : decide ((4096 : Int) < (x.length : Int)) = true := decide_eq_true (by omega)
  have j2 : decide ((x.length : Int) ≤ 4096) = false := decide_eq_false (by omega)
  have j3 : decide (x.length ≤ 4096) = false := decide_eq_false (by omega)
  go_wp2_with fail
  refine wp_region_kept 21 [] ?st ?ne rfl (by kernel_rfl) (by kernel_rfl) ?_
  case st => intro p hp; cases hp
  case ne => intro p hp; cases hp
  simp only [List.take_succ_cons, List.take_zero, List.drop_succ_cons, List.drop_zero]
  intro G pick hR hp1 hp2
  repeat (first | (refine wpR_det hp2 rfl ((hR.rel _).trans rfl) rfl ?_; intro K hK; go_big_quiet_op; go_big_quiet_on) | (refine wpR_ptr hp2 rfl ((hR.rel _).trans rfl) rfl rfl ?_; intro K hK; go_big_quiet_op; go_big_quiet_on) | (refine wpR_skip pick rfl ?_; intro K hK; go_big_quiet_op; go_big_quiet_on))
  refine wpR_nil ?_
  intro w5 hk2 hF hM
  have HK5 := Lib.hid (HK4.out.trans hk2)
  have HG5 := Lib.hid (HG4.out.on hk2)
  have HW5 := Lib.hid (HW4.out.on hk2)
  clear hF hM hk2 hp1 hp2 hR
  go_wp2_with fail
  refine (recSame_any GA WA gc wc ls ls w5 HLN.out HLN.out HG5.out HW5.out).mono ?_
  rintro e w6 ⟨rfl, hk6⟩
  rw [decide_eq_true (rfl : ls = ls)]
  have HK6 := Lib.hid (HK5.out.trans hk6)
  clear hk6
  go_wp2_with fail
  refine (awake_any w6).mono ?_
  rintro e w7 ⟨rfl, hb7⟩
  have HK7 := Lib.hid (show Kept (fun _ => False) w w7 from HK6.out.then (Kept.ofB (S := fun _ => False) hb7) (fun _ _ h => h.elim))
  clear hb7
  go_wp2_with fail
  go_ret
  exact ⟨rfl, HK7.out.below (Nat.le_refl _) (fun i h => h.elim)⟩

theorem scans_l (BA XA : Option Addr) (bc xc : Nat) (b x : List UInt8) (num : Int) (w : World) (hbc : b.length ≤ bc) (hbm : bc ≤ maxLen) (hxc : x.length ≤ xc) (hxm : xc ≤ maxLen) (n0 : 0 ≤ num) (n1 : num ≤ 18446744073709551615) (hB : BS w w.heap.size BA b) (hX : BS w w.heap.size XA x) : Calls Try.prog 3 #[.slice BA b.length bc, .int .u64 num, .slice XA x.length xc] w fun e w' => e = .returned (.bool true) ∧ Below w.heap.size w w' := by
  by_cases h : b.length ≤ 2000 ∧ x.length ≤ 4200
  · by_cases h2 : x.length ≤ 4096
    · exact scans_any BA XA bc xc b x num w h.1 h2 n0 (by omega) hbc hbm hxc hxm hB hX
    · exact scans_mid BA XA bc xc b x num w h.1 (by omega) h.2 hbc hbm hB
  · exact scans_long BA XA bc xc b x num w h
end Go.Proofs.Ytnfolopodjdlbaa
