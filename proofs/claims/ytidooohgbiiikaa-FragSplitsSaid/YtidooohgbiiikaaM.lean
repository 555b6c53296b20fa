/- The law FragSplits at any bytes. -/
import Derived.Test.YtidooohgbiiikaaL
namespace Go.Proofs.Ytidooohgbiiikaa
open Go.RowKit
set_option linter.unusedVariables false
set_option maxRecDepth 100000 in
set_option maxHeartbeats 8000000 in
theorem splits_l (A : Option Addr) (c : Nat) (b : List UInt8) (most : Int) (w : World) (hc : b.length ≤ c) (hcm : c ≤ maxLen) (m0 : -9223372036854775808 ≤ most) (m1 : most ≤ 9223372036854775807) (hB : BS w w.heap.size A b) :
    Calls Try.prog 3 #[.slice A b.length c, .int .i64 most] w fun e w' => e = .returned (.bool true) ∧ Below w.heap.size w w' := by
  by_cases hl : 2000 < b.length
  · have i1 : (2000 : Int) < (b.length : Int) := by omega
    have i2 : (b.length : Int) ≤ 9223372036854775807 := by unfold maxLen at hcm; omega
    clear hB
    go_enter Try.func3, Try.ntmps3
    go_wp2_with fail
    refine (awake_any _).mono ?_
    rintro e wz ⟨rfl, hbz⟩
    have HBZ := Lib.hid hbz
    clear hbz
    go_wp2_with fail
    go_ret
    exact ⟨rfl, HBZ.out⟩
  have HB := Lib.hid hB
  have HLE := Lib.hid (splitR_le b most)
  have HLN := Lib.hid (splitR_len b most)
  clear hB
  go_enter Try.func3, Try.ntmps3
  go_wp2_with fail
  refine (split_any A c b most w (by omega) ⟨hc, hcm⟩ m0 m1 HB.out).mono ?_
  rintro e w3 ⟨hb, v1, rfl, hf⟩
  obtain ⟨A1, c1, rfl⟩ := hf.shape
  have HF1 := Lib.hid hf.lst
  have HW3 := Lib.hid hb
  have HB3 := Lib.hid (HB.out.onB hb (Nat.le_refl _))
  clear hf hb
  go_wp2_with fail
  refine (refSplit_any A c b most w3 (by omega) ⟨hc, hcm⟩ m0 m1 HB3.out).mono ?_
  rintro e w4 ⟨hb, v2, rfl, hf⟩
  obtain ⟨A2, c2, rfl⟩ := hf.shape
  have HF2 := Lib.hid hf.lst
  have HF3 := Lib.hid (HF1.out.on (Kept.ofB (S := fun _ => False) hb))
  have HW4 := Lib.hid (HW3.out.trans (hb.mono HW3.out.size))
  clear hf hb
  obtain ⟨er, her⟩ : ∃ er, (splitR b most).1 = er := ⟨_, rfl⟩
  obtain ⟨ls, hls⟩ : ∃ ls, (splitR b most).2 = ls := ⟨_, rfl⟩
  rw [hls] at HF2 HF3 HLE HLN
  rw [her, hls]
  clear her hls
  have hll : ls.length ≤ 2001 := by have := HLN.out; omega
  have HS4 := Lib.hid (show w.heap.size ≤ w4.heap.size from HW4.out.size)
  go_wp2_with fail
  go_loopw [9] (fun i wr => ∃ k : Nat, k ≤ ls.length ∧ i = .int .i64 (k : Int) ∧ Hid (Kept (fun _ => False) w4 wr)) (fun i _ => ls.length - (intOf i).toNat)
  case atStart => exact ⟨0, by omega, rfl, Lib.hid (Kept.refl _ _)⟩
  case round =>
    obtain ⟨k, hk, rfl, HK⟩ := hrel
    have k0 : (0 : Int) ≤ (k : Int) := Int.natCast_nonneg _
    by_cases hkl : k < ls.length
    · have i1 : (k : Int) < (ls.length : Int) := by omega
      obtain ⟨b1, o1, lb, rfl, hc1⟩ : ∃ b off, b < wr.heap.size ∧ A1 = some ⟨b, off, none⟩ ∧ ∀ k (h : k < ls.length), ∃ C c, wr.cell? ⟨b, off + k, none⟩ = some (.slice C ls[k].length c) ∧ BS w4 w4.heap.size C ls[k] := by
        rcases HF3.out with h | ⟨b, off, hb, rfl, h⟩
        · rw [h] at hkl; simp at hkl
        · refine ⟨b, off, Nat.lt_of_lt_of_le hb HK.out.size, rfl, fun k hk => ?_⟩
          obtain ⟨C, c, e1, e2⟩ := h k hk
          exact ⟨C, c, (HK.out.cell hb (fun h => h) _).trans e1, e2⟩
      obtain ⟨b2, o2, lb', rfl, hc2⟩ : ∃ b off, b < wr.heap.size ∧ A2 = some ⟨b, off, none⟩ ∧ ∀ k (h : k < ls.length), ∃ C c, wr.cell? ⟨b, off + k, none⟩ = some (.slice C ls[k].length c) ∧ BS w4 w4.heap.size C ls[k] := by
        rcases HF2.out with h | ⟨b, off, hb, rfl, h⟩
        · rw [h] at hkl; simp at hkl
        · refine ⟨b, off, Nat.lt_of_lt_of_le hb HK.out.size, rfl, fun k hk => ?_⟩
          obtain ⟨C, c, e1, e2⟩ := h k hk
          exact ⟨C, c, (HK.out.cell hb (fun h => h) _).trans e1, e2⟩
      obtain ⟨P, p, c1, hx⟩ := hc1 k hkl
      obtain ⟨Q, q, c2, hy⟩ := hc2 k hkl
      have hle : (ls[k].length : Int) ≤ most := HLE.out _ (List.getElem_mem _)
      generalize ls[k] = x at c1 c2 hx hy hle
      have HCP := Lib.hid hx
      have HCQ := Lib.hid hy
      have hgt : decide (most < (x.length : Int)) = false := decide_eq_false (by omega)
      clear hx hy hc1 hc2
      go_wp2_with fail
      refine wp_region_kept 20 [(4, fun v u => v = .string ⟨x.toArray⟩), (9, fun v u => v = .string ⟨x.toArray⟩)] ?st ?ne rfl (by kernel_rfl) (by kernel_rfl) ?_
      case st =>
        intro p hp
        simp only [List.mem_cons, List.not_mem_nil, or_false] at hp
        rcases hp with rfl | rfl
        · intro v u u' h hk; exact h
        · intro v u u' h hk; exact h
      case ne =>
        intro p hp
        simp only [List.mem_cons, List.not_mem_nil, or_false] at hp
        rcases hp with rfl | rfl
        · exact ⟨_, _, Kept.refl _ _, rfl⟩
        · exact ⟨_, _, Kept.refl _ _, rfl⟩
      simp only [List.take_succ_cons, List.take_zero, List.drop_succ_cons, List.drop_zero]
      intro G pick hR hp1 hp2
      have r1 : ∀ u, (pick u).cell? ⟨b1, o1 + k, none⟩ = some (.slice P x.length p) := fun u => ((hp1 u).cell lb (fun h => h) _).trans c1
      have r2 : ∀ u, (pick u).cell? ⟨b2, o2 + k, none⟩ = some (.slice Q x.length q) := fun u => ((hp1 u).cell lb' (fun h => h) _).trans c2
      repeat (first | (refine wpR_det hp2 rfl ((hR.rel _).trans rfl) rfl ?_; intro K hK; go_big_quiet_op; go_big_quiet_on) | (refine wpR_ptr hp2 rfl ((hR.rel _).trans rfl) rfl rfl ?_; intro K hK; go_big_quiet_op; go_big_quiet_on) | (refine wpR_skip pick rfl ?_; intro K hK; go_big_quiet_op; go_big_quiet_on))
      refine wpR_rel pick rfl ((hR.rel _).trans rfl) ((hR.turns _).trans rfl) ?_ ?_
      · intro u hu
        have hk := hR.since hu.1
        have hks := hk.size
        have hB := HCP.out.on (HK.out.trans hk) (fun _ _ h => h)
        have hcv := hB.conv (P := Try.prog) (c := p) Try.underlying22 Try.underlying5 Try.underlying9
        clear hB
        unfold relAt
        go_simp
        exact ⟨hR.into0 (Kept.refl _ _), hR.put 0 rfl rfl rfl⟩
      intro v hv
      obtain ⟨u, _, hu⟩ := hv
      obtain rfl := hR.get 0 rfl hu
      clear hu
      intro K hK
      go_big_quiet_op
      go_big_quiet_on
      repeat (first | (refine wpR_det hp2 rfl ((hR.rel _).trans rfl) rfl ?_; intro K hK; go_big_quiet_op; go_big_quiet_on) | (refine wpR_ptr hp2 rfl ((hR.rel _).trans rfl) rfl rfl ?_; intro K hK; go_big_quiet_op; go_big_quiet_on) | (refine wpR_skip pick rfl ?_; intro K hK; go_big_quiet_op; go_big_quiet_on))
      refine wpR_rel pick rfl ((hR.rel _).trans rfl) ((hR.turns _).trans rfl) ?_ ?_
      · intro u hu
        have hk := hR.since hu.1
        have hks := hk.size
        have hB := HCQ.out.on (HK.out.trans hk) (fun _ _ h => h)
        have hcv := hB.conv (P := Try.prog) (c := q) Try.underlying22 Try.underlying5 Try.underlying9
        clear hB
        unfold relAt
        go_simp
        exact ⟨hR.into0 (Kept.refl _ _), hR.put 1 rfl rfl rfl⟩
      intro v hv
      obtain ⟨u, _, hu⟩ := hv
      obtain rfl := hR.get 1 rfl hu
      clear hu
      intro K hK
      go_big_quiet_op
      go_big_quiet_on
      repeat (first | (refine wpR_det hp2 rfl ((hR.rel _).trans rfl) rfl ?_; intro K hK; go_big_quiet_op; go_big_quiet_on) | (refine wpR_ptr hp2 rfl ((hR.rel _).trans rfl) rfl rfl ?_; intro K hK; go_big_quiet_op; go_big_quiet_on) | (refine wpR_skip pick rfl ?_; intro K hK; go_big_quiet_op; go_big_quiet_on))
      refine wpR_nil ?_
      intro wq hk2 hF hM
      have HK2 := Lib.hid (HK.out.trans hk2)
      clear hF hM hk2 hp1 hp2 hR r1 r2 c1 c2
      go_wp2_with fail
      go_roundw
      case rel => exact ⟨k + 1, by omega, by go_num, HK2⟩
      case measure => simp [intOf]; omega
    · have i1 : ¬ (k : Int) < (ls.length : Int) := by omega
      go_wp2_with fail
      refine (awake_any _).mono ?_
      rintro e wz ⟨rfl, hbz⟩
      have HBZ := Lib.hid (HW4.out.trans ((HK.out.trans (Kept.ofB (S := fun _ => False) hbz)).below HS4.out (fun _ h => h.elim)))
      clear hbz
      go_wp2_with fail
      go_ret
      exact ⟨rfl, HBZ.out⟩
end Go.Proofs.Ytidooohgbiiikaa
