/- tcp's Stamps, Stamp, First; plane.Mark; sum's Update and UpdateLong in their range; cookie's Blend and Ahead. -/
import Derived.Test.YtdnbhmfofphblaaGreatDoorTE
namespace Go.Proofs.YtdnbhmfofphblaaGreatDoor
open Go.RowKit
set_option maxRecDepth 100000
set_option linter.unusedVariables false
set_option linter.unusedSimpArgs false
set_option maxHeartbeats 4000000 in
theorem stampsT (OA : Option Addr) (oc B : Nat) (tl : List UInt8) (h8 : tl.length = 8) (w : World) (hB : BS w B OA ([1, 1, 8, 10] ++ tl)) :
    Calls Tryz.prog 37 #[.slice OA 12 oc] w fun e w' => e = .returned (.tuple #[.int .i64 4, .bool true]) ∧ w = w' := by
  obtain ⟨b, off, _, rfl, hc⟩ := hB.at (k := 0) (by simp)
  have q0 : w.cell? ⟨b, off, none⟩ = some (.int .u8 1) := hc 0 (by simp)
  have q1 : w.cell? ⟨b, off + 1, none⟩ = some (.int .u8 1) := hc 1 (by simp)
  have q2 : w.cell? ⟨b, off + 2, none⟩ = some (.int .u8 8) := hc 2 (by simp)
  have q3 : w.cell? ⟨b, off + 3, none⟩ = some (.int .u8 10) := hc 3 (by simp)
  clear hc hB
  go_enter Tryz.func37, Tryz.ntmps37
  go_wp2
  go_loop [4] (fun i => i = .int .i64 0 ∨ i = .int .i64 1 ∨ i = .int .i64 2) (fun i => 5 - (intOf i).toNat)
  case atStart => exact .inl rfl
  case round =>
    rcases hrel with rfl | rfl | rfl
    · go_wp2
      go_round
      case rel => exact .inr (.inl rfl)
      case measure => simp [intOf]
    · go_wp2
      go_round
      case rel => exact .inr (.inr rfl)
      case measure => simp [intOf]
    · go_wp2
      go_ret2
      exact ⟨rfl, rfl⟩
theorem fld_digs (k : Nat) (v : Int) (X : List UInt8) (h : num (digs k v) = v) : fld (digs k v ++ X) 0 k = v := by
  unfold fld
  rw [List.drop_zero, List.take_append_of_le_length (by rw [digs_length]; exact Nat.le_refl _), List.take_of_length_le (by rw [digs_length]; exact Nat.le_refl _), h]
theorem num_digs4 (v : Int) (h0 : 0 ≤ v) (h1 : v ≤ 4294967295) : num (digs 4 v) = v := by
  have e : digs 4 v = [b8 (v / 256 / 256 / 256), b8 (v / 256 / 256), b8 (v / 256), b8 v] := rfl
  rw [e, num4, b8_val, b8_val, b8_val, b8_val]
  omega
theorem fld_digs4 (a e : Int) (a0 : 0 ≤ a) (a1 : a ≤ 4294967295) (e0 : 0 ≤ e) (e1 : e ≤ 4294967295) : fld (digs 4 a ++ digs 4 e) 0 4 = a ∧ fld (digs 4 a ++ digs 4 e) 4 4 = e := by
  refine ⟨fld_digs 4 a _ (num_digs4 a a0 a1), ?_⟩
  unfold fld
  rw [List.drop_append_of_le_length (by rw [digs_length]; exact Nat.le_refl _), List.drop_of_length_le (by rw [digs_length]; exact Nat.le_refl _), List.nil_append, List.take_of_length_le (by rw [digs_length]; exact Nat.le_refl _), num_digs4 e e0 e1]
set_option maxRecDepth 100000 in
set_option maxHeartbeats 8000000 in
theorem stampT (sp dp seq ack fl wi sm ur : Int) (OA : Option Addr) (oc : Nat) (LA : Option Addr) (m lc : Nat) (a e : Int) (a0 : 0 ≤ a) (a1 : a ≤ 4294967295) (e0 : 0 ≤ e) (e1 : e ≤ 4294967295) (hoc : 12 ≤ oc ∧ oc ≤ maxLen) (w : World) (hO : BS w w.heap.size OA ([1, 1, 8, 10] ++ (digs 4 a ++ digs 4 e))) :
    Calls Tryz.prog 10 #[.agg #[.int .u16 sp, .int .u16 dp, .int .u32 seq, .int .u32 ack, .int .u8 fl, .int .u16 wi, .int .u16 sm, .int .u16 ur, .slice OA 12 oc, .slice LA m lc]] w fun e' w' => e' = .returned (.tuple #[.int .u32 a, .int .u32 e, .bool true]) ∧ Kept (fun _ => False) w w' := by
  obtain ⟨b, off, hb, rfl, _⟩ := hO.at (k := 0) (by simp)
  have HO := Lib.hid hO
  have hf := fld_digs4 a e a0 a1 e0 e1
  have T0 := Lib.hid hf.1
  have T4 := Lib.hid hf.2
  have H8 := Lib.hid (show (digs 4 a ++ digs 4 e).length = 8 by rw [List.length_append, digs_length, digs_length])
  obtain ⟨hoc1, hoc2⟩ := hoc
  unfold maxLen at hoc2
  clear hO hf
  go_enter Tryz.func10, Tryz.ntmps10
  go_upto_region 1 with fail
  obtain ⟨w1, hw1⟩ : ∃ w1 : World, w1 = (w.alloc (.cells #[.int .u16 sp, .int .u16 dp, .int .u32 seq, .int .u32 ack, .int .u8 fl, .int .u16 wi, .int .u16 sm, .int .u16 ur, .slice (some ⟨b, off, none⟩) 12 oc, .slice LA m lc] 48)) := ⟨_, rfl⟩
  have HSB1 := Lib.hid (show Blk w1 w.heap.size 48 #[.int .u16 sp, .int .u16 dp, .int .u32 seq, .int .u32 ack, .int .u8 fl, .int .u16 wi, .int .u16 sm, .int .u16 ur, .slice (some ⟨b, off, none⟩) 12 oc, .slice LA m lc] by rw [hw1]; exact Blk.new _ _ _)
  have HK1 := Lib.hid (show Kept (fun _ => False) w w1 by rw [hw1]; exact (Kept.refl _ _).alloc _)
  rw [← hw1]
  clear hw1
  obtain ⟨sb, hsb⟩ : ∃ sb, w.heap.size = sb := ⟨_, rfl⟩
  rw [hsb] at HSB1
  (try rw [hsb])
  have HNE := Lib.hid (show sb = w.heap.size + 0 ∧ True from ⟨by omega, trivial⟩)
  clear hsb
  have cSB := HSB1.out.cell
  have lSB := HSB1.out.lt
  have fSB := HSB1.out.frozen
  have HZ1 := Lib.hid HK1.out.size
  have HO1 := Lib.hid (HO.out.on HK1.out (fun _ _ h => h))
  have HST := Lib.hid (stampsT (some ⟨b, off, none⟩) oc w1.heap.size (digs 4 a ++ digs 4 e) H8.out w1 HO1.out)
  go_wp2_with fail
  refine HST.out.mono ?_
  rintro e' w' ⟨rfl, rfl⟩
  have kc : ¬ oc = 4 := by omega
  have HY := Lib.hid (show BS w1 w1.heap.size (some ⟨b, off + 4, none⟩) (digs 4 a ++ digs 4 e) from HO1.out.drop_ 4)
  go_wp2_with fail
  have hqq := readL_any (some ⟨b, off + 4, none⟩) (oc - 4) (digs 4 a ++ digs 4 e) w1 (by rw [H8.out]; omega) HY.out
  rw [H8.out] at hqq
  refine hqq.mono ?_
  clear hqq
  rintro e' w2 ⟨rd, rfl, hrd, hR, hbw⟩
  have HRD2 := Lib.hid (show RdL w2 rd ((digs 4 a ++ digs 4 e).drop 0) by rw [List.drop_zero]; exact hR)
  have HK2 := Lib.hid (HK1.out.trans (Kept.ofB (S := fun _ => False) hbw))
  have HGE := Lib.hid hrd
  clear hR hbw hrd cSB lSB fSB
  go_wp2_with fail
  refine (rdLong rd 0 (digs 4 a ++ digs 4 e) a w2 (by rw [H8.out]; omega) (by rw [H8.out]; omega) T0.out HRD2.out).mono ?_
  rintro e' w3 ⟨rfl, hR, hK⟩
  have HRD3 := Lib.hid hR
  have HK3 := Lib.hid (HK2.out.then hK (fun i hi e => by have := HGE.out; have := HZ1.out; omega))
  clear hR hK
  go_wp2_with fail
  refine (rdLong rd 4 (digs 4 a ++ digs 4 e) e w3 (by rw [H8.out]; omega) (by rw [H8.out]; omega) T4.out HRD3.out).mono ?_
  rintro e' w4 ⟨rfl, hR, hK⟩
  have HRD4 := Lib.hid hR
  have HK4 := Lib.hid (HK3.out.then hK (fun i hi e => by have := HGE.out; have := HZ1.out; omega))
  clear hR hK
  go_wp2_with fail
  go_ret3
  exact ⟨rfl, HK4.out⟩
theorem firstT (sp dp seq ack wi sm ur : Int) (OA : Option Addr) (n oc : Nat) (LA : Option Addr) (m lc : Nat) (w : World) :
    Calls Tryz.prog 177 #[.agg #[.int .u16 sp, .int .u16 dp, .int .u32 seq, .int .u32 ack, .int .u8 2, .int .u16 wi, .int .u16 sm, .int .u16 ur, .slice OA n oc, .slice LA m lc]] w fun e w' => e = .returned (.bool true) ∧ Kept (fun _ => False) w w' := by
  have g : bits .and .u8 2 23 = 2 := by decide
  go_enter Tryz.func177, Tryz.ntmps177
  go_wp2
  go_ret
  exact ⟨by first | rfl | rw [g] | simp [g], (Kept.refl _ _).alloc _⟩
set_option maxRecDepth 100000 in
set_option maxHeartbeats 8000000 in
theorem markT (sp dp seq ack wi sm ur : Int) (OA : Option Addr) (oc : Nat) (LA : Option Addr) (m lc : Nat) (a e : Int) (a0 : 0 ≤ a) (a1 : a ≤ 4294967295) (e0 : 0 ≤ e) (e1 : e ≤ 65535) (hoc : 12 ≤ oc ∧ oc ≤ maxLen) (w : World) (hO : BS w w.heap.size OA ([1, 1, 8, 10] ++ (digs 4 a ++ digs 4 e))) :
    Calls Tryz.prog 124 #[.agg #[.int .u16 sp, .int .u16 dp, .int .u32 seq, .int .u32 ack, .int .u8 2, .int .u16 wi, .int .u16 sm, .int .u16 ur, .slice OA 12 oc, .slice LA m lc]] w fun e' w' => e' = .returned (.tuple #[.int .u16 e, .bool true]) ∧ Kept (fun _ => False) w w' := by
  have HO := Lib.hid hO
  have HOC := Lib.hid hoc
  clear hO hoc
  go_enter Tryz.func124, Tryz.ntmps124
  go_upto_region 1 with fail
  obtain ⟨w1, hw1⟩ : ∃ w1 : World, w1 = (w.alloc (.cells #[.int .u16 sp, .int .u16 dp, .int .u32 seq, .int .u32 ack, .int .u8 2, .int .u16 wi, .int .u16 sm, .int .u16 ur, .slice OA 12 oc, .slice LA m lc] 48)) := ⟨_, rfl⟩
  have HSB1 := Lib.hid (show Blk w1 w.heap.size 48 #[.int .u16 sp, .int .u16 dp, .int .u32 seq, .int .u32 ack, .int .u8 2, .int .u16 wi, .int .u16 sm, .int .u16 ur, .slice OA 12 oc, .slice LA m lc] by rw [hw1]; exact Blk.new _ _ _)
  have HK1 := Lib.hid (show Kept (fun _ => False) w w1 by rw [hw1]; exact (Kept.refl _ _).alloc _)
  rw [← hw1]
  clear hw1
  obtain ⟨sb, hsb⟩ : ∃ sb, w.heap.size = sb := ⟨_, rfl⟩
  rw [hsb] at HSB1
  (try rw [hsb])
  have HNE := Lib.hid (show sb = w.heap.size + 0 ∧ True from ⟨by omega, trivial⟩)
  clear hsb
  have cSB := HSB1.out.cell
  have lSB := HSB1.out.lt
  have fSB := HSB1.out.frozen
  have HS := Lib.hid (stampT sp dp seq ack 2 wi sm ur OA oc LA m lc a e a0 a1 e0 (by omega) HOC.out w1 (HO.out.on HK1.out (fun _ _ h => h)))
  go_wp2_with (show wpList _ _ _ ((⟨_, .load 48 (.tmp 1), _, _, _, none⟩ : Oper) :: _) _ _; refine wpList_load_mid rfl 48 (.tmp 1) rfl sb 0 rfl [.int .u16 sp, .int .u16 dp, .int .u32 seq, .int .u32 ack, .int .u8 2, .int .u16 wi, .int .u16 sm, .int .u16 ur, .slice OA 12 oc, .slice LA m lc] _ HSB1.out.range Tryz.underlying48 rfl (by kernel_rfl) ?_)
  refine HS.out.mono ?_
  rintro e' w2 ⟨rfl, hk⟩
  have HK2 := Lib.hid (HK1.out.trans hk)
  have HS2 := Lib.hid (show Kept (fun _ => False) w1 w2 from hk)
  have HSB2 := Lib.hid (HSB1.out.kept hk (fun h => h))
  clear cSB lSB fSB
  have cSB := HSB2.out.cell
  have lSB := HSB2.out.lt
  have fSB := HSB2.out.frozen
  clear hk HS
  have HF := Lib.hid (firstT sp dp seq ack wi sm ur OA 12 oc LA m lc w2)
  go_wp2_with (show wpList _ _ _ ((⟨_, .load 48 (.tmp 1), _, _, _, some _⟩ : Oper) :: _) _ _; refine wpList_load_g rfl 48 (.tmp 1) rfl sb 0 rfl [.int .u16 sp, .int .u16 dp, .int .u32 seq, .int .u32 ack, .int .u8 2, .int .u16 wi, .int .u16 sm, .int .u16 ur, .slice OA 12 oc, .slice LA m lc] _ HSB2.out.range Tryz.underlying48 rfl (by kernel_rfl) ?_)
  refine HF.out.mono ?_
  rintro e' w3 ⟨rfl, hk⟩
  have HK3 := Lib.hid (HK2.out.trans hk)
  have HS3 := Lib.hid (show Kept (fun _ => False) w2 w3 from hk)
  have HSB3 := Lib.hid (HSB2.out.kept hk (fun h => h))
  clear cSB lSB fSB
  have cSB := HSB3.out.cell
  have lSB := HSB3.out.lt
  have fSB := HSB3.out.frozen
  clear hk HF
  go_wp2_with fail
  go_ret2
  exact ⟨rfl, HK3.out⟩
set_option maxHeartbeats 2000000 in
theorem updT (s a b : Int) (s0 : 0 ≤ s) (s1 : s ≤ 65535) (a0 : 0 ≤ a) (a1 : a ≤ 65535) (b0 : 0 ≤ b) (b1 : b ≤ 65535) (w : World) :
    Calls Tryz.prog 179 #[.int .u16 s, .int .u16 a, .int .u16 b] w fun e w' => ∃ r : Int, e = .returned (.int .u16 r) ∧ 0 ≤ r ∧ r ≤ 65535 ∧ w = w' := by
  have e1 := not16 s s0 s1
  have e2 := not16 a a0 a1
  have hr := norm_range (65535 - s + (65535 - a) + b)
  have hf := fold_any (65535 - s + (65535 - a) + b) w (by omega) (by omega)
  obtain ⟨r, hN⟩ : ∃ r, norm (65535 - s + (65535 - a) + b) = r := ⟨_, rfl⟩
  rw [hN] at hf hr
  obtain ⟨r0, r1⟩ := hr
  have E3 := Lib.hid (not16 r r0 r1)
  have E1 := Lib.hid e1
  have E2 := Lib.hid e2
  have HF := Lib.hid hf
  clear hf hN e1 e2
  go_enter Tryz.func179, Tryz.ntmps179
  have q1 : IntKind.u64.wrap (65535 - s) = 65535 - s := IntWalk.u64_in _ (by omega)
  have q2 : IntKind.u64.wrap (65535 - a) = 65535 - a := IntWalk.u64_in _ (by omega)
  have q3 : IntKind.u64.wrap (65535 - s + (65535 - a)) = 65535 - s + (65535 - a) := IntWalk.u64_in _ (by omega)
  have q4 : IntKind.u64.wrap (65535 - s + (65535 - a) + b) = 65535 - s + (65535 - a) + b := IntWalk.u64_in _ (by omega)
  have Q := Lib.hid (And.intro q1 (And.intro q2 (And.intro q3 q4)))
  clear q1 q2 q3 q4
  go_wp2_with fail
  rw [E1.out, E2.out, Q.out.1, Q.out.2.1, Q.out.2.2.1, Q.out.2.2.2]
  refine HF.out.mono ?_
  rintro e w' ⟨rfl, rfl⟩
  go_wp2_with fail
  go_ret
  exact ⟨65535 - r, ret_int E3.out, by omega, by omega, rfl⟩
theorem w16 (x : Int) : 0 ≤ IntKind.u16.wrap x ∧ IntKind.u16.wrap x ≤ 65535 := by simp [IntKind.wrap, IntKind.bits, IntKind.signed]; omega
set_option maxHeartbeats 2000000 in
theorem updLongT (s a b : Int) (s0 : 0 ≤ s) (s1 : s ≤ 65535) (a0 : 0 ≤ a) (a1 : a ≤ 4294967295) (b0 : 0 ≤ b) (b1 : b ≤ 4294967295) (w : World) :
    Calls Tryz.prog 131 #[.int .u16 s, .int .u32 a, .int .u32 b] w fun e w' => ∃ r : Int, e = .returned (.int .u16 r) ∧ 0 ≤ r ∧ r ≤ 65535 ∧ w = w' := by
  go_enter Tryz.func131, Tryz.ntmps131
  go_wp2_with fail
  refine (updT s _ _ s0 s1 (by first | omega | exact (w16 _).1) (by first | omega | exact (w16 _).2) (by first | omega | exact (w16 _).1) (by first | omega | exact (w16 _).2) w).mono ?_
  rintro e w' ⟨r, rfl, r0, r1, rfl⟩
  go_wp2_with fail
  refine (updT r _ _ r0 r1 (by first | omega | exact (w16 _).1) (by first | omega | exact (w16 _).2) (by first | omega | exact (w16 _).1) (by first | omega | exact (w16 _).2) w).mono ?_
  rintro e w' ⟨t, rfl, t0, t1, rfl⟩
  go_wp2_with fail
  go_ret
  exact ⟨t, rfl, t0, t1, rfl⟩
end Go.Proofs.YtdnbhmfofphblaaGreatDoor
