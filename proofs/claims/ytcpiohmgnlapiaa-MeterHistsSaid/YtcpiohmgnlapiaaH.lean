/- Contracts of meter.Hist, of bits.Len64, of the reference's Bits and Below. -/
import Derived.Test.YtcpiohmgnlapiaaA
import Derived.Test.YtcpiohmgnlapiaaPlainH
import Derived.Test.YtcpiohmgnlapiaaRgW
import Derived.Test.YtcpiohmgnlapiaaNums
import Derived.Outline
import Derived.Deep.Light
import Derived.Deep.DeepCutAuto
import Derived.Deep.LoopGhost
namespace Go.Proofs.Ytcpiohmgnlapiaa
open Go.RowKit
set_option linter.unusedVariables false

theorem run_index_arr {P : Program} (w : World) (t e : TypeId) (n : Nat) (cs : Array Value) (k kk : IntKind) (i : Int) (u : Value) (h : P.underlying t = some (.array n e)) (he : P.underlying e = some (.int kk)) (hs : (P.info? e).map (·.size) = some 1) (h0 : 0 ≤ i) (h1 : i < (n : Int)) (hu : cs[i.toNat]? = some u) :
    (Instr.index t (.agg cs) (.int k i)).run P w = .ok u w := by
  obtain ⟨x, hx, hx1⟩ := Option.map_eq_some_iff.1 hs
  simp [Instr.index, run_underlying h, asIntOf, h0, h1, part, isAgg, run_underlying he, sizeOf, typeInfo, hx, hx1, hu, go_sem]

set_option maxRecDepth 10000 in
theorem len64_0 (x : Int) (w : World) (h0 : 0 ≤ x) (h1 : x < 256) : Calls Try.prog 18 #[.int .u64 x] w fun e w' => e = .returned (.int .i64 (bl x.toNat : Int)) ∧ w = w' := by
  have e9 := len8_bl (x) (by omega) (by omega)
  have HE := Lib.hid (show (bl x.toNat : Int) = 0 + Lib.len8 (x) by omega)
  clear  e9
  have i0 : 0 ≤ x := by omega
  have i1 : x ≤ 255 := by omega
  have l9 := len8_bl (x) i0 (by omega)
  have l8 := (bl_le (x).toNat 8).2 (by show _ < 256; omega)
  have l0 : 0 ≤ Lib.len8 (x) := by omega
  have l1 : Lib.len8 (x) ≤ 8 := by omega
  clear l9 l8
  go_enter Try.func18, Try.ntmps18
  go_wp2_with fail
  go_ret
  exact ⟨ret_int (by have := HE.out; omega), rfl⟩
set_option maxRecDepth 10000 in
theorem len64_1 (x : Int) (w : World) (h0 : 256 ≤ x) (h1 : x < 65536) : Calls Try.prog 18 #[.int .u64 x] w fun e w' => e = .returned (.int .i64 (bl x.toNat : Int)) ∧ w = w' := by
  have e0 := bl_shiftI (x) 8 256 (by rfl) (by omega)
  have e9 := len8_bl (x / 256) (by omega) (by omega)
  have HE := Lib.hid (show (bl x.toNat : Int) = 8 + Lib.len8 (x / 256) by omega)
  clear e0 e9
  have i0 : 0 ≤ x / 256 := by omega
  have i1 : x / 256 ≤ 255 := by omega
  have l9 := len8_bl (x / 256) i0 (by omega)
  have l8 := (bl_le (x / 256).toNat 8).2 (by show _ < 256; omega)
  have l0 : 0 ≤ Lib.len8 (x / 256) := by omega
  have l1 : Lib.len8 (x / 256) ≤ 8 := by omega
  clear l9 l8
  go_enter Try.func18, Try.ntmps18
  go_wp2_with fail
  go_ret
  exact ⟨ret_int (by have := HE.out; omega), rfl⟩
set_option maxRecDepth 10000 in
theorem len64_2 (x : Int) (w : World) (h0 : 65536 ≤ x) (h1 : x < 16777216) : Calls Try.prog 18 #[.int .u64 x] w fun e w' => e = .returned (.int .i64 (bl x.toNat : Int)) ∧ w = w' := by
  have e0 := bl_shiftI (x) 16 65536 (by rfl) (by omega)
  have e9 := len8_bl (x / 65536) (by omega) (by omega)
  have HE := Lib.hid (show (bl x.toNat : Int) = 16 + Lib.len8 (x / 65536) by omega)
  clear e0 e9
  have i0 : 0 ≤ x / 65536 := by omega
  have i1 : x / 65536 ≤ 255 := by omega
  have l9 := len8_bl (x / 65536) i0 (by omega)
  have l8 := (bl_le (x / 65536).toNat 8).2 (by show _ < 256; omega)
  have l0 : 0 ≤ Lib.len8 (x / 65536) := by omega
  have l1 : Lib.len8 (x / 65536) ≤ 8 := by omega
  clear l9 l8
  go_enter Try.func18, Try.ntmps18
  go_wp2_with fail
  go_ret
  exact ⟨ret_int (by have := HE.out; omega), rfl⟩
set_option maxRecDepth 10000 in
theorem len64_3 (x : Int) (w : World) (h0 : 16777216 ≤ x) (h1 : x < 4294967296) : Calls Try.prog 18 #[.int .u64 x] w fun e w' => e = .returned (.int .i64 (bl x.toNat : Int)) ∧ w = w' := by
  have e0 := bl_shiftI (x) 16 65536 (by rfl) (by omega)
  have e1 := bl_shiftI (x / 65536) 8 256 (by rfl) (by omega)
  have e9 := len8_bl (x / 65536 / 256) (by omega) (by omega)
  have HE := Lib.hid (show (bl x.toNat : Int) = 24 + Lib.len8 (x / 65536 / 256) by omega)
  clear e0 e1 e9
  have i0 : 0 ≤ x / 65536 / 256 := by omega
  have i1 : x / 65536 / 256 ≤ 255 := by omega
  have l9 := len8_bl (x / 65536 / 256) i0 (by omega)
  have l8 := (bl_le (x / 65536 / 256).toNat 8).2 (by show _ < 256; omega)
  have l0 : 0 ≤ Lib.len8 (x / 65536 / 256) := by omega
  have l1 : Lib.len8 (x / 65536 / 256) ≤ 8 := by omega
  clear l9 l8
  go_enter Try.func18, Try.ntmps18
  go_wp2_with fail
  go_ret
  exact ⟨ret_int (by have := HE.out; omega), rfl⟩
set_option maxRecDepth 10000 in
theorem len64_4 (x : Int) (w : World) (h0 : 4294967296 ≤ x) (h1 : x < 1099511627776) : Calls Try.prog 18 #[.int .u64 x] w fun e w' => e = .returned (.int .i64 (bl x.toNat : Int)) ∧ w = w' := by
  have e0 := bl_shiftI (x) 32 4294967296 (by rfl) (by omega)
  have e9 := len8_bl (x / 4294967296) (by omega) (by omega)
  have HE := Lib.hid (show (bl x.toNat : Int) = 32 + Lib.len8 (x / 4294967296) by omega)
  clear e0 e9
  have i0 : 0 ≤ x / 4294967296 := by omega
  have i1 : x / 4294967296 ≤ 255 := by omega
  have l9 := len8_bl (x / 4294967296) i0 (by omega)
  have l8 := (bl_le (x / 4294967296).toNat 8).2 (by show _ < 256; omega)
  have l0 : 0 ≤ Lib.len8 (x / 4294967296) := by omega
  have l1 : Lib.len8 (x / 4294967296) ≤ 8 := by omega
  clear l9 l8
  go_enter Try.func18, Try.ntmps18
  go_wp2_with fail
  go_ret
  exact ⟨ret_int (by have := HE.out; omega), rfl⟩
set_option maxRecDepth 10000 in
theorem len64_5 (x : Int) (w : World) (h0 : 1099511627776 ≤ x) (h1 : x < 281474976710656) : Calls Try.prog 18 #[.int .u64 x] w fun e w' => e = .returned (.int .i64 (bl x.toNat : Int)) ∧ w = w' := by
  have e0 := bl_shiftI (x) 32 4294967296 (by rfl) (by omega)
  have e1 := bl_shiftI (x / 4294967296) 8 256 (by rfl) (by omega)
  have e9 := len8_bl (x / 4294967296 / 256) (by omega) (by omega)
  have HE := Lib.hid (show (bl x.toNat : Int) = 40 + Lib.len8 (x / 4294967296 / 256) by omega)
  clear e0 e1 e9
  have i0 : 0 ≤ x / 4294967296 / 256 := by omega
  have i1 : x / 4294967296 / 256 ≤ 255 := by omega
  have l9 := len8_bl (x / 4294967296 / 256) i0 (by omega)
  have l8 := (bl_le (x / 4294967296 / 256).toNat 8).2 (by show _ < 256; omega)
  have l0 : 0 ≤ Lib.len8 (x / 4294967296 / 256) := by omega
  have l1 : Lib.len8 (x / 4294967296 / 256) ≤ 8 := by omega
  clear l9 l8
  go_enter Try.func18, Try.ntmps18
  go_wp2_with fail
  go_ret
  exact ⟨ret_int (by have := HE.out; omega), rfl⟩
set_option maxRecDepth 10000 in
theorem len64_6 (x : Int) (w : World) (h0 : 281474976710656 ≤ x) (h1 : x < 72057594037927936) : Calls Try.prog 18 #[.int .u64 x] w fun e w' => e = .returned (.int .i64 (bl x.toNat : Int)) ∧ w = w' := by
  have e0 := bl_shiftI (x) 32 4294967296 (by rfl) (by omega)
  have e1 := bl_shiftI (x / 4294967296) 16 65536 (by rfl) (by omega)
  have e9 := len8_bl (x / 4294967296 / 65536) (by omega) (by omega)
  have HE := Lib.hid (show (bl x.toNat : Int) = 48 + Lib.len8 (x / 4294967296 / 65536) by omega)
  clear e0 e1 e9
  have i0 : 0 ≤ x / 4294967296 / 65536 := by omega
  have i1 : x / 4294967296 / 65536 ≤ 255 := by omega
  have l9 := len8_bl (x / 4294967296 / 65536) i0 (by omega)
  have l8 := (bl_le (x / 4294967296 / 65536).toNat 8).2 (by show _ < 256; omega)
  have l0 : 0 ≤ Lib.len8 (x / 4294967296 / 65536) := by omega
  have l1 : Lib.len8 (x / 4294967296 / 65536) ≤ 8 := by omega
  clear l9 l8
  go_enter Try.func18, Try.ntmps18
  go_wp2_with fail
  go_ret
  exact ⟨ret_int (by have := HE.out; omega), rfl⟩
set_option maxRecDepth 10000 in
theorem len64_7 (x : Int) (w : World) (h0 : 72057594037927936 ≤ x) (h1 : x < 18446744073709551616) : Calls Try.prog 18 #[.int .u64 x] w fun e w' => e = .returned (.int .i64 (bl x.toNat : Int)) ∧ w = w' := by
  have e0 := bl_shiftI (x) 32 4294967296 (by rfl) (by omega)
  have e1 := bl_shiftI (x / 4294967296) 16 65536 (by rfl) (by omega)
  have e2 := bl_shiftI (x / 4294967296 / 65536) 8 256 (by rfl) (by omega)
  have e9 := len8_bl (x / 4294967296 / 65536 / 256) (by omega) (by omega)
  have HE := Lib.hid (show (bl x.toNat : Int) = 56 + Lib.len8 (x / 4294967296 / 65536 / 256) by omega)
  clear e0 e1 e2 e9
  have i0 : 0 ≤ x / 4294967296 / 65536 / 256 := by omega
  have i1 : x / 4294967296 / 65536 / 256 ≤ 255 := by omega
  have l9 := len8_bl (x / 4294967296 / 65536 / 256) i0 (by omega)
  have l8 := (bl_le (x / 4294967296 / 65536 / 256).toNat 8).2 (by show _ < 256; omega)
  have l0 : 0 ≤ Lib.len8 (x / 4294967296 / 65536 / 256) := by omega
  have l1 : Lib.len8 (x / 4294967296 / 65536 / 256) ≤ 8 := by omega
  clear l9 l8
  go_enter Try.func18, Try.ntmps18
  go_wp2_with fail
  go_ret
  exact ⟨ret_int (by have := HE.out; omega), rfl⟩
theorem len64_any (x : Int) (w : World) (h0 : 0 ≤ x) (h1 : x < 18446744073709551616) : Calls Try.prog 18 #[.int .u64 x] w fun e w' => e = .returned (.int .i64 (bl x.toNat : Int)) ∧ w = w' := by
  have h : x < 256 ∨ (256 ≤ x ∧ x < 65536) ∨ (65536 ≤ x ∧ x < 16777216) ∨ (16777216 ≤ x ∧ x < 4294967296) ∨ (4294967296 ≤ x ∧ x < 1099511627776) ∨ (1099511627776 ≤ x ∧ x < 281474976710656) ∨ (281474976710656 ≤ x ∧ x < 72057594037927936) ∨ 72057594037927936 ≤ x := by omega
  rcases h with h | ⟨h, h'⟩ | ⟨h, h'⟩ | ⟨h, h'⟩ | ⟨h, h'⟩ | ⟨h, h'⟩ | ⟨h, h'⟩ | h
  · exact len64_0 x w h0 h
  · exact len64_1 x w h h'
  · exact len64_2 x w h h'
  · exact len64_3 x w h h'
  · exact len64_4 x w h h'
  · exact len64_5 x w h h'
  · exact len64_6 x w h h'
  · exact len64_7 x w h h1
theorem refBits_any (x : Int) (w : World) (h0 : 0 ≤ x) (h1 : x < 18446744073709551616) : Calls Try.prog 19 #[.int .u64 x] w fun e w' => e = .returned (.int .i64 (bl x.toNat : Int)) ∧ w = w' := by
  have hb := bl_64 x.toNat (by omega)
  go_enter Try.func19, Try.ntmps19
  go_wp2_with fail
  go_loop [0, 3] (fun y k => ∃ (n : Nat) (j : Nat), y = .int .u64 (n : Int) ∧ k = .int .i64 (j : Int) ∧ Hid (n = x.toNat / 2 ^ j) ∧ j ≤ bl x.toNat ∧ n < 18446744073709551616) (fun y _ => (intOf y).toNat)
  case atStart => exact ⟨x.toNat, 0, by rw [Int.toNat_of_nonneg h0], rfl, Lib.hid (by simp), by omega, by omega⟩
  case round =>
    obtain ⟨n, j, rfl, rfl, HN, hj, hn⟩ := hrel
    by_cases hp : 0 < n
    · have hjl := bits_pos x.toNat j (by rw [← HN.out]; exact hp)
      have hpI : (0 : Int) < (n : Int) := by omega
      go_wp2_with fail
      go_round
      case rel => exact ⟨n / 2, j + 1, congrArg (Value.int .u64) (by omega), by go_num, Lib.hid (by rw [HN.out, div_step]), by omega, by omega⟩
      case measure => simp [intOf]; omega
    · obtain rfl : n = 0 := by omega
      have hle := bits_zero x.toNat j HN.out.symm
      go_wp2_with fail
      go_ret
      exact ⟨ret_int (by omega), rfl⟩
theorem add_nil (x : Int) (w : World) : Calls Try.prog 12 #[.pointer none, .int .u64 x] w fun e w' => (∃ v, e = .returned v) ∧ w = w' := by
  go_enter Try.func12, Try.ntmps12
  go_wp2_with fail
  refine bodyPost_ret (results_none rfl _ _ _) rfl ?_
  exact ⟨⟨_, rfl⟩, rfl⟩
set_option maxHeartbeats 1000000 in
theorem add_any (h : Nat) (f : Nat → Int) (x : Int) (w : World) (h0 : 0 ≤ x) (h1 : x < 18446744073709551616) (f0 : 0 ≤ f (bl x.toNat)) (f1 : f (bl x.toNat) ≤ 1000) (hB : Blk w h 45 (hv f)) :
    Calls Try.prog 12 #[.pointer (some ⟨h, 0, none⟩), .int .u64 x] w fun e w' => (∃ v, e = .returned v) ∧ Blk w' h 45 (hv (upd f (bl x.toNat) (f (bl x.toNat) + 1))) ∧ Kept (· = h) w w' := by
  have hb := bl_64 x.toNat (by omega)
  have HL := Lib.hid (fun u => len64_any x u h0 h1)
  generalize bl x.toNat = b at *
  have c1 : w.cell? ⟨h, b, none⟩ = some (.int .u64 (f b)) := by rw [hB.cell, hv_at f b (by omega)]
  have fz := hB.frozen b
  have hlt := hB.lt
  have HB := Lib.hid hB
  have b0 : (0 : Int) ≤ (b : Int) := by omega
  have b1 : (b : Int) < 65 := by omega
  clear hB
  go_enter Try.func12, Try.ntmps12
  go_wp2_with fail
  refine wp_region_kept 11 [(2, fun v u => v = .int .i64 (b : Int))] ?st ?ne rfl (by kernel_rfl) (by kernel_rfl) ?_
  case st =>
    intro p hp
    simp only [List.mem_cons, List.not_mem_nil, or_false] at hp
    subst hp
    · intro v u u' h hk; exact h
  case ne =>
    intro p hp
    simp only [List.mem_cons, List.not_mem_nil, or_false] at hp
    subst hp
    · exact ⟨_, _, Kept.refl _ _, rfl⟩
  simp only [List.take_succ_cons, List.take_zero, List.drop_succ_cons, List.drop_zero]
  intro G pick hR hp1 hp2
  have pc1 : ∀ u, (pick u).cell? ⟨h, b, none⟩ = some (.int .u64 (f b)) := fun u => ((hp1 u).cell hlt (fun h => h) _).trans c1
  repeat (first | (refine wpR_det hp2 rfl ((hR.rel _).trans rfl) rfl ?_; intro K hK; go_big_quiet_op; go_big_quiet_on) | (refine wpR_ptr hp2 rfl ((hR.rel _).trans rfl) rfl rfl ?_; intro K hK; go_big_quiet_op; go_big_quiet_on) | (refine wpR_skip pick rfl ?_; intro K hK; go_big_quiet_op; go_big_quiet_on))
  refine wpR_rel pick rfl ((hR.rel _).trans rfl) ((hR.turns _).trans rfl) ?_ ?_
  · intro u hu
    have hk := hR.since hu.1
    have hks := hk.size
    unfold relAt
    go_simp
    refine (HL.out u).mono ?_
    rintro e w' ⟨rfl, rfl⟩
    exact ⟨_, rfl, hR.same, hR.put 0 rfl rfl rfl⟩
  intro v hv
  obtain ⟨u, _, hu⟩ := hv
  obtain rfl := hR.get 0 rfl hu
  clear hu
  intro K hK
  go_big_quiet_op
  go_big_quiet_on
  repeat (first | (refine wpR_det hp2 rfl ((hR.rel _).trans rfl) rfl ?_; intro K hK; go_big_quiet_op; go_big_quiet_on) | (refine wpR_ptr hp2 rfl ((hR.rel _).trans rfl) rfl rfl ?_; intro K hK; go_big_quiet_op; go_big_quiet_on) | (refine wpR_skip pick rfl ?_; intro K hK; go_big_quiet_op; go_big_quiet_on))
  refine wpR_nil ?_
  intro w2 hk2 hF hM
  have HB2 := Lib.hid (HB.out.kept hk2 (fun h => h))
  have c2 := (hk2.cell hlt (fun h => h) b).trans c1
  have f2 := (hk2.frozen hlt (fun h => h) b).trans fz
  have hl2 : h < w2.heap.size := by have := hk2.size; omega
  have HK2 := Lib.hid (hk2.mono (T := (· = h)) (fun _ _ h => h.elim))
  clear hF hM hk2 hp1 hp2 hR pc1 c1 fz
  go_wp2_with fail
  go_end0
  exact ⟨⟨_, rfl⟩, by rw [← hv_set]; exact HB2.out.set_ b _, HK2.out.setIn rfl⟩
theorem total_nil (w : World) : Calls Try.prog 16 #[.pointer none] w fun e w' => e = .returned (.int .u64 0) ∧ w = w' := by
  go_enter Try.func16, Try.ntmps16
  go_wp2_with fail
  go_ret
  exact ⟨rfl, rfl⟩
theorem hv_index (f : Nat → Int) (k : Nat) (hk : k < 65) (w : World) : (Instr.index 43 (.agg (hv f)) (.int .i64 (k : Int))).run Try.prog w = .ok (.int .u64 (f k)) w :=
  run_index_arr w 43 29 65 (hv f) .i64 .u64 k _ Try.underlying43 Try.underlying29 (by kernel_rfl) (by omega) (by omega) (by rw [Int.toNat_natCast]; exact hv_at f k hk)
set_option maxHeartbeats 1000000 in
theorem total_any (h : Nat) (f : Nat → Int) (w : World) (hf : ∀ k, 0 ≤ psum f k ∧ psum f k ≤ 1000) (hg : ∀ k, 0 ≤ f k ∧ f k ≤ 1000) (hB : Blk w h 45 (hv f)) :
    Calls Try.prog 16 #[.pointer (some ⟨h, 0, none⟩)] w fun e w' => e = .returned (.int .u64 (psum f 65)) ∧ w = w' := by
  have HB := Lib.hid hB
  have HF := Lib.hid hf
  have HG := Lib.hid hg
  clear hB hf hg
  go_enter Try.func16, Try.ntmps16
  go_wp2_with (refine wpList_load_row rfl 43 (.tmp 10) rfl h rfl 45 (hv f) (0, 0) _ HB.out Try.underlying43 rfl ?hs ?_)
  case hs => rw [hv_size]; kernel_rfl
  go_wp2_with fail
  go_loop [3, 5, 12] (fun t _ i => ∃ k : Nat, k ≤ 65 ∧ i = .int .i64 (k : Int) ∧ t = .int .u64 (psum f k)) (fun _ _ i => 65 - (intOf i).toNat)
  case atStart => exact ⟨0, by omega, rfl, rfl⟩
  case round =>
    obtain ⟨k, hk, rfl, rfl⟩ := hrel
    obtain ⟨p0, p1⟩ := HF.out k
    obtain ⟨g0, g1⟩ := HG.out k
    by_cases hk65 : k < 65
    · have hix := hv_index f k hk65
      have hkI : (k : Int) < 65 := by omega
      have HP := Lib.hid (show psum f (k + 1) = psum f k + f k from rfl)
      go_wp2_with fail
      go_round
      case rel => exact ⟨k + 1, by omega, by go_num, by rw [HP.out]⟩
      case measure => simp [intOf]; omega
    · obtain rfl : k = 65 := by omega
      go_wp2_with fail
      go_ret
      exact ⟨rfl, rfl⟩
theorem join_nil (a b : Option Addr) (w : World) (h : a = none) : Calls Try.prog 15 #[.pointer a, .pointer b] w fun e w' => (∃ v, e = .returned v) ∧ w = w' := by
  subst h
  go_enter Try.func15, Try.ntmps15
  go_wp2_with fail
  refine bodyPost_ret (results_none rfl _ _ _) rfl ?_
  exact ⟨⟨_, rfl⟩, rfl⟩
set_option maxHeartbeats 1000000 in
theorem join_any (h o : Nat) (f g : Nat → Int) (w : World) (hf : ∀ k, 0 ≤ f k ∧ f k ≤ 1000) (hg : ∀ k, 0 ≤ g k ∧ g k ≤ 1000) (hB : Blk w h 45 (hv f)) (hO : Blk w o 45 (hv g)) (hne : o ≠ h) :
    Calls Try.prog 15 #[.pointer (some ⟨h, 0, none⟩), .pointer (some ⟨o, 0, none⟩)] w fun e w' => (∃ v, e = .returned v) ∧ Blk w' h 45 (hv (jn f g 65)) ∧ Kept (· = h) w w' := by
  have HB := Lib.hid hB
  have HO := Lib.hid hO
  have HF := Lib.hid hf
  have HG := Lib.hid hg
  clear hB hO hf hg
  go_enter Try.func15, Try.ntmps15
  go_wp2_with fail
  go_loopw [4, 11] (fun _ i wr => ∃ k : Nat, k ≤ 65 ∧ i = .int .i64 (k : Int) ∧ Hid (Blk wr h 45 (hv (jn f g k))) ∧ Hid (Kept (· = h) w wr)) (fun _ i _ => 65 - (intOf i).toNat)
  case atStart => exact ⟨0, by omega, rfl, Lib.hid (by rw [jn_zero]; exact HB.out), Lib.hid (Kept.refl _ _)⟩
  case round =>
    obtain ⟨k, hk, rfl, HR, HK⟩ := hrel
    by_cases hk65 : k < 65
    · have hkI : (k : Int) < 65 := by omega
      have hk0 : (0 : Int) ≤ (k : Int) := by omega
      obtain ⟨f0, f1⟩ := HF.out k
      obtain ⟨g0, g1⟩ := HG.out k
      have HO2 := HO.out.kept HK.out hne
      have c1 : wr.cell? ⟨h, k, none⟩ = some (.int .u64 (f k)) := by rw [HR.out.cell, hv_at _ k hk65, jn_at]
      have c2 : wr.cell? ⟨o, k, none⟩ = some (.int .u64 (g k)) := by rw [HO2.cell, hv_at _ k hk65]
      have z1 := HR.out.frozen k
      have l1 := HR.out.lt
      have l2 := HO2.lt
      clear HO2
      go_wp2_with fail
      refine wp_region_kept 16 [] ?st ?ne rfl (by kernel_rfl) (by kernel_rfl) ?_
      case st => intro p hp; cases hp
      case ne => intro p hp; cases hp
      simp only [List.take_succ_cons, List.take_zero, List.drop_succ_cons, List.drop_zero]
      intro G pick hR hp1 hp2
      have pc1 : ∀ u, (pick u).cell? ⟨h, k, none⟩ = some (.int .u64 (f k)) := fun u => ((hp1 u).cell l1 (fun h => h) _).trans c1
      have pc2 : ∀ u, (pick u).cell? ⟨o, k, none⟩ = some (.int .u64 (g k)) := fun u => ((hp1 u).cell l2 (fun h => h) _).trans c2
      repeat (first | (refine wpR_det hp2 rfl ((hR.rel _).trans rfl) rfl ?_; intro K hK; go_big_quiet_op; go_big_quiet_on) | (refine wpR_ptr hp2 rfl ((hR.rel _).trans rfl) rfl rfl ?_; intro K hK; go_big_quiet_op; go_big_quiet_on) | (refine wpR_skip pick rfl ?_; intro K hK; go_big_quiet_op; go_big_quiet_on))
      refine wpR_nil ?_
      intro w2 hk2 hF hM
      have HB2 := Lib.hid (HR.out.kept hk2 (fun h => h))
      have c3 := (hk2.cell l1 (fun h => h) k).trans c1
      have f3 := (hk2.frozen l1 (fun h => h) k).trans z1
      have l3 : h < w2.heap.size := by have := hk2.size; omega
      have HK2 := Lib.hid (HK.out.then hk2 (fun _ _ h => h.elim))
      clear hF hM hk2 hp1 hp2 hR pc1 pc2 c1 c2 z1
      go_wp2_with fail
      go_roundw
      case rel => exact ⟨k + 1, by omega, by go_num, Lib.hid (by rw [← jn_step, ← hv_set]; exact HB2.out.set_ k _), Lib.hid (HK2.out.setIn rfl)⟩
      case measure => simp [intOf]; omega
    · obtain rfl : k = 65 := by omega
      go_wp2_with fail
      go_end0
      exact ⟨⟨_, rfl⟩, HR.out, HK.out⟩
theorem below_nil (p : Int) (w : World) : Calls Try.prog 13 #[.pointer none, .int .i64 p] w fun e w' => e = .returned (.tuple #[.int .u64 0, .bool false]) ∧ w = w' := by
  go_enter Try.func13, Try.ntmps13
  go_wp2_with fail
  refine (total_nil w).mono ?_
  rintro e w1 ⟨rfl, rfl⟩
  go_wp2_with fail
  go_ret2
  exact ⟨rfl, rfl⟩
theorem pw_last (k : Nat) (hk : k ≤ 64) : IntKind.u64.wrap (2 ^ k % 18446744073709551616 - 1) = 2 ^ k - 1 := by
  have := pow_range k hk
  rw [IntKind.wrap_u64]
  omega
theorem pw_last2 (k : Nat) (hk : k ≤ 64) : IntKind.u64.wrap (IntKind.u64.wrap (2 ^ k) - 1) = 2 ^ k - 1 := by
  rw [IntKind.wrap_u64 (2 ^ k)]; exact pw_last k hk
theorem pw_next (k : Nat) : IntKind.u64.wrap (2 ^ k % 18446744073709551616 * 2) = 2 ^ (k + 1) % 18446744073709551616 := by
  rw [IntKind.wrap_u64, Int.pow_succ]
  omega
set_option maxHeartbeats 2000000 in
theorem below_any (h : Nat) (l : List Int) (p : Int) (w : World) (hl : l.length ≤ 200) (hr : ∀ x ∈ l, 0 ≤ x ∧ x < 18446744073709551616) (hB : Blk w h 45 (hv (cnt l))) :
    Calls Try.prog 13 #[.pointer (some ⟨h, 0, none⟩), .int .i64 p] w fun e w' => e = .returned (.tuple #[.int .u64 (blwV l p), .bool (blwB l p)]) ∧ w = w' := by
  have HT := Lib.hid (total_any h (cnt l) w (fun k => by have := psum_range l k; omega) (fun k => by have := cnt_range l k; omega) hB)
  rw [psum_all l hr] at HT
  have HALL := Lib.hid (cle_all l hr)
  have HB := Lib.hid hB
  clear hr hB
  by_cases hno : l.length = 0 ∨ p < 0 ∨ 100 < p
  · obtain ⟨e1, e2⟩ := blw_no l p hno
    have HE1 := Lib.hid e1
    have HE2 := Lib.hid e2
    clear e1 e2
    have hno' : (l.length = 0) ∨ (l.length ≠ 0 ∧ p < 0) ∨ (l.length ≠ 0 ∧ 0 ≤ p ∧ 100 < p) := by omega
    clear hno
    rcases hno' with h0 | ⟨h0, h1⟩ | ⟨h0, h1, h2⟩
    · rw [h0] at HT
      go_enter Try.func13, Try.ntmps13
      go_wp2_with fail
      refine HT.out.mono ?_
      rintro e w1 ⟨rfl, rfl⟩
      go_wp2_with fail
      go_ret2
      exact ⟨by rw [HE1.out, HE2.out]; rfl, rfl⟩
    all_goals
      have hz : ((l.length : Int) == 0) = false := beq_eq_false_iff_ne.2 (by omega)
      go_enter Try.func13, Try.ntmps13
      go_wp2_with fail
      refine HT.out.mono ?_
      rintro e w1 ⟨rfl, rfl⟩
      go_wp2_with fail
      go_ret2
      exact ⟨by rw [HE1.out, HE2.out]; rfl, rfl⟩
  · obtain ⟨h0, h1, h2⟩ : l.length ≠ 0 ∧ 0 ≤ p ∧ p ≤ 100 := by omega
    clear hno
    have hz : ((l.length : Int) == 0) = false := beq_eq_false_iff_ne.2 (by omega)
    have HNP := Lib.hid (need_prog l.length p)
    have hnr := need_range l.length p h1 h2 (by omega)
    have ha : 0 ≤ (l.length : Int) / 100 ∧ (l.length : Int) / 100 ≤ 2 := by omega
    have hb : 0 ≤ (l.length : Int) % 100 ∧ (l.length : Int) % 100 ≤ 99 := by omega
    have m1 : 0 ≤ (l.length : Int) / 100 * p := Int.mul_nonneg ha.1 h1
    have m2 : (l.length : Int) / 100 * p ≤ 2 * 100 := Int.mul_le_mul ha.2 h2 h1 (by omega)
    have m3 : 0 ≤ (l.length : Int) % 100 * p := Int.mul_nonneg hb.1 h1
    have m4 : (l.length : Int) % 100 * p ≤ 99 * 100 := Int.mul_le_mul hb.2 h2 h1 (by omega)
    have HBY := Lib.hid (fun k (hk : lk l p = k) => blw_yes l p h0 h1 h2 hk)
    clear ha hb
    go_enter Try.func13, Try.ntmps13
    go_wp2_with fail
    refine HT.out.mono ?_
    rintro e w1 ⟨rfl, rfl⟩
    go_upto_region 5 with fail
    go_cut [8] (fun v wx => v = .int .u64 (need l.length p) ∧ w = wx)
    case first =>
      go_wp2_with fail
      all_goals
        go_meet
        exact ⟨congrArg (Value.int .u64) (by rw [← HNP.out]; omega), rfl⟩
    case rest =>
      obtain ⟨rfl, rfl⟩ := hcut
      clear m1 m2 m3 m4 HNP
      go_wp2_with (refine wpList_load_row rfl 43 (.tmp 40) rfl h rfl 45 (hv (cnt l)) (0, 0) _ HB.out Try.underlying43 rfl ?hs ?_)
      case hs => rw [hv_size]; kernel_rfl
      obtain ⟨nd, hnd⟩ : ∃ nd, need l.length p = nd := ⟨_, rfl⟩
      rw [hnd] at hnr ⊢
      have HND := Lib.hid hnd
      clear hnd
      obtain ⟨nd0, nd1⟩ := hnr
      go_wp2_with fail
      go_loop [9, 10, 11, 42] (fun t _ _ i => ∃ k : Nat, k ≤ 65 ∧ i = .int .i64 (k : Int) ∧ t = .int .u64 (psum (cnt l) k) ∧ Hid (∀ j, j < k → (cle l j : Int) < nd)) (fun _ _ _ i => 65 - (intOf i).toNat)
      case atStart => exact ⟨0, by omega, rfl, rfl, Lib.hid (fun j hj => by omega)⟩
      case round =>
        obtain ⟨k, hk, rfl, rfl, HLT⟩ := hrel
        have hk64 : k ≤ 64 := by
          rcases Nat.lt_or_ge k 65 with h | h
          · omega
          · have := HLT.out 64 (by omega); rw [HALL.out] at this; omega
        obtain ⟨p0, p1⟩ := psum_range l k
        obtain ⟨c0, c1⟩ := cnt_range l k
        have hix := hv_index (cnt l) k (by omega)
        have hkI : (k : Int) < 65 := by omega
        have HP := Lib.hid (show psum (cnt l) (k + 1) = psum (cnt l) k + cnt l k from rfl)
        have HC := Lib.hid (psum_cnt l k)
        by_cases hge : nd ≤ psum (cnt l) k + cnt l k
        · have HLK := Lib.hid (HBY.out k (lk_is l p k (by omega) (by rw [← HC.out, HP.out, HND.out]; exact hge) (fun j hj => by rw [HND.out]; exact HLT.out j hj)))
          go_wp2_with fail
          go_ret2
          refine ⟨?_, rfl⟩
          rw [HLK.out.1, HLK.out.2]
          exact congrArg (fun x => Ending.returned (.tuple #[.int .u64 x, .bool true])) (pw_last2 k hk64)
        · go_wp2_with fail
          go_round
          case rel => exact ⟨k + 1, by omega, by go_num, by rw [HP.out], Lib.hid (fun j hj => by
            rcases Nat.lt_succ_iff_lt_or_eq.1 hj with hj | rfl
            · exact HLT.out j hj
            · have := HC.out; rw [HP.out] at this; omega)⟩
          case measure => simp [intOf]; omega
set_option maxHeartbeats 2000000 in
theorem refBelow_any (A : Option Addr) (c : Nat) (l : List Int) (p : Int) (w : World) (hl : l.length ≤ 200) (hr : ∀ x ∈ l, 0 ≤ x ∧ x < 18446744073709551616) (hA : NS w w.heap.size A .u64 l) :
    Calls Try.prog 14 #[.slice A l.length c, .int .i64 p] w fun e w' => e = .returned (.tuple #[.int .u64 (blwV l p), .bool (blwB l p)]) ∧ w = w' := by
  have HALL := Lib.hid (cle_all l hr)
  have HA := Lib.hid hA
  have HR := Lib.hid hr
  clear hr hA
  by_cases hno : l.length = 0 ∨ p < 0 ∨ 100 < p
  · obtain ⟨e1, e2⟩ := blw_no l p hno
    have HE1 := Lib.hid e1
    have HE2 := Lib.hid e2
    clear e1 e2
    have hno' : (l.length = 0) ∨ (l.length ≠ 0 ∧ p < 0) ∨ (l.length ≠ 0 ∧ 0 ≤ p ∧ 100 < p) := by omega
    clear hno
    rcases hno' with h0 | ⟨h0, h1⟩ | ⟨h0, h1, h2⟩
    · rw [h0]
      go_enter Try.func14, Try.ntmps14
      go_wp2_with fail
      go_ret2
      exact ⟨by rw [HE1.out, HE2.out]; rfl, rfl⟩
    all_goals
      have hz : ((l.length : Int) == 0) = false := beq_eq_false_iff_ne.2 (by omega)
      go_enter Try.func14, Try.ntmps14
      go_wp2_with fail
      go_ret2
      exact ⟨by rw [HE1.out, HE2.out]; rfl, rfl⟩
  · obtain ⟨h0, h1, h2⟩ : l.length ≠ 0 ∧ 0 ≤ p ∧ p ≤ 100 := by omega
    clear hno
    have hz : ((l.length : Int) == 0) = false := beq_eq_false_iff_ne.2 (by omega)
    have hnr := need_range l.length p h1 h2 (by omega)
    have m1 : 0 ≤ (l.length : Int) * p := Int.mul_nonneg (by omega) h1
    have m2 : (l.length : Int) * p ≤ 200 * 100 := Int.mul_le_mul (by omega) h2 h1 (by omega)
    have HNP := Lib.hid (show need l.length p = max (((l.length : Int) * p + 99) / 100) 1 from rfl)
    have HBY := Lib.hid (fun k (hk : lk l p = k) => blw_yes l p h0 h1 h2 hk)
    obtain ⟨nd, hnd⟩ : ∃ nd, need l.length p = nd := ⟨_, rfl⟩
    rw [hnd] at hnr HNP
    have HND := Lib.hid hnd
    clear hnd
    obtain ⟨nd0, nd1⟩ := hnr
    go_enter Try.func14, Try.ntmps14
    go_upto_if 29 with fail
    go_cut [6] (fun v wx => v = .int .i64 nd ∧ w = wx)
    case first =>
      go_wp2_with fail
      all_goals
        go_meet
        exact ⟨congrArg (Value.int .i64) (by have := HNP.out; omega), rfl⟩
    case rest =>
      obtain ⟨rfl, rfl⟩ := hcut
      clear m1 m2 HNP
      go_wp2_with fail
      go_loop [7, 8, 9, 10] (fun q i _ _ => ∃ k : Nat, k ≤ 65 ∧ i = .int .i64 (k : Int) ∧ q = .int .u64 (2 ^ k % 18446744073709551616) ∧ Hid (∀ j, j < k → (cle l j : Int) < nd)) (fun _ i _ _ => 65 - (intOf i).toNat)
      case atStart => exact ⟨0, by omega, rfl, rfl, Lib.hid (fun j hj => by omega)⟩
      case round =>
        obtain ⟨k, hk, rfl, rfl, HLT⟩ := hrel
        have hk64 : k ≤ 64 := by
          rcases Nat.lt_or_ge k 65 with h | h
          · omega
          · have := HLT.out 64 (by omega); rw [HALL.out] at this; omega
        have hkI : (k : Int) ≤ 64 := by omega
        have hcl := cle_le l k
        have HPW := Lib.hid (pw_last k hk64)
        have HPN := Lib.hid (pw_next k)
        obtain ⟨q0, q1⟩ : 0 ≤ (2 : Int) ^ k % 18446744073709551616 ∧ (2 : Int) ^ k % 18446744073709551616 < 18446744073709551616 := by omega
        generalize (2 : Int) ^ k % 18446744073709551616 = q at *
        go_wp2_with fail
        go_loop [9, 10] (fun n i => ∃ j : Nat, j ≤ l.length ∧ i = .int .i64 (j : Int) ∧ n = .int .i64 (cle (l.take j) k : Int)) (fun _ i => l.length - (intOf i).toNat)
        case atStart => exact ⟨0, by omega, rfl, rfl⟩
        case round =>
          obtain ⟨j, hj, rfl, rfl⟩ := hrel
          have hcj := cle_le (l.take j) k
          rw [List.length_take] at hcj
          by_cases hjl : j < l.length
          · obtain ⟨b, o, hb, rfl, hca⟩ := HA.out.at hjl
            have c1 := hca j hjl
            have hx := HR.out l[j] (List.getElem_mem hjl)
            have HS := Lib.hid (show cle (l.take (j + 1)) k = cle (l.take j) k + if bl l[j].toNat ≤ k then 1 else 0 by
              unfold cle
              rw [List.take_succ_eq_append_getElem hjl, List.countP_append]
              simp [List.countP_cons])
            have hjI : (j : Int) < (l.length : Int) := by omega
            have HBT := Lib.hid (refBits_any l[j] w hx.1 hx.2)
            generalize l[j] = x at c1 HS HBT
            clear hx hca
            go_wp2_with fail
            refine HBT.out.mono ?_
            rintro e w1 ⟨rfl, rfl⟩
            by_cases hle : bl x.toNat ≤ k
            · have HS2 := Lib.hid (HS.out.trans (by rw [if_pos hle]))
              have hleI : (bl x.toNat : Int) ≤ (k : Int) := by omega
              go_wp2_with fail
              go_round
              case rel => exact ⟨j + 1, by omega, by go_num, by rw [HS2.out]; go_num⟩
              case measure => simp [intOf]; omega
            · have HS2 := Lib.hid (HS.out.trans (by rw [if_neg hle, Nat.add_zero]))
              go_wp2_with fail
              go_round
              case rel => exact ⟨j + 1, by omega, by go_num, by rw [HS2.out]⟩
              case measure => simp [intOf]; omega
          · obtain rfl : j = l.length := by omega
            have HTK := Lib.hid (List.take_length (l := l))
            rw [HTK.out]
            by_cases hge : nd ≤ (cle l k : Int)
            · have HLK := Lib.hid (HBY.out k (lk_is l p k (by omega) (by rw [HND.out]; exact hge) (fun j hj => by rw [HND.out]; exact HLT.out j hj)))
              go_wp2_with fail
              go_ret2
              refine ⟨?_, rfl⟩
              rw [HLK.out.1, HLK.out.2, ← HPW.out]
              rfl
            · go_wp2_with fail
              go_round
              case rel => exact ⟨k + 1, by omega, by go_num, by rw [← HPN.out], Lib.hid (fun j hj => by
                rcases Nat.lt_succ_iff_lt_or_eq.1 hj with hj | rfl
                · exact HLT.out j hj
                · omega)⟩
              case measure => simp [intOf]; omega
end Go.Proofs.Ytcpiohmgnlapiaa
