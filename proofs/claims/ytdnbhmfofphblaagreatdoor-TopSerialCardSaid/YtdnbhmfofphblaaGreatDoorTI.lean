/- tunnel: Six, Right, proto (version 4). -/
import Derived.Test.YtdnbhmfofphblaaGreatDoorTG
import Derived.Test.YtdnbhmfofphblaaGreatDoorTB
namespace Go.Proofs.YtdnbhmfofphblaaGreatDoor
open Go.RowKit
set_option maxRecDepth 100000
set_option linter.unusedVariables false
set_option linter.unusedSimpArgs false
theorem six4 (BA : Option Addr) (q bc B : Nat) (b : List UInt8) (hq : b.length = q) (h0 : 0 < q) (h4 : fld b 0 1 / 16 = 4) (w : World) (hB : BS w B BA b) :
    Calls Tryz.prog 62 #[.slice BA q bc] w fun e w' => e = .returned (.tuple #[.bool false, .int .i64 0]) ∧ w = w' := by
  obtain ⟨bb, o, _, rfl, hc⟩ := hB.at (k := 0) (by omega)
  have h := hc 0 (by omega)
  rw [fld_one b 0 (by omega)] at h
  have hr := fld_range b 0 1 (by omega)
  obtain ⟨v, hv⟩ : ∃ v, fld b 0 1 = v := ⟨_, rfl⟩
  rw [hv] at h h4 hr
  have c0 : w.cell? ⟨bb, o, none⟩ = some (.int .u8 v) := h
  have v0 : 0 ≤ v := hr.1
  have v1 : v ≤ 255 := by have := hr.2; omega
  have g1 : ¬ (q : Int) = 0 := by omega
  have g2 : (v / 16 == 4) = true := by rw [h4]; rfl
  clear hc h hv hr hB
  go_enter Tryz.func62, Tryz.ntmps62
  go_wp2
  go_ret2
  exact ⟨rfl, rfl⟩
theorem wayRight (ttl : Int) (t0 : 0 < ttl) (t1 : ttl ≤ 255) (w : World) :
    Calls Tryz.prog 70 #[.agg #[.bool false, .int .u64 0, .int .u64 0, .bool false, .int .u64 0, .int .u64 0, .int .u8 ttl]] w fun e w' => e = .returned (.bool true) ∧ Kept (fun _ => False) w w' := by
  have g : decide (0 < ttl) = true := decide_eq_true t0
  go_enter Tryz.func70, Tryz.ntmps70
  go_wp2
  go_ret
  exact ⟨by first | rfl | rw [g] | simp [g], (Kept.refl _ _).alloc _⟩
theorem proto4 (w : World) : Calls Tryz.prog 71 #[.bool false] w fun e w' => e = .returned (.int .u8 4) ∧ w = w' := by
  go_enter Tryz.func71, Tryz.ntmps71
  go_wp2
  go_ret
  exact ⟨rfl, rfl⟩
end Go.Proofs.YtdnbhmfofphblaaGreatDoor
/- cookie's Blend and Ahead. -/
namespace Go.Proofs.YtdnbhmfofphblaaGreatDoor
open Go.RowKit
set_option maxRecDepth 100000
set_option linter.unusedVariables false
set_option linter.unusedSimpArgs false
theorem u32_or (n c : Int) (n0 : 0 ≤ n) (n1 : n ≤ 65535) (c0 : 0 ≤ c) (c1 : c ≤ 65535) : bits .or .u32 (n * 65536) c = n * 65536 + c := by
  obtain ⟨n, rfl⟩ := Int.eq_ofNat_of_zero_le n0
  obtain ⟨c, rfl⟩ := Int.eq_ofNat_of_zero_le c0
  have e : ((n : Int) * 65536) = ((n * 65536 : Nat) : Int) := by omega
  rw [e, u32_or_nat _ _ (by omega) (by omega), nat_join 16 _ _ _ (by omega)]
  · omega
  · omega
theorem u32_shl16 (t : Int) (t0 : 0 ≤ t) : IntKind.u32.wrap (t * 65536) = t % 65536 * 65536 := by simp [IntKind.wrap, IntKind.bits, IntKind.signed]; omega
set_option maxHeartbeats 2000000 in
theorem blendT (t c : Int) (t0 : 0 ≤ t) (t1 : t ≤ 4294967295) (c0 : 0 ≤ c) (c1 : c ≤ 65535) (w : World) :
    Calls Tryz.prog 33 #[.int .u32 t, .int .u16 c] w fun e w' => e = .returned (.int .u32 (t % 65536 * 65536 + c)) ∧ w = w' := by
  have e1 := u32_or (t % 65536) c (by omega) (by omega) c0 c1
  have e2 := u32_shl16 t t0
  have E1 := Lib.hid e1
  have E2 := Lib.hid e2
  clear e1 e2
  go_enter Tryz.func33, Tryz.ntmps33
  go_wp2
  go_ret
  exact ⟨ret_int (by rw [show t * 65536 % 4294967296 = t % 65536 * 65536 by omega, E1.out]), rfl⟩
set_option maxHeartbeats 2000000 in
theorem aheadT (a b : Int) (a0 : 0 ≤ a) (a1 : a ≤ 4294967295) (b0 : 0 ≤ b) (b1 : b ≤ 4294967295) (h : (b - a) % 4294967296 < 2147483648) (w : World) :
    Calls Tryz.prog 11 #[.int .u32 a, .int .u32 b] w fun e w' => e = .returned (.bool true) ∧ w = w' := by
  have g : decide ((b - a) % 4294967296 < 2147483648) = true := decide_eq_true h
  clear h
  go_enter Tryz.func11, Tryz.ntmps11
  go_wp2
  go_ret
  exact ⟨by first | rfl | rw [g] | simp [g], rfl⟩
end Go.Proofs.YtdnbhmfofphblaaGreatDoor
