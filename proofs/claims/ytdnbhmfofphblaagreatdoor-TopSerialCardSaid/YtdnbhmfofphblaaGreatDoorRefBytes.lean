/- Contract of the reference's Bytes. -/
import Derived.Test.YtdnbhmfofphblaaGreatDoorRows
import Derived.Test.YtdnbhmfofphblaaGreatDoorBase
import Derived.Outline
import Derived.Deep.Light
import Derived.Deep.DeepCutAuto
import Derived.Deep.LoopGhost
namespace Go.Proofs.YtdnbhmfofphblaaGreatDoor
set_option maxRecDepth 100000
open Go.RowKit
set_option linter.unusedVariables false

theorem make_rowR (n : Nat) (W : World) (x : Int) (hx : x = (n : Int)) (hn : n ≤ 10000000) :
    (Instr.makeSlice 44 (.int .i64 x) (.int .i64 x)).run Tryz.prog W = .ok (.slice (some ⟨W.heap.size, 0, none⟩) n n) (W.alloc (.cells (madeCells #[.int .u8 0] n) 5)) := by
  subst hx
  exact run_make_row' 44 5 (.int .u8 0) 1 Tryz.underlying44 (by kernel_rfl) rfl .i64 .i64 n (by omega) (by omega) W

theorem make_rowR1 (n : Nat) (W : World) (hn : n ≤ 10000000) :
    (Instr.makeSlice 44 (.int .i64 (n : Int)) (.int .i64 (n : Int))).run Tryz.prog W = .ok (.slice (some ⟨W.heap.size, 0, none⟩) n n) (W.alloc (.cells (madeCells #[.int .u8 0] n) 5)) := make_rowR n W n rfl hn

theorem refBytes_any (k : Nat) (M sz : Int) (w : World) (m0 : 0 ≤ M) (m1 : M < 18446744073709551616) (hk : (k : Int) = max 0 (min sz 8)) :
    Calls Tryz.prog 58 #[.int .u64 M, .int .i64 sz] w fun e w' => e = .returned (.slice (some ⟨w.heap.size, 0, none⟩) k k) ∧ Own w' 5 w.heap.size k (digs k M) ∧ Below w.heap.size w w' := by
  have k8 : k ≤ 8 := by omega
  have hmk := fun W => make_rowR1 k W (by omega)
  obtain ⟨y, hy⟩ : ∃ y, y = max sz 0 := ⟨_, rfl⟩
  have y0 : 0 ≤ y := by omega
  have HK := Lib.hid (show (k : Int) = min y 8 by omega)
  have HY := Lib.hid hy
  clear hk hy
  go_enter Tryz.func58, Tryz.ntmps58
  go_upto_if 8 with fail
  go_cut [1] (fun s wx => s = .int .i64 y ∧ w = wx)
  case first =>
    go_wp2_with fail
    all_goals
      go_meet
      have := HY.out
      exact ⟨congrArg (Value.int .i64) (by omega), rfl⟩
  case rest =>
    obtain ⟨rfl, rfl⟩ := hcut
    go_upto_if 10 with fail
    go_cut [1] (fun s wx => s = .int .i64 (k : Int) ∧ w = wx)
    case first =>
      go_wp2_with fail
      all_goals
        go_meet
        have := HK.out
        exact ⟨congrArg (Value.int .i64) (by omega), rfl⟩
    case rest =>
      obtain ⟨rfl, rfl⟩ := hcut
      go_wp2_with fail
      go_loopw [0, 6] (fun m i wr => ∃ (j : Nat) (M' : Int) (l' : List UInt8), j ≤ k ∧ i = .int .i64 ((j : Int) - 1) ∧ m = .int .u64 M' ∧ 0 ≤ M' ∧ M' < 18446744073709551616 ∧ Hid (l'.length = k) ∧ Hid (Own wr 5 w.heap.size k l') ∧ Hid (fin l' 0 j M' = digs k M) ∧ Hid (Kept (fun i => w.heap.size ≤ i) w wr)) (fun _ i _ => (intOf i + 1).toNat)
      case atStart =>
        refine ⟨k, M, List.replicate k 0, by omega, rfl, rfl, m0, m1, Lib.hid (by simp), Lib.hid ?_, Lib.hid (by simp [fin]), Lib.hid ((Kept.refl _ _).alloc _)⟩
        have := Own.of_blk (w := w.alloc (.cells (madeCells #[.int .u8 0] k) 5)) (g := w.heap.size) (e := 5) (l := List.replicate k 0) (by rw [madeCells_bytes]; exact Blk.new _ _ _) (by unfold maxLen; simp; omega)
        simpa using this
      case round =>
        obtain ⟨j, M', l', hj, rfl, rfl, k0, k1, HL, HW, HF, HKK⟩ := hrel
        rcases Nat.eq_zero_or_pos j with rfl | hp
        · rw [show ((0 : Nat) : Int) - 1 = -1 from rfl]
          go_wp2
          go_ret
          exact ⟨rfl, by rw [← HF.out, fin_zero]; exact HW.out, HKK.out.below (Nat.le_refl _) (fun _ h => h)⟩
        · obtain ⟨j, rfl⟩ : ∃ k, j = k + 1 := ⟨j - 1, by omega⟩
          rw [show ((j + 1 : Nat) : Int) - 1 = (j : Int) by omega]
          have hlt : 0 + j < l'.length := by rw [HL.out]; omega
          have hlt' : j < l'.length := by rw [HL.out]; omega
          have c1 := HW.out.cell hlt'
          have f1 := HW.out.frozen j
          have jI : (j : Int) < (k : Int) := by omega
          go_wp2
          go_roundw
          case rel =>
            go_light
            refine ⟨j, M' / 256, l'.set j (b8 M'), by omega, rfl, rfl, by omega, by omega, Lib.hid (by rw [List.length_set]; exact HL.out), Lib.hid (by rw [← b8_val]; exact HW.out.set _ _), Lib.hid ?_, Lib.hid (HKK.out.setNew (Nat.le_refl _))⟩
            have := fin_step l' 0 j M' hlt
            rw [Nat.zero_add] at this
            rw [this, HF.out]
          case measure => simp [intOf]

end Go.Proofs.YtdnbhmfofphblaaGreatDoor
