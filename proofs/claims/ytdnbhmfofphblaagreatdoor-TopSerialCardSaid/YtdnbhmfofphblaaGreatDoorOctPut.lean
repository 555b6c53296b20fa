/- Contracts of octet.digits, octet.Put. -/
import Derived.Test.YtdnbhmfofphblaaGreatDoorRows
import Derived.Test.YtdnbhmfofphblaaGreatDoorBase
import Derived.Outline
import Derived.Deep.Light
import Derived.Deep.DeepCutAuto
import Derived.Deep.LoopGhost
namespace Go.Proofs.YtdnbhmfofphblaaGreatDoor
set_option maxRecDepth 100000
open Go.RowKit
set_option linter.unusedVariables false

theorem digits_any (g cap off n c : Nat) (M : Int) (l : List UInt8) (w : World) (m0 : 0 ≤ M) (m1 : M < 18446744073709551616) (hn : off + n ≤ l.length) (hl : l.length ≤ 2000000) (hO : Own w 5 g cap l) :
    Calls Tryz.prog 132 #[.slice (some ⟨g, off, none⟩) n c, .int .u64 M] w fun e w' => (∃ v, e = .returned v) ∧ Own w' 5 g cap (fin l off n M) ∧ Kept (· = g) w w' := by
  have HO := Lib.hid hO
  clear hO
  go_enter Tryz.func132, Tryz.ntmps132
  go_wp2
  go_loopw [1, 4] (fun m i wr => ∃ (j : Nat) (M' : Int) (l' : List UInt8), j ≤ n ∧ i = .int .i64 ((j : Int) - 1) ∧ m = .int .u64 M' ∧ 0 ≤ M' ∧ M' < 18446744073709551616 ∧ Hid (l'.length = l.length) ∧ Hid (Own wr 5 g cap l') ∧ Hid (fin l' off j M' = fin l off n M) ∧ Hid (Kept (· = g) w wr)) (fun _ i _ => (intOf i + 1).toNat)
  case atStart => exact ⟨n, M, l, by omega, rfl, rfl, m0, m1, Lib.hid rfl, HO, Lib.hid rfl, Lib.hid (Kept.refl _ _)⟩
  case round =>
    obtain ⟨j, M', l', hj, rfl, rfl, k0, k1, HL, HW, HF, HK⟩ := hrel
    rcases Nat.eq_zero_or_pos j with rfl | hp
    · rw [show ((0 : Nat) : Int) - 1 = -1 from rfl]
      go_wp2
      go_end0
      exact ⟨⟨_, rfl⟩, by rw [← HF.out, fin_zero]; exact HW.out, HK.out⟩
    · obtain ⟨j, rfl⟩ : ∃ k, j = k + 1 := ⟨j - 1, by omega⟩
      rw [show ((j + 1 : Nat) : Int) - 1 = (j : Int) by omega]
      have hlt : off + j < l'.length := by rw [HL.out]; omega
      have c1 := HW.out.cell hlt
      have f1 := HW.out.frozen (off + j)
      have jI : (j : Int) < (n : Int) := by omega
      go_wp2
      go_roundw
      case rel =>
        go_light
        exact ⟨j, M' / 256, l'.set (off + j) (b8 M'), by omega, rfl, rfl, by omega, by omega, Lib.hid (by rw [List.length_set]; exact HL.out), Lib.hid (by rw [← b8_val]; exact HW.out.set _ _), Lib.hid (by rw [fin_step _ _ _ _ hlt, HF.out]), Lib.hid (HK.out.setIn rfl)⟩
      case measure => simp [intOf]

theorem digits_none (A : Option Addr) (c : Nat) (M : Int) (w : World) :
    Calls Tryz.prog 132 #[.slice A 0 c, .int .u64 M] w fun e w' => (∃ v, e = .returned v) ∧ w = w' := by
  go_enter Tryz.func132, Tryz.ntmps132
  go_wp2
  refine wp_loop_rounds 1 ?_
  rw [rounds_succ]
  go_wp2
  go_end0
  exact ⟨⟨_, rfl⟩, rfl⟩

theorem make_row (n : Nat) (W : World) (x : Int) (hx : x = (n : Int)) (hn : n ≤ 10000000) :
    (Instr.makeSlice 44 (.int .i64 x) (.int .i64 x)).run Tryz.prog W = .ok (.slice (some ⟨W.heap.size, 0, none⟩) n n) (W.alloc (.cells (madeCells #[.int .u8 0] n) 5)) := by
  subst hx
  exact run_make_row' 44 5 (.int .u8 0) 1 Tryz.underlying44 (by kernel_rfl) rfl .i64 .i64 n (by omega) (by omega) W

set_option maxRecDepth 4000 in
theorem put_any (A : Option Addr) (cap k : Nat) (l : List UInt8) (M sz : Int) (w : World) (hl : l.length ≤ 1000000) (hB : BS w w.heap.size A l) (m0 : 0 ≤ M) (m1 : M < 18446744073709551616) (hk : (k : Int) = max 0 (min sz 8)) :
    Calls Tryz.prog 82 #[.slice A l.length cap, .int .u64 M, .int .i64 sz] w fun e w' => e = .returned (.slice (some ⟨w.heap.size, 0, none⟩) (l.length + k) (l.length + k)) ∧ Own w' 5 w.heap.size (l.length + k) (l ++ digs k M) ∧ Below w.heap.size w w' := by
  have k8 : k ≤ 8 := by omega
  have hsz : (Tryz.prog.info? 5).map (·.size) = some 1 := by kernel_rfl
  have hmk := fun W => make_row (l.length + k) W (l.length + k) (by omega) (by omega)
  have HK := Lib.hid hk
  have HB := Lib.hid hB
  clear hk hB
  go_enter Tryz.func82, Tryz.ntmps82
  go_upto_region 1 with fail
  go_cut [2] (fun s wx => s = .int .i64 (k : Int) ∧ w = wx)
  case first =>
    go_wp2_with fail
    all_goals
      go_meet
      have := HK.out
      exact ⟨congrArg (Value.int .i64) (by omega), rfl⟩
  case rest =>
    obtain ⟨rfl, rfl⟩ := hcut
    go_wp2_with (refine wpList_copy_splice rfl (.tmp 16) (.tmp 17) 44 44 rfl 5 Tryz.underlying44 hsz (some ⟨w.heap.size, 0, none⟩) A (l.length + k) (l.length + k) l.length cap rfl rfl w.heap.size 0 (bcs (List.replicate (l.length + k) 0)) 5 ?c1 (bcs l) ?c2 ?c3 ?c4 (bcs_one l) w.heap.size w ?c5 (Nat.le_refl _) ?_)
    case c1 => rw [madeCells_bytes]; exact Blk.new_ rfl _ _
    case c2 => rw [bcs_length]; exact (Nat.min_eq_left (by omega)).symm
    case c3 => exact fun hp => (HB.out.alloc (Nat.le_refl _) _).news hp
    case c4 => simp [bcs_length]
    case c5 => exact (Below.refl _ _).alloc (Nat.le_refl _) _
    intro w1 H1 hb1
    rw [splice_bytes, show List.take 0 (List.replicate (l.length + k) (0 : UInt8)) ++ (l ++ List.drop (0 + l.length) (List.replicate (l.length + k) 0)) = l ++ List.replicate k 0 by simp] at H1
    have hO : Own w1 5 w.heap.size (l.length + k) (l ++ List.replicate k 0) := by
      have := Own.of_blk (w := w1) (g := w.heap.size) (e := 5) (l := l ++ List.replicate k 0) H1.out (by unfold maxLen; simp; omega)
      simpa using this
    have HO := Lib.hid hO
    have HB1 := Lib.hid hb1
    clear H1 hb1 hO
    rcases Nat.eq_zero_or_pos k with rfl | hp
    · go_wp2_with fail
      refine (digits_none _ _ _ _).mono ?_
      rintro e w2 ⟨⟨v, rfl⟩, rfl⟩
      go_wp2_with fail
      go_ret
      exact ⟨rfl, by simpa [digs] using HO.out, HB1.out⟩
    · have hne : ¬ k = 0 := by omega
      go_wp2_with fail
      refine (digits_any _ (l.length + k) _ _ _ M _ _ m0 m1 (by simp) (by simp; omega) HO.out).mono ?_
      rintro e w2 ⟨⟨v, rfl⟩, hO2, hK2⟩
      have HO2 := Lib.hid hO2
      have HK2 := Lib.hid hK2
      clear hO2 hK2
      go_wp2_with fail
      go_ret
      refine ⟨rfl, ?_, HB1.out.trans (HK2.out.below (Nat.le_of_lt HO.out.lt) (fun i h => by omega))⟩
      have := HO2.out
      simpa [fin] using this

theorem put_nil (k : Nat) (M : Int) (w : World) (m0 : 0 ≤ M) (m1 : M < 18446744073709551616) (k8 : k ≤ 8) :
    Calls Tryz.prog 82 #[.slice none 0 0, .int .u64 M, .int .i64 (k : Int)] w fun e w' => e = .returned (.slice (some ⟨w.heap.size, 0, none⟩) k k) ∧ Own w' 5 w.heap.size k (digs k M) ∧ Below w.heap.size w w' := by
  have := put_any none 0 k [] M k w (by simp) .nil m0 m1 (by omega)
  simpa using this

theorem make_row1 (n : Nat) (W : World) (hn : n ≤ 10000000) :
    (Instr.makeSlice 44 (.int .i64 (n : Int)) (.int .i64 (n : Int))).run Tryz.prog W = .ok (.slice (some ⟨W.heap.size, 0, none⟩) n n) (W.alloc (.cells (madeCells #[.int .u8 0] n) 5)) := make_row n W n rfl hn

end Go.Proofs.YtdnbhmfofphblaaGreatDoor
