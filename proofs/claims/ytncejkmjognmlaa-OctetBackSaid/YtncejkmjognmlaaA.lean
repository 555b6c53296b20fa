/- Contracts of octet.digits, Put, Set, Equal. -/
import Derived.Test.YtncejkmjognmlaaRows
import Derived.Test.YtncejkmjognmlaaBytesB
import Derived.Test.YtncejkmjognmlaaRgW
import Derived.Test.YtncejkmjognmlaaPlain
import Derived.Outline
import Derived.Deep.Light
import Derived.Laws.CopyOwn
import Derived.Deep.OwnRows
import Derived.Deep.DeepCutAuto
namespace Go.Proofs.Ytncejkmjognmlaa
open Go.RowKit
set_option linter.unusedVariables false

set_option maxHeartbeats 1000000 in
theorem digits_any (g cap off n c : Nat) (M : Int) (l : List UInt8) (w : World) (m0 : 0 ≤ M) (m1 : M < 18446744073709551616) (hn : off + n ≤ l.length) (hl : l.length ≤ 2000000) (hO : Own w 5 g cap l) :
    Calls Try.prog 17 #[.slice (some ⟨g, off, none⟩) n c, .int .u64 M] w fun e w' => (∃ v, e = .returned v) ∧ Own w' 5 g cap (fin l off n M) ∧ Kept (· = g) w w' := by
  have HO := Lib.hid hO
  clear hO
  go_enter Try.func17, Try.ntmps17
  go_wp2
  go_loopw [1, 4] (fun m i wr => ∃ (j : Nat) (M' : Int) (l' : List UInt8), j ≤ n ∧ i = .int .i64 ((j : Int) - 1) ∧ m = .int .u64 M' ∧ 0 ≤ M' ∧ M' < 18446744073709551616 ∧ Hid (l'.length = l.length) ∧ Hid (Own wr 5 g cap l') ∧ Hid (fin l' off j M' = fin l off n M) ∧ Hid (Kept (· = g) w wr)) (fun _ i _ => (intOf i + 1).toNat)
  case atStart => exact ⟨n, M, l, by omega, rfl, rfl, m0, m1, Lib.hid rfl, HO, Lib.hid rfl, Lib.hid (Kept.refl _ _)⟩
  case round =>
    obtain ⟨j, M', l', hj, rfl, rfl, k0, k1, HL, HW, HF, HK⟩ := hrel
    rcases Nat.eq_zero_or_pos j with rfl | hp
    · rw [show ((0 : Nat) : Int) - 1 = -1 from rfl]
      go_wp2
      go_end0
      exact ⟨⟨_, rfl⟩, by rw [← HF.out, fin_zero]; exact HW.out, HK.out⟩
    · obtain ⟨j, rfl⟩ : ∃ k, j = k + 1 := ⟨j - 1, by omega⟩
      rw [show ((j + 1 : Nat) : Int) - 1 = (j : Int) by omega]
      have hlt : off + j < l'.length := by rw [HL.out]; omega
      have c1 := HW.out.cell hlt
      have f1 := HW.out.frozen (off + j)
      have jI : (j : Int) < (n : Int) := by omega
      go_wp2
      go_roundw
      case rel =>
        go_light
        exact ⟨j, M' / 256, l'.set (off + j) (b8 M'), by omega, rfl, rfl, by omega, by omega, Lib.hid (by rw [List.length_set]; exact HL.out), Lib.hid (by rw [← b8_val]; exact HW.out.set _ _), Lib.hid (by rw [fin_step _ _ _ _ hlt, HF.out]), Lib.hid (HK.out.setIn rfl)⟩
      case measure => simp [intOf]
theorem digits_none (A : Option Addr) (c : Nat) (M : Int) (w : World) :
    Calls Try.prog 17 #[.slice A 0 c, .int .u64 M] w fun e w' => (∃ v, e = .returned v) ∧ w = w' := by
  go_enter Try.func17, Try.ntmps17
  go_wp2
  refine wp_loop_rounds 1 ?_
  rw [rounds_succ]
  go_wp2
  go_end0
  exact ⟨⟨_, rfl⟩, rfl⟩

theorem make_row (n : Nat) (W : World) (x : Int) (hx : x = (n : Int)) (hn : n ≤ 10000000) :
    (Instr.makeSlice 22 (.int .i64 x) (.int .i64 x)).run Try.prog W = .ok (.slice (some ⟨W.heap.size, 0, none⟩) n n) (W.alloc (.cells (madeCells #[.int .u8 0] n) 5)) := by
  subst hx
  exact run_make_row' 22 5 (.int .u8 0) 1 Try.underlying22 (by kernel_rfl) rfl .i64 .i64 n (by omega) (by omega) W

set_option maxHeartbeats 1000000 in
theorem put_any (A : Option Addr) (cap k : Nat) (l : List UInt8) (M sz : Int) (w : World) (hl : l.length ≤ 1000000) (hB : BS w w.heap.size A l) (m0 : 0 ≤ M) (m1 : M < 18446744073709551616) (hk : (k : Int) = max 0 (min sz 8)) :
    Calls Try.prog 9 #[.slice A l.length cap, .int .u64 M, .int .i64 sz] w fun e w' => e = .returned (.slice (some ⟨w.heap.size, 0, none⟩) (l.length + k) (l.length + k)) ∧ Own w' 5 w.heap.size (l.length + k) (l ++ digs k M) ∧ Below w.heap.size w w' := by
  have k8 : k ≤ 8 := by omega
  have hsz : (Try.prog.info? 5).map (·.size) = some 1 := by kernel_rfl
  have hmk := fun W => make_row (l.length + k) W (l.length + k) (by omega) (by omega)
  have HK := Lib.hid hk
  have HB := Lib.hid hB
  clear hk hB
  go_enter Try.func9, Try.ntmps9
  go_upto_region 1 with fail
  go_cut [2] (fun s wx => s = .int .i64 (k : Int) ∧ w = wx)
  case first =>
    go_wp2_with fail
    all_goals
      go_meet
      have := HK.out
      exact ⟨congrArg (Value.int .i64) (by omega), rfl⟩
  case rest =>
    obtain ⟨rfl, rfl⟩ := hcut
    go_wp2_with (refine wpList_copy_splice rfl (.tmp 16) (.tmp 17) 22 22 rfl 5 Try.underlying22 hsz (some ⟨w.heap.size, 0, none⟩) A (l.length + k) (l.length + k) l.length cap rfl rfl w.heap.size 0 (bcs (List.replicate (l.length + k) 0)) 5 ?c1 (bcs l) ?c2 ?c3 ?c4 (bcs_one l) w.heap.size w ?c5 (Nat.le_refl _) ?_)
    case c1 => rw [madeCells_bytes]; exact Blk.new_ rfl _ _
    case c2 => rw [bcs_length]; exact (Nat.min_eq_left (by omega)).symm
    case c3 => exact fun hp => (HB.out.alloc (Nat.le_refl _) _).news hp
    case c4 => simp [bcs_length]
    case c5 => exact (Below.refl _ _).alloc (Nat.le_refl _) _
    intro w1 H1 hb1
    rw [splice_bytes, show List.take 0 (List.replicate (l.length + k) (0 : UInt8)) ++ (l ++ List.drop (0 + l.length) (List.replicate (l.length + k) 0)) = l ++ List.replicate k 0 by simp] at H1
    have hO : Own w1 5 w.heap.size (l.length + k) (l ++ List.replicate k 0) := by
      have := Own.of_blk (w := w1) (g := w.heap.size) (e := 5) (l := l ++ List.replicate k 0) H1.out (by unfold maxLen; simp; omega)
      simpa using this
    have HO := Lib.hid hO
    have HB1 := Lib.hid hb1
    clear H1 hb1 hO
    rcases Nat.eq_zero_or_pos k with rfl | hp
    · go_wp2_with fail
      refine (digits_none _ _ _ _).mono ?_
      rintro e w2 ⟨⟨v, rfl⟩, rfl⟩
      go_wp2_with fail
      go_ret
      exact ⟨rfl, by simpa [digs] using HO.out, HB1.out⟩
    · have hne : ¬ k = 0 := by omega
      go_wp2_with fail
      refine (digits_any _ (l.length + k) _ _ _ M _ _ m0 m1 (by simp) (by simp; omega) HO.out).mono ?_
      rintro e w2 ⟨⟨v, rfl⟩, hO2, hK2⟩
      have HO2 := Lib.hid hO2
      have HK2 := Lib.hid hK2
      clear hO2 hK2
      go_wp2_with fail
      go_ret
      refine ⟨rfl, ?_, HB1.out.trans (HK2.out.below (Nat.le_of_lt HO.out.lt) (fun i h => by omega))⟩
      have := HO2.out
      simpa [fin] using this

theorem put_nil (k : Nat) (M : Int) (w : World) (m0 : 0 ≤ M) (m1 : M < 18446744073709551616) (k8 : k ≤ 8) :
    Calls Try.prog 9 #[.slice none 0 0, .int .u64 M, .int .i64 (k : Int)] w fun e w' => e = .returned (.slice (some ⟨w.heap.size, 0, none⟩) k k) ∧ Own w' 5 w.heap.size k (digs k M) ∧ Below w.heap.size w w' := by
  have := put_any none 0 k [] M k w (by simp) .nil m0 m1 (by omega)
  simpa using this
theorem bytesEqual_any (A C : Option Addr) (c d : Nat) (l m : List UInt8) (w : World) (hB : BS w w.heap.size A l) (hC : BS w w.heap.size C m) :
    Calls Try.prog 18 #[.slice A l.length c, .slice C m.length d] w fun e w' => e = .returned (.bool (l == m)) ∧ w = w' := by
  have h3 := hB.conv (P := Try.prog) (c := c) Try.underlying22 Try.underlying5 Try.underlying9
  have h4 := hC.conv (P := Try.prog) (c := d) Try.underlying22 Try.underlying5 Try.underlying9
  clear hB hC
  go_enter Try.func18, Try.ntmps18
  go_wp2_with fail
  go_ret
  exact ⟨rfl, rfl⟩
theorem equal_any (A C : Option Addr) (c d : Nat) (l m : List UInt8) (w : World) (hB : BS w w.heap.size A l) (hC : BS w w.heap.size C m) :
    Calls Try.prog 11 #[.slice A l.length c, .slice C m.length d] w fun e w' => e = .returned (.bool (l == m)) ∧ w = w' := by
  have H := Lib.hid (bytesEqual_any A C c d l m w hB hC)
  clear hB hC
  go_enter Try.func11, Try.ntmps11
  go_wp2_with fail
  refine H.out.mono ?_
  rintro e w' ⟨rfl, rfl⟩
  go_wp2_with fail
  go_ret
  exact ⟨rfl, rfl⟩
theorem set_no (A : Option Addr) (cap n : Nat) (at_ M sz : Int) (w : World) (h : sz < 1 ∨ (1 ≤ sz ∧ 8 < sz) ∨ (1 ≤ sz ∧ sz ≤ 8 ∧ at_ < 0) ∨ (1 ≤ sz ∧ sz ≤ 8 ∧ 0 ≤ at_ ∧ (n : Int) < sz) ∨ (1 ≤ sz ∧ sz ≤ 8 ∧ 0 ≤ at_ ∧ sz ≤ (n : Int) ∧ (n : Int) - sz < at_)) (hn : n ≤ 1000000) :
    Calls Try.prog 6 #[.slice A n cap, .int .i64 at_, .int .u64 M, .int .i64 sz] w fun e w' => e = .returned (.tuple #[.slice none 0 0, .int .i64 20]) ∧ w = w' := by
  rcases h with h | ⟨h1, h2⟩ | ⟨h1, h2, h3⟩ | ⟨h1, h2, h3, h4⟩ | ⟨h1, h2, h3, h4, h5⟩
  all_goals
    go_enter Try.func6, Try.ntmps6
    go_wp2_with fail
    go_ret2
    exact ⟨rfl, rfl⟩
theorem make_row1 (n : Nat) (W : World) (hn : n ≤ 10000000) :
    (Instr.makeSlice 22 (.int .i64 (n : Int)) (.int .i64 (n : Int))).run Try.prog W = .ok (.slice (some ⟨W.heap.size, 0, none⟩) n n) (W.alloc (.cells (madeCells #[.int .u8 0] n) 5)) := make_row n W n rfl hn

set_option maxHeartbeats 1000000 in
theorem set_ok (A : Option Addr) (cap at_ k : Nat) (l : List UInt8) (M : Int) (w : World) (hl : l.length ≤ 1000000) (hB : BS w w.heap.size A l) (m0 : 0 ≤ M) (m1 : M < 18446744073709551616) (k1 : 1 ≤ k) (k8 : k ≤ 8) (hat : at_ + k ≤ l.length) :
    Calls Try.prog 6 #[.slice A l.length cap, .int .i64 (at_ : Int), .int .u64 M, .int .i64 (k : Int)] w fun e w' => e = .returned (.tuple #[.slice (some ⟨w.heap.size, 0, none⟩) l.length l.length, .int .i64 0]) ∧ Own w' 5 w.heap.size l.length (fin l at_ k M) ∧ Below w.heap.size w w' := by
  have hmk := fun W => make_row1 l.length W (by omega)
  have hsz : (Try.prog.info? 5).map (·.size) = some 1 := by kernel_rfl
  have HB := Lib.hid hB
  clear hB
  have hne : ¬ l.length = at_ := by omega
  go_enter Try.func6, Try.ntmps6
  go_wp2_with (refine wpList_copy_splice rfl (.tmp 38) (.tmp 39) 22 22 rfl 5 Try.underlying22 hsz (some ⟨w.heap.size, 0, none⟩) A l.length l.length l.length cap rfl rfl w.heap.size 0 (bcs (List.replicate l.length 0)) 5 ?c1 (bcs l) ?c2 ?c3 ?c4 (bcs_one l) w.heap.size w ?c5 (Nat.le_refl _) ?_)
  case c1 => rw [madeCells_bytes]; exact Blk.new_ rfl _ _
  case c2 => rw [bcs_length]; exact (Nat.min_eq_left (by omega)).symm
  case c3 => exact fun hp => (HB.out.alloc (Nat.le_refl _) _).news hp
  case c4 => simp [bcs_length]
  case c5 => exact (Below.refl _ _).alloc (Nat.le_refl _) _
  intro w1 H1 hb1
  rw [splice_bytes, show List.take 0 (List.replicate l.length (0 : UInt8)) ++ (l ++ List.drop (0 + l.length) (List.replicate l.length 0)) = l by simp] at H1
  have hO : Own w1 5 w.heap.size l.length l := Own.of_blk H1.out (by unfold maxLen; omega)
  have hw1 := hO.lt
  have HO := Lib.hid hO
  have HB1 := Lib.hid hb1
  clear H1 hb1 hO
  go_wp2_with fail
  refine wp_region_kept 6 [(5, fun v u => ∃ g, v = .slice (some ⟨g, 0, none⟩) k k ∧ w.heap.size < g ∧ Own u 5 g k (digs k M))] ?st ?ne rfl (by kernel_rfl) (by kernel_rfl) ?_
  case st =>
    intro p hp
    simp at hp
    subst hp
    rintro v u u' ⟨g, rfl, hg, ho⟩ hk
    exact ⟨g, rfl, hg, ho.kept hk (fun h => h)⟩
  case ne =>
    intro p hp
    simp at hp
    subst hp
    have := (put_nil k M w1 m0 m1 k8)
    obtain ⟨e, u, rfl, hO, hb⟩ := calls_some this
    exact ⟨_, u, Kept.ofB hb, w1.heap.size, rfl, hw1, hO⟩
  simp only [List.take_succ_cons, List.take_zero, List.drop_succ_cons, List.drop_zero]
  intro G pick hR hp1 hp2
  repeat (refine wpR_det hp2 rfl ((hR.rel _).trans rfl) rfl ?_; intro K hK; go_big_quiet_op; go_big_quiet_on)
  refine wpR_rel pick rfl ((hR.rel _).trans rfl) ((hR.turns _).trans rfl) ?_ ?_
  · intro u hu
    have hk := hR.since hu.1
    have hs := hk.size
    unfold relAt
    go_simp
    refine (put_nil k M u m0 m1 k8).mono ?_
    rintro e w' ⟨rfl, hO, hb⟩
    exact ⟨_, rfl, hR.intoB hb, hR.said (Said.at_cons (fun _ => ⟨_, rfl, by omega, hO⟩) Said.at_nil)⟩
  · intro v hv
    obtain ⟨u, _, hu⟩ := hv
    obtain ⟨g, rfl, hg, _⟩ := hR.tell hu _ (List.mem_cons_self ..) rfl
    clear hu
    intro K hK
    go_big_quiet_op
    go_big_quiet_on
    refine wpR_nil ?_
    intro w2 hk2 hF hM
    obtain ⟨g', e, -, hO2⟩ := hR.tell (hF _ _ (Got.upd_self _ _ _)) _ (List.mem_cons_self ..) rfl
    obtain rfl : g = g' := by injection e with e; injection e with e; injection e
    have HO2 := Lib.hid hO2
    have HO1 := Lib.hid (HO.out.kept hk2 (fun h => h))
    have HB2 := Lib.hid (HB1.out.trans (hk2.below (Nat.le_of_lt hw1) (fun i h => h.elim)))
    clear hO2 hF hk2 e hM
    go_wp2_with (refine wpList_copy_splice rfl (.tmp 43) (.tmp 46) 22 22 rfl 5 Try.underlying22 hsz (some ⟨w.heap.size, at_, none⟩) (some ⟨g, 0, none⟩) (l.length - at_) (l.length - at_) k k rfl rfl w.heap.size at_ (bcs l) 5 ?d1 (bcs (digs k M)) ?d2 ?d3 ?d4 (bcs_one _) w.heap.size w ?d5 (Nat.le_refl _) ?_)
    case d1 => exact HO1.out.full
    case d2 => rw [bcs_length, digs_length]; exact (Nat.min_eq_left (by omega)).symm
    case d3 => exact fun hp j v hj => by simpa [Addr.add_lit] using HO2.out.bytes.news j v hj
    case d4 => simp [bcs_length, digs_length]; omega
    case d5 => exact HB2.out
    intro w3 H3 hb3
    rw [splice_bytes, digs_length] at H3
    have hO3 : Own w3 5 w.heap.size l.length (fin l at_ k M) := by
      have := Own.of_blk (l := fin l at_ k M) H3.out (by rw [fin_length _ _ _ _ hat]; unfold maxLen; omega)
      rwa [fin_length _ _ _ _ hat] at this
    have HO3 := Lib.hid hO3
    have HB3 := Lib.hid hb3
    clear H3 hb3 hO3
    go_wp2_with fail
    go_ret2
    exact ⟨rfl, HO3.out, HB3.out⟩
end Go.Proofs.Ytncejkmjognmlaa
