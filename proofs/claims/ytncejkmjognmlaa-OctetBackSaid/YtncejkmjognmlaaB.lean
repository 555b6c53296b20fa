/- Contracts of the reference's Bytes, Set, Join. -/
import Derived.Test.YtncejkmjognmlaaA
import Derived.OwnWalk
import Derived.Deep.LoopGhost
namespace Go.Proofs.Ytncejkmjognmlaa
open Go.RowKit
set_option linter.unusedVariables false

set_option maxHeartbeats 1000000 in
theorem refBytes_any (k : Nat) (M sz : Int) (w : World) (m0 : 0 ≤ M) (m1 : M < 18446744073709551616) (hk : (k : Int) = max 0 (min sz 8)) :
    Calls Try.prog 8 #[.int .u64 M, .int .i64 sz] w fun e w' => e = .returned (.slice (some ⟨w.heap.size, 0, none⟩) k k) ∧ Own w' 5 w.heap.size k (digs k M) ∧ Below w.heap.size w w' := by
  have k8 : k ≤ 8 := by omega
  have hmk := fun W => make_row1 k W (by omega)
  obtain ⟨y, hy⟩ : ∃ y, y = max sz 0 := ⟨_, rfl⟩
  have y0 : 0 ≤ y := by omega
  have HK := Lib.hid (show (k : Int) = min y 8 by omega)
  have HY := Lib.hid hy
  clear hk hy
  go_enter Try.func8, Try.ntmps8
  go_upto_if 8 with fail
  go_cut [1] (fun s wx => s = .int .i64 y ∧ w = wx)
  case first =>
    go_wp2_with fail
    all_goals
      go_meet
      have := HY.out
      exact ⟨congrArg (Value.int .i64) (by omega), rfl⟩
  case rest =>
    obtain ⟨rfl, rfl⟩ := hcut
    go_upto_if 10 with fail
    go_cut [1] (fun s wx => s = .int .i64 (k : Int) ∧ w = wx)
    case first =>
      go_wp2_with fail
      all_goals
        go_meet
        have := HK.out
        exact ⟨congrArg (Value.int .i64) (by omega), rfl⟩
    case rest =>
      obtain ⟨rfl, rfl⟩ := hcut
      go_wp2_with fail
      go_loopw [0, 6] (fun m i wr => ∃ (j : Nat) (M' : Int) (l' : List UInt8), j ≤ k ∧ i = .int .i64 ((j : Int) - 1) ∧ m = .int .u64 M' ∧ 0 ≤ M' ∧ M' < 18446744073709551616 ∧ Hid (l'.length = k) ∧ Hid (Own wr 5 w.heap.size k l') ∧ Hid (fin l' 0 j M' = digs k M) ∧ Hid (Kept (fun i => w.heap.size ≤ i) w wr)) (fun _ i _ => (intOf i + 1).toNat)
      case atStart =>
        refine ⟨k, M, List.replicate k 0, by omega, rfl, rfl, m0, m1, Lib.hid (by simp), Lib.hid ?_, Lib.hid (by simp [fin]), Lib.hid ((Kept.refl _ _).alloc _)⟩
        have := Own.of_blk (w := w.alloc (.cells (madeCells #[.int .u8 0] k) 5)) (g := w.heap.size) (e := 5) (l := List.replicate k 0) (by rw [madeCells_bytes]; exact Blk.new _ _ _) (by unfold maxLen; simp; omega)
        simpa using this
      case round =>
        obtain ⟨j, M', l', hj, rfl, rfl, k0, k1, HL, HW, HF, HKK⟩ := hrel
        rcases Nat.eq_zero_or_pos j with rfl | hp
        · rw [show ((0 : Nat) : Int) - 1 = -1 from rfl]
          go_wp2
          go_ret
          exact ⟨rfl, by rw [← HF.out, fin_zero]; exact HW.out, HKK.out.below (Nat.le_refl _) (fun _ h => h)⟩
        · obtain ⟨j, rfl⟩ : ∃ k, j = k + 1 := ⟨j - 1, by omega⟩
          rw [show ((j + 1 : Nat) : Int) - 1 = (j : Int) by omega]
          have hlt : 0 + j < l'.length := by rw [HL.out]; omega
          have hlt' : j < l'.length := by rw [HL.out]; omega
          have c1 := HW.out.cell hlt'
          have f1 := HW.out.frozen j
          have jI : (j : Int) < (k : Int) := by omega
          go_wp2
          go_roundw
          case rel =>
            go_light
            refine ⟨j, M' / 256, l'.set j (b8 M'), by omega, rfl, rfl, by omega, by omega, Lib.hid (by rw [List.length_set]; exact HL.out), Lib.hid (by rw [← b8_val]; exact HW.out.set _ _), Lib.hid ?_, Lib.hid (HKK.out.setNew (Nat.le_refl _))⟩
            have := fin_step l' 0 j M' hlt
            rw [Nat.zero_add] at this
            rw [this, HF.out]
          case measure => simp [intOf]
theorem Try.info5 : (Try.prog.info? 5).map (fun i => (i.zero, i.size, i.bytes)) = some (some (.int .u8 0), 1, 1) := by kernel_rfl

set_option maxHeartbeats 1000000 in
theorem refSet_any (A C : Option Addr) (c d off : Nat) (l x : List UInt8) (w : World) (hl : l.length ≤ 1000000) (hB : BS w w.heap.size A l) (hC : BS w w.heap.size C x) (hoff : off + x.length ≤ l.length) (h0 : 0 < x.length) :
    Calls Try.prog 7 #[.slice A l.length c, .int .i64 (off : Int), .slice C x.length d] w fun e w' => ∃ v, e = .returned v ∧ Byt w' v (over l off x) ∧ Below w.heap.size w w' := by
  obtain ⟨b', o', hb', rfl, hC'⟩ := hC.at (k := 0) h0
  have HB := Lib.hid hB
  have HC := Lib.hid hC'
  have h5 := Try.info5
  clear hB hC hC'
  go_enter Try.func7, Try.ntmps7
  go_wp2_with (at_builtin; refine wpList_append_row rfl (.tmp 9) (.tmp 10) 22 rfl w.heap.size 5 (.int .u8 0) 1 Try.underlying22 h5 rfl _ [] rfl A l.length c (bcs l) rfl (bcs_length l).symm ?a1 ?a2 (bcs_one l) ?a3 ?a4 ?a5 ?_)
  case a1 => exact Row.of_blk (cs := #[]) (Blk.new_ rfl _ _) (Nat.le_refl _) (by simp) rfl
  case a2 => exact (HB.out.alloc (Nat.le_refl _) _).src
  case a3 => rw [bcs_length]; unfold maxLen; simp; omega
  case a4 => rw [bcs_length]; simp; omega
  case a5 => simp
  intro v1 w1 hrow hgr _
  obtain ⟨g, cap, rfl, hg, hglt, _⟩ := hrow.at (i := 0) (by simp [bcs_length]; omega)
  rw [bcs_length] at hrow ⊢
  obtain ⟨hO, -, -⟩ := hrow.own
  have hb1 : Below w.heap.size w w1 := ((Below.refl _ _).alloc (Nat.le_refl _) _).trans (below_grown hgr (fun i e => by simp [Value.ownBlock] at e; omega) (by simp))
  have hs1 := hb1.size
  have HO := Lib.hid hO
  have HB1 := Lib.hid hb1
  clear hrow hgr hO hb1
  go_wp2_with fail
  go_loopw [8] (fun i wr => ∃ k : Nat, k ≤ x.length ∧ i = .int .i64 (k : Int) ∧ Hid (Own wr 5 g cap (over l off (x.take k))) ∧ Hid (Below w.heap.size w wr)) (fun i _ => x.length - (intOf i).toNat)
  case atStart => exact ⟨0, by omega, rfl, by rw [over_zero]; exact HO, HB1⟩
  case round =>
    obtain ⟨k, hk, rfl, HW, HBW⟩ := hrel
    by_cases hlt : k < x.length
    · have hx1 : (x.take k).length = k := by simp; omega
      have hol : off + k < (over l off (x.take k)).length := by rw [over_length _ _ _ (by omega)]; omega
      have c1 := HW.out.cell hol
      have f1 := HW.out.frozen (off + k)
      have c2 := (HBW.out.cell (p := ⟨b', o' + k, none⟩) hb').trans (HC.out k hlt)
      have kI : (k : Int) < (x.length : Int) := by omega
      have oI : (off : Int) + (k : Int) < (l.length : Int) := by omega
      clear hx1
      go_wp2
      go_roundw
      case rel =>
        go_light
        refine ⟨k + 1, by omega, by go_num, Lib.hid ?_, Lib.hid (HBW.out.setCell hg _)⟩
        rw [← over_step l off x k hlt hoff]
        exact HW.out.set _ _
      case measure => simp [intOf]; omega
    · go_wp2
      go_ret
      obtain rfl : k = x.length := by omega
      have := HW.out.byt
      rw [List.take_of_length_le (Nat.le_refl _), over_length _ _ _ hoff] at this
      exact ⟨_, rfl, this, HBW.out⟩

/-- Slices of bytes in a row. -/
def Bys (w : World) (g : Nat) (vs : List Value) (ls : List (List UInt8)) : Prop := vs.length = ls.length ∧ g < w.heap.size ∧ ∀ k (h : k < vs.length) (h' : k < ls.length), w.cell? ⟨g, k, none⟩ = some vs[k] ∧ Byt w vs[k] ls[k]
theorem flat_take (ls : List (List UInt8)) (k : Nat) (h : k < ls.length) : (ls.take (k + 1)).flatten = (ls.take k).flatten ++ ls[k] := by
  rw [List.take_succ_eq_append_getElem h, List.flatten_append, List.flatten_singleton]
theorem flat_le (ls : List (List UInt8)) (k : Nat) : (ls.take k).flatten.length ≤ ls.flatten.length := by
  have : ls.flatten = (ls.take k).flatten ++ (ls.drop k).flatten := by rw [← List.flatten_append, List.take_append_drop]
  rw [this, List.length_append]
  omega
set_option maxHeartbeats 1000000 in
theorem refJoin_any (g c : Nat) (vs : List Value) (ls : List (List UInt8)) (w : World) (hv : Bys w g vs ls) (hl : vs.length ≤ 1000000) (hf : ls.flatten.length ≤ 1000000) :
    Calls Try.prog 10 #[.slice (some ⟨g, 0, none⟩) vs.length c] w fun e w' => ∃ v, e = .returned v ∧ Byt w' v ls.flatten ∧ Below w.heap.size w w' := by
  have h5 := Try.info5
  have hlen := Lib.hid hv.1
  have hgl := hv.2.1
  have HV := Lib.hid hv.2.2
  clear hv
  go_enter Try.func10, Try.ntmps10
  go_wp2_with fail
  go_loopw [3, 4] (fun v i wr => ∃ k : Nat, k ≤ vs.length ∧ i = .int .i64 (k : Int) ∧ Hid (Row wr w.heap.size 5 v (bcs (ls.take k).flatten)) ∧ Hid (Below w.heap.size w wr)) (fun _ i _ => vs.length - (intOf i).toNat)
  case atStart => exact ⟨0, by omega, rfl, Lib.hid (Row.nil _ _ _), Lib.hid (Below.refl _ _)⟩
  case round =>
    obtain ⟨k, hk, rfl, HW, HBW⟩ := hrel
    by_cases hlt : k < vs.length
    · have hlt' : k < ls.length := by rw [← hlen.out]; exact hlt
      obtain ⟨hc, hb⟩ := HV.out k hlt hlt'
      obtain ⟨A, c', hvk, h1, h2, hbs⟩ := hb
      rw [hvk] at hc
      have c1 := (HBW.out.cell (p := ⟨g, k, none⟩) hgl).trans hc
      have HBS := Lib.hid (hbs.onB HBW.out (Nat.le_refl _))
      have kI : (k : Int) < (vs.length : Int) := by omega
      have hsw := HBW.out.size
      have hfl := flat_le ls (k + 1)
      rw [flat_take ls k hlt', List.length_append] at hfl
      clear hc hvk hbs
      obtain ⟨vA, vc, hve, _⟩ := HW.out.shape
      subst hve
      go_wp2_with (at_builtin; refine wpList_append_row rfl (.tmp 11) (.tmp 15) 22 rfl w.heap.size 5 (.int .u8 0) 1 Try.underlying22 h5 rfl _ (bcs (ls.take k).flatten) rfl A ls[k].length c' (bcs ls[k]) rfl (bcs_length _).symm HW.out HBS.out.src (bcs_one _) ?a3 ?a4 ?a5 ?_)
      case a3 => rw [bcs_length, bcs_length]; unfold maxLen; omega
      case a4 => rw [bcs_length, bcs_length]; omega
      case a5 => exact hsw
      intro v1 w1 hrow hgr _
      have HR1 := Lib.hid (show Row w1 w.heap.size 5 v1 (bcs (ls.take (k + 1)).flatten) by rw [flat_take ls k hlt', bcs_append]; exact hrow)
      have HB1 := Lib.hid (HBW.out.trans (below_grown hgr (fun i e => (HW.out.lt i e).1) hsw))
      clear hrow hgr
      go_wp2_with fail
      go_roundw
      case rel => exact ⟨k + 1, by omega, by go_num, HR1, HB1⟩
      case measure => simp [intOf]; omega
    · go_wp2
      go_ret
      obtain rfl : k = vs.length := by omega
      have := HW.out.byt
      rw [hlen.out, List.take_of_length_le (Nat.le_refl _)] at this
      exact ⟨_, rfl, this, HBW.out⟩
end Go.Proofs.Ytncejkmjognmlaa
