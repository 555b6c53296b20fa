/- slices.Grow and slices.Concat at bytes. -/
import Derived.Test.YtohimionlgaaoaaRows
import Derived.Test.YtohimionlgaaoaaBytesB
import Derived.Test.YtohimionlgaaoaaRgW
import Derived.Test.YtohimionlgaaoaaRefJoin
import Derived.Outline
import Derived.Deep.Light
import Derived.Deep.DeepCutAuto
import Derived.Deep.LoopGhost
import Derived.Lib.SliceRun
import Derived.RegionTactic
import Derived.BigRegion
namespace Go.Proofs.Ytohimionlgaaoaa
open Go.RowKit
set_option linter.unusedVariables false

/-- 'append(nil, make([]E, n)...)'. -/
theorem run_append_make {P : Program} (w : World) (t tx ty e : TypeId) (i : TypeInfo) (z : Value) (ht : P.underlying t = some (.slice e)) (hx : P.underlying tx = some (.int .i64)) (hi : P.info? e = some i) (hz : i.zero = some z) (hs : i.size = 1) (hb : i.bytes = 1) (hzs : z.cells.size = 1)
    (n : Nat) (h0 : 0 < n) (hn : n ≤ 1000000) :
    (Builtin.append_ #[t, tx] ty #[.slice none 0 0, .int .i64 (n : Int)]).run P w =
      .ok (.slice (some ⟨w.heap.size, 0, none⟩) n (grownCap w n 0 e)) (w.drew.alloc (.cells (Builtin.zeroCells z.cells n ++ Builtin.zeroCells z.cells (grownCap w n 0 e - n)) e)) := by
  have hw : IntKind.i64.wrap (n : Int) = (n : Int) := IntWalk.i64_in _ (by omega)
  have n0 : n ≠ 0 := by omega
  have h1 : ¬ ((n : Int) < 0) := by omega
  have h2 : ¬ (281474976710656 < (n : Int)) := by omega
  have h63' : ¬ (9223372036854775807 < (n : Int)) := by omega
  have h48' : ¬ (281474976710656 < Builtin.nextslicecap n 0) := by rw [nextslicecap_zero h0]; omega
  simp [Builtin.append_, run_underlying ht, run_underlying hx, sizeOf, typeInfo, zeroValue, hi, hz, hs, hb, asInt, asIntOf, hw, h1, h2, n0, h63', h48', Question.forced, Builtin.firstCells, newRow, grownCap]
theorem wpList_append_make {P : Program} {w : World} {ops : Array Oper} {rest : List Oper} {o : Oper} {a : Act} {Q : Exit → Act → World → Prop} (hgd : o.guard = none) (s x : Operand) (t tx : TypeId)
    (ho : o.op = .call { callee := .builtin .append, args := #[s, x], argTypes := #[t, tx] }) (e : TypeId) (z : Value) (ht : P.underlying t = some (.slice e)) (hx : P.underlying tx = some (.int .i64)) (hinfo : (P.info? e).map (fun i => (i.zero, i.size, i.bytes)) = some (some z, 1, 1)) (hzs : z.cells.size = 1)
    (n : Nat) (h0 : 0 < n) (hn : n ≤ 1000000) (hs : a.eval s = .slice none 0 0) (hx' : a.eval x = .int .i64 (n : Int))
    (h : ∀ cap w', n ≤ cap → cap ≤ maxLen → Row w' w.heap.size e (.slice (some ⟨w.heap.size, 0, none⟩) 0 cap) [] → Below w.heap.size w w' → wpList P ops Q rest (a.put o.dst (.slice (some ⟨w.heap.size, 0, none⟩) n cap)) w') : wpList P ops Q (o :: rest) a w := by
  refine wpList_plain hgd fun K hK => ?_
  obtain ⟨i, hi, hzz⟩ := Option.map_eq_some_iff.1 hinfo
  injection hzz with hz hzz
  injection hzz with hz1 hz2
  have hr := run_append_make (P := P) w t tx o.type e i z ht hx hi hz hz1 hz2 hzs n h0 hn
  have hge := grownCap_ge w n 0 e
  have hcm := grownCap_le_maxLen w n 0 e (by unfold maxLen; omega)
  unfold Oper.wp execOp
  simp only [ho, resolve, invoke, builtin, Sem.run_bind, Sem.run_pure, Result.andThen_ok, List.map_toArray, List.map_cons, List.map_nil, hs, hx']
  rw [hr]
  refine hK _ _ (h _ _ hge hcm ?_ ?_)
  · refine ⟨by simp, .inr ⟨w.heap.size, _, _, rfl, Nat.le_refl _, heap_alloc_new w.drew _, by simp, hcm, ?_, by simp⟩⟩
    simp only [Array.size_append, size_zeroCells, hzs]
    omega
  · exact ((Below.refl _ _).drew).alloc (Nat.le_refl _) _
theorem slGrow_any (n : Nat) (w : World) (hn : n ≤ 1000000) : Calls Try.prog 30 #[.slice none 0 0, .int .i64 (n : Int)] w fun e w' => ∃ v, e = .returned v ∧ Row w' w.heap.size 5 v [] ∧ Below w.heap.size w w' := by
  by_cases h0 : n = 0
  · subst h0
    go_enter Try.func30, Try.ntmps30
    go_wp2_with fail
    go_ret
    exact ⟨_, rfl, Row.nil _ _ _, Below.refl _ _⟩
  · have hnI : (0 : Int) < (n : Int) := by omega
    have h5 := Try.info5j
    go_enter Try.func30, Try.ntmps30
    go_wp2_with (at_builtin; refine wpList_append_make rfl (.tmp 20) (.tmp 21) 25 3 rfl 5 (.int .u8 0) Try.underlying25 Try.underlying3 h5 rfl n (by omega) hn rfl rfl ?_)
    intro cap w1 hc1 hc2 hrow hb
    have HR := Lib.hid hrow
    have HB := Lib.hid hb
    unfold maxLen at hc2
    clear hrow hb
    go_wp2_with fail
    go_ret
    exact ⟨_, rfl, HR.out, HB.out⟩
theorem slConcat_any (g c : Nat) (vs : List Value) (ls : List (List UInt8)) (w : World) (hv : Bys w g vs ls) (hl : vs.length ≤ 100000) (hf : ls.flatten.length ≤ 1000000) :
    Calls Try.prog 21 #[.slice (some ⟨g, 0, none⟩) vs.length c] w fun e w' => ∃ v, e = .returned v ∧ Byt w' v ls.flatten ∧ Below w.heap.size w w' := by
  have h5 := Try.info5j
  have hlen := Lib.hid hv.1
  have hgl := hv.2.1
  have HV := Lib.hid hv.2.2
  clear hv
  go_enter Try.func21, Try.ntmps21
  go_wp2_with fail
  go_loop [3, 5, 11] (fun n _ i => ∃ k : Nat, k ≤ vs.length ∧ i = .int .i64 (k : Int) ∧ n = .int .i64 (((ls.take k).flatten.length : Nat) : Int)) (fun _ _ i => vs.length - (intOf i).toNat)
  case atStart => exact ⟨0, by omega, rfl, rfl⟩
  case round =>
    obtain ⟨k, hk, rfl, rfl⟩ := hrel
    by_cases hlt : k < vs.length
    · have hlt' : k < ls.length := by rw [← hlen.out]; exact hlt
      obtain ⟨hc, hb⟩ := HV.out k hlt hlt'
      obtain ⟨A, c', hvk, h1, h2, hbs⟩ := hb
      rw [hvk] at hc
      have kI : (k : Int) < (vs.length : Int) := by omega
      have hfl := flat_le ls (k + 1)
      have hft := flat_take ls k hlt'
      rw [hft, List.length_append] at hfl
      have HFT := Lib.hid (show (ls.take (k + 1)).flatten.length = (ls.take k).flatten.length + ls[k].length by rw [hft, List.length_append])
      clear hvk hbs hft h2
      obtain ⟨m, hm⟩ : ∃ m, (ls.take k).flatten.length = m := ⟨_, rfl⟩
      obtain ⟨q, hq⟩ : ∃ q, ls[k].length = q := ⟨_, rfl⟩
      rw [hm] at hfl HFT ⊢
      rw [hq] at hfl HFT hc
      clear hm hq h1
      go_wp2_with fail
      go_round
      case rel => exact ⟨k + 1, by omega, by go_num, by rw [HFT.out]; go_num⟩
      case measure => simp [intOf]; omega
    · obtain rfl : k = vs.length := by omega
      have hfn : (ls.take vs.length).flatten = ls.flatten := by rw [hlen.out, List.take_of_length_le (Nat.le_refl _)]
      rw [hfn]
      clear hfn
      obtain ⟨m, hm⟩ : ∃ m, ls.flatten.length = m := ⟨_, rfl⟩
      have HM := Lib.hid hm
      rw [hm] at hf ⊢
      clear hm
      go_wp2_with fail
      refine (slGrow_any m w hf).mono ?_
      rintro e w0 ⟨v0, rfl, hrow0, hb0⟩
      have HR0 := Lib.hid hrow0
      have HB0 := Lib.hid hb0
      clear hrow0 hb0
      go_wp2_with fail
      go_loopw [6, 8, 27] (fun v _ i wr => ∃ k : Nat, k ≤ vs.length ∧ i = .int .i64 (k : Int) ∧ Hid (Row wr w.heap.size 5 v (bcs (ls.take k).flatten)) ∧ Hid (Below w.heap.size w wr)) (fun _ _ i _ => vs.length - (intOf i).toNat)
      case atStart => exact ⟨0, by omega, rfl, HR0, HB0⟩
      case round =>
        obtain ⟨k, hk, rfl, HW, HBW⟩ := hrel
        by_cases hlt : k < vs.length
        · have hlt' : k < ls.length := by rw [← hlen.out]; exact hlt
          obtain ⟨hc, hb⟩ := HV.out k hlt hlt'
          obtain ⟨A, c', hvk, h1, h2, hbs⟩ := hb
          rw [hvk] at hc
          have c1 := (HBW.out.cell (p := ⟨g, k, none⟩) hgl).trans hc
          have HBS := Lib.hid (hbs.onB HBW.out (Nat.le_refl _))
          have kI : (k : Int) < (vs.length : Int) := by omega
          have hsw := HBW.out.size
          have hfl := flat_le ls (k + 1)
          rw [flat_take ls k hlt', List.length_append, HM.out] at hfl
          clear hc hvk hbs
          obtain ⟨vA, vc, hve, _⟩ := HW.out.shape
          subst hve
          go_wp2_with (at_builtin; refine wpList_append_row rfl (.tmp 31) (.tmp 32) 25 rfl w.heap.size 5 (.int .u8 0) 1 Try.underlying25 h5 rfl _ (bcs (ls.take k).flatten) rfl A ls[k].length c' (bcs ls[k]) rfl (bcs_length _).symm HW.out HBS.out.src (bcs_one _) ?a3 ?a4 ?a5 ?_)
          case a3 => rw [bcs_length, bcs_length]; unfold maxLen; omega
          case a4 => rw [bcs_length, bcs_length]; omega
          case a5 => exact hsw
          intro v1 w1 hrow hgr _
          have HR1 := Lib.hid (show Row w1 w.heap.size 5 v1 (bcs (ls.take (k + 1)).flatten) by rw [flat_take ls k hlt', bcs_append]; exact hrow)
          have HB1 := Lib.hid (HBW.out.trans (below_grown hgr (fun i e => (HW.out.lt i e).1) hsw))
          clear hrow hgr
          go_wp2_with fail
          go_roundw
          case rel => exact ⟨k + 1, by omega, by go_num, HR1, HB1⟩
          case measure => simp [intOf]; omega
        · have hkI : ¬ (k : Int) < (vs.length : Int) := by omega
          go_wp2_with fail
          go_ret
          obtain rfl : k = vs.length := by omega
          have := HW.out.byt
          rw [hlen.out, List.take_of_length_le (Nat.le_refl _)] at this
          exact ⟨_, rfl, this, HBW.out⟩
end Go.Proofs.Ytohimionlgaaoaa
