/- capture.Open, walked. -/
import Derived.Test.YtohimionlgaaoaaF
import Derived.Test.YtohimionlgaaoaaOctEqual
namespace Go.Proofs.Ytohimionlgaaoaa
open Go.RowKit
set_option linter.unusedVariables false
theorem results_blk_tmp2 {P : Program} {fn : Func} {p u v : Tmp} {ty : TypeId} (h : fn.results = #[.cell p ty, .tmp u, .tmp v]) (tmps : Array Value) (w : World) (g : Nat) (t : TypeId) (cs : Array Value) (d : TypeDesc)
    (hp : tmps.getD p undef = .pointer (some ⟨g, 0, none⟩)) (hg : Blk w g t cs)
    (hu : P.underlying ty = some d) (hd : (match d with | .struct _ | .array _ _ => true | _ => false) = true) (hi : (P.info? ty).map (·.size) = some cs.size) :
    (results fn tmps).run P w = .ok (.tuple #[.agg cs, tmps.getD u undef, tmps.getD v undef]) w := by
  have e : (results fn tmps).run P w =
      ((asAddr (tmps.getD p undef)).run P w).andThen fun a w₁ => ((loadVar ty a).run P w₁).andThen fun x w₂ => .ok (.tuple #[x, tmps.getD u undef, tmps.getD v undef]) w₂ := by
    simp only [results, h]
    simp [Sem.run_bind, Result.andThen]
  rw [e, hp]
  simp [asAddr, run_loadVar_row w g t ty cs (0, 0) d hg hu hd hi, Result.andThen]
theorem idx0 (w : World) : (Instr.index 60 (.agg #[.bool false, .bool false, .int .u32 0, .int .u32 0, .bool false, .bool true, .int .u32 0, .int .u32 0, .bool true, .bool false, .int .u32 0, .int .u32 0, .bool true, .bool true, .int .u32 0, .int .u32 0]) (.int .i64 0)).run Try.prog w = .ok (.agg #[.bool false, .bool false, .int .u32 0, .int .u32 0]) w := by
  simp [Instr.index, run_underlying Try.underlying60, asIntOf, go_sem]
theorem idx1 (w : World) : (Instr.index 60 (.agg #[.bool false, .bool false, .int .u32 0, .int .u32 0, .bool false, .bool true, .int .u32 0, .int .u32 0, .bool true, .bool false, .int .u32 0, .int .u32 0, .bool true, .bool true, .int .u32 0, .int .u32 0]) (.int .i64 1)).run Try.prog w = .ok (.agg #[.bool false, .bool true, .int .u32 0, .int .u32 0]) w := by
  simp [Instr.index, run_underlying Try.underlying60, asIntOf, go_sem]
theorem idx2 (w : World) : (Instr.index 60 (.agg #[.bool false, .bool false, .int .u32 0, .int .u32 0, .bool false, .bool true, .int .u32 0, .int .u32 0, .bool true, .bool false, .int .u32 0, .int .u32 0, .bool true, .bool true, .int .u32 0, .int .u32 0]) (.int .i64 2)).run Try.prog w = .ok (.agg #[.bool true, .bool false, .int .u32 0, .int .u32 0]) w := by
  simp [Instr.index, run_underlying Try.underlying60, asIntOf, go_sem]
theorem idx3 (w : World) : (Instr.index 60 (.agg #[.bool false, .bool false, .int .u32 0, .int .u32 0, .bool false, .bool true, .int .u32 0, .int .u32 0, .bool true, .bool false, .int .u32 0, .int .u32 0, .bool true, .bool true, .int .u32 0, .int .u32 0]) (.int .i64 3)).run Try.prog w = .ok (.agg #[.bool true, .bool true, .int .u32 0, .int .u32 0]) w := by
  simp [Instr.index, run_underlying Try.underlying60, asIntOf, go_sem]
/-- Bytes begin with the head of such a file. -/
def okF (sm na : Bool) (b : List UInt8) : Prop := headL sm na (ofL sm ((b.drop 16).take 4)) (ofL sm ((b.drop 20).take 4)) = b.take 24
/-- The files in the order in which Open tries them. -/
def fileSm (k : Nat) : Bool := decide (2 ≤ k)
def fileNa (k : Nat) : Bool := decide (k % 2 = 1)
def OpenP (b : List UInt8) (w : World) (e : Ending) (w' : World) : Prop :=
  (b.length < 24 ∧ e = .returned (.tuple #[.agg #[.bool false, .bool false, .int .u32 0, .int .u32 0], .slice none 0 0, .int .i64 20])) ∨
  (∃ sm na, okF sm na b ∧ ∃ v, e = .returned (.tuple #[.agg #[.bool sm, .bool na, .int .u32 (ofL sm ((b.drop 16).take 4)), .int .u32 (ofL sm ((b.drop 20).take 4))], v, .int .i64 0]) ∧ Row w' w.heap.size 5 v (bcs (b.drop 24))) ∨
  (24 ≤ b.length ∧ (∀ sm na, ¬ okF sm na b) ∧ e = .returned (.tuple #[.agg #[.bool false, .bool false, .int .u32 0, .int .u32 0], .slice none 0 0, .int .i64 21]))
set_option maxRecDepth 10000 in
set_option maxHeartbeats 16000000 in
theorem openC_any (A : Option Addr) (c : Nat) (b : List UInt8) (w : World) (hl : b.length ≤ 100000) (hc : b.length ≤ c) (hcm : c ≤ maxLen) (hB : BS w w.heap.size A b) :
    Calls Try.prog 15 #[.slice A b.length c] w fun e w' => OpenP b w e w' ∧ Below w.heap.size w w' := by
  have HB := Lib.hid hB
  have HC := Lib.hid (show b.length ≤ c ∧ c ≤ maxLen from ⟨hc, hcm⟩)
  unfold maxLen at hcm
  clear hB
  go_enter Try.func15, Try.ntmps15
  go_upto_region 1 with fail
  obtain ⟨w1, hw1⟩ : ∃ w1 : World, w1 = w.alloc (.cells #[.bool false, .bool false, .int .u32 0, .int .u32 0] 29) := ⟨_, rfl⟩
  have HR1 := Lib.hid (show Blk w1 w.heap.size 29 #[.bool false, .bool false, .int .u32 0, .int .u32 0] by rw [hw1]; exact Blk.new _ _ _)
  have HK1 := Lib.hid (show Kept (fun _ => False) w w1 by rw [hw1]; exact (Kept.refl _ _).alloc _)
  rw [← hw1]
  clear hw1
  obtain ⟨rb, hrb⟩ : ∃ rb, w.heap.size = rb := ⟨_, rfl⟩
  have HRB := Lib.hid hrb
  rw [hrb] at HR1 ⊢
  clear hrb
  by_cases h24 : 24 ≤ b.length
  · have i1 : ¬ (b.length : Int) < 24 := by omega
    have i2 : (24 : Int) ≤ (c : Int) := by omega
    have H24 := Lib.hid (show (b.take 24).length = 24 by rw [List.length_take]; omega)
    obtain ⟨bb, o, hbb, rfl, hby⟩ := HB.out.at (k := 0) (by omega)
    clear hby
    go_wp2_with fail
    go_loopw [19] (fun i wr => ∃ k : Nat, k ≤ 4 ∧ i = .int .i64 (k : Int) ∧ Hid (∀ j, j < k → ¬ okF (fileSm j) (fileNa j) b) ∧ Hid (Kept (fun _ => False) w1 wr)) (fun i _ => 4 - (intOf i).toNat)
    case atStart => exact ⟨0, by omega, rfl, Lib.hid (fun j hj => by omega), Lib.hid (Kept.refl _ _)⟩
    case round =>
      obtain ⟨k, hk, rfl, HNOK, HKr⟩ := hrel
      rcases (show k = 0 ∨ k = 1 ∨ k = 2 ∨ k = 3 ∨ k = 4 by omega) with rfl | rfl | rfl | rfl | rfl
      · obtain ⟨w2, hw2⟩ : ∃ w2 : World, w2 = wr.alloc (.cells #[.bool false, .bool false, .int .u32 0, .int .u32 0] 29) := ⟨_, rfl⟩
        have HT2 := Lib.hid (show Blk w2 wr.heap.size 29 #[.bool false, .bool false, .int .u32 0, .int .u32 0] by rw [hw2]; exact Blk.new _ _ _)
        have HK2 := Lib.hid (show Kept (fun _ => False) w1 w2 by rw [hw2]; exact HKr.out.alloc _)
        have hix := idx0
        go_upto_region 7 with fail
        clear hix
        rw [← hw2]
        have HTB := Lib.hid (show w1.heap.size ≤ wr.heap.size from HKr.out.size)
        clear hw2
        obtain ⟨tb, htb⟩ : ∃ tb, wr.heap.size = tb := ⟨_, rfl⟩
        rw [htb] at HT2 HTB ⊢
        clear htb
        obtain ⟨mo, hmo⟩ : ∃ mo, ofL false ((b.drop 16).take 4) = mo := ⟨_, rfl⟩
        obtain ⟨li, hli⟩ : ∃ li, ofL false ((b.drop 20).take 4) = li := ⟨_, rfl⟩
        have MOr := Lib.hid (show 0 ≤ mo ∧ mo ≤ 4294967295 by rw [← hmo]; exact ofL_range false _ (by rw [List.length_take, List.length_drop]; omega))
        have LIr := Lib.hid (show 0 ≤ li ∧ li ≤ 4294967295 by rw [← hli]; exact ofL_range false _ (by rw [List.length_take, List.length_drop]; omega))
        have Hmo := Lib.hid (fun u (hu : Kept (fun i => i = tb) w2 u) => (show Calls Try.prog 25 #[.agg #[.bool false, .bool false, .int .u32 0, .int .u32 0], .slice (some ⟨bb, o, none⟩) 24 c, .int .i64 16] u (fun e w' => e = .returned (.int .u32 mo) ∧ Below u.heap.size u w') from by
          have hz := long_any false false 0 0 (some ⟨bb, o, none⟩) c 16 (b.take 24) u (by rw [H24.out]; omega) (by rw [H24.out]; omega) HC.out.2 (by rw [H24.out]; omega) ((HB.out.take_ 24).on (HK1.out.then (HK2.out.then hu (fun i hi e => by have := HTB.out; omega)) (fun _ _ h => h)) (fun _ _ h => h))
          rw [H24.out, show ((b.take 24).drop 16).take 4 = (b.drop 16).take 4 by rw [List.drop_take, List.take_take]; rfl, hmo] at hz
          exact hz))
        have Hli := Lib.hid (fun u (hu : Kept (fun i => i = tb) w2 u) => (show Calls Try.prog 25 #[.agg #[.bool false, .bool false, .int .u32 0, .int .u32 0], .slice (some ⟨bb, o, none⟩) 24 c, .int .i64 20] u (fun e w' => e = .returned (.int .u32 li) ∧ Below u.heap.size u w') from by
          have hz := long_any false false 0 0 (some ⟨bb, o, none⟩) c 20 (b.take 24) u (by rw [H24.out]; omega) (by rw [H24.out]; omega) HC.out.2 (by rw [H24.out]; omega) ((HB.out.take_ 24).on (HK1.out.then (HK2.out.then hu (fun i hi e => by have := HTB.out; omega)) (fun _ _ h => h)) (fun _ _ h => h))
          rw [H24.out, show ((b.take 24).drop 20).take 4 = (b.drop 20).take 4 by rw [List.drop_take, List.take_take]; rfl, hli] at hz
          exact hz))
        have HMO := Lib.hid hmo
        have HLI := Lib.hid hli
        clear hmo hli
        refine wp_region_peek 10 (fun i => i = tb) [7, 9] [] [0, 3] [(2, fun v u => v = .int .u32 mo), (5, fun v u => v = .int .u32 li), (7, fun v u => Blk u tb 29 #[.bool false, .bool false, .int .u32 mo, .int .u32 0]), (9, fun v u => Blk u tb 29 #[.bool false, .bool false, .int .u32 mo, .int .u32 li])] ?st ?ne rfl (by kernel_rfl) (by kernel_rfl) (by kernel_rfl) (by kernel_rfl) ?_
        case st =>
          intro p hp
          simp only [List.mem_cons, List.not_mem_nil, or_false] at hp
          rcases hp with rfl | rfl | rfl | rfl
          · intro v u u' h hk; exact h
          · intro v u u' h hk; exact h
          · intro v u u' h hk; exact h.kept hk (fun h => h)
          · intro v u u' h hk; exact h.kept hk (fun h => h)
        case ne =>
          intro p hp
          simp only [List.mem_cons, List.not_mem_nil, or_false] at hp
          rcases hp with rfl | rfl | rfl | rfl
          · exact ⟨_, _, Kept.refl _ _, rfl⟩
          · exact ⟨_, _, Kept.refl _ _, rfl⟩
          · exact ⟨undef, _, Kept.setIn (S := fun i => i = tb) (b := tb) rfl (Kept.refl _ _), HT2.out.set_to (i := 2) (u := .int .u32 mo) rfl⟩
          · exact ⟨undef, _, Kept.setIn (S := fun i => i = tb) (b := tb) rfl (Kept.setIn (S := fun i => i = tb) (b := tb) rfl (Kept.refl _ _)), (HT2.out.set_ 2 (.int .u32 mo)).set_to (i := 3) (u := .int .u32 li) rfl⟩
        simp only [List.take_succ_cons, List.take_zero, List.drop_succ_cons, List.drop_zero]
        intro G pick pick0 hR hp1 hp2 hpk hq1 hq2
        have p0 : ∀ u, (pick0 u).cell? ⟨tb, 0, none⟩ = some (.bool false) := fun u => ((hq1 u).cell HT2.out.lt (fun h => h) _).trans (HT2.out.cell 0)
        have p1 : ∀ u, (pick0 u).cell? ⟨tb, 1, none⟩ = some (.bool false) := fun u => ((hq1 u).cell HT2.out.lt (fun h => h) _).trans (HT2.out.cell 1)
        have p2 : ∀ u, (pick0 u).cell? ⟨tb, 2, none⟩ = some (.int .u32 0) := fun u => ((hq1 u).cell HT2.out.lt (fun h => h) _).trans (HT2.out.cell 2)
        have p3 : ∀ u, (pick0 u).cell? ⟨tb, 3, none⟩ = some (.int .u32 0) := fun u => ((hq1 u).cell HT2.out.lt (fun h => h) _).trans (HT2.out.cell 3)
        repeat (first | (refine wpR_peek hq2 rfl ((hR.rel _).trans rfl) ((hpk _).trans rfl) rfl ?_; intro K hK; go_big_quiet_op; go_big_quiet_on) | (refine wpR_det hp2 rfl ((hR.rel _).trans rfl) rfl ?_; intro K hK; go_big_quiet_op; go_big_quiet_on) | (refine wpR_ptr hp2 rfl ((hR.rel _).trans rfl) rfl rfl ?_; intro K hK; go_big_quiet_op; go_big_quiet_on) | (refine wpR_skip pick rfl ?_; intro K hK; go_big_quiet_op; go_big_quiet_on))
        refine wpR_rel pick rfl ((hR.rel _).trans rfl) ((hR.turns _).trans rfl) ?_ ?_
        · intro u hu
          have hk := hR.since hu.1
          have hks := hk.size
          have hz := Hmo.out u hk
          unfold relAt
          go_simp
          refine hz.mono ?_
          rintro e w' ⟨rfl, hb'⟩
          exact ⟨_, rfl, hR.intoB hb', hR.put 0 rfl rfl rfl⟩
        intro v hv
        obtain ⟨u, _, hu⟩ := hv
        obtain rfl := hR.get 0 rfl hu
        clear hu
        intro K hK
        go_big_quiet_op
        go_big_quiet_on
        repeat (first | (refine wpR_peek hq2 rfl ((hR.rel _).trans rfl) ((hpk _).trans rfl) rfl ?_; intro K hK; go_big_quiet_op; go_big_quiet_on) | (refine wpR_det hp2 rfl ((hR.rel _).trans rfl) rfl ?_; intro K hK; go_big_quiet_op; go_big_quiet_on) | (refine wpR_ptr hp2 rfl ((hR.rel _).trans rfl) rfl rfl ?_; intro K hK; go_big_quiet_op; go_big_quiet_on) | (refine wpR_skip pick rfl ?_; intro K hK; go_big_quiet_op; go_big_quiet_on))
        refine wpR_rel pick rfl ((hR.rel _).trans rfl) ((hR.turns _).trans rfl) ?_ ?_
        · intro u hu
          have hk := hR.since hu.1
          have hks := hk.size
          have hz := Hli.out u hk
          unfold relAt
          go_simp
          refine hz.mono ?_
          rintro e w' ⟨rfl, hb'⟩
          exact ⟨_, rfl, hR.intoB hb', hR.put 1 rfl rfl rfl⟩
        intro v hv
        obtain ⟨u, _, hu⟩ := hv
        obtain rfl := hR.get 1 rfl hu
        clear hu
        intro K hK
        go_big_quiet_op
        go_big_quiet_on
        repeat (first | (refine wpR_peek hq2 rfl ((hR.rel _).trans rfl) ((hpk _).trans rfl) rfl ?_; intro K hK; go_big_quiet_op; go_big_quiet_on) | (refine wpR_det hp2 rfl ((hR.rel _).trans rfl) rfl ?_; intro K hK; go_big_quiet_op; go_big_quiet_on) | (refine wpR_ptr hp2 rfl ((hR.rel _).trans rfl) rfl rfl ?_; intro K hK; go_big_quiet_op; go_big_quiet_on) | (refine wpR_skip pick rfl ?_; intro K hK; go_big_quiet_op; go_big_quiet_on))
        refine wpR_turn pick rfl ((hR.rel _).trans rfl) ((hR.turns _).trans rfl) ((hR.adds _).trans rfl) ?_ ?_
        · intro u hu hM
          have hk := hR.since hu.1
          have hks := hk.size
          have hK0 := hR.first hM
          have hB0 := HT2.out.kept hK0 (fun h => h)
          have cB := hB0.cell
          have fB := hB0.frozen
          have lB := hB0.lt
          unfold relAt
          go_simp
          exact ⟨hR.into (Kept.setIn (S := fun i => i = tb) (b := tb) rfl (Kept.refl _ _)), hR.put 2 rfl rfl (hB0.set_to rfl)⟩
        intro v hv
        obtain ⟨u, _, hu⟩ := hv
        obtain - := hR.get 2 rfl hu
        clear hu
        intro K hK
        go_big_quiet_op
        go_big_quiet_on
        repeat (first | (refine wpR_peek hq2 rfl ((hR.rel _).trans rfl) ((hpk _).trans rfl) rfl ?_; intro K hK; go_big_quiet_op; go_big_quiet_on) | (refine wpR_det hp2 rfl ((hR.rel _).trans rfl) rfl ?_; intro K hK; go_big_quiet_op; go_big_quiet_on) | (refine wpR_ptr hp2 rfl ((hR.rel _).trans rfl) rfl rfl ?_; intro K hK; go_big_quiet_op; go_big_quiet_on) | (refine wpR_skip pick rfl ?_; intro K hK; go_big_quiet_op; go_big_quiet_on))
        refine wpR_turn pick rfl ((hR.rel _).trans rfl) ((hR.turns _).trans rfl) ((hR.adds _).trans rfl) ?_ ?_
        · intro u hu hM
          have hk := hR.since hu.1
          have hks := hk.size
          have hB0 : Blk u tb 29 #[.bool false, .bool false, .int .u32 mo, .int .u32 0] := hR.get 2 rfl hM
          have cB := hB0.cell
          have fB := hB0.frozen
          have lB := hB0.lt
          unfold relAt
          go_simp
          exact ⟨hR.into (Kept.setIn (S := fun i => i = tb) (b := tb) rfl (Kept.refl _ _)), hR.put 3 rfl rfl (hB0.set_to rfl)⟩
        intro v hv
        obtain ⟨u, _, hu⟩ := hv
        obtain - := hR.get 3 rfl hu
        clear hu
        intro K hK
        go_big_quiet_op
        go_big_quiet_on
        repeat (first | (refine wpR_peek hq2 rfl ((hR.rel _).trans rfl) ((hpk _).trans rfl) rfl ?_; intro K hK; go_big_quiet_op; go_big_quiet_on) | (refine wpR_det hp2 rfl ((hR.rel _).trans rfl) rfl ?_; intro K hK; go_big_quiet_op; go_big_quiet_on) | (refine wpR_ptr hp2 rfl ((hR.rel _).trans rfl) rfl rfl ?_; intro K hK; go_big_quiet_op; go_big_quiet_on) | (refine wpR_skip pick rfl ?_; intro K hK; go_big_quiet_op; go_big_quiet_on))
        refine wpR_nil ?_
        intro w4 hk2 hF hM
        have HT4 := Lib.hid (hR.get 3 rfl hM)
        have HK4 := Lib.hid (show Kept (fun _ => False) w1 w4 from HK2.out.then hk2 (fun i hi e => by have := HTB.out; omega))
        clear hF hM hk2 hp1 hp2 hpk hq1 hq2 hR p0 p1 p2 p3
        go_upto_region 8 with fail
        have ct := HT4.out.cell
        have hhd := head_any false false mo li w4 MOr.out LIr.out
        obtain ⟨hv, hhv⟩ : ∃ hv, headL false false mo li = hv := ⟨_, rfl⟩
        rw [hhv] at hhd
        have HHD := Lib.hid hhd
        clear hhd
        go_wp2_with fail
        refine HHD.out.mono ?_
        rintro e w5 ⟨v, rfl, ⟨VA, vc, rfl, -, -, hvb⟩, hb5⟩
        have HVB := Lib.hid hvb
        have HK5 := Lib.hid (show Kept (fun _ => False) w1 w5 from HK4.out.then (Kept.ofB (S := fun _ => False) hb5) (fun _ _ h => h.elim))
        have HT5 := Lib.hid (HT4.out.below hb5 HT4.out.lt)
        clear hvb hb5 ct
        go_wp2_with fail
        have hz := equal_any VA (some ⟨bb, o, none⟩) vc c hv (b.take 24) w5 HVB.out ((HB.out.take_ 24).on (HK1.out.trans HK5.out) (fun _ _ h => h))
        rw [H24.out] at hz
        refine hz.mono ?_
        clear hz
        rintro e w6 ⟨rfl, rfl⟩
        have HK6 := Lib.hid (HK1.out.trans HK5.out)
        have HT6 := HT5
        by_cases hq : hv = b.take 24
        · have hbq : (hv == b.take 24) = true := by simpa using hq
          rw [hbq]
          have HOK := Lib.hid (show okF false false b by unfold okF; rw [HMO.out, HLI.out, hhv]; exact hq)
          clear hq hbq
          have HRr := Lib.hid (HR1.out.kept HK5.out (fun h => h))
          have HRL := Lib.hid (HRr.out.lt)
          have HTN := Lib.hid (show ¬ tb = rb by have := HTB.out; have := HR1.out.lt; omega)
          by_cases hc24 : 24 < c
          · have j1 : (24 : Int) < (c : Int) := by omega
            have HYB := Lib.hid (show BS w w.heap.size (some ⟨bb, o + 24, none⟩) (b.drop 24) from HB.out.drop_ 24)
            go_wp2_with fail
            have HYK := Lib.hid (fun u (hu : Kept (fun i => i = rb) w5 u) => (show BS u u.heap.size (some ⟨bb, o + 24, none⟩) (b.drop 24) from (HYB.out.kept (HK6.out.then hu (fun i hi e => by have := HRB.out; omega)) (Nat.le_refl _) (fun _ _ h => h)).more (by have := HK6.out.size; have := hu.size; omega)))
            refine wp_region_add 5 (fun i => i = rb) [4] [] [(3, fun v u => Row u w5.heap.size 5 v (bcs (b.drop 24))), (4, fun v u => Blk u rb 29 #[.bool false, .bool false, .int .u32 mo, .int .u32 li])] ?st ?ne rfl (by kernel_rfl) (by kernel_rfl) (by kernel_rfl) ?_
            case st =>
              intro p hp
              simp only [List.mem_cons, List.not_mem_nil, or_false] at hp
              rcases hp with rfl | rfl
              · intro v u u' h hk; exact h.kept hk (fun g hg e => by subst e; have := (h.lt _ hg).1; have := HRL.out; omega)
              · intro v u u' h hk; exact h.kept hk (fun h => h)
            case ne =>
              intro p hp
              simp only [List.mem_cons, List.not_mem_nil, or_false] at hp
              rcases hp with rfl | rfl
              · exact ⟨_, _, (Kept.refl _ _).alloc (.cells (bcs (b.drop 24)).toArray 5), Row.of_blk (Blk.new _ _ _) (Nat.le_refl _) (by simp [bcs_length]; unfold maxLen; omega) (by simp)⟩
              · exact ⟨undef, _, Kept.set4 (S := fun i => i = rb) (Kept.refl _ _) rfl (.bool false) (.bool false) (.int .u32 mo) (.int .u32 li), (((HRr.out.set_ 0 _).set_ 1 _).set_ 2 _).set_to rfl⟩
            simp only [List.take_succ_cons, List.take_zero, List.drop_succ_cons, List.drop_zero]
            intro G pick hR hp1 hp2
            have p0 : ∀ u, (pick u).cell? ⟨tb, 0, none⟩ = some (.bool false) := fun u => ((hp1 u).cell HT6.out.lt HTN.out _).trans (HT6.out.cell 0)
            have p1 : ∀ u, (pick u).cell? ⟨tb, 1, none⟩ = some (.bool false) := fun u => ((hp1 u).cell HT6.out.lt HTN.out _).trans (HT6.out.cell 1)
            have p2 : ∀ u, (pick u).cell? ⟨tb, 2, none⟩ = some (.int .u32 mo) := fun u => ((hp1 u).cell HT6.out.lt HTN.out _).trans (HT6.out.cell 2)
            have p3 : ∀ u, (pick u).cell? ⟨tb, 3, none⟩ = some (.int .u32 li) := fun u => ((hp1 u).cell HT6.out.lt HTN.out _).trans (HT6.out.cell 3)
            repeat (first | (refine wpR_det hp2 rfl ((hR.rel _).trans rfl) rfl ?_; intro K hK; go_big_quiet_op; go_big_quiet_on) | (refine wpR_ptr hp2 rfl ((hR.rel _).trans rfl) rfl rfl ?_; intro K hK; go_big_quiet_op; go_big_quiet_on) | (refine wpR_skip pick rfl ?_; intro K hK; go_big_quiet_op; go_big_quiet_on))
            refine wpR_rel pick rfl ((hR.rel _).trans rfl) ((hR.turns _).trans rfl) ?_ ?_
            · intro u hu
              have hk := hR.since hu.1
              have hks := hk.size
              have hz := slClone_any (some ⟨bb, o + 24, none⟩) (c - 24) (b.drop 24) u (by rw [List.length_drop]; omega) (HYK.out u hk)
              rw [List.length_drop] at hz
              unfold relAt
              go_simp
              refine hz.mono ?_
              rintro e w' ⟨v, rfl, hT, hb'⟩
              exact ⟨_, rfl, hR.intoB hb', hR.put 0 rfl rfl (hT.more hks)⟩
            intro v hv
            obtain ⟨u, _, hu⟩ := hv
            obtain hT3 := hR.get 0 rfl hu
            clear hu
            obtain ⟨NA, nc, hne, -, -⟩ := hT3.shape
            rw [bcs_length, List.length_drop] at hne
            subst hne
            clear hT3
            intro K hK
            go_big_quiet_op
            go_big_quiet_on
            repeat (first | (refine wpR_det hp2 rfl ((hR.rel _).trans rfl) rfl ?_; intro K hK; go_big_quiet_op; go_big_quiet_on) | (refine wpR_ptr hp2 rfl ((hR.rel _).trans rfl) rfl rfl ?_; intro K hK; go_big_quiet_op; go_big_quiet_on) | (refine wpR_skip pick rfl ?_; intro K hK; go_big_quiet_op; go_big_quiet_on))
            refine wpR_turn pick rfl ((hR.rel _).trans rfl) ((hR.turns _).trans rfl) ((hR.adds _).trans rfl) ?_ ?_
            · intro u hu hM
              have hk := hR.since hu.1
              have hks := hk.size
              have hK0 := hR.first hM
              have hB0 := HRr.out.kept hK0 (fun h => h)
              have cB := hB0.cell
              have fB := hB0.frozen
              have lB := hB0.lt
              unfold relAt
              go_simp
              exact ⟨hR.into (Kept.set4 (S := fun i => i = rb) (Kept.refl _ _) rfl _ _ _ _), hR.put 1 rfl rfl ((((hB0.set_ 0 _).set_ 1 _).set_ 2 _).set_to rfl)⟩
            intro v hv
            obtain ⟨u, _, hu⟩ := hv
            obtain - := hR.get 1 rfl hu
            clear hu
            intro K hK
            go_big_quiet_op
            go_big_quiet_on
            repeat (first | (refine wpR_det hp2 rfl ((hR.rel _).trans rfl) rfl ?_; intro K hK; go_big_quiet_op; go_big_quiet_on) | (refine wpR_ptr hp2 rfl ((hR.rel _).trans rfl) rfl rfl ?_; intro K hK; go_big_quiet_op; go_big_quiet_on) | (refine wpR_skip pick rfl ?_; intro K hK; go_big_quiet_op; go_big_quiet_on))
            refine wpR_nil ?_
            intro w9 hk2 hF hM
            have HV := Lib.hid ((hR.get 0 rfl (hF _ _ (Got.upd_self _ _ _))))
            have HR9 := Lib.hid (hR.get 1 rfl hM)
            have HK9 := Lib.hid (show Kept (fun _ => False) w w9 from HK6.out.then hk2 (fun i hi e => by have := HRB.out; omega))
            clear hF hM hk2 hp1 hp2 hR p0 p1 p2 p3
            go_wp2_with fail
            refine bodyPost_ret (results_blk_tmp2 (P := Try.prog) (show Try.f15.results = _ from rfl) _ _ rb 29 #[.bool false, .bool false, .int .u32 mo, .int .u32 li] _ rfl HR9.out Try.underlying29 rfl (by kernel_rfl)) rfl ⟨.inr (.inl ⟨false, false, HOK.out, _, ?_, HV.out.more (by have := HK6.out.size; omega)⟩), HK9.out.below (Nat.le_refl _) (fun i h => h.elim)⟩
            rw [HMO.out, HLI.out]; rfl
          · have HCEQ := Lib.hid (show c = 24 by omega)
            have HYB := Lib.hid (show BS w w.heap.size (some ⟨bb, o, none⟩) (b.drop 24) from .inl (List.drop_eq_nil_of_le (by omega)))
            go_wp2_with fail
            have HYK := Lib.hid (fun u (hu : Kept (fun i => i = rb) w5 u) => (show BS u u.heap.size (some ⟨bb, o, none⟩) (b.drop 24) from (HYB.out.kept (HK6.out.then hu (fun i hi e => by have := HRB.out; omega)) (Nat.le_refl _) (fun _ _ h => h)).more (by have := HK6.out.size; have := hu.size; omega)))
            refine wp_region_add 5 (fun i => i = rb) [4] [] [(2, fun v u => v = .slice (some ⟨bb, o, none⟩) (b.length - 24) 0), (3, fun v u => Row u w5.heap.size 5 v (bcs (b.drop 24))), (4, fun v u => Blk u rb 29 #[.bool false, .bool false, .int .u32 mo, .int .u32 li])] ?st ?ne rfl (by kernel_rfl) (by kernel_rfl) (by kernel_rfl) ?_
            case st =>
              intro p hp
              simp only [List.mem_cons, List.not_mem_nil, or_false] at hp
              rcases hp with rfl | rfl | rfl
              · intro v u u' h hk; exact h
              · intro v u u' h hk; exact h.kept hk (fun g hg e => by subst e; have := (h.lt _ hg).1; have := HRL.out; omega)
              · intro v u u' h hk; exact h.kept hk (fun h => h)
            case ne =>
              intro p hp
              simp only [List.mem_cons, List.not_mem_nil, or_false] at hp
              rcases hp with rfl | rfl | rfl
              · exact ⟨_, _, Kept.refl _ _, rfl⟩
              · exact ⟨_, _, (Kept.refl _ _).alloc (.cells (bcs (b.drop 24)).toArray 5), Row.of_blk (Blk.new _ _ _) (Nat.le_refl _) (by simp [bcs_length]; unfold maxLen; omega) (by simp)⟩
              · exact ⟨undef, _, Kept.set4 (S := fun i => i = rb) (Kept.refl _ _) rfl (.bool false) (.bool false) (.int .u32 mo) (.int .u32 li), (((HRr.out.set_ 0 _).set_ 1 _).set_ 2 _).set_to rfl⟩
            simp only [List.take_succ_cons, List.take_zero, List.drop_succ_cons, List.drop_zero]
            intro G pick hR hp1 hp2
            have p0 : ∀ u, (pick u).cell? ⟨tb, 0, none⟩ = some (.bool false) := fun u => ((hp1 u).cell HT6.out.lt HTN.out _).trans (HT6.out.cell 0)
            have p1 : ∀ u, (pick u).cell? ⟨tb, 1, none⟩ = some (.bool false) := fun u => ((hp1 u).cell HT6.out.lt HTN.out _).trans (HT6.out.cell 1)
            have p2 : ∀ u, (pick u).cell? ⟨tb, 2, none⟩ = some (.int .u32 mo) := fun u => ((hp1 u).cell HT6.out.lt HTN.out _).trans (HT6.out.cell 2)
            have p3 : ∀ u, (pick u).cell? ⟨tb, 3, none⟩ = some (.int .u32 li) := fun u => ((hp1 u).cell HT6.out.lt HTN.out _).trans (HT6.out.cell 3)
            repeat (first | (refine wpR_det hp2 rfl ((hR.rel _).trans rfl) rfl ?_; intro K hK; go_big_quiet_op; go_big_quiet_on) | (refine wpR_ptr hp2 rfl ((hR.rel _).trans rfl) rfl rfl ?_; intro K hK; go_big_quiet_op; go_big_quiet_on) | (refine wpR_skip pick rfl ?_; intro K hK; go_big_quiet_op; go_big_quiet_on))
            refine wpR_rel pick rfl ((hR.rel _).trans rfl) ((hR.turns _).trans rfl) ?_ ?_
            · intro u hu
              have hk := hR.since hu.1
              have hks := hk.size
              have hceq := HCEQ.out
              unfold relAt
              go_simp
              have e1 : (b.length : Int).toNat - 24 = b.length - 24 := by omega
              exact ⟨hR.into0 (Kept.refl _ _), hR.put 0 rfl rfl rfl⟩
            intro v hv
            obtain ⟨u, _, hu⟩ := hv
            obtain rfl := hR.get 0 rfl hu
            clear hu
            intro K hK
            go_big_quiet_op
            go_big_quiet_on
            repeat (first | (refine wpR_det hp2 rfl ((hR.rel _).trans rfl) rfl ?_; intro K hK; go_big_quiet_op; go_big_quiet_on) | (refine wpR_ptr hp2 rfl ((hR.rel _).trans rfl) rfl rfl ?_; intro K hK; go_big_quiet_op; go_big_quiet_on) | (refine wpR_skip pick rfl ?_; intro K hK; go_big_quiet_op; go_big_quiet_on))
            refine wpR_rel pick rfl ((hR.rel _).trans rfl) ((hR.turns _).trans rfl) ?_ ?_
            · intro u hu
              have hk := hR.since hu.1
              have hks := hk.size
              have hz := slClone_any (some ⟨bb, o, none⟩) 0 (b.drop 24) u (by rw [List.length_drop]; omega) (HYK.out u hk)
              rw [List.length_drop] at hz
              unfold relAt
              go_simp
              refine hz.mono ?_
              rintro e w' ⟨v, rfl, hT, hb'⟩
              exact ⟨_, rfl, hR.intoB hb', hR.put 1 rfl rfl (hT.more hks)⟩
            intro v hv
            obtain ⟨u, _, hu⟩ := hv
            obtain hT3 := hR.get 1 rfl hu
            clear hu
            obtain ⟨NA, nc, hne, -, -⟩ := hT3.shape
            rw [bcs_length, List.length_drop] at hne
            subst hne
            clear hT3
            intro K hK
            go_big_quiet_op
            go_big_quiet_on
            repeat (first | (refine wpR_det hp2 rfl ((hR.rel _).trans rfl) rfl ?_; intro K hK; go_big_quiet_op; go_big_quiet_on) | (refine wpR_ptr hp2 rfl ((hR.rel _).trans rfl) rfl rfl ?_; intro K hK; go_big_quiet_op; go_big_quiet_on) | (refine wpR_skip pick rfl ?_; intro K hK; go_big_quiet_op; go_big_quiet_on))
            refine wpR_turn pick rfl ((hR.rel _).trans rfl) ((hR.turns _).trans rfl) ((hR.adds _).trans rfl) ?_ ?_
            · intro u hu hM
              have hk := hR.since hu.1
              have hks := hk.size
              have hK0 := hR.first hM
              have hB0 := HRr.out.kept hK0 (fun h => h)
              have cB := hB0.cell
              have fB := hB0.frozen
              have lB := hB0.lt
              unfold relAt
              go_simp
              exact ⟨hR.into (Kept.set4 (S := fun i => i = rb) (Kept.refl _ _) rfl _ _ _ _), hR.put 2 rfl rfl ((((hB0.set_ 0 _).set_ 1 _).set_ 2 _).set_to rfl)⟩
            intro v hv
            obtain ⟨u, _, hu⟩ := hv
            obtain - := hR.get 2 rfl hu
            clear hu
            intro K hK
            go_big_quiet_op
            go_big_quiet_on
            repeat (first | (refine wpR_det hp2 rfl ((hR.rel _).trans rfl) rfl ?_; intro K hK; go_big_quiet_op; go_big_quiet_on) | (refine wpR_ptr hp2 rfl ((hR.rel _).trans rfl) rfl rfl ?_; intro K hK; go_big_quiet_op; go_big_quiet_on) | (refine wpR_skip pick rfl ?_; intro K hK; go_big_quiet_op; go_big_quiet_on))
            refine wpR_nil ?_
            intro w9 hk2 hF hM
            have HV := Lib.hid ((hR.get 1 rfl (hF _ _ (Got.upd_self _ _ _))))
            have HR9 := Lib.hid (hR.get 2 rfl hM)
            have HK9 := Lib.hid (show Kept (fun _ => False) w w9 from HK6.out.then hk2 (fun i hi e => by have := HRB.out; omega))
            clear hF hM hk2 hp1 hp2 hR p0 p1 p2 p3
            go_wp2_with fail
            refine bodyPost_ret (results_blk_tmp2 (P := Try.prog) (show Try.f15.results = _ from rfl) _ _ rb 29 #[.bool false, .bool false, .int .u32 mo, .int .u32 li] _ rfl HR9.out Try.underlying29 rfl (by kernel_rfl)) rfl ⟨.inr (.inl ⟨false, false, HOK.out, _, ?_, HV.out.more (by have := HK6.out.size; omega)⟩), HK9.out.below (Nat.le_refl _) (fun i h => h.elim)⟩
            rw [HMO.out, HLI.out]; rfl
        · have hbq : (hv == b.take 24) = false := by simpa using hq
          rw [hbq]
          have HNO := Lib.hid (show ¬ okF false false b by unfold okF; rw [HMO.out, HLI.out, hhv]; exact hq)
          clear hq hbq
          go_wp2_with fail
          go_roundw
          case rel => exact ⟨1, by omega, rfl, Lib.hid (fun j hj => by
            rcases Nat.lt_or_ge j 0 with h | h
            · exact HNOK.out j h
            · obtain rfl : j = 0 := by omega
              exact HNO.out), HK5⟩
          case measure => simp [intOf]
      · obtain ⟨w2, hw2⟩ : ∃ w2 : World, w2 = wr.alloc (.cells #[.bool false, .bool true, .int .u32 0, .int .u32 0] 29) := ⟨_, rfl⟩
        have HT2 := Lib.hid (show Blk w2 wr.heap.size 29 #[.bool false, .bool true, .int .u32 0, .int .u32 0] by rw [hw2]; exact Blk.new _ _ _)
        have HK2 := Lib.hid (show Kept (fun _ => False) w1 w2 by rw [hw2]; exact HKr.out.alloc _)
        have hix := idx1
        go_upto_region 7 with fail
        clear hix
        rw [← hw2]
        have HTB := Lib.hid (show w1.heap.size ≤ wr.heap.size from HKr.out.size)
        clear hw2
        obtain ⟨tb, htb⟩ : ∃ tb, wr.heap.size = tb := ⟨_, rfl⟩
        rw [htb] at HT2 HTB ⊢
        clear htb
        obtain ⟨mo, hmo⟩ : ∃ mo, ofL false ((b.drop 16).take 4) = mo := ⟨_, rfl⟩
        obtain ⟨li, hli⟩ : ∃ li, ofL false ((b.drop 20).take 4) = li := ⟨_, rfl⟩
        have MOr := Lib.hid (show 0 ≤ mo ∧ mo ≤ 4294967295 by rw [← hmo]; exact ofL_range false _ (by rw [List.length_take, List.length_drop]; omega))
        have LIr := Lib.hid (show 0 ≤ li ∧ li ≤ 4294967295 by rw [← hli]; exact ofL_range false _ (by rw [List.length_take, List.length_drop]; omega))
        have Hmo := Lib.hid (fun u (hu : Kept (fun i => i = tb) w2 u) => (show Calls Try.prog 25 #[.agg #[.bool false, .bool true, .int .u32 0, .int .u32 0], .slice (some ⟨bb, o, none⟩) 24 c, .int .i64 16] u (fun e w' => e = .returned (.int .u32 mo) ∧ Below u.heap.size u w') from by
          have hz := long_any false true 0 0 (some ⟨bb, o, none⟩) c 16 (b.take 24) u (by rw [H24.out]; omega) (by rw [H24.out]; omega) HC.out.2 (by rw [H24.out]; omega) ((HB.out.take_ 24).on (HK1.out.then (HK2.out.then hu (fun i hi e => by have := HTB.out; omega)) (fun _ _ h => h)) (fun _ _ h => h))
          rw [H24.out, show ((b.take 24).drop 16).take 4 = (b.drop 16).take 4 by rw [List.drop_take, List.take_take]; rfl, hmo] at hz
          exact hz))
        have Hli := Lib.hid (fun u (hu : Kept (fun i => i = tb) w2 u) => (show Calls Try.prog 25 #[.agg #[.bool false, .bool true, .int .u32 0, .int .u32 0], .slice (some ⟨bb, o, none⟩) 24 c, .int .i64 20] u (fun e w' => e = .returned (.int .u32 li) ∧ Below u.heap.size u w') from by
          have hz := long_any false true 0 0 (some ⟨bb, o, none⟩) c 20 (b.take 24) u (by rw [H24.out]; omega) (by rw [H24.out]; omega) HC.out.2 (by rw [H24.out]; omega) ((HB.out.take_ 24).on (HK1.out.then (HK2.out.then hu (fun i hi e => by have := HTB.out; omega)) (fun _ _ h => h)) (fun _ _ h => h))
          rw [H24.out, show ((b.take 24).drop 20).take 4 = (b.drop 20).take 4 by rw [List.drop_take, List.take_take]; rfl, hli] at hz
          exact hz))
        have HMO := Lib.hid hmo
        have HLI := Lib.hid hli
        clear hmo hli
        refine wp_region_peek 10 (fun i => i = tb) [7, 9] [] [0, 3] [(2, fun v u => v = .int .u32 mo), (5, fun v u => v = .int .u32 li), (7, fun v u => Blk u tb 29 #[.bool false, .bool true, .int .u32 mo, .int .u32 0]), (9, fun v u => Blk u tb 29 #[.bool false, .bool true, .int .u32 mo, .int .u32 li])] ?st ?ne rfl (by kernel_rfl) (by kernel_rfl) (by kernel_rfl) (by kernel_rfl) ?_
        case st =>
          intro p hp
          simp only [List.mem_cons, List.not_mem_nil, or_false] at hp
          rcases hp with rfl | rfl | rfl | rfl
          · intro v u u' h hk; exact h
          · intro v u u' h hk; exact h
          · intro v u u' h hk; exact h.kept hk (fun h => h)
          · intro v u u' h hk; exact h.kept hk (fun h => h)
        case ne =>
          intro p hp
          simp only [List.mem_cons, List.not_mem_nil, or_false] at hp
          rcases hp with rfl | rfl | rfl | rfl
          · exact ⟨_, _, Kept.refl _ _, rfl⟩
          · exact ⟨_, _, Kept.refl _ _, rfl⟩
          · exact ⟨undef, _, Kept.setIn (S := fun i => i = tb) (b := tb) rfl (Kept.refl _ _), HT2.out.set_to (i := 2) (u := .int .u32 mo) rfl⟩
          · exact ⟨undef, _, Kept.setIn (S := fun i => i = tb) (b := tb) rfl (Kept.setIn (S := fun i => i = tb) (b := tb) rfl (Kept.refl _ _)), (HT2.out.set_ 2 (.int .u32 mo)).set_to (i := 3) (u := .int .u32 li) rfl⟩
        simp only [List.take_succ_cons, List.take_zero, List.drop_succ_cons, List.drop_zero]
        intro G pick pick0 hR hp1 hp2 hpk hq1 hq2
        have p0 : ∀ u, (pick0 u).cell? ⟨tb, 0, none⟩ = some (.bool false) := fun u => ((hq1 u).cell HT2.out.lt (fun h => h) _).trans (HT2.out.cell 0)
        have p1 : ∀ u, (pick0 u).cell? ⟨tb, 1, none⟩ = some (.bool true) := fun u => ((hq1 u).cell HT2.out.lt (fun h => h) _).trans (HT2.out.cell 1)
        have p2 : ∀ u, (pick0 u).cell? ⟨tb, 2, none⟩ = some (.int .u32 0) := fun u => ((hq1 u).cell HT2.out.lt (fun h => h) _).trans (HT2.out.cell 2)
        have p3 : ∀ u, (pick0 u).cell? ⟨tb, 3, none⟩ = some (.int .u32 0) := fun u => ((hq1 u).cell HT2.out.lt (fun h => h) _).trans (HT2.out.cell 3)
        repeat (first | (refine wpR_peek hq2 rfl ((hR.rel _).trans rfl) ((hpk _).trans rfl) rfl ?_; intro K hK; go_big_quiet_op; go_big_quiet_on) | (refine wpR_det hp2 rfl ((hR.rel _).trans rfl) rfl ?_; intro K hK; go_big_quiet_op; go_big_quiet_on) | (refine wpR_ptr hp2 rfl ((hR.rel _).trans rfl) rfl rfl ?_; intro K hK; go_big_quiet_op; go_big_quiet_on) | (refine wpR_skip pick rfl ?_; intro K hK; go_big_quiet_op; go_big_quiet_on))
        refine wpR_rel pick rfl ((hR.rel _).trans rfl) ((hR.turns _).trans rfl) ?_ ?_
        · intro u hu
          have hk := hR.since hu.1
          have hks := hk.size
          have hz := Hmo.out u hk
          unfold relAt
          go_simp
          refine hz.mono ?_
          rintro e w' ⟨rfl, hb'⟩
          exact ⟨_, rfl, hR.intoB hb', hR.put 0 rfl rfl rfl⟩
        intro v hv
        obtain ⟨u, _, hu⟩ := hv
        obtain rfl := hR.get 0 rfl hu
        clear hu
        intro K hK
        go_big_quiet_op
        go_big_quiet_on
        repeat (first | (refine wpR_peek hq2 rfl ((hR.rel _).trans rfl) ((hpk _).trans rfl) rfl ?_; intro K hK; go_big_quiet_op; go_big_quiet_on) | (refine wpR_det hp2 rfl ((hR.rel _).trans rfl) rfl ?_; intro K hK; go_big_quiet_op; go_big_quiet_on) | (refine wpR_ptr hp2 rfl ((hR.rel _).trans rfl) rfl rfl ?_; intro K hK; go_big_quiet_op; go_big_quiet_on) | (refine wpR_skip pick rfl ?_; intro K hK; go_big_quiet_op; go_big_quiet_on))
        refine wpR_rel pick rfl ((hR.rel _).trans rfl) ((hR.turns _).trans rfl) ?_ ?_
        · intro u hu
          have hk := hR.since hu.1
          have hks := hk.size
          have hz := Hli.out u hk
          unfold relAt
          go_simp
          refine hz.mono ?_
          rintro e w' ⟨rfl, hb'⟩
          exact ⟨_, rfl, hR.intoB hb', hR.put 1 rfl rfl rfl⟩
        intro v hv
        obtain ⟨u, _, hu⟩ := hv
        obtain rfl := hR.get 1 rfl hu
        clear hu
        intro K hK
        go_big_quiet_op
        go_big_quiet_on
        repeat (first | (refine wpR_peek hq2 rfl ((hR.rel _).trans rfl) ((hpk _).trans rfl) rfl ?_; intro K hK; go_big_quiet_op; go_big_quiet_on) | (refine wpR_det hp2 rfl ((hR.rel _).trans rfl) rfl ?_; intro K hK; go_big_quiet_op; go_big_quiet_on) | (refine wpR_ptr hp2 rfl ((hR.rel _).trans rfl) rfl rfl ?_; intro K hK; go_big_quiet_op; go_big_quiet_on) | (refine wpR_skip pick rfl ?_; intro K hK; go_big_quiet_op; go_big_quiet_on))
        refine wpR_turn pick rfl ((hR.rel _).trans rfl) ((hR.turns _).trans rfl) ((hR.adds _).trans rfl) ?_ ?_
        · intro u hu hM
          have hk := hR.since hu.1
          have hks := hk.size
          have hK0 := hR.first hM
          have hB0 := HT2.out.kept hK0 (fun h => h)
          have cB := hB0.cell
          have fB := hB0.frozen
          have lB := hB0.lt
          unfold relAt
          go_simp
          exact ⟨hR.into (Kept.setIn (S := fun i => i = tb) (b := tb) rfl (Kept.refl _ _)), hR.put 2 rfl rfl (hB0.set_to rfl)⟩
        intro v hv
        obtain ⟨u, _, hu⟩ := hv
        obtain - := hR.get 2 rfl hu
        clear hu
        intro K hK
        go_big_quiet_op
        go_big_quiet_on
        repeat (first | (refine wpR_peek hq2 rfl ((hR.rel _).trans rfl) ((hpk _).trans rfl) rfl ?_; intro K hK; go_big_quiet_op; go_big_quiet_on) | (refine wpR_det hp2 rfl ((hR.rel _).trans rfl) rfl ?_; intro K hK; go_big_quiet_op; go_big_quiet_on) | (refine wpR_ptr hp2 rfl ((hR.rel _).trans rfl) rfl rfl ?_; intro K hK; go_big_quiet_op; go_big_quiet_on) | (refine wpR_skip pick rfl ?_; intro K hK; go_big_quiet_op; go_big_quiet_on))
        refine wpR_turn pick rfl ((hR.rel _).trans rfl) ((hR.turns _).trans rfl) ((hR.adds _).trans rfl) ?_ ?_
        · intro u hu hM
          have hk := hR.since hu.1
          have hks := hk.size
          have hB0 : Blk u tb 29 #[.bool false, .bool true, .int .u32 mo, .int .u32 0] := hR.get 2 rfl hM
          have cB := hB0.cell
          have fB := hB0.frozen
          have lB := hB0.lt
          unfold relAt
          go_simp
          exact ⟨hR.into (Kept.setIn (S := fun i => i = tb) (b := tb) rfl (Kept.refl _ _)), hR.put 3 rfl rfl (hB0.set_to rfl)⟩
        intro v hv
        obtain ⟨u, _, hu⟩ := hv
        obtain - := hR.get 3 rfl hu
        clear hu
        intro K hK
        go_big_quiet_op
        go_big_quiet_on
        repeat (first | (refine wpR_peek hq2 rfl ((hR.rel _).trans rfl) ((hpk _).trans rfl) rfl ?_; intro K hK; go_big_quiet_op; go_big_quiet_on) | (refine wpR_det hp2 rfl ((hR.rel _).trans rfl) rfl ?_; intro K hK; go_big_quiet_op; go_big_quiet_on) | (refine wpR_ptr hp2 rfl ((hR.rel _).trans rfl) rfl rfl ?_; intro K hK; go_big_quiet_op; go_big_quiet_on) | (refine wpR_skip pick rfl ?_; intro K hK; go_big_quiet_op; go_big_quiet_on))
        refine wpR_nil ?_
        intro w4 hk2 hF hM
        have HT4 := Lib.hid (hR.get 3 rfl hM)
        have HK4 := Lib.hid (show Kept (fun _ => False) w1 w4 from HK2.out.then hk2 (fun i hi e => by have := HTB.out; omega))
        clear hF hM hk2 hp1 hp2 hpk hq1 hq2 hR p0 p1 p2 p3
        go_upto_region 8 with fail
        have ct := HT4.out.cell
        have hhd := head_any false true mo li w4 MOr.out LIr.out
        obtain ⟨hv, hhv⟩ : ∃ hv, headL false true mo li = hv := ⟨_, rfl⟩
        rw [hhv] at hhd
        have HHD := Lib.hid hhd
        clear hhd
        go_wp2_with fail
        refine HHD.out.mono ?_
        rintro e w5 ⟨v, rfl, ⟨VA, vc, rfl, -, -, hvb⟩, hb5⟩
        have HVB := Lib.hid hvb
        have HK5 := Lib.hid (show Kept (fun _ => False) w1 w5 from HK4.out.then (Kept.ofB (S := fun _ => False) hb5) (fun _ _ h => h.elim))
        have HT5 := Lib.hid (HT4.out.below hb5 HT4.out.lt)
        clear hvb hb5 ct
        go_wp2_with fail
        have hz := equal_any VA (some ⟨bb, o, none⟩) vc c hv (b.take 24) w5 HVB.out ((HB.out.take_ 24).on (HK1.out.trans HK5.out) (fun _ _ h => h))
        rw [H24.out] at hz
        refine hz.mono ?_
        clear hz
        rintro e w6 ⟨rfl, rfl⟩
        have HK6 := Lib.hid (HK1.out.trans HK5.out)
        have HT6 := HT5
        by_cases hq : hv = b.take 24
        · have hbq : (hv == b.take 24) = true := by simpa using hq
          rw [hbq]
          have HOK := Lib.hid (show okF false true b by unfold okF; rw [HMO.out, HLI.out, hhv]; exact hq)
          clear hq hbq
          have HRr := Lib.hid (HR1.out.kept HK5.out (fun h => h))
          have HRL := Lib.hid (HRr.out.lt)
          have HTN := Lib.hid (show ¬ tb = rb by have := HTB.out; have := HR1.out.lt; omega)
          by_cases hc24 : 24 < c
          · have j1 : (24 : Int) < (c : Int) := by omega
            have HYB := Lib.hid (show BS w w.heap.size (some ⟨bb, o + 24, none⟩) (b.drop 24) from HB.out.drop_ 24)
            go_wp2_with fail
            have HYK := Lib.hid (fun u (hu : Kept (fun i => i = rb) w5 u) => (show BS u u.heap.size (some ⟨bb, o + 24, none⟩) (b.drop 24) from (HYB.out.kept (HK6.out.then hu (fun i hi e => by have := HRB.out; omega)) (Nat.le_refl _) (fun _ _ h => h)).more (by have := HK6.out.size; have := hu.size; omega)))
            refine wp_region_add 5 (fun i => i = rb) [4] [] [(3, fun v u => Row u w5.heap.size 5 v (bcs (b.drop 24))), (4, fun v u => Blk u rb 29 #[.bool false, .bool true, .int .u32 mo, .int .u32 li])] ?st ?ne rfl (by kernel_rfl) (by kernel_rfl) (by kernel_rfl) ?_
            case st =>
              intro p hp
              simp only [List.mem_cons, List.not_mem_nil, or_false] at hp
              rcases hp with rfl | rfl
              · intro v u u' h hk; exact h.kept hk (fun g hg e => by subst e; have := (h.lt _ hg).1; have := HRL.out; omega)
              · intro v u u' h hk; exact h.kept hk (fun h => h)
            case ne =>
              intro p hp
              simp only [List.mem_cons, List.not_mem_nil, or_false] at hp
              rcases hp with rfl | rfl
              · exact ⟨_, _, (Kept.refl _ _).alloc (.cells (bcs (b.drop 24)).toArray 5), Row.of_blk (Blk.new _ _ _) (Nat.le_refl _) (by simp [bcs_length]; unfold maxLen; omega) (by simp)⟩
              · exact ⟨undef, _, Kept.set4 (S := fun i => i = rb) (Kept.refl _ _) rfl (.bool false) (.bool true) (.int .u32 mo) (.int .u32 li), (((HRr.out.set_ 0 _).set_ 1 _).set_ 2 _).set_to rfl⟩
            simp only [List.take_succ_cons, List.take_zero, List.drop_succ_cons, List.drop_zero]
            intro G pick hR hp1 hp2
            have p0 : ∀ u, (pick u).cell? ⟨tb, 0, none⟩ = some (.bool false) := fun u => ((hp1 u).cell HT6.out.lt HTN.out _).trans (HT6.out.cell 0)
            have p1 : ∀ u, (pick u).cell? ⟨tb, 1, none⟩ = some (.bool true) := fun u => ((hp1 u).cell HT6.out.lt HTN.out _).trans (HT6.out.cell 1)
            have p2 : ∀ u, (pick u).cell? ⟨tb, 2, none⟩ = some (.int .u32 mo) := fun u => ((hp1 u).cell HT6.out.lt HTN.out _).trans (HT6.out.cell 2)
            have p3 : ∀ u, (pick u).cell? ⟨tb, 3, none⟩ = some (.int .u32 li) := fun u => ((hp1 u).cell HT6.out.lt HTN.out _).trans (HT6.out.cell 3)
            repeat (first | (refine wpR_det hp2 rfl ((hR.rel _).trans rfl) rfl ?_; intro K hK; go_big_quiet_op; go_big_quiet_on) | (refine wpR_ptr hp2 rfl ((hR.rel _).trans rfl) rfl rfl ?_; intro K hK; go_big_quiet_op; go_big_quiet_on) | (refine wpR_skip pick rfl ?_; intro K hK; go_big_quiet_op; go_big_quiet_on))
            refine wpR_rel pick rfl ((hR.rel _).trans rfl) ((hR.turns _).trans rfl) ?_ ?_
            · intro u hu
              have hk := hR.since hu.1
              have hks := hk.size
              have hz := slClone_any (some ⟨bb, o + 24, none⟩) (c - 24) (b.drop 24) u (by rw [List.length_drop]; omega) (HYK.out u hk)
              rw [List.length_drop] at hz
              unfold relAt
              go_simp
              refine hz.mono ?_
              rintro e w' ⟨v, rfl, hT, hb'⟩
              exact ⟨_, rfl, hR.intoB hb', hR.put 0 rfl rfl (hT.more hks)⟩
            intro v hv
            obtain ⟨u, _, hu⟩ := hv
            obtain hT3 := hR.get 0 rfl hu
            clear hu
            obtain ⟨NA, nc, hne, -, -⟩ := hT3.shape
            rw [bcs_length, List.length_drop] at hne
            subst hne
            clear hT3
            intro K hK
            go_big_quiet_op
            go_big_quiet_on
            repeat (first | (refine wpR_det hp2 rfl ((hR.rel _).trans rfl) rfl ?_; intro K hK; go_big_quiet_op; go_big_quiet_on) | (refine wpR_ptr hp2 rfl ((hR.rel _).trans rfl) rfl rfl ?_; intro K hK; go_big_quiet_op; go_big_quiet_on) | (refine wpR_skip pick rfl ?_; intro K hK; go_big_quiet_op; go_big_quiet_on))
            refine wpR_turn pick rfl ((hR.rel _).trans rfl) ((hR.turns _).trans rfl) ((hR.adds _).trans rfl) ?_ ?_
            · intro u hu hM
              have hk := hR.since hu.1
              have hks := hk.size
              have hK0 := hR.first hM
              have hB0 := HRr.out.kept hK0 (fun h => h)
              have cB := hB0.cell
              have fB := hB0.frozen
              have lB := hB0.lt
              unfold relAt
              go_simp
              exact ⟨hR.into (Kept.set4 (S := fun i => i = rb) (Kept.refl _ _) rfl _ _ _ _), hR.put 1 rfl rfl ((((hB0.set_ 0 _).set_ 1 _).set_ 2 _).set_to rfl)⟩
            intro v hv
            obtain ⟨u, _, hu⟩ := hv
            obtain - := hR.get 1 rfl hu
            clear hu
            intro K hK
            go_big_quiet_op
            go_big_quiet_on
            repeat (first | (refine wpR_det hp2 rfl ((hR.rel _).trans rfl) rfl ?_; intro K hK; go_big_quiet_op; go_big_quiet_on) | (refine wpR_ptr hp2 rfl ((hR.rel _).trans rfl) rfl rfl ?_; intro K hK; go_big_quiet_op; go_big_quiet_on) | (refine wpR_skip pick rfl ?_; intro K hK; go_big_quiet_op; go_big_quiet_on))
            refine wpR_nil ?_
            intro w9 hk2 hF hM
            have HV := Lib.hid ((hR.get 0 rfl (hF _ _ (Got.upd_self _ _ _))))
            have HR9 := Lib.hid (hR.get 1 rfl hM)
            have HK9 := Lib.hid (show Kept (fun _ => False) w w9 from HK6.out.then hk2 (fun i hi e => by have := HRB.out; omega))
            clear hF hM hk2 hp1 hp2 hR p0 p1 p2 p3
            go_wp2_with fail
            refine bodyPost_ret (results_blk_tmp2 (P := Try.prog) (show Try.f15.results = _ from rfl) _ _ rb 29 #[.bool false, .bool true, .int .u32 mo, .int .u32 li] _ rfl HR9.out Try.underlying29 rfl (by kernel_rfl)) rfl ⟨.inr (.inl ⟨false, true, HOK.out, _, ?_, HV.out.more (by have := HK6.out.size; omega)⟩), HK9.out.below (Nat.le_refl _) (fun i h => h.elim)⟩
            rw [HMO.out, HLI.out]; rfl
          · have HCEQ := Lib.hid (show c = 24 by omega)
            have HYB := Lib.hid (show BS w w.heap.size (some ⟨bb, o, none⟩) (b.drop 24) from .inl (List.drop_eq_nil_of_le (by omega)))
            go_wp2_with fail
            have HYK := Lib.hid (fun u (hu : Kept (fun i => i = rb) w5 u) => (show BS u u.heap.size (some ⟨bb, o, none⟩) (b.drop 24) from (HYB.out.kept (HK6.out.then hu (fun i hi e => by have := HRB.out; omega)) (Nat.le_refl _) (fun _ _ h => h)).more (by have := HK6.out.size; have := hu.size; omega)))
            refine wp_region_add 5 (fun i => i = rb) [4] [] [(2, fun v u => v = .slice (some ⟨bb, o, none⟩) (b.length - 24) 0), (3, fun v u => Row u w5.heap.size 5 v (bcs (b.drop 24))), (4, fun v u => Blk u rb 29 #[.bool false, .bool true, .int .u32 mo, .int .u32 li])] ?st ?ne rfl (by kernel_rfl) (by kernel_rfl) (by kernel_rfl) ?_
            case st =>
              intro p hp
              simp only [List.mem_cons, List.not_mem_nil, or_false] at hp
              rcases hp with rfl | rfl | rfl
              · intro v u u' h hk; exact h
              · intro v u u' h hk; exact h.kept hk (fun g hg e => by subst e; have := (h.lt _ hg).1; have := HRL.out; omega)
              · intro v u u' h hk; exact h.kept hk (fun h => h)
            case ne =>
              intro p hp
              simp only [List.mem_cons, List.not_mem_nil, or_false] at hp
              rcases hp with rfl | rfl | rfl
              · exact ⟨_, _, Kept.refl _ _, rfl⟩
              · exact ⟨_, _, (Kept.refl _ _).alloc (.cells (bcs (b.drop 24)).toArray 5), Row.of_blk (Blk.new _ _ _) (Nat.le_refl _) (by simp [bcs_length]; unfold maxLen; omega) (by simp)⟩
              · exact ⟨undef, _, Kept.set4 (S := fun i => i = rb) (Kept.refl _ _) rfl (.bool false) (.bool true) (.int .u32 mo) (.int .u32 li), (((HRr.out.set_ 0 _).set_ 1 _).set_ 2 _).set_to rfl⟩
            simp only [List.take_succ_cons, List.take_zero, List.drop_succ_cons, List.drop_zero]
            intro G pick hR hp1 hp2
            have p0 : ∀ u, (pick u).cell? ⟨tb, 0, none⟩ = some (.bool false) := fun u => ((hp1 u).cell HT6.out.lt HTN.out _).trans (HT6.out.cell 0)
            have p1 : ∀ u, (pick u).cell? ⟨tb, 1, none⟩ = some (.bool true) := fun u => ((hp1 u).cell HT6.out.lt HTN.out _).trans (HT6.out.cell 1)
            have p2 : ∀ u, (pick u).cell? ⟨tb, 2, none⟩ = some (.int .u32 mo) := fun u => ((hp1 u).cell HT6.out.lt HTN.out _).trans (HT6.out.cell 2)
            have p3 : ∀ u, (pick u).cell? ⟨tb, 3, none⟩ = some (.int .u32 li) := fun u => ((hp1 u).cell HT6.out.lt HTN.out _).trans (HT6.out.cell 3)
            repeat (first | (refine wpR_det hp2 rfl ((hR.rel _).trans rfl) rfl ?_; intro K hK; go_big_quiet_op; go_big_quiet_on) | (refine wpR_ptr hp2 rfl ((hR.rel _).trans rfl) rfl rfl ?_; intro K hK; go_big_quiet_op; go_big_quiet_on) | (refine wpR_skip pick rfl ?_; intro K hK; go_big_quiet_op; go_big_quiet_on))
            refine wpR_rel pick rfl ((hR.rel _).trans rfl) ((hR.turns _).trans rfl) ?_ ?_
            · intro u hu
              have hk := hR.since hu.1
              have hks := hk.size
              have hceq := HCEQ.out
              unfold relAt
              go_simp
              have e1 : (b.length : Int).toNat - 24 = b.length - 24 := by omega
              exact ⟨hR.into0 (Kept.refl _ _), hR.put 0 rfl rfl rfl⟩
            intro v hv
            obtain ⟨u, _, hu⟩ := hv
            obtain rfl := hR.get 0 rfl hu
            clear hu
            intro K hK
            go_big_quiet_op
            go_big_quiet_on
            repeat (first | (refine wpR_det hp2 rfl ((hR.rel _).trans rfl) rfl ?_; intro K hK; go_big_quiet_op; go_big_quiet_on) | (refine wpR_ptr hp2 rfl ((hR.rel _).trans rfl) rfl rfl ?_; intro K hK; go_big_quiet_op; go_big_quiet_on) | (refine wpR_skip pick rfl ?_; intro K hK; go_big_quiet_op; go_big_quiet_on))
            refine wpR_rel pick rfl ((hR.rel _).trans rfl) ((hR.turns _).trans rfl) ?_ ?_
            · intro u hu
              have hk := hR.since hu.1
              have hks := hk.size
              have hz := slClone_any (some ⟨bb, o, none⟩) 0 (b.drop 24) u (by rw [List.length_drop]; omega) (HYK.out u hk)
              rw [List.length_drop] at hz
              unfold relAt
              go_simp
              refine hz.mono ?_
              rintro e w' ⟨v, rfl, hT, hb'⟩
              exact ⟨_, rfl, hR.intoB hb', hR.put 1 rfl rfl (hT.more hks)⟩
            intro v hv
            obtain ⟨u, _, hu⟩ := hv
            obtain hT3 := hR.get 1 rfl hu
            clear hu
            obtain ⟨NA, nc, hne, -, -⟩ := hT3.shape
            rw [bcs_length, List.length_drop] at hne
            subst hne
            clear hT3
            intro K hK
            go_big_quiet_op
            go_big_quiet_on
            repeat (first | (refine wpR_det hp2 rfl ((hR.rel _).trans rfl) rfl ?_; intro K hK; go_big_quiet_op; go_big_quiet_on) | (refine wpR_ptr hp2 rfl ((hR.rel _).trans rfl) rfl rfl ?_; intro K hK; go_big_quiet_op; go_big_quiet_on) | (refine wpR_skip pick rfl ?_; intro K hK; go_big_quiet_op; go_big_quiet_on))
            refine wpR_turn pick rfl ((hR.rel _).trans rfl) ((hR.turns _).trans rfl) ((hR.adds _).trans rfl) ?_ ?_
            · intro u hu hM
              have hk := hR.since hu.1
              have hks := hk.size
              have hK0 := hR.first hM
              have hB0 := HRr.out.kept hK0 (fun h => h)
              have cB := hB0.cell
              have fB := hB0.frozen
              have lB := hB0.lt
              unfold relAt
              go_simp
              exact ⟨hR.into (Kept.set4 (S := fun i => i = rb) (Kept.refl _ _) rfl _ _ _ _), hR.put 2 rfl rfl ((((hB0.set_ 0 _).set_ 1 _).set_ 2 _).set_to rfl)⟩
            intro v hv
            obtain ⟨u, _, hu⟩ := hv
            obtain - := hR.get 2 rfl hu
            clear hu
            intro K hK
            go_big_quiet_op
            go_big_quiet_on
            repeat (first | (refine wpR_det hp2 rfl ((hR.rel _).trans rfl) rfl ?_; intro K hK; go_big_quiet_op; go_big_quiet_on) | (refine wpR_ptr hp2 rfl ((hR.rel _).trans rfl) rfl rfl ?_; intro K hK; go_big_quiet_op; go_big_quiet_on) | (refine wpR_skip pick rfl ?_; intro K hK; go_big_quiet_op; go_big_quiet_on))
            refine wpR_nil ?_
            intro w9 hk2 hF hM
            have HV := Lib.hid ((hR.get 1 rfl (hF _ _ (Got.upd_self _ _ _))))
            have HR9 := Lib.hid (hR.get 2 rfl hM)
            have HK9 := Lib.hid (show Kept (fun _ => False) w w9 from HK6.out.then hk2 (fun i hi e => by have := HRB.out; omega))
            clear hF hM hk2 hp1 hp2 hR p0 p1 p2 p3
            go_wp2_with fail
            refine bodyPost_ret (results_blk_tmp2 (P := Try.prog) (show Try.f15.results = _ from rfl) _ _ rb 29 #[.bool false, .bool true, .int .u32 mo, .int .u32 li] _ rfl HR9.out Try.underlying29 rfl (by kernel_rfl)) rfl ⟨.inr (.inl ⟨false, true, HOK.out, _, ?_, HV.out.more (by have := HK6.out.size; omega)⟩), HK9.out.below (Nat.le_refl _) (fun i h => h.elim)⟩
            rw [HMO.out, HLI.out]; rfl
        · have hbq : (hv == b.take 24) = false := by simpa using hq
          rw [hbq]
          have HNO := Lib.hid (show ¬ okF false true b by unfold okF; rw [HMO.out, HLI.out, hhv]; exact hq)
          clear hq hbq
          go_wp2_with fail
          go_roundw
          case rel => exact ⟨2, by omega, rfl, Lib.hid (fun j hj => by
            rcases Nat.lt_or_ge j 1 with h | h
            · exact HNOK.out j h
            · obtain rfl : j = 1 := by omega
              exact HNO.out), HK5⟩
          case measure => simp [intOf]
      · obtain ⟨w2, hw2⟩ : ∃ w2 : World, w2 = wr.alloc (.cells #[.bool true, .bool false, .int .u32 0, .int .u32 0] 29) := ⟨_, rfl⟩
        have HT2 := Lib.hid (show Blk w2 wr.heap.size 29 #[.bool true, .bool false, .int .u32 0, .int .u32 0] by rw [hw2]; exact Blk.new _ _ _)
        have HK2 := Lib.hid (show Kept (fun _ => False) w1 w2 by rw [hw2]; exact HKr.out.alloc _)
        have hix := idx2
        go_upto_region 7 with fail
        clear hix
        rw [← hw2]
        have HTB := Lib.hid (show w1.heap.size ≤ wr.heap.size from HKr.out.size)
        clear hw2
        obtain ⟨tb, htb⟩ : ∃ tb, wr.heap.size = tb := ⟨_, rfl⟩
        rw [htb] at HT2 HTB ⊢
        clear htb
        obtain ⟨mo, hmo⟩ : ∃ mo, ofL true ((b.drop 16).take 4) = mo := ⟨_, rfl⟩
        obtain ⟨li, hli⟩ : ∃ li, ofL true ((b.drop 20).take 4) = li := ⟨_, rfl⟩
        have MOr := Lib.hid (show 0 ≤ mo ∧ mo ≤ 4294967295 by rw [← hmo]; exact ofL_range true _ (by rw [List.length_take, List.length_drop]; omega))
        have LIr := Lib.hid (show 0 ≤ li ∧ li ≤ 4294967295 by rw [← hli]; exact ofL_range true _ (by rw [List.length_take, List.length_drop]; omega))
        have Hmo := Lib.hid (fun u (hu : Kept (fun i => i = tb) w2 u) => (show Calls Try.prog 25 #[.agg #[.bool true, .bool false, .int .u32 0, .int .u32 0], .slice (some ⟨bb, o, none⟩) 24 c, .int .i64 16] u (fun e w' => e = .returned (.int .u32 mo) ∧ Below u.heap.size u w') from by
          have hz := long_any true false 0 0 (some ⟨bb, o, none⟩) c 16 (b.take 24) u (by rw [H24.out]; omega) (by rw [H24.out]; omega) HC.out.2 (by rw [H24.out]; omega) ((HB.out.take_ 24).on (HK1.out.then (HK2.out.then hu (fun i hi e => by have := HTB.out; omega)) (fun _ _ h => h)) (fun _ _ h => h))
          rw [H24.out, show ((b.take 24).drop 16).take 4 = (b.drop 16).take 4 by rw [List.drop_take, List.take_take]; rfl, hmo] at hz
          exact hz))
        have Hli := Lib.hid (fun u (hu : Kept (fun i => i = tb) w2 u) => (show Calls Try.prog 25 #[.agg #[.bool true, .bool false, .int .u32 0, .int .u32 0], .slice (some ⟨bb, o, none⟩) 24 c, .int .i64 20] u (fun e w' => e = .returned (.int .u32 li) ∧ Below u.heap.size u w') from by
          have hz := long_any true false 0 0 (some ⟨bb, o, none⟩) c 20 (b.take 24) u (by rw [H24.out]; omega) (by rw [H24.out]; omega) HC.out.2 (by rw [H24.out]; omega) ((HB.out.take_ 24).on (HK1.out.then (HK2.out.then hu (fun i hi e => by have := HTB.out; omega)) (fun _ _ h => h)) (fun _ _ h => h))
          rw [H24.out, show ((b.take 24).drop 20).take 4 = (b.drop 20).take 4 by rw [List.drop_take, List.take_take]; rfl, hli] at hz
          exact hz))
        have HMO := Lib.hid hmo
        have HLI := Lib.hid hli
        clear hmo hli
        refine wp_region_peek 10 (fun i => i = tb) [7, 9] [] [0, 3] [(2, fun v u => v = .int .u32 mo), (5, fun v u => v = .int .u32 li), (7, fun v u => Blk u tb 29 #[.bool true, .bool false, .int .u32 mo, .int .u32 0]), (9, fun v u => Blk u tb 29 #[.bool true, .bool false, .int .u32 mo, .int .u32 li])] ?st ?ne rfl (by kernel_rfl) (by kernel_rfl) (by kernel_rfl) (by kernel_rfl) ?_
        case st =>
          intro p hp
          simp only [List.mem_cons, List.not_mem_nil, or_false] at hp
          rcases hp with rfl | rfl | rfl | rfl
          · intro v u u' h hk; exact h
          · intro v u u' h hk; exact h
          · intro v u u' h hk; exact h.kept hk (fun h => h)
          · intro v u u' h hk; exact h.kept hk (fun h => h)
        case ne =>
          intro p hp
          simp only [List.mem_cons, List.not_mem_nil, or_false] at hp
          rcases hp with rfl | rfl | rfl | rfl
          · exact ⟨_, _, Kept.refl _ _, rfl⟩
          · exact ⟨_, _, Kept.refl _ _, rfl⟩
          · exact ⟨undef, _, Kept.setIn (S := fun i => i = tb) (b := tb) rfl (Kept.refl _ _), HT2.out.set_to (i := 2) (u := .int .u32 mo) rfl⟩
          · exact ⟨undef, _, Kept.setIn (S := fun i => i = tb) (b := tb) rfl (Kept.setIn (S := fun i => i = tb) (b := tb) rfl (Kept.refl _ _)), (HT2.out.set_ 2 (.int .u32 mo)).set_to (i := 3) (u := .int .u32 li) rfl⟩
        simp only [List.take_succ_cons, List.take_zero, List.drop_succ_cons, List.drop_zero]
        intro G pick pick0 hR hp1 hp2 hpk hq1 hq2
        have p0 : ∀ u, (pick0 u).cell? ⟨tb, 0, none⟩ = some (.bool true) := fun u => ((hq1 u).cell HT2.out.lt (fun h => h) _).trans (HT2.out.cell 0)
        have p1 : ∀ u, (pick0 u).cell? ⟨tb, 1, none⟩ = some (.bool false) := fun u => ((hq1 u).cell HT2.out.lt (fun h => h) _).trans (HT2.out.cell 1)
        have p2 : ∀ u, (pick0 u).cell? ⟨tb, 2, none⟩ = some (.int .u32 0) := fun u => ((hq1 u).cell HT2.out.lt (fun h => h) _).trans (HT2.out.cell 2)
        have p3 : ∀ u, (pick0 u).cell? ⟨tb, 3, none⟩ = some (.int .u32 0) := fun u => ((hq1 u).cell HT2.out.lt (fun h => h) _).trans (HT2.out.cell 3)
        repeat (first | (refine wpR_peek hq2 rfl ((hR.rel _).trans rfl) ((hpk _).trans rfl) rfl ?_; intro K hK; go_big_quiet_op; go_big_quiet_on) | (refine wpR_det hp2 rfl ((hR.rel _).trans rfl) rfl ?_; intro K hK; go_big_quiet_op; go_big_quiet_on) | (refine wpR_ptr hp2 rfl ((hR.rel _).trans rfl) rfl rfl ?_; intro K hK; go_big_quiet_op; go_big_quiet_on) | (refine wpR_skip pick rfl ?_; intro K hK; go_big_quiet_op; go_big_quiet_on))
        refine wpR_rel pick rfl ((hR.rel _).trans rfl) ((hR.turns _).trans rfl) ?_ ?_
        · intro u hu
          have hk := hR.since hu.1
          have hks := hk.size
          have hz := Hmo.out u hk
          unfold relAt
          go_simp
          refine hz.mono ?_
          rintro e w' ⟨rfl, hb'⟩
          exact ⟨_, rfl, hR.intoB hb', hR.put 0 rfl rfl rfl⟩
        intro v hv
        obtain ⟨u, _, hu⟩ := hv
        obtain rfl := hR.get 0 rfl hu
        clear hu
        intro K hK
        go_big_quiet_op
        go_big_quiet_on
        repeat (first | (refine wpR_peek hq2 rfl ((hR.rel _).trans rfl) ((hpk _).trans rfl) rfl ?_; intro K hK; go_big_quiet_op; go_big_quiet_on) | (refine wpR_det hp2 rfl ((hR.rel _).trans rfl) rfl ?_; intro K hK; go_big_quiet_op; go_big_quiet_on) | (refine wpR_ptr hp2 rfl ((hR.rel _).trans rfl) rfl rfl ?_; intro K hK; go_big_quiet_op; go_big_quiet_on) | (refine wpR_skip pick rfl ?_; intro K hK; go_big_quiet_op; go_big_quiet_on))
        refine wpR_rel pick rfl ((hR.rel _).trans rfl) ((hR.turns _).trans rfl) ?_ ?_
        · intro u hu
          have hk := hR.since hu.1
          have hks := hk.size
          have hz := Hli.out u hk
          unfold relAt
          go_simp
          refine hz.mono ?_
          rintro e w' ⟨rfl, hb'⟩
          exact ⟨_, rfl, hR.intoB hb', hR.put 1 rfl rfl rfl⟩
        intro v hv
        obtain ⟨u, _, hu⟩ := hv
        obtain rfl := hR.get 1 rfl hu
        clear hu
        intro K hK
        go_big_quiet_op
        go_big_quiet_on
        repeat (first | (refine wpR_peek hq2 rfl ((hR.rel _).trans rfl) ((hpk _).trans rfl) rfl ?_; intro K hK; go_big_quiet_op; go_big_quiet_on) | (refine wpR_det hp2 rfl ((hR.rel _).trans rfl) rfl ?_; intro K hK; go_big_quiet_op; go_big_quiet_on) | (refine wpR_ptr hp2 rfl ((hR.rel _).trans rfl) rfl rfl ?_; intro K hK; go_big_quiet_op; go_big_quiet_on) | (refine wpR_skip pick rfl ?_; intro K hK; go_big_quiet_op; go_big_quiet_on))
        refine wpR_turn pick rfl ((hR.rel _).trans rfl) ((hR.turns _).trans rfl) ((hR.adds _).trans rfl) ?_ ?_
        · intro u hu hM
          have hk := hR.since hu.1
          have hks := hk.size
          have hK0 := hR.first hM
          have hB0 := HT2.out.kept hK0 (fun h => h)
          have cB := hB0.cell
          have fB := hB0.frozen
          have lB := hB0.lt
          unfold relAt
          go_simp
          exact ⟨hR.into (Kept.setIn (S := fun i => i = tb) (b := tb) rfl (Kept.refl _ _)), hR.put 2 rfl rfl (hB0.set_to rfl)⟩
        intro v hv
        obtain ⟨u, _, hu⟩ := hv
        obtain - := hR.get 2 rfl hu
        clear hu
        intro K hK
        go_big_quiet_op
        go_big_quiet_on
        repeat (first | (refine wpR_peek hq2 rfl ((hR.rel _).trans rfl) ((hpk _).trans rfl) rfl ?_; intro K hK; go_big_quiet_op; go_big_quiet_on) | (refine wpR_det hp2 rfl ((hR.rel _).trans rfl) rfl ?_; intro K hK; go_big_quiet_op; go_big_quiet_on) | (refine wpR_ptr hp2 rfl ((hR.rel _).trans rfl) rfl rfl ?_; intro K hK; go_big_quiet_op; go_big_quiet_on) | (refine wpR_skip pick rfl ?_; intro K hK; go_big_quiet_op; go_big_quiet_on))
        refine wpR_turn pick rfl ((hR.rel _).trans rfl) ((hR.turns _).trans rfl) ((hR.adds _).trans rfl) ?_ ?_
        · intro u hu hM
          have hk := hR.since hu.1
          have hks := hk.size
          have hB0 : Blk u tb 29 #[.bool true, .bool false, .int .u32 mo, .int .u32 0] := hR.get 2 rfl hM
          have cB := hB0.cell
          have fB := hB0.frozen
          have lB := hB0.lt
          unfold relAt
          go_simp
          exact ⟨hR.into (Kept.setIn (S := fun i => i = tb) (b := tb) rfl (Kept.refl _ _)), hR.put 3 rfl rfl (hB0.set_to rfl)⟩
        intro v hv
        obtain ⟨u, _, hu⟩ := hv
        obtain - := hR.get 3 rfl hu
        clear hu
        intro K hK
        go_big_quiet_op
        go_big_quiet_on
        repeat (first | (refine wpR_peek hq2 rfl ((hR.rel _).trans rfl) ((hpk _).trans rfl) rfl ?_; intro K hK; go_big_quiet_op; go_big_quiet_on) | (refine wpR_det hp2 rfl ((hR.rel _).trans rfl) rfl ?_; intro K hK; go_big_quiet_op; go_big_quiet_on) | (refine wpR_ptr hp2 rfl ((hR.rel _).trans rfl) rfl rfl ?_; intro K hK; go_big_quiet_op; go_big_quiet_on) | (refine wpR_skip pick rfl ?_; intro K hK; go_big_quiet_op; go_big_quiet_on))
        refine wpR_nil ?_
        intro w4 hk2 hF hM
        have HT4 := Lib.hid (hR.get 3 rfl hM)
        have HK4 := Lib.hid (show Kept (fun _ => False) w1 w4 from HK2.out.then hk2 (fun i hi e => by have := HTB.out; omega))
        clear hF hM hk2 hp1 hp2 hpk hq1 hq2 hR p0 p1 p2 p3
        go_upto_region 8 with fail
        have ct := HT4.out.cell
        have hhd := head_any true false mo li w4 MOr.out LIr.out
        obtain ⟨hv, hhv⟩ : ∃ hv, headL true false mo li = hv := ⟨_, rfl⟩
        rw [hhv] at hhd
        have HHD := Lib.hid hhd
        clear hhd
        go_wp2_with fail
        refine HHD.out.mono ?_
        rintro e w5 ⟨v, rfl, ⟨VA, vc, rfl, -, -, hvb⟩, hb5⟩
        have HVB := Lib.hid hvb
        have HK5 := Lib.hid (show Kept (fun _ => False) w1 w5 from HK4.out.then (Kept.ofB (S := fun _ => False) hb5) (fun _ _ h => h.elim))
        have HT5 := Lib.hid (HT4.out.below hb5 HT4.out.lt)
        clear hvb hb5 ct
        go_wp2_with fail
        have hz := equal_any VA (some ⟨bb, o, none⟩) vc c hv (b.take 24) w5 HVB.out ((HB.out.take_ 24).on (HK1.out.trans HK5.out) (fun _ _ h => h))
        rw [H24.out] at hz
        refine hz.mono ?_
        clear hz
        rintro e w6 ⟨rfl, rfl⟩
        have HK6 := Lib.hid (HK1.out.trans HK5.out)
        have HT6 := HT5
        by_cases hq : hv = b.take 24
        · have hbq : (hv == b.take 24) = true := by simpa using hq
          rw [hbq]
          have HOK := Lib.hid (show okF true false b by unfold okF; rw [HMO.out, HLI.out, hhv]; exact hq)
          clear hq hbq
          have HRr := Lib.hid (HR1.out.kept HK5.out (fun h => h))
          have HRL := Lib.hid (HRr.out.lt)
          have HTN := Lib.hid (show ¬ tb = rb by have := HTB.out; have := HR1.out.lt; omega)
          by_cases hc24 : 24 < c
          · have j1 : (24 : Int) < (c : Int) := by omega
            have HYB := Lib.hid (show BS w w.heap.size (some ⟨bb, o + 24, none⟩) (b.drop 24) from HB.out.drop_ 24)
            go_wp2_with fail
            have HYK := Lib.hid (fun u (hu : Kept (fun i => i = rb) w5 u) => (show BS u u.heap.size (some ⟨bb, o + 24, none⟩) (b.drop 24) from (HYB.out.kept (HK6.out.then hu (fun i hi e => by have := HRB.out; omega)) (Nat.le_refl _) (fun _ _ h => h)).more (by have := HK6.out.size; have := hu.size; omega)))
            refine wp_region_add 5 (fun i => i = rb) [4] [] [(3, fun v u => Row u w5.heap.size 5 v (bcs (b.drop 24))), (4, fun v u => Blk u rb 29 #[.bool true, .bool false, .int .u32 mo, .int .u32 li])] ?st ?ne rfl (by kernel_rfl) (by kernel_rfl) (by kernel_rfl) ?_
            case st =>
              intro p hp
              simp only [List.mem_cons, List.not_mem_nil, or_false] at hp
              rcases hp with rfl | rfl
              · intro v u u' h hk; exact h.kept hk (fun g hg e => by subst e; have := (h.lt _ hg).1; have := HRL.out; omega)
              · intro v u u' h hk; exact h.kept hk (fun h => h)
            case ne =>
              intro p hp
              simp only [List.mem_cons, List.not_mem_nil, or_false] at hp
              rcases hp with rfl | rfl
              · exact ⟨_, _, (Kept.refl _ _).alloc (.cells (bcs (b.drop 24)).toArray 5), Row.of_blk (Blk.new _ _ _) (Nat.le_refl _) (by simp [bcs_length]; unfold maxLen; omega) (by simp)⟩
              · exact ⟨undef, _, Kept.set4 (S := fun i => i = rb) (Kept.refl _ _) rfl (.bool true) (.bool false) (.int .u32 mo) (.int .u32 li), (((HRr.out.set_ 0 _).set_ 1 _).set_ 2 _).set_to rfl⟩
            simp only [List.take_succ_cons, List.take_zero, List.drop_succ_cons, List.drop_zero]
            intro G pick hR hp1 hp2
            have p0 : ∀ u, (pick u).cell? ⟨tb, 0, none⟩ = some (.bool true) := fun u => ((hp1 u).cell HT6.out.lt HTN.out _).trans (HT6.out.cell 0)
            have p1 : ∀ u, (pick u).cell? ⟨tb, 1, none⟩ = some (.bool false) := fun u => ((hp1 u).cell HT6.out.lt HTN.out _).trans (HT6.out.cell 1)
            have p2 : ∀ u, (pick u).cell? ⟨tb, 2, none⟩ = some (.int .u32 mo) := fun u => ((hp1 u).cell HT6.out.lt HTN.out _).trans (HT6.out.cell 2)
            have p3 : ∀ u, (pick u).cell? ⟨tb, 3, none⟩ = some (.int .u32 li) := fun u => ((hp1 u).cell HT6.out.lt HTN.out _).trans (HT6.out.cell 3)
            repeat (first | (refine wpR_det hp2 rfl ((hR.rel _).trans rfl) rfl ?_; intro K hK; go_big_quiet_op; go_big_quiet_on) | (refine wpR_ptr hp2 rfl ((hR.rel _).trans rfl) rfl rfl ?_; intro K hK; go_big_quiet_op; go_big_quiet_on) | (refine wpR_skip pick rfl ?_; intro K hK; go_big_quiet_op; go_big_quiet_on))
            refine wpR_rel pick rfl ((hR.rel _).trans rfl) ((hR.turns _).trans rfl) ?_ ?_
            · intro u hu
              have hk := hR.since hu.1
              have hks := hk.size
              have hz := slClone_any (some ⟨bb, o + 24, none⟩) (c - 24) (b.drop 24) u (by rw [List.length_drop]; omega) (HYK.out u hk)
              rw [List.length_drop] at hz
              unfold relAt
              go_simp
              refine hz.mono ?_
              rintro e w' ⟨v, rfl, hT, hb'⟩
              exact ⟨_, rfl, hR.intoB hb', hR.put 0 rfl rfl (hT.more hks)⟩
            intro v hv
            obtain ⟨u, _, hu⟩ := hv
            obtain hT3 := hR.get 0 rfl hu
            clear hu
            obtain ⟨NA, nc, hne, -, -⟩ := hT3.shape
            rw [bcs_length, List.length_drop] at hne
            subst hne
            clear hT3
            intro K hK
            go_big_quiet_op
            go_big_quiet_on
            repeat (first | (refine wpR_det hp2 rfl ((hR.rel _).trans rfl) rfl ?_; intro K hK; go_big_quiet_op; go_big_quiet_on) | (refine wpR_ptr hp2 rfl ((hR.rel _).trans rfl) rfl rfl ?_; intro K hK; go_big_quiet_op; go_big_quiet_on) | (refine wpR_skip pick rfl ?_; intro K hK; go_big_quiet_op; go_big_quiet_on))
            refine wpR_turn pick rfl ((hR.rel _).trans rfl) ((hR.turns _).trans rfl) ((hR.adds _).trans rfl) ?_ ?_
            · intro u hu hM
              have hk := hR.since hu.1
              have hks := hk.size
              have hK0 := hR.first hM
              have hB0 := HRr.out.kept hK0 (fun h => h)
              have cB := hB0.cell
              have fB := hB0.frozen
              have lB := hB0.lt
              unfold relAt
              go_simp
              exact ⟨hR.into (Kept.set4 (S := fun i => i = rb) (Kept.refl _ _) rfl _ _ _ _), hR.put 1 rfl rfl ((((hB0.set_ 0 _).set_ 1 _).set_ 2 _).set_to rfl)⟩
            intro v hv
            obtain ⟨u, _, hu⟩ := hv
            obtain - := hR.get 1 rfl hu
            clear hu
            intro K hK
            go_big_quiet_op
            go_big_quiet_on
            repeat (first | (refine wpR_det hp2 rfl ((hR.rel _).trans rfl) rfl ?_; intro K hK; go_big_quiet_op; go_big_quiet_on) | (refine wpR_ptr hp2 rfl ((hR.rel _).trans rfl) rfl rfl ?_; intro K hK; go_big_quiet_op; go_big_quiet_on) | (refine wpR_skip pick rfl ?_; intro K hK; go_big_quiet_op; go_big_quiet_on))
            refine wpR_nil ?_
            intro w9 hk2 hF hM
            have HV := Lib.hid ((hR.get 0 rfl (hF _ _ (Got.upd_self _ _ _))))
            have HR9 := Lib.hid (hR.get 1 rfl hM)
            have HK9 := Lib.hid (show Kept (fun _ => False) w w9 from HK6.out.then hk2 (fun i hi e => by have := HRB.out; omega))
            clear hF hM hk2 hp1 hp2 hR p0 p1 p2 p3
            go_wp2_with fail
            refine bodyPost_ret (results_blk_tmp2 (P := Try.prog) (show Try.f15.results = _ from rfl) _ _ rb 29 #[.bool true, .bool false, .int .u32 mo, .int .u32 li] _ rfl HR9.out Try.underlying29 rfl (by kernel_rfl)) rfl ⟨.inr (.inl ⟨true, false, HOK.out, _, ?_, HV.out.more (by have := HK6.out.size; omega)⟩), HK9.out.below (Nat.le_refl _) (fun i h => h.elim)⟩
            rw [HMO.out, HLI.out]; rfl
          · have HCEQ := Lib.hid (show c = 24 by omega)
            have HYB := Lib.hid (show BS w w.heap.size (some ⟨bb, o, none⟩) (b.drop 24) from .inl (List.drop_eq_nil_of_le (by omega)))
            go_wp2_with fail
            have HYK := Lib.hid (fun u (hu : Kept (fun i => i = rb) w5 u) => (show BS u u.heap.size (some ⟨bb, o, none⟩) (b.drop 24) from (HYB.out.kept (HK6.out.then hu (fun i hi e => by have := HRB.out; omega)) (Nat.le_refl _) (fun _ _ h => h)).more (by have := HK6.out.size; have := hu.size; omega)))
            refine wp_region_add 5 (fun i => i = rb) [4] [] [(2, fun v u => v = .slice (some ⟨bb, o, none⟩) (b.length - 24) 0), (3, fun v u => Row u w5.heap.size 5 v (bcs (b.drop 24))), (4, fun v u => Blk u rb 29 #[.bool true, .bool false, .int .u32 mo, .int .u32 li])] ?st ?ne rfl (by kernel_rfl) (by kernel_rfl) (by kernel_rfl) ?_
            case st =>
              intro p hp
              simp only [List.mem_cons, List.not_mem_nil, or_false] at hp
              rcases hp with rfl | rfl | rfl
              · intro v u u' h hk; exact h
              · intro v u u' h hk; exact h.kept hk (fun g hg e => by subst e; have := (h.lt _ hg).1; have := HRL.out; omega)
              · intro v u u' h hk; exact h.kept hk (fun h => h)
            case ne =>
              intro p hp
              simp only [List.mem_cons, List.not_mem_nil, or_false] at hp
              rcases hp with rfl | rfl | rfl
              · exact ⟨_, _, Kept.refl _ _, rfl⟩
              · exact ⟨_, _, (Kept.refl _ _).alloc (.cells (bcs (b.drop 24)).toArray 5), Row.of_blk (Blk.new _ _ _) (Nat.le_refl _) (by simp [bcs_length]; unfold maxLen; omega) (by simp)⟩
              · exact ⟨undef, _, Kept.set4 (S := fun i => i = rb) (Kept.refl _ _) rfl (.bool true) (.bool false) (.int .u32 mo) (.int .u32 li), (((HRr.out.set_ 0 _).set_ 1 _).set_ 2 _).set_to rfl⟩
            simp only [List.take_succ_cons, List.take_zero, List.drop_succ_cons, List.drop_zero]
            intro G pick hR hp1 hp2
            have p0 : ∀ u, (pick u).cell? ⟨tb, 0, none⟩ = some (.bool true) := fun u => ((hp1 u).cell HT6.out.lt HTN.out _).trans (HT6.out.cell 0)
            have p1 : ∀ u, (pick u).cell? ⟨tb, 1, none⟩ = some (.bool false) := fun u => ((hp1 u).cell HT6.out.lt HTN.out _).trans (HT6.out.cell 1)
            have p2 : ∀ u, (pick u).cell? ⟨tb, 2, none⟩ = some (.int .u32 mo) := fun u => ((hp1 u).cell HT6.out.lt HTN.out _).trans (HT6.out.cell 2)
            have p3 : ∀ u, (pick u).cell? ⟨tb, 3, none⟩ = some (.int .u32 li) := fun u => ((hp1 u).cell HT6.out.lt HTN.out _).trans (HT6.out.cell 3)
            repeat (first | (refine wpR_det hp2 rfl ((hR.rel _).trans rfl) rfl ?_; intro K hK; go_big_quiet_op; go_big_quiet_on) | (refine wpR_ptr hp2 rfl ((hR.rel _).trans rfl) rfl rfl ?_; intro K hK; go_big_quiet_op; go_big_quiet_on) | (refine wpR_skip pick rfl ?_; intro K hK; go_big_quiet_op; go_big_quiet_on))
            refine wpR_rel pick rfl ((hR.rel _).trans rfl) ((hR.turns _).trans rfl) ?_ ?_
            · intro u hu
              have hk := hR.since hu.1
              have hks := hk.size
              have hceq := HCEQ.out
              unfold relAt
              go_simp
              have e1 : (b.length : Int).toNat - 24 = b.length - 24 := by omega
              exact ⟨hR.into0 (Kept.refl _ _), hR.put 0 rfl rfl rfl⟩
            intro v hv
            obtain ⟨u, _, hu⟩ := hv
            obtain rfl := hR.get 0 rfl hu
            clear hu
            intro K hK
            go_big_quiet_op
            go_big_quiet_on
            repeat (first | (refine wpR_det hp2 rfl ((hR.rel _).trans rfl) rfl ?_; intro K hK; go_big_quiet_op; go_big_quiet_on) | (refine wpR_ptr hp2 rfl ((hR.rel _).trans rfl) rfl rfl ?_; intro K hK; go_big_quiet_op; go_big_quiet_on) | (refine wpR_skip pick rfl ?_; intro K hK; go_big_quiet_op; go_big_quiet_on))
            refine wpR_rel pick rfl ((hR.rel _).trans rfl) ((hR.turns _).trans rfl) ?_ ?_
            · intro u hu
              have hk := hR.since hu.1
              have hks := hk.size
              have hz := slClone_any (some ⟨bb, o, none⟩) 0 (b.drop 24) u (by rw [List.length_drop]; omega) (HYK.out u hk)
              rw [List.length_drop] at hz
              unfold relAt
              go_simp
              refine hz.mono ?_
              rintro e w' ⟨v, rfl, hT, hb'⟩
              exact ⟨_, rfl, hR.intoB hb', hR.put 1 rfl rfl (hT.more hks)⟩
            intro v hv
            obtain ⟨u, _, hu⟩ := hv
            obtain hT3 := hR.get 1 rfl hu
            clear hu
            obtain ⟨NA, nc, hne, -, -⟩ := hT3.shape
            rw [bcs_length, List.length_drop] at hne
            subst hne
            clear hT3
            intro K hK
            go_big_quiet_op
            go_big_quiet_on
            repeat (first | (refine wpR_det hp2 rfl ((hR.rel _).trans rfl) rfl ?_; intro K hK; go_big_quiet_op; go_big_quiet_on) | (refine wpR_ptr hp2 rfl ((hR.rel _).trans rfl) rfl rfl ?_; intro K hK; go_big_quiet_op; go_big_quiet_on) | (refine wpR_skip pick rfl ?_; intro K hK; go_big_quiet_op; go_big_quiet_on))
            refine wpR_turn pick rfl ((hR.rel _).trans rfl) ((hR.turns _).trans rfl) ((hR.adds _).trans rfl) ?_ ?_
            · intro u hu hM
              have hk := hR.since hu.1
              have hks := hk.size
              have hK0 := hR.first hM
              have hB0 := HRr.out.kept hK0 (fun h => h)
              have cB := hB0.cell
              have fB := hB0.frozen
              have lB := hB0.lt
              unfold relAt
              go_simp
              exact ⟨hR.into (Kept.set4 (S := fun i => i = rb) (Kept.refl _ _) rfl _ _ _ _), hR.put 2 rfl rfl ((((hB0.set_ 0 _).set_ 1 _).set_ 2 _).set_to rfl)⟩
            intro v hv
            obtain ⟨u, _, hu⟩ := hv
            obtain - := hR.get 2 rfl hu
            clear hu
            intro K hK
            go_big_quiet_op
            go_big_quiet_on
            repeat (first | (refine wpR_det hp2 rfl ((hR.rel _).trans rfl) rfl ?_; intro K hK; go_big_quiet_op; go_big_quiet_on) | (refine wpR_ptr hp2 rfl ((hR.rel _).trans rfl) rfl rfl ?_; intro K hK; go_big_quiet_op; go_big_quiet_on) | (refine wpR_skip pick rfl ?_; intro K hK; go_big_quiet_op; go_big_quiet_on))
            refine wpR_nil ?_
            intro w9 hk2 hF hM
            have HV := Lib.hid ((hR.get 1 rfl (hF _ _ (Got.upd_self _ _ _))))
            have HR9 := Lib.hid (hR.get 2 rfl hM)
            have HK9 := Lib.hid (show Kept (fun _ => False) w w9 from HK6.out.then hk2 (fun i hi e => by have := HRB.out; omega))
            clear hF hM hk2 hp1 hp2 hR p0 p1 p2 p3
            go_wp2_with fail
            refine bodyPost_ret (results_blk_tmp2 (P := Try.prog) (show Try.f15.results = _ from rfl) _ _ rb 29 #[.bool true, .bool false, .int .u32 mo, .int .u32 li] _ rfl HR9.out Try.underlying29 rfl (by kernel_rfl)) rfl ⟨.inr (.inl ⟨true, false, HOK.out, _, ?_, HV.out.more (by have := HK6.out.size; omega)⟩), HK9.out.below (Nat.le_refl _) (fun i h => h.elim)⟩
            rw [HMO.out, HLI.out]; rfl
        · have hbq : (hv == b.take 24) = false := by simpa using hq
          rw [hbq]
          have HNO := Lib.hid (show ¬ okF true false b by unfold okF; rw [HMO.out, HLI.out, hhv]; exact hq)
          clear hq hbq
          go_wp2_with fail
          go_roundw
          case rel => exact ⟨3, by omega, rfl, Lib.hid (fun j hj => by
            rcases Nat.lt_or_ge j 2 with h | h
            · exact HNOK.out j h
            · obtain rfl : j = 2 := by omega
              exact HNO.out), HK5⟩
          case measure => simp [intOf]
      · obtain ⟨w2, hw2⟩ : ∃ w2 : World, w2 = wr.alloc (.cells #[.bool true, .bool true, .int .u32 0, .int .u32 0] 29) := ⟨_, rfl⟩
        have HT2 := Lib.hid (show Blk w2 wr.heap.size 29 #[.bool true, .bool true, .int .u32 0, .int .u32 0] by rw [hw2]; exact Blk.new _ _ _)
        have HK2 := Lib.hid (show Kept (fun _ => False) w1 w2 by rw [hw2]; exact HKr.out.alloc _)
        have hix := idx3
        go_upto_region 7 with fail
        clear hix
        rw [← hw2]
        have HTB := Lib.hid (show w1.heap.size ≤ wr.heap.size from HKr.out.size)
        clear hw2
        obtain ⟨tb, htb⟩ : ∃ tb, wr.heap.size = tb := ⟨_, rfl⟩
        rw [htb] at HT2 HTB ⊢
        clear htb
        obtain ⟨mo, hmo⟩ : ∃ mo, ofL true ((b.drop 16).take 4) = mo := ⟨_, rfl⟩
        obtain ⟨li, hli⟩ : ∃ li, ofL true ((b.drop 20).take 4) = li := ⟨_, rfl⟩
        have MOr := Lib.hid (show 0 ≤ mo ∧ mo ≤ 4294967295 by rw [← hmo]; exact ofL_range true _ (by rw [List.length_take, List.length_drop]; omega))
        have LIr := Lib.hid (show 0 ≤ li ∧ li ≤ 4294967295 by rw [← hli]; exact ofL_range true _ (by rw [List.length_take, List.length_drop]; omega))
        have Hmo := Lib.hid (fun u (hu : Kept (fun i => i = tb) w2 u) => (show Calls Try.prog 25 #[.agg #[.bool true, .bool true, .int .u32 0, .int .u32 0], .slice (some ⟨bb, o, none⟩) 24 c, .int .i64 16] u (fun e w' => e = .returned (.int .u32 mo) ∧ Below u.heap.size u w') from by
          have hz := long_any true true 0 0 (some ⟨bb, o, none⟩) c 16 (b.take 24) u (by rw [H24.out]; omega) (by rw [H24.out]; omega) HC.out.2 (by rw [H24.out]; omega) ((HB.out.take_ 24).on (HK1.out.then (HK2.out.then hu (fun i hi e => by have := HTB.out; omega)) (fun _ _ h => h)) (fun _ _ h => h))
          rw [H24.out, show ((b.take 24).drop 16).take 4 = (b.drop 16).take 4 by rw [List.drop_take, List.take_take]; rfl, hmo] at hz
          exact hz))
        have Hli := Lib.hid (fun u (hu : Kept (fun i => i = tb) w2 u) => (show Calls Try.prog 25 #[.agg #[.bool true, .bool true, .int .u32 0, .int .u32 0], .slice (some ⟨bb, o, none⟩) 24 c, .int .i64 20] u (fun e w' => e = .returned (.int .u32 li) ∧ Below u.heap.size u w') from by
          have hz := long_any true true 0 0 (some ⟨bb, o, none⟩) c 20 (b.take 24) u (by rw [H24.out]; omega) (by rw [H24.out]; omega) HC.out.2 (by rw [H24.out]; omega) ((HB.out.take_ 24).on (HK1.out.then (HK2.out.then hu (fun i hi e => by have := HTB.out; omega)) (fun _ _ h => h)) (fun _ _ h => h))
          rw [H24.out, show ((b.take 24).drop 20).take 4 = (b.drop 20).take 4 by rw [List.drop_take, List.take_take]; rfl, hli] at hz
          exact hz))
        have HMO := Lib.hid hmo
        have HLI := Lib.hid hli
        clear hmo hli
        refine wp_region_peek 10 (fun i => i = tb) [7, 9] [] [0, 3] [(2, fun v u => v = .int .u32 mo), (5, fun v u => v = .int .u32 li), (7, fun v u => Blk u tb 29 #[.bool true, .bool true, .int .u32 mo, .int .u32 0]), (9, fun v u => Blk u tb 29 #[.bool true, .bool true, .int .u32 mo, .int .u32 li])] ?st ?ne rfl (by kernel_rfl) (by kernel_rfl) (by kernel_rfl) (by kernel_rfl) ?_
        case st =>
          intro p hp
          simp only [List.mem_cons, List.not_mem_nil, or_false] at hp
          rcases hp with rfl | rfl | rfl | rfl
          · intro v u u' h hk; exact h
          · intro v u u' h hk; exact h
          · intro v u u' h hk; exact h.kept hk (fun h => h)
          · intro v u u' h hk; exact h.kept hk (fun h => h)
        case ne =>
          intro p hp
          simp only [List.mem_cons, List.not_mem_nil, or_false] at hp
          rcases hp with rfl | rfl | rfl | rfl
          · exact ⟨_, _, Kept.refl _ _, rfl⟩
          · exact ⟨_, _, Kept.refl _ _, rfl⟩
          · exact ⟨undef, _, Kept.setIn (S := fun i => i = tb) (b := tb) rfl (Kept.refl _ _), HT2.out.set_to (i := 2) (u := .int .u32 mo) rfl⟩
          · exact ⟨undef, _, Kept.setIn (S := fun i => i = tb) (b := tb) rfl (Kept.setIn (S := fun i => i = tb) (b := tb) rfl (Kept.refl _ _)), (HT2.out.set_ 2 (.int .u32 mo)).set_to (i := 3) (u := .int .u32 li) rfl⟩
        simp only [List.take_succ_cons, List.take_zero, List.drop_succ_cons, List.drop_zero]
        intro G pick pick0 hR hp1 hp2 hpk hq1 hq2
        have p0 : ∀ u, (pick0 u).cell? ⟨tb, 0, none⟩ = some (.bool true) := fun u => ((hq1 u).cell HT2.out.lt (fun h => h) _).trans (HT2.out.cell 0)
        have p1 : ∀ u, (pick0 u).cell? ⟨tb, 1, none⟩ = some (.bool true) := fun u => ((hq1 u).cell HT2.out.lt (fun h => h) _).trans (HT2.out.cell 1)
        have p2 : ∀ u, (pick0 u).cell? ⟨tb, 2, none⟩ = some (.int .u32 0) := fun u => ((hq1 u).cell HT2.out.lt (fun h => h) _).trans (HT2.out.cell 2)
        have p3 : ∀ u, (pick0 u).cell? ⟨tb, 3, none⟩ = some (.int .u32 0) := fun u => ((hq1 u).cell HT2.out.lt (fun h => h) _).trans (HT2.out.cell 3)
        repeat (first | (refine wpR_peek hq2 rfl ((hR.rel _).trans rfl) ((hpk _).trans rfl) rfl ?_; intro K hK; go_big_quiet_op; go_big_quiet_on) | (refine wpR_det hp2 rfl ((hR.rel _).trans rfl) rfl ?_; intro K hK; go_big_quiet_op; go_big_quiet_on) | (refine wpR_ptr hp2 rfl ((hR.rel _).trans rfl) rfl rfl ?_; intro K hK; go_big_quiet_op; go_big_quiet_on) | (refine wpR_skip pick rfl ?_; intro K hK; go_big_quiet_op; go_big_quiet_on))
        refine wpR_rel pick rfl ((hR.rel _).trans rfl) ((hR.turns _).trans rfl) ?_ ?_
        · intro u hu
          have hk := hR.since hu.1
          have hks := hk.size
          have hz := Hmo.out u hk
          unfold relAt
          go_simp
          refine hz.mono ?_
          rintro e w' ⟨rfl, hb'⟩
          exact ⟨_, rfl, hR.intoB hb', hR.put 0 rfl rfl rfl⟩
        intro v hv
        obtain ⟨u, _, hu⟩ := hv
        obtain rfl := hR.get 0 rfl hu
        clear hu
        intro K hK
        go_big_quiet_op
        go_big_quiet_on
        repeat (first | (refine wpR_peek hq2 rfl ((hR.rel _).trans rfl) ((hpk _).trans rfl) rfl ?_; intro K hK; go_big_quiet_op; go_big_quiet_on) | (refine wpR_det hp2 rfl ((hR.rel _).trans rfl) rfl ?_; intro K hK; go_big_quiet_op; go_big_quiet_on) | (refine wpR_ptr hp2 rfl ((hR.rel _).trans rfl) rfl rfl ?_; intro K hK; go_big_quiet_op; go_big_quiet_on) | (refine wpR_skip pick rfl ?_; intro K hK; go_big_quiet_op; go_big_quiet_on))
        refine wpR_rel pick rfl ((hR.rel _).trans rfl) ((hR.turns _).trans rfl) ?_ ?_
        · intro u hu
          have hk := hR.since hu.1
          have hks := hk.size
          have hz := Hli.out u hk
          unfold relAt
          go_simp
          refine hz.mono ?_
          rintro e w' ⟨rfl, hb'⟩
          exact ⟨_, rfl, hR.intoB hb', hR.put 1 rfl rfl rfl⟩
        intro v hv
        obtain ⟨u, _, hu⟩ := hv
        obtain rfl := hR.get 1 rfl hu
        clear hu
        intro K hK
        go_big_quiet_op
        go_big_quiet_on
        repeat (first | (refine wpR_peek hq2 rfl ((hR.rel _).trans rfl) ((hpk _).trans rfl) rfl ?_; intro K hK; go_big_quiet_op; go_big_quiet_on) | (refine wpR_det hp2 rfl ((hR.rel _).trans rfl) rfl ?_; intro K hK; go_big_quiet_op; go_big_quiet_on) | (refine wpR_ptr hp2 rfl ((hR.rel _).trans rfl) rfl rfl ?_; intro K hK; go_big_quiet_op; go_big_quiet_on) | (refine wpR_skip pick rfl ?_; intro K hK; go_big_quiet_op; go_big_quiet_on))
        refine wpR_turn pick rfl ((hR.rel _).trans rfl) ((hR.turns _).trans rfl) ((hR.adds _).trans rfl) ?_ ?_
        · intro u hu hM
          have hk := hR.since hu.1
          have hks := hk.size
          have hK0 := hR.first hM
          have hB0 := HT2.out.kept hK0 (fun h => h)
          have cB := hB0.cell
          have fB := hB0.frozen
          have lB := hB0.lt
          unfold relAt
          go_simp
          exact ⟨hR.into (Kept.setIn (S := fun i => i = tb) (b := tb) rfl (Kept.refl _ _)), hR.put 2 rfl rfl (hB0.set_to rfl)⟩
        intro v hv
        obtain ⟨u, _, hu⟩ := hv
        obtain - := hR.get 2 rfl hu
        clear hu
        intro K hK
        go_big_quiet_op
        go_big_quiet_on
        repeat (first | (refine wpR_peek hq2 rfl ((hR.rel _).trans rfl) ((hpk _).trans rfl) rfl ?_; intro K hK; go_big_quiet_op; go_big_quiet_on) | (refine wpR_det hp2 rfl ((hR.rel _).trans rfl) rfl ?_; intro K hK; go_big_quiet_op; go_big_quiet_on) | (refine wpR_ptr hp2 rfl ((hR.rel _).trans rfl) rfl rfl ?_; intro K hK; go_big_quiet_op; go_big_quiet_on) | (refine wpR_skip pick rfl ?_; intro K hK; go_big_quiet_op; go_big_quiet_on))
        refine wpR_turn pick rfl ((hR.rel _).trans rfl) ((hR.turns _).trans rfl) ((hR.adds _).trans rfl) ?_ ?_
        · intro u hu hM
          have hk := hR.since hu.1
          have hks := hk.size
          have hB0 : Blk u tb 29 #[.bool true, .bool true, .int .u32 mo, .int .u32 0] := hR.get 2 rfl hM
          have cB := hB0.cell
          have fB := hB0.frozen
          have lB := hB0.lt
          unfold relAt
          go_simp
          exact ⟨hR.into (Kept.setIn (S := fun i => i = tb) (b := tb) rfl (Kept.refl _ _)), hR.put 3 rfl rfl (hB0.set_to rfl)⟩
        intro v hv
        obtain ⟨u, _, hu⟩ := hv
        obtain - := hR.get 3 rfl hu
        clear hu
        intro K hK
        go_big_quiet_op
        go_big_quiet_on
        repeat (first | (refine wpR_peek hq2 rfl ((hR.rel _).trans rfl) ((hpk _).trans rfl) rfl ?_; intro K hK; go_big_quiet_op; go_big_quiet_on) | (refine wpR_det hp2 rfl ((hR.rel _).trans rfl) rfl ?_; intro K hK; go_big_quiet_op; go_big_quiet_on) | (refine wpR_ptr hp2 rfl ((hR.rel _).trans rfl) rfl rfl ?_; intro K hK; go_big_quiet_op; go_big_quiet_on) | (refine wpR_skip pick rfl ?_; intro K hK; go_big_quiet_op; go_big_quiet_on))
        refine wpR_nil ?_
        intro w4 hk2 hF hM
        have HT4 := Lib.hid (hR.get 3 rfl hM)
        have HK4 := Lib.hid (show Kept (fun _ => False) w1 w4 from HK2.out.then hk2 (fun i hi e => by have := HTB.out; omega))
        clear hF hM hk2 hp1 hp2 hpk hq1 hq2 hR p0 p1 p2 p3
        go_upto_region 8 with fail
        have ct := HT4.out.cell
        have hhd := head_any true true mo li w4 MOr.out LIr.out
        obtain ⟨hv, hhv⟩ : ∃ hv, headL true true mo li = hv := ⟨_, rfl⟩
        rw [hhv] at hhd
        have HHD := Lib.hid hhd
        clear hhd
        go_wp2_with fail
        refine HHD.out.mono ?_
        rintro e w5 ⟨v, rfl, ⟨VA, vc, rfl, -, -, hvb⟩, hb5⟩
        have HVB := Lib.hid hvb
        have HK5 := Lib.hid (show Kept (fun _ => False) w1 w5 from HK4.out.then (Kept.ofB (S := fun _ => False) hb5) (fun _ _ h => h.elim))
        have HT5 := Lib.hid (HT4.out.below hb5 HT4.out.lt)
        clear hvb hb5 ct
        go_wp2_with fail
        have hz := equal_any VA (some ⟨bb, o, none⟩) vc c hv (b.take 24) w5 HVB.out ((HB.out.take_ 24).on (HK1.out.trans HK5.out) (fun _ _ h => h))
        rw [H24.out] at hz
        refine hz.mono ?_
        clear hz
        rintro e w6 ⟨rfl, rfl⟩
        have HK6 := Lib.hid (HK1.out.trans HK5.out)
        have HT6 := HT5
        by_cases hq : hv = b.take 24
        · have hbq : (hv == b.take 24) = true := by simpa using hq
          rw [hbq]
          have HOK := Lib.hid (show okF true true b by unfold okF; rw [HMO.out, HLI.out, hhv]; exact hq)
          clear hq hbq
          have HRr := Lib.hid (HR1.out.kept HK5.out (fun h => h))
          have HRL := Lib.hid (HRr.out.lt)
          have HTN := Lib.hid (show ¬ tb = rb by have := HTB.out; have := HR1.out.lt; omega)
          by_cases hc24 : 24 < c
          · have j1 : (24 : Int) < (c : Int) := by omega
            have HYB := Lib.hid (show BS w w.heap.size (some ⟨bb, o + 24, none⟩) (b.drop 24) from HB.out.drop_ 24)
            go_wp2_with fail
            have HYK := Lib.hid (fun u (hu : Kept (fun i => i = rb) w5 u) => (show BS u u.heap.size (some ⟨bb, o + 24, none⟩) (b.drop 24) from (HYB.out.kept (HK6.out.then hu (fun i hi e => by have := HRB.out; omega)) (Nat.le_refl _) (fun _ _ h => h)).more (by have := HK6.out.size; have := hu.size; omega)))
            refine wp_region_add 5 (fun i => i = rb) [4] [] [(3, fun v u => Row u w5.heap.size 5 v (bcs (b.drop 24))), (4, fun v u => Blk u rb 29 #[.bool true, .bool true, .int .u32 mo, .int .u32 li])] ?st ?ne rfl (by kernel_rfl) (by kernel_rfl) (by kernel_rfl) ?_
            case st =>
              intro p hp
              simp only [List.mem_cons, List.not_mem_nil, or_false] at hp
              rcases hp with rfl | rfl
              · intro v u u' h hk; exact h.kept hk (fun g hg e => by subst e; have := (h.lt _ hg).1; have := HRL.out; omega)
              · intro v u u' h hk; exact h.kept hk (fun h => h)
            case ne =>
              intro p hp
              simp only [List.mem_cons, List.not_mem_nil, or_false] at hp
              rcases hp with rfl | rfl
              · exact ⟨_, _, (Kept.refl _ _).alloc (.cells (bcs (b.drop 24)).toArray 5), Row.of_blk (Blk.new _ _ _) (Nat.le_refl _) (by simp [bcs_length]; unfold maxLen; omega) (by simp)⟩
              · exact ⟨undef, _, Kept.set4 (S := fun i => i = rb) (Kept.refl _ _) rfl (.bool true) (.bool true) (.int .u32 mo) (.int .u32 li), (((HRr.out.set_ 0 _).set_ 1 _).set_ 2 _).set_to rfl⟩
            simp only [List.take_succ_cons, List.take_zero, List.drop_succ_cons, List.drop_zero]
            intro G pick hR hp1 hp2
            have p0 : ∀ u, (pick u).cell? ⟨tb, 0, none⟩ = some (.bool true) := fun u => ((hp1 u).cell HT6.out.lt HTN.out _).trans (HT6.out.cell 0)
            have p1 : ∀ u, (pick u).cell? ⟨tb, 1, none⟩ = some (.bool true) := fun u => ((hp1 u).cell HT6.out.lt HTN.out _).trans (HT6.out.cell 1)
            have p2 : ∀ u, (pick u).cell? ⟨tb, 2, none⟩ = some (.int .u32 mo) := fun u => ((hp1 u).cell HT6.out.lt HTN.out _).trans (HT6.out.cell 2)
            have p3 : ∀ u, (pick u).cell? ⟨tb, 3, none⟩ = some (.int .u32 li) := fun u => ((hp1 u).cell HT6.out.lt HTN.out _).trans (HT6.out.cell 3)
            repeat (first | (refine wpR_det hp2 rfl ((hR.rel _).trans rfl) rfl ?_; intro K hK; go_big_quiet_op; go_big_quiet_on) | (refine wpR_ptr hp2 rfl ((hR.rel _).trans rfl) rfl rfl ?_; intro K hK; go_big_quiet_op; go_big_quiet_on) | (refine wpR_skip pick rfl ?_; intro K hK; go_big_quiet_op; go_big_quiet_on))
            refine wpR_rel pick rfl ((hR.rel _).trans rfl) ((hR.turns _).trans rfl) ?_ ?_
            · intro u hu
              have hk := hR.since hu.1
              have hks := hk.size
              have hz := slClone_any (some ⟨bb, o + 24, none⟩) (c - 24) (b.drop 24) u (by rw [List.length_drop]; omega) (HYK.out u hk)
              rw [List.length_drop] at hz
              unfold relAt
              go_simp
              refine hz.mono ?_
              rintro e w' ⟨v, rfl, hT, hb'⟩
              exact ⟨_, rfl, hR.intoB hb', hR.put 0 rfl rfl (hT.more hks)⟩
            intro v hv
            obtain ⟨u, _, hu⟩ := hv
            obtain hT3 := hR.get 0 rfl hu
            clear hu
            obtain ⟨NA, nc, hne, -, -⟩ := hT3.shape
            rw [bcs_length, List.length_drop] at hne
            subst hne
            clear hT3
            intro K hK
            go_big_quiet_op
            go_big_quiet_on
            repeat (first | (refine wpR_det hp2 rfl ((hR.rel _).trans rfl) rfl ?_; intro K hK; go_big_quiet_op; go_big_quiet_on) | (refine wpR_ptr hp2 rfl ((hR.rel _).trans rfl) rfl rfl ?_; intro K hK; go_big_quiet_op; go_big_quiet_on) | (refine wpR_skip pick rfl ?_; intro K hK; go_big_quiet_op; go_big_quiet_on))
            refine wpR_turn pick rfl ((hR.rel _).trans rfl) ((hR.turns _).trans rfl) ((hR.adds _).trans rfl) ?_ ?_
            · intro u hu hM
              have hk := hR.since hu.1
              have hks := hk.size
              have hK0 := hR.first hM
              have hB0 := HRr.out.kept hK0 (fun h => h)
              have cB := hB0.cell
              have fB := hB0.frozen
              have lB := hB0.lt
              unfold relAt
              go_simp
              exact ⟨hR.into (Kept.set4 (S := fun i => i = rb) (Kept.refl _ _) rfl _ _ _ _), hR.put 1 rfl rfl ((((hB0.set_ 0 _).set_ 1 _).set_ 2 _).set_to rfl)⟩
            intro v hv
            obtain ⟨u, _, hu⟩ := hv
            obtain - := hR.get 1 rfl hu
            clear hu
            intro K hK
            go_big_quiet_op
            go_big_quiet_on
            repeat (first | (refine wpR_det hp2 rfl ((hR.rel _).trans rfl) rfl ?_; intro K hK; go_big_quiet_op; go_big_quiet_on) | (refine wpR_ptr hp2 rfl ((hR.rel _).trans rfl) rfl rfl ?_; intro K hK; go_big_quiet_op; go_big_quiet_on) | (refine wpR_skip pick rfl ?_; intro K hK; go_big_quiet_op; go_big_quiet_on))
            refine wpR_nil ?_
            intro w9 hk2 hF hM
            have HV := Lib.hid ((hR.get 0 rfl (hF _ _ (Got.upd_self _ _ _))))
            have HR9 := Lib.hid (hR.get 1 rfl hM)
            have HK9 := Lib.hid (show Kept (fun _ => False) w w9 from HK6.out.then hk2 (fun i hi e => by have := HRB.out; omega))
            clear hF hM hk2 hp1 hp2 hR p0 p1 p2 p3
            go_wp2_with fail
            refine bodyPost_ret (results_blk_tmp2 (P := Try.prog) (show Try.f15.results = _ from rfl) _ _ rb 29 #[.bool true, .bool true, .int .u32 mo, .int .u32 li] _ rfl HR9.out Try.underlying29 rfl (by kernel_rfl)) rfl ⟨.inr (.inl ⟨true, true, HOK.out, _, ?_, HV.out.more (by have := HK6.out.size; omega)⟩), HK9.out.below (Nat.le_refl _) (fun i h => h.elim)⟩
            rw [HMO.out, HLI.out]; rfl
          · have HCEQ := Lib.hid (show c = 24 by omega)
            have HYB := Lib.hid (show BS w w.heap.size (some ⟨bb, o, none⟩) (b.drop 24) from .inl (List.drop_eq_nil_of_le (by omega)))
            go_wp2_with fail
            have HYK := Lib.hid (fun u (hu : Kept (fun i => i = rb) w5 u) => (show BS u u.heap.size (some ⟨bb, o, none⟩) (b.drop 24) from (HYB.out.kept (HK6.out.then hu (fun i hi e => by have := HRB.out; omega)) (Nat.le_refl _) (fun _ _ h => h)).more (by have := HK6.out.size; have := hu.size; omega)))
            refine wp_region_add 5 (fun i => i = rb) [4] [] [(2, fun v u => v = .slice (some ⟨bb, o, none⟩) (b.length - 24) 0), (3, fun v u => Row u w5.heap.size 5 v (bcs (b.drop 24))), (4, fun v u => Blk u rb 29 #[.bool true, .bool true, .int .u32 mo, .int .u32 li])] ?st ?ne rfl (by kernel_rfl) (by kernel_rfl) (by kernel_rfl) ?_
            case st =>
              intro p hp
              simp only [List.mem_cons, List.not_mem_nil, or_false] at hp
              rcases hp with rfl | rfl | rfl
              · intro v u u' h hk; exact h
              · intro v u u' h hk; exact h.kept hk (fun g hg e => by subst e; have := (h.lt _ hg).1; have := HRL.out; omega)
              · intro v u u' h hk; exact h.kept hk (fun h => h)
            case ne =>
              intro p hp
              simp only [List.mem_cons, List.not_mem_nil, or_false] at hp
              rcases hp with rfl | rfl | rfl
              · exact ⟨_, _, Kept.refl _ _, rfl⟩
              · exact ⟨_, _, (Kept.refl _ _).alloc (.cells (bcs (b.drop 24)).toArray 5), Row.of_blk (Blk.new _ _ _) (Nat.le_refl _) (by simp [bcs_length]; unfold maxLen; omega) (by simp)⟩
              · exact ⟨undef, _, Kept.set4 (S := fun i => i = rb) (Kept.refl _ _) rfl (.bool true) (.bool true) (.int .u32 mo) (.int .u32 li), (((HRr.out.set_ 0 _).set_ 1 _).set_ 2 _).set_to rfl⟩
            simp only [List.take_succ_cons, List.take_zero, List.drop_succ_cons, List.drop_zero]
            intro G pick hR hp1 hp2
            have p0 : ∀ u, (pick u).cell? ⟨tb, 0, none⟩ = some (.bool true) := fun u => ((hp1 u).cell HT6.out.lt HTN.out _).trans (HT6.out.cell 0)
            have p1 : ∀ u, (pick u).cell? ⟨tb, 1, none⟩ = some (.bool true) := fun u => ((hp1 u).cell HT6.out.lt HTN.out _).trans (HT6.out.cell 1)
            have p2 : ∀ u, (pick u).cell? ⟨tb, 2, none⟩ = some (.int .u32 mo) := fun u => ((hp1 u).cell HT6.out.lt HTN.out _).trans (HT6.out.cell 2)
            have p3 : ∀ u, (pick u).cell? ⟨tb, 3, none⟩ = some (.int .u32 li) := fun u => ((hp1 u).cell HT6.out.lt HTN.out _).trans (HT6.out.cell 3)
            repeat (first | (refine wpR_det hp2 rfl ((hR.rel _).trans rfl) rfl ?_; intro K hK; go_big_quiet_op; go_big_quiet_on) | (refine wpR_ptr hp2 rfl ((hR.rel _).trans rfl) rfl rfl ?_; intro K hK; go_big_quiet_op; go_big_quiet_on) | (refine wpR_skip pick rfl ?_; intro K hK; go_big_quiet_op; go_big_quiet_on))
            refine wpR_rel pick rfl ((hR.rel _).trans rfl) ((hR.turns _).trans rfl) ?_ ?_
            · intro u hu
              have hk := hR.since hu.1
              have hks := hk.size
              have hceq := HCEQ.out
              unfold relAt
              go_simp
              have e1 : (b.length : Int).toNat - 24 = b.length - 24 := by omega
              exact ⟨hR.into0 (Kept.refl _ _), hR.put 0 rfl rfl rfl⟩
            intro v hv
            obtain ⟨u, _, hu⟩ := hv
            obtain rfl := hR.get 0 rfl hu
            clear hu
            intro K hK
            go_big_quiet_op
            go_big_quiet_on
            repeat (first | (refine wpR_det hp2 rfl ((hR.rel _).trans rfl) rfl ?_; intro K hK; go_big_quiet_op; go_big_quiet_on) | (refine wpR_ptr hp2 rfl ((hR.rel _).trans rfl) rfl rfl ?_; intro K hK; go_big_quiet_op; go_big_quiet_on) | (refine wpR_skip pick rfl ?_; intro K hK; go_big_quiet_op; go_big_quiet_on))
            refine wpR_rel pick rfl ((hR.rel _).trans rfl) ((hR.turns _).trans rfl) ?_ ?_
            · intro u hu
              have hk := hR.since hu.1
              have hks := hk.size
              have hz := slClone_any (some ⟨bb, o, none⟩) 0 (b.drop 24) u (by rw [List.length_drop]; omega) (HYK.out u hk)
              rw [List.length_drop] at hz
              unfold relAt
              go_simp
              refine hz.mono ?_
              rintro e w' ⟨v, rfl, hT, hb'⟩
              exact ⟨_, rfl, hR.intoB hb', hR.put 1 rfl rfl (hT.more hks)⟩
            intro v hv
            obtain ⟨u, _, hu⟩ := hv
            obtain hT3 := hR.get 1 rfl hu
            clear hu
            obtain ⟨NA, nc, hne, -, -⟩ := hT3.shape
            rw [bcs_length, List.length_drop] at hne
            subst hne
            clear hT3
            intro K hK
            go_big_quiet_op
            go_big_quiet_on
            repeat (first | (refine wpR_det hp2 rfl ((hR.rel _).trans rfl) rfl ?_; intro K hK; go_big_quiet_op; go_big_quiet_on) | (refine wpR_ptr hp2 rfl ((hR.rel _).trans rfl) rfl rfl ?_; intro K hK; go_big_quiet_op; go_big_quiet_on) | (refine wpR_skip pick rfl ?_; intro K hK; go_big_quiet_op; go_big_quiet_on))
            refine wpR_turn pick rfl ((hR.rel _).trans rfl) ((hR.turns _).trans rfl) ((hR.adds _).trans rfl) ?_ ?_
            · intro u hu hM
              have hk := hR.since hu.1
              have hks := hk.size
              have hK0 := hR.first hM
              have hB0 := HRr.out.kept hK0 (fun h => h)
              have cB := hB0.cell
              have fB := hB0.frozen
              have lB := hB0.lt
              unfold relAt
              go_simp
              exact ⟨hR.into (Kept.set4 (S := fun i => i = rb) (Kept.refl _ _) rfl _ _ _ _), hR.put 2 rfl rfl ((((hB0.set_ 0 _).set_ 1 _).set_ 2 _).set_to rfl)⟩
            intro v hv
            obtain ⟨u, _, hu⟩ := hv
            obtain - := hR.get 2 rfl hu
            clear hu
            intro K hK
            go_big_quiet_op
            go_big_quiet_on
            repeat (first | (refine wpR_det hp2 rfl ((hR.rel _).trans rfl) rfl ?_; intro K hK; go_big_quiet_op; go_big_quiet_on) | (refine wpR_ptr hp2 rfl ((hR.rel _).trans rfl) rfl rfl ?_; intro K hK; go_big_quiet_op; go_big_quiet_on) | (refine wpR_skip pick rfl ?_; intro K hK; go_big_quiet_op; go_big_quiet_on))
            refine wpR_nil ?_
            intro w9 hk2 hF hM
            have HV := Lib.hid ((hR.get 1 rfl (hF _ _ (Got.upd_self _ _ _))))
            have HR9 := Lib.hid (hR.get 2 rfl hM)
            have HK9 := Lib.hid (show Kept (fun _ => False) w w9 from HK6.out.then hk2 (fun i hi e => by have := HRB.out; omega))
            clear hF hM hk2 hp1 hp2 hR p0 p1 p2 p3
            go_wp2_with fail
            refine bodyPost_ret (results_blk_tmp2 (P := Try.prog) (show Try.f15.results = _ from rfl) _ _ rb 29 #[.bool true, .bool true, .int .u32 mo, .int .u32 li] _ rfl HR9.out Try.underlying29 rfl (by kernel_rfl)) rfl ⟨.inr (.inl ⟨true, true, HOK.out, _, ?_, HV.out.more (by have := HK6.out.size; omega)⟩), HK9.out.below (Nat.le_refl _) (fun i h => h.elim)⟩
            rw [HMO.out, HLI.out]; rfl
        · have hbq : (hv == b.take 24) = false := by simpa using hq
          rw [hbq]
          have HNO := Lib.hid (show ¬ okF true true b by unfold okF; rw [HMO.out, HLI.out, hhv]; exact hq)
          clear hq hbq
          go_wp2_with fail
          go_roundw
          case rel => exact ⟨4, by omega, rfl, Lib.hid (fun j hj => by
            rcases Nat.lt_or_ge j 3 with h | h
            · exact HNOK.out j h
            · obtain rfl : j = 3 := by omega
              exact HNO.out), HK5⟩
          case measure => simp [intOf]
      · have HR9 := Lib.hid (HR1.out.kept HKr.out (fun h => h))
        have HNO := Lib.hid (show ∀ sm na, ¬ okF sm na b from fun sm na => by
          cases sm <;> cases na
          · exact HNOK.out 0 (by omega)
          · exact HNOK.out 1 (by omega)
          · exact HNOK.out 2 (by omega)
          · exact HNOK.out 3 (by omega))
        have cr := HR9.out.cell
        have fr := HR9.out.frozen
        have lr := HR9.out.lt
        go_wp2_with fail
        refine bodyPost_ret (results_blk_tmp2 (P := Try.prog) (show Try.f15.results = _ from rfl) _ _ rb 29 #[.bool false, .bool false, .int .u32 0, .int .u32 0] _ rfl ((((HR9.out.set_ 0 _).set_ 1 _).set_ 2 _).set_to rfl) Try.underlying29 rfl (by kernel_rfl)) rfl ⟨.inr (.inr ⟨h24, HNO.out, rfl⟩), ?_⟩
        exact (HK1.out.below (Nat.le_refl _) (fun i h => h.elim)).trans ((Kept.set4 (S := fun i => i = rb) (HKr.out.mono (T := fun i => i = rb) (fun _ _ h => h.elim)) rfl _ _ _ _).below HK1.out.size (fun i e => by have := HRB.out; omega))
  · have i1 : (b.length : Int) < 24 := by omega
    have cr := HR1.out.cell
    have fr := HR1.out.frozen
    have lr := HR1.out.lt
    go_wp2_with fail
    refine bodyPost_ret (results_blk_tmp2 (P := Try.prog) (show Try.f15.results = _ from rfl) _ _ rb 29 #[.bool false, .bool false, .int .u32 0, .int .u32 0] _ rfl ((((HR1.out.set_ 0 _).set_ 1 _).set_ 2 _).set_to rfl) Try.underlying29 rfl (by kernel_rfl)) rfl ⟨.inl ⟨by omega, rfl⟩, ?_⟩
    exact (HK1.out.below (Nat.le_refl _) (fun i h => h.elim)).trans ((Kept.set4 (S := fun i => i = rb) (Kept.refl (fun i => i = rb) w1) rfl _ _ _ _).below HK1.out.size (fun i e => by have := HRB.out; omega))
end Go.Proofs.Ytohimionlgaaoaa
