/- fits. -/
import Derived.Test.YthfdhggcnkgjfaaGreatDoorUH
import Derived.Test.YthfdhggcnkgjfaaGreatDoorTD
import Derived.Test.YthfdhggcnkgjfaaGreatDoorYH
import Derived.Test.YthfdhggcnkgjfaaGreatDoorPlainU
namespace Go.Proofs.YthfdhggcnkgjfaaGreatDoor
open Go.RowKit
set_option linter.unusedVariables false
set_option linter.unusedSimpArgs false
theorem relAt_load_mid {P : Program} {w : World} {o : Oper} {a : Act} {R : Value → World → Prop} (ty : TypeId) (x : Operand) (ho : o.op = .load ty x)
    (b of_ : Nat) (hx : a.eval x = .pointer (some ⟨b, of_, none⟩)) (cs : List Value) (d : TypeDesc) (hc : w.rangeAt b of_ cs)
    (hu : P.underlying ty = some d) (hd : d.isRow = true) (hi : (P.info? ty).map (·.size) = some cs.length) (h : R (.agg cs.toArray) w) : relAt P o a w R := by
  unfold relAt execOp
  simp only [ho, hx, Instr.loadAt, Instr.sureAddr, Sem.run_bind, Sem.run_pure, Result.andThen_ok, run_loadVar_mid w b of_ ty cs d hc hu hd hi]
  exact h
def rangeB (s : Sp) : Bool := decide (0 ≤ s.kind ∧ s.kind ≤ 15 ∧ 0 ≤ s.who ∧ 0 ≤ s.time ∧ 0 ≤ s.op.vip ∧ 0 ≤ s.op.backend ∧ 0 ≤ s.op.version ∧ 0 ≤ s.op.way ∧ s.op.way ≤ 4)
def memB (s : Sp) : Bool := s.op.ms.all fun m => decide (0 ≤ m.1 ∧ 0 ≤ m.2)
def fitsB (s : Sp) : Bool := rangeB s && memB s && sameO (lineP (writeR s)) s
set_option maxRecDepth 20000 in
set_option maxHeartbeats 40000000 in
theorem fits_any (s : Sp) (MA LA : Option Addr) (mc lc : Nat) (w : World) (hI : SpI s) (hl : s.op.ms.length ≤ 70) (hld : s.load.length ≤ 4000) (hwo : (joinC 32 (opG adrT proR s.op)).length ≤ 100000) (hwl : (writeR s).length ≤ 4000) (hmc : s.op.ms.length ≤ mc ∧ mc ≤ maxLen) (hM : ES w w.heap.size MA 2 (mcs s.op.ms)) (hL : BS w w.heap.size LA s.load) :
    Calls Tryz.prog 12 #[.agg (SpC (.slice MA s.op.ms.length mc) (.slice LA s.load.length lc) s)] w fun e w' => e = .returned (.bool (fitsB s)) ∧ Kept (fun _ => False) w w' := by
  have HM := Lib.hid hM
  have HLA := Lib.hid hL
  have HI := Lib.hid hI
  have HL := Lib.hid hl
  have HLD := Lib.hid hld
  have HWO := Lib.hid hwo
  have HWL := Lib.hid hwl
  have HMC := Lib.hid hmc
  clear hM hL hI hl hld hwo hwl hmc
  unfold SpC
  go_enter Tryz.func12, Tryz.ntmps12
  go_upto_region 1 with fail
  obtain ⟨w1, hw1⟩ : ∃ w1 : World, w1 = w.alloc (.cells #[.int .i64 s.kind, .int .i64 s.op.kind, .int .i64 s.op.vip, .int .i64 s.op.backend, .int .i64 s.op.version, .bool s.op.a.six, .int .u64 (s.op.a.hi : Int), .int .u64 (s.op.a.lo : Int), .int .u16 (s.op.port : Int), .int .u8 (s.op.proto : Int), .int .i64 s.op.way, .slice MA s.op.ms.length mc, .int .i64 s.who, .int .i64 s.time, .int .u8 (s.flags : Int), .slice LA s.load.length lc, .int .u32 (s.n : Int), .int .u32 (s.x : Int), .int .u32 (s.y : Int), .bool s.src.six, .int .u64 (s.src.hi : Int), .int .u64 (s.src.lo : Int), .int .u16 (s.port : Int)] 41) := ⟨_, rfl⟩
  have HK1 := Lib.hid (show Kept (fun _ => False) w w1 by rw [hw1]; exact (Kept.refl _ _).alloc _)
  have HN1 := Lib.hid (show Blk w1 w.heap.size 41 #[.int .i64 s.kind, .int .i64 s.op.kind, .int .i64 s.op.vip, .int .i64 s.op.backend, .int .i64 s.op.version, .bool s.op.a.six, .int .u64 (s.op.a.hi : Int), .int .u64 (s.op.a.lo : Int), .int .u16 (s.op.port : Int), .int .u8 (s.op.proto : Int), .int .i64 s.op.way, .slice MA s.op.ms.length mc, .int .i64 s.who, .int .i64 s.time, .int .u8 (s.flags : Int), .slice LA s.load.length lc, .int .u32 (s.n : Int), .int .u32 (s.x : Int), .int .u32 (s.y : Int), .bool s.src.six, .int .u64 (s.src.hi : Int), .int .u64 (s.src.lo : Int), .int .u16 (s.port : Int)] by rw [hw1]; exact Blk.new _ _ _)
  rw [← hw1]
  clear hw1
  have cB := HN1.out.cell
  by_cases c0 : s.kind < 0
  · have HF := Lib.hid (show fitsB s = false by unfold fitsB rangeB; rw [decide_eq_false (by omega)]; rfl)
    go_wp2_with fail
    go_ret
    exact ⟨by rw [HF.out]; rfl, HK1.out⟩
  by_cases c1 : 15 < s.kind
  · have HF := Lib.hid (show fitsB s = false by unfold fitsB rangeB; rw [decide_eq_false (by omega)]; rfl)
    go_wp2_with fail
    go_ret
    exact ⟨by rw [HF.out]; rfl, HK1.out⟩
  by_cases c2 : s.who < 0
  · have HF := Lib.hid (show fitsB s = false by unfold fitsB rangeB; rw [decide_eq_false (by omega)]; rfl)
    go_wp2_with fail
    go_ret
    exact ⟨by rw [HF.out]; rfl, HK1.out⟩
  by_cases c3 : s.time < 0
  · have HF := Lib.hid (show fitsB s = false by unfold fitsB rangeB; rw [decide_eq_false (by omega)]; rfl)
    go_wp2_with fail
    go_ret
    exact ⟨by rw [HF.out]; rfl, HK1.out⟩
  by_cases c4 : s.op.vip < 0
  · have HF := Lib.hid (show fitsB s = false by unfold fitsB rangeB; rw [decide_eq_false (by omega)]; rfl)
    go_wp2_with fail
    go_ret
    exact ⟨by rw [HF.out]; rfl, HK1.out⟩
  by_cases c5 : s.op.backend < 0
  · have HF := Lib.hid (show fitsB s = false by unfold fitsB rangeB; rw [decide_eq_false (by omega)]; rfl)
    go_wp2_with fail
    go_ret
    exact ⟨by rw [HF.out]; rfl, HK1.out⟩
  by_cases c6 : s.op.version < 0
  · have HF := Lib.hid (show fitsB s = false by unfold fitsB rangeB; rw [decide_eq_false (by omega)]; rfl)
    go_wp2_with fail
    go_ret
    exact ⟨by rw [HF.out]; rfl, HK1.out⟩
  by_cases c7 : s.op.way < 0
  · have HF := Lib.hid (show fitsB s = false by unfold fitsB rangeB; rw [decide_eq_false (by omega)]; rfl)
    go_wp2_with fail
    go_ret
    exact ⟨by rw [HF.out]; rfl, HK1.out⟩
  by_cases c8 : 4 < s.op.way
  · have HF := Lib.hid (show fitsB s = false by unfold fitsB rangeB; rw [decide_eq_false (by omega)]; rfl)
    go_wp2_with fail
    go_ret
    exact ⟨by rw [HF.out]; rfl, HK1.out⟩
  go_wp2_with fail
  go_loop [3] (fun n => ∃ k : Nat, k ≤ s.op.ms.length ∧ n = .int .i64 (k : Int) ∧ Hid (∀ m ∈ s.op.ms.take k, 0 ≤ m.1 ∧ 0 ≤ m.2)) (fun n => s.op.ms.length - (intOf n).toNat)
  case atStart => exact ⟨0, by omega, rfl, Lib.hid (by simp)⟩
  case round =>
    obtain ⟨k, hk, rfl, HMK⟩ := hrel
    have k0 : (0 : Int) ≤ (k : Int) := Int.natCast_nonneg _
    have hll := HL.out
    by_cases hlt : k < s.op.ms.length
    · have kI : (k : Int) < (s.op.ms.length : Int) := by omega
      obtain ⟨b, off, hb, hMA, hat⟩ := HM.out.at (k := k) (by rw [mcs_len]; exact hlt)
      subst hMA
      obtain ⟨⟨ma, mb⟩, hm⟩ : ∃ m, s.op.ms[k] = m := ⟨_, rfl⟩
      have hin : (ma, mb) ∈ s.op.ms := by rw [← hm]; exact List.getElem_mem hlt
      have HTK := Lib.hid (show s.op.ms.take (k + 1) = s.op.ms.take k ++ [(ma, mb)] by rw [List.take_succ_eq_append_getElem hlt, hm])
      have c0 : w1.cell? ⟨b, off + k * 2, none⟩ = some (.int .i64 ma) := by
        rw [HK1.out.cell hb (fun h => h), hat.get0 (k := k) (by rw [mcs_len]; exact hlt) (by decide)]
        simp [mcs, hm]
      have c1' : w1.cell? ⟨b, off + k * 2 + 1, none⟩ = some (.int .i64 mb) := by
        rw [HK1.out.cell hb (fun h => h), hat.get (k := k) (by rw [mcs_len]; exact hlt) 1 (by decide)]
        simp [mcs, hm]
      clear hm hat
      by_cases hma : ma < 0
      · have HF := Lib.hid (show fitsB s = false by
          unfold fitsB memB
          rw [List.all_eq_false.2 ⟨(ma, mb), hin, by simp; omega⟩]
          simp)
        clear hin
        go_wp2_with fail
        go_ret
        exact ⟨by rw [HF.out]; rfl, HK1.out⟩
      · by_cases hmb : mb < 0
        · have HF := Lib.hid (show fitsB s = false by
            unfold fitsB memB
            rw [List.all_eq_false.2 ⟨(ma, mb), hin, by simp; omega⟩]
            simp)
          clear hin
          go_wp2_with fail
          go_ret
          exact ⟨by rw [HF.out]; rfl, HK1.out⟩
        · have HMK2 := Lib.hid (show ∀ m ∈ s.op.ms.take (k + 1), 0 ≤ m.1 ∧ 0 ≤ m.2 from fun m hm => by
            rw [HTK.out] at hm
            rcases List.mem_append.1 hm with hm | hm
            · exact HMK.out m hm
            · rw [List.mem_singleton.1 hm]; exact ⟨by simp only; omega, by simp only; omega⟩)
          clear hin
          go_wp2_with fail
          go_round
          case rel => exact ⟨k + 1, by omega, by go_num, HMK2⟩
          case measure => simp [intOf]; omega
    · obtain rfl : k = s.op.ms.length := by omega
      have kI : ¬ ((s.op.ms.length : Int) < (s.op.ms.length : Int)) := by omega
      have HMB := Lib.hid (show ∀ m ∈ s.op.ms, 0 ≤ m.1 ∧ 0 ≤ m.2 from fun m hm => HMK.out m (by rw [List.take_length]; exact hm))
      have HMT := Lib.hid (show memB s = true by unfold memB; rw [List.all_eq_true]; intro m hm; have := HMB.out m hm; simp; omega)
      clear HMK
      have HLE := Lib.hid (refWrite_any s MA LA mc lc w1 HI.out ⟨by omega, ⟨by omega, by omega, by omega, by omega, HMB.out⟩, by omega, by omega⟩ HL.out HLD.out HWO.out (HM.out.on HK1.out (fun _ _ h => h)) (HLA.out.on HK1.out (fun _ _ h => h)))
      unfold SpC at HLE
      go_wp2_with (show wpList _ _ _ ((⟨_, .load 41 (.tmp 1), _, _, _, none⟩ : Oper) :: _) _ _; refine wpList_load_mid rfl 41 (.tmp 1) rfl w.heap.size 0 rfl [.int .i64 s.kind, .int .i64 s.op.kind, .int .i64 s.op.vip, .int .i64 s.op.backend, .int .i64 s.op.version, .bool s.op.a.six, .int .u64 (s.op.a.hi : Int), .int .u64 (s.op.a.lo : Int), .int .u16 (s.op.port : Int), .int .u8 (s.op.proto : Int), .int .i64 s.op.way, .slice MA s.op.ms.length mc, .int .i64 s.who, .int .i64 s.time, .int .u8 (s.flags : Int), .slice LA s.load.length lc, .int .u32 (s.n : Int), .int .u32 (s.x : Int), .int .u32 (s.y : Int), .bool s.src.six, .int .u64 (s.src.hi : Int), .int .u64 (s.src.lo : Int), .int .u16 (s.port : Int)] _ HN1.out.range Tryz.underlying41 rfl (by kernel_rfl) ?_)
      refine HLE.out.mono ?_
      rintro e w2 ⟨y, rfl, hy, hk⟩
      have HY := Lib.hid hy
      have HK2 := Lib.hid (HK1.out.trans hk)
      have HN2 := Lib.hid (HN1.out.kept hk (fun h => h))
      have HPS := Lib.hid (refParse_any y (by rw [Lib.size_eq, hy]; exact HWL.out) w2)
      rw [hy] at HPS
      clear hy hk HLE HN1 cB
      obtain ⟨tq, hto⟩ : ∃ tq, lineP (writeR s) = tq := ⟨_, rfl⟩
      have HFI := Lib.hid (show fitsB s = sameO tq s by unfold fitsB rangeB; rw [decide_eq_true (by omega), HMT.out, hto]; rfl)
      rw [hto] at HPS
      have HTO := Lib.hid hto
      clear hto
      go_wp2_with fail
      refine HPS.out.mono ?_
      rintro e w3 ⟨hb3, hpr⟩
      have HK3 := Lib.hid (HK2.out.trans (Kept.ofB hb3))
      have HN3 := Lib.hid (HN2.out.below hb3 HN2.out.lt)
      clear hb3 HPS HN2
      cases tq with
      | none =>
        obtain rfl : e = _ := hpr
        unfold Z33
        go_upto_region 9 with (show wpList _ _ _ ((⟨none, .store 41 (.tmp 4) _, _, _, _, none⟩ : Oper) :: _) _ _; refine wpList_store_mid rfl 41 (.tmp 4) _ rfl w3.heap.size 0 #[.int .i64 0, .int .i64 0, .int .i64 0, .int .i64 0, .int .i64 0, .bool false, .int .u64 0, .int .u64 0, .int .u16 0, .int .u8 0, .int .i64 0, .slice none 0 0, .int .i64 0, .int .i64 0, .int .u8 0, .slice none 0 0, .int .u32 0, .int .u32 0, .int .u32 0, .bool false, .int .u64 0, .int .u64 0, .int .u16 0] rfl rfl ((Blk.new w3 41 #[.int .i64 0, .int .i64 0, .int .i64 0, .int .i64 0, .int .i64 0, .bool false, .int .u64 0, .int .u64 0, .int .u16 0, .int .u8 0, .int .i64 0, .slice none 0 0, .int .i64 0, .int .i64 0, .int .u8 0, .slice none 0 0, .int .u32 0, .int .u32 0, .int .u32 0, .bool false, .int .u64 0, .int .u64 0, .int .u16 0]).there rfl) (by kernel_rfl) (by simp [Value.oneCell']) ?_)
        generalize hw4 : (World.setCells _ _ _ _) = w5
        have HK5 := Lib.hid (show Kept (fun _ => False) w w5 by rw [← hw4]; exact (HK3.out.alloc _).then (Kept.setCells (S := fun i => i = w3.heap.size) rfl _ _ (Kept.refl _ _)) (fun i hi e => by have := HK3.out.size; omega))
        clear hw4
        refine wp_region_kept 8 [] ?st ?ne rfl (by kernel_rfl) (by kernel_rfl) ?_
        case st => intro p hp; cases hp
        case ne => intro p hp; cases hp
        simp only [List.take_succ_cons, List.take_zero, List.drop_succ_cons, List.drop_zero]
        intro G pick hR hp1 hp2
        repeat (first | (refine wpR_det hp2 rfl ((hR.rel _).trans rfl) rfl ?_; intro K hK; go_big_quiet_op; go_big_quiet_on) | (refine wpR_ptr hp2 rfl ((hR.rel _).trans rfl) rfl rfl ?_; intro K hK; go_big_quiet_op; go_big_quiet_on) | (refine wpR_skip pick rfl ?_; intro K hK; go_big_quiet_op; go_big_quiet_on))
        refine wpR_nil ?_
        intro wE hk2 hF hM
        have HKE := Lib.hid (HK5.out.trans hk2)
        clear hF hM hk2 hp1 hp2 hR
        go_wp2_with fail
        go_ret
        exact ⟨by rw [HFI.out]; rfl, HKE.out⟩
      | some t =>
        obtain ⟨mv, lv, rfl, hmem, hld⟩ := hpr
        obtain ⟨MB, mcb, rfl, hmc1, hmc2, hme⟩ := RowN.es hmem
        obtain ⟨LB, lcb, rfl, hlc1, hlc2, hle⟩ := hld.byt
        rw [mcs_len] at hmc1 ⊢
        unfold SpC
        go_upto_region 9 with (show wpList _ _ _ ((⟨none, .store 41 (.tmp 4) _, _, _, _, none⟩ : Oper) :: _) _ _; refine wpList_store_mid rfl 41 (.tmp 4) _ rfl w3.heap.size 0 #[.int .i64 t.kind, .int .i64 t.op.kind, .int .i64 t.op.vip, .int .i64 t.op.backend, .int .i64 t.op.version, .bool t.op.a.six, .int .u64 (t.op.a.hi : Int), .int .u64 (t.op.a.lo : Int), .int .u16 (t.op.port : Int), .int .u8 (t.op.proto : Int), .int .i64 t.op.way, .slice MB t.op.ms.length mcb, .int .i64 t.who, .int .i64 t.time, .int .u8 (t.flags : Int), .slice LB t.load.length lcb, .int .u32 (t.n : Int), .int .u32 (t.x : Int), .int .u32 (t.y : Int), .bool t.src.six, .int .u64 (t.src.hi : Int), .int .u64 (t.src.lo : Int), .int .u16 (t.port : Int)] rfl rfl ((Blk.new w3 41 #[.int .i64 0, .int .i64 0, .int .i64 0, .int .i64 0, .int .i64 0, .bool false, .int .u64 0, .int .u64 0, .int .u16 0, .int .u8 0, .int .i64 0, .slice none 0 0, .int .i64 0, .int .i64 0, .int .u8 0, .slice none 0 0, .int .u32 0, .int .u32 0, .int .u32 0, .bool false, .int .u64 0, .int .u64 0, .int .u16 0]).there rfl) (by kernel_rfl) (by simp [Value.oneCell']) ?_)
        generalize hw4 : (World.setCells _ _ _ _) = w5
        have HKA := Lib.hid (show Kept (fun _ => False) w3 w5 by rw [← hw4]; exact ((Kept.refl _ _).alloc _).then (Kept.setCells (S := fun i => i = w3.heap.size) rfl _ _ (Kept.refl _ _)) (fun i hi e => by omega))
        have HK5 := Lib.hid (HK3.out.trans HKA.out)
        have HT5 := Lib.hid (show Blk w5 w3.heap.size 41 #[.int .i64 t.kind, .int .i64 t.op.kind, .int .i64 t.op.vip, .int .i64 t.op.backend, .int .i64 t.op.version, .bool t.op.a.six, .int .u64 (t.op.a.hi : Int), .int .u64 (t.op.a.lo : Int), .int .u16 (t.op.port : Int), .int .u8 (t.op.proto : Int), .int .i64 t.op.way, .slice MB t.op.ms.length mcb, .int .i64 t.who, .int .i64 t.time, .int .u8 (t.flags : Int), .slice LB t.load.length lcb, .int .u32 (t.n : Int), .int .u32 (t.x : Int), .int .u32 (t.y : Int), .bool t.src.six, .int .u64 (t.src.hi : Int), .int .u64 (t.src.lo : Int), .int .u16 (t.port : Int)] by rw [← hw4]; exact (Blk.new w3 41 #[.int .i64 0, .int .i64 0, .int .i64 0, .int .i64 0, .int .i64 0, .bool false, .int .u64 0, .int .u64 0, .int .u16 0, .int .u8 0, .int .i64 0, .slice none 0 0, .int .i64 0, .int .i64 0, .int .u8 0, .slice none 0 0, .int .u32 0, .int .u32 0, .int .u32 0, .bool false, .int .u64 0, .int .u64 0, .int .u16 0]).setAll #[.int .i64 t.kind, .int .i64 t.op.kind, .int .i64 t.op.vip, .int .i64 t.op.backend, .int .i64 t.op.version, .bool t.op.a.six, .int .u64 (t.op.a.hi : Int), .int .u64 (t.op.a.lo : Int), .int .u16 (t.op.port : Int), .int .u8 (t.op.proto : Int), .int .i64 t.op.way, .slice MB t.op.ms.length mcb, .int .i64 t.who, .int .i64 t.time, .int .u8 (t.flags : Int), .slice LB t.load.length lcb, .int .u32 (t.n : Int), .int .u32 (t.x : Int), .int .u32 (t.y : Int), .bool t.src.six, .int .u64 (t.src.hi : Int), .int .u64 (t.src.lo : Int), .int .u16 (t.port : Int)] rfl)
        have HN5 := Lib.hid (HN3.out.kept HKA.out (fun h => h))
        have HB1 := Lib.hid hmc1
        have HB2 := Lib.hid hmc2
        have HB3 := Lib.hid (hme.on HKA.out (fun _ _ h => h))
        have HS1 := Lib.hid (HMC.out.1)
        have HS2 := Lib.hid (HMC.out.2)
        have HS3 := Lib.hid (HM.out.on HK5.out (fun _ _ h => h))
        have HLB := Lib.hid (hle.on HKA.out (fun _ _ h => h))
        have HLA0 := HLA
        have HLA := Lib.hid (HLA0.out.on HK5.out (fun _ _ h => h))
        have HTB := Lib.hid (Nat.le_trans hlc1 hlc2)
        have HTL := Lib.hid (show t.op.ms.length ≤ 70 from Nat.le_trans (line_len HTO.out) (by decide))
        obtain ⟨tb, htb⟩ : ∃ tb, w3.heap.size = tb := ⟨_, rfl⟩
        rw [htb] at HT5 ⊢
        clear hw4 htb hme hle hmem hld hmc1 hmc2 hlc1 hlc2 HN3 HKA
        refine wp_region_kept 8 [(2, fun v u => v = .agg #[.int .i64 t.kind, .int .i64 t.op.kind, .int .i64 t.op.vip, .int .i64 t.op.backend, .int .i64 t.op.version, .bool t.op.a.six, .int .u64 (t.op.a.hi : Int), .int .u64 (t.op.a.lo : Int), .int .u16 (t.op.port : Int), .int .u8 (t.op.proto : Int), .int .i64 t.op.way, .slice MB t.op.ms.length mcb, .int .i64 t.who, .int .i64 t.time, .int .u8 (t.flags : Int), .slice LB t.load.length lcb, .int .u32 (t.n : Int), .int .u32 (t.x : Int), .int .u32 (t.y : Int), .bool t.src.six, .int .u64 (t.src.hi : Int), .int .u64 (t.src.lo : Int), .int .u16 (t.port : Int)]), (3, fun v u => ∃ A c, v = .agg #[.int .i64 t.kind, .int .i64 t.op.kind, .int .i64 t.op.vip, .int .i64 t.op.backend, .int .i64 t.op.version, .bool t.op.a.six, .int .u64 (t.op.a.hi : Int), .int .u64 (t.op.a.lo : Int), .int .u16 (t.op.port : Int), .int .u8 (t.op.proto : Int), .int .i64 t.op.way, .slice A t.op.ms.length c, .int .i64 t.who, .int .i64 t.time, .int .u8 (t.flags : Int), .slice LB t.load.length lcb, .int .u32 (t.n : Int), .int .u32 (t.x : Int), .int .u32 (t.y : Int), .bool t.src.six, .int .u64 (t.src.hi : Int), .int .u64 (t.src.lo : Int), .int .u16 (t.port : Int)] ∧ t.op.ms.length ≤ c ∧ c ≤ maxLen ∧ ES u u.heap.size A 2 (mcs t.op.ms)), (4, fun v u => v = .agg #[.int .i64 s.kind, .int .i64 s.op.kind, .int .i64 s.op.vip, .int .i64 s.op.backend, .int .i64 s.op.version, .bool s.op.a.six, .int .u64 (s.op.a.hi : Int), .int .u64 (s.op.a.lo : Int), .int .u16 (s.op.port : Int), .int .u8 (s.op.proto : Int), .int .i64 s.op.way, .slice MA s.op.ms.length mc, .int .i64 s.who, .int .i64 s.time, .int .u8 (s.flags : Int), .slice LA s.load.length lc, .int .u32 (s.n : Int), .int .u32 (s.x : Int), .int .u32 (s.y : Int), .bool s.src.six, .int .u64 (s.src.hi : Int), .int .u64 (s.src.lo : Int), .int .u16 (s.port : Int)]), (5, fun v u => ∃ A c, v = .agg #[.int .i64 s.kind, .int .i64 s.op.kind, .int .i64 s.op.vip, .int .i64 s.op.backend, .int .i64 s.op.version, .bool s.op.a.six, .int .u64 (s.op.a.hi : Int), .int .u64 (s.op.a.lo : Int), .int .u16 (s.op.port : Int), .int .u8 (s.op.proto : Int), .int .i64 s.op.way, .slice A s.op.ms.length c, .int .i64 s.who, .int .i64 s.time, .int .u8 (s.flags : Int), .slice LA s.load.length lc, .int .u32 (s.n : Int), .int .u32 (s.x : Int), .int .u32 (s.y : Int), .bool s.src.six, .int .u64 (s.src.hi : Int), .int .u64 (s.src.lo : Int), .int .u16 (s.port : Int)] ∧ s.op.ms.length ≤ c ∧ c ≤ maxLen ∧ ES u u.heap.size A 2 (mcs s.op.ms)), (6, fun v u => v = .bool (sameB t s))] ?st ?ne rfl (by kernel_rfl) (by kernel_rfl) ?_
        case st =>
          intro p hp
          simp only [List.mem_cons, List.not_mem_nil, or_false] at hp
          rcases hp with rfl | rfl | rfl | rfl | rfl
          · intro v u u' h hk; exact h
          · rintro v u u' ⟨A, c, rfl, h1, h2, h3⟩ hk; exact ⟨A, c, rfl, h1, h2, h3.on hk (fun _ _ h => h)⟩
          · intro v u u' h hk; exact h
          · rintro v u u' ⟨A, c, rfl, h1, h2, h3⟩ hk; exact ⟨A, c, rfl, h1, h2, h3.on hk (fun _ _ h => h)⟩
          · intro v u u' h hk; exact h
        case ne =>
          intro p hp
          simp only [List.mem_cons, List.not_mem_nil, or_false] at hp
          rcases hp with rfl | rfl | rfl | rfl | rfl
          · exact ⟨_, _, Kept.refl _ _, rfl⟩
          · exact ⟨_, w5, Kept.refl _ _, MB, mcb, rfl, HB1.out, HB2.out, HB3.out⟩
          · exact ⟨_, _, Kept.refl _ _, rfl⟩
          · exact ⟨_, w5, Kept.refl _ _, MA, mc, rfl, HS1.out, HS2.out, HS3.out⟩
          · exact ⟨_, _, Kept.refl _ _, rfl⟩
        simp only [List.take_succ_cons, List.take_zero, List.drop_succ_cons, List.drop_zero]
        intro G pick hR hp1 hp2
        repeat (first | (refine wpR_det hp2 rfl ((hR.rel _).trans rfl) rfl ?_; intro K hK; go_big_quiet_op; go_big_quiet_on) | (refine wpR_ptr hp2 rfl ((hR.rel _).trans rfl) rfl rfl ?_; intro K hK; go_big_quiet_op; go_big_quiet_on) | (refine wpR_skip pick rfl ?_; intro K hK; go_big_quiet_op; go_big_quiet_on))
        refine wpR_rel pick rfl ((hR.rel _).trans rfl) ((hR.turns _).trans rfl) ?_ ?_
        · intro u hu
          have hk := hR.since hu.1
          have hks := hk.size
          refine relAt_load_mid 41 (.tmp 4) rfl tb 0 rfl [.int .i64 t.kind, .int .i64 t.op.kind, .int .i64 t.op.vip, .int .i64 t.op.backend, .int .i64 t.op.version, .bool t.op.a.six, .int .u64 (t.op.a.hi : Int), .int .u64 (t.op.a.lo : Int), .int .u16 (t.op.port : Int), .int .u8 (t.op.proto : Int), .int .i64 t.op.way, .slice MB t.op.ms.length mcb, .int .i64 t.who, .int .i64 t.time, .int .u8 (t.flags : Int), .slice LB t.load.length lcb, .int .u32 (t.n : Int), .int .u32 (t.x : Int), .int .u32 (t.y : Int), .bool t.src.six, .int .u64 (t.src.hi : Int), .int .u64 (t.src.lo : Int), .int .u16 (t.port : Int)] _ ((HT5.out.kept hk (fun h => h)).range) Tryz.underlying41 rfl (by kernel_rfl) ?_
          exact ⟨hR.into0 (Kept.refl _ _), hR.put 0 rfl rfl rfl⟩
        intro v hv
        obtain ⟨u, _, hu⟩ := hv
        obtain rfl := hR.get 0 rfl hu
        clear hu
        intro K hK
        go_big_quiet_op
        go_big_quiet_on
        repeat (first | (refine wpR_det hp2 rfl ((hR.rel _).trans rfl) rfl ?_; intro K hK; go_big_quiet_op; go_big_quiet_on) | (refine wpR_ptr hp2 rfl ((hR.rel _).trans rfl) rfl rfl ?_; intro K hK; go_big_quiet_op; go_big_quiet_on) | (refine wpR_skip pick rfl ?_; intro K hK; go_big_quiet_op; go_big_quiet_on))
        refine wpR_rel pick rfl ((hR.rel _).trans rfl) ((hR.turns _).trans rfl) ?_ ?_
        · intro u hu
          have hk := hR.since hu.1
          have hks := hk.size
          have hz := toS t MB LB mcb lcb u HTL.out HB1.out HB2.out (HB3.out.on hk (fun _ _ h => h))
          unfold SpC at hz
          unfold relAt
          go_simp
          refine hz.mono ?_
          rintro e w' ⟨A', c', rfl, h1, h2, h3, hk'⟩
          exact ⟨_, rfl, hR.into0 hk', hR.put 1 rfl rfl ⟨A', c', rfl, h1, h2, h3⟩⟩
        intro v hv
        obtain ⟨u, _, hu⟩ := hv
        obtain ⟨A3, c3, rfl, hl3, hc3, -⟩ := hR.get 1 rfl hu
        clear hu
        intro K hK
        go_big_quiet_op
        go_big_quiet_on
        repeat (first | (refine wpR_det hp2 rfl ((hR.rel _).trans rfl) rfl ?_; intro K hK; go_big_quiet_op; go_big_quiet_on) | (refine wpR_ptr hp2 rfl ((hR.rel _).trans rfl) rfl rfl ?_; intro K hK; go_big_quiet_op; go_big_quiet_on) | (refine wpR_skip pick rfl ?_; intro K hK; go_big_quiet_op; go_big_quiet_on))
        refine wpR_rel pick rfl ((hR.rel _).trans rfl) ((hR.turns _).trans rfl) ?_ ?_
        · intro u hu
          have hk := hR.since hu.1
          have hks := hk.size
          refine relAt_load_mid 41 (.tmp 1) rfl w.heap.size 0 rfl [.int .i64 s.kind, .int .i64 s.op.kind, .int .i64 s.op.vip, .int .i64 s.op.backend, .int .i64 s.op.version, .bool s.op.a.six, .int .u64 (s.op.a.hi : Int), .int .u64 (s.op.a.lo : Int), .int .u16 (s.op.port : Int), .int .u8 (s.op.proto : Int), .int .i64 s.op.way, .slice MA s.op.ms.length mc, .int .i64 s.who, .int .i64 s.time, .int .u8 (s.flags : Int), .slice LA s.load.length lc, .int .u32 (s.n : Int), .int .u32 (s.x : Int), .int .u32 (s.y : Int), .bool s.src.six, .int .u64 (s.src.hi : Int), .int .u64 (s.src.lo : Int), .int .u16 (s.port : Int)] _ ((HN5.out.kept hk (fun h => h)).range) Tryz.underlying41 rfl (by kernel_rfl) ?_
          exact ⟨hR.into0 (Kept.refl _ _), hR.put 2 rfl rfl rfl⟩
        intro v hv
        obtain ⟨u, _, hu⟩ := hv
        obtain rfl := hR.get 2 rfl hu
        clear hu
        intro K hK
        go_big_quiet_op
        go_big_quiet_on
        repeat (first | (refine wpR_det hp2 rfl ((hR.rel _).trans rfl) rfl ?_; intro K hK; go_big_quiet_op; go_big_quiet_on) | (refine wpR_ptr hp2 rfl ((hR.rel _).trans rfl) rfl rfl ?_; intro K hK; go_big_quiet_op; go_big_quiet_on) | (refine wpR_skip pick rfl ?_; intro K hK; go_big_quiet_op; go_big_quiet_on))
        refine wpR_rel pick rfl ((hR.rel _).trans rfl) ((hR.turns _).trans rfl) ?_ ?_
        · intro u hu
          have hk := hR.since hu.1
          have hks := hk.size
          have hz := toS s MA LA mc lc u HL.out HS1.out HS2.out (HS3.out.on hk (fun _ _ h => h))
          unfold SpC at hz
          unfold relAt
          go_simp
          refine hz.mono ?_
          rintro e w' ⟨A', c', rfl, h1, h2, h3, hk'⟩
          exact ⟨_, rfl, hR.into0 hk', hR.put 3 rfl rfl ⟨A', c', rfl, h1, h2, h3⟩⟩
        intro v hv
        obtain ⟨u, _, hu⟩ := hv
        obtain ⟨A5, c5, rfl, hl5, hc5, -⟩ := hR.get 3 rfl hu
        clear hu
        intro K hK
        go_big_quiet_op
        go_big_quiet_on
        repeat (first | (refine wpR_det hp2 rfl ((hR.rel _).trans rfl) rfl ?_; intro K hK; go_big_quiet_op; go_big_quiet_on) | (refine wpR_ptr hp2 rfl ((hR.rel _).trans rfl) rfl rfl ?_; intro K hK; go_big_quiet_op; go_big_quiet_on) | (refine wpR_skip pick rfl ?_; intro K hK; go_big_quiet_op; go_big_quiet_on))
        refine wpR_rel pick rfl ((hR.rel _).trans rfl) ((hR.turns _).trans rfl) ?_ ?_
        · intro u hu
          have hk := hR.since hu.1
          have hks := hk.size
          obtain ⟨A', c', e, -, -, hm1⟩ := (hR.get 1 rfl (hu.2 _ _ (Got.upd_old (Got.upd_old (Got.upd_self _ _ _) rfl) rfl) (by kernel_rfl)))
          obtain ⟨rfl, rfl⟩ : A3 = A' ∧ c3 = c' := by simpa using e
          obtain ⟨A', c', e, -, -, hm2⟩ := (hR.get 3 rfl (hu.2 _ _ (Got.upd_self _ _ _) (by kernel_rfl)))
          obtain ⟨rfl, rfl⟩ : A5 = A' ∧ c5 = c' := by simpa using e
          have hz := sameS t s A3 LB A5 LA c3 lcb c5 lc u (by have := HTL.out; unfold maxLen; omega) hm1 hm2 HTB.out (HLB.out.on hk (fun _ _ h => h)) (HLA.out.on hk (fun _ _ h => h))
          unfold SpC at hz
          unfold relAt
          go_simp
          refine hz.mono ?_
          rintro e w' ⟨rfl, hk'⟩
          exact ⟨_, rfl, hR.into0 hk', hR.put 4 rfl rfl rfl⟩
        intro v hv
        obtain ⟨u, _, hu⟩ := hv
        obtain rfl := hR.get 4 rfl hu
        clear hu
        intro K hK
        go_big_quiet_op
        go_big_quiet_on
        repeat (first | (refine wpR_det hp2 rfl ((hR.rel _).trans rfl) rfl ?_; intro K hK; go_big_quiet_op; go_big_quiet_on) | (refine wpR_ptr hp2 rfl ((hR.rel _).trans rfl) rfl rfl ?_; intro K hK; go_big_quiet_op; go_big_quiet_on) | (refine wpR_skip pick rfl ?_; intro K hK; go_big_quiet_op; go_big_quiet_on))
        refine wpR_nil ?_
        intro wE hk2 hF hM
        have HKE := Lib.hid (HK5.out.trans hk2)
        clear hF hM hk2 hp1 hp2 hR
        go_wp2_with fail
        go_ret
        exact ⟨by rw [HFI.out]; rfl, HKE.out⟩
end Go.Proofs.YthfdhggcnkgjfaaGreatDoor
