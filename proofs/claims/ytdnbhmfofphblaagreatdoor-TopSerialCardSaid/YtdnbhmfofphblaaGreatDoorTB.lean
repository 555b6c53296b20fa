/- Common words for the walks of this seat. -/
import Derived.Test.YtdnbhmfofphblaaGreatDoorC
import Derived.Test.YtdnbhmfofphblaaGreatDoorG
import Derived.Test.YtdnbhmfofphblaaGreatDoorBase
import Derived.Test.YtdnbhmfofphblaaGreatDoorRowE
import Derived.Test.YtdnbhmfofphblaaGreatDoorPlainT
namespace Go.Proofs.YtdnbhmfofphblaaGreatDoor
open Go.RowKit
set_option maxRecDepth 100000
set_option linter.unusedVariables false
set_option linter.unusedSimpArgs false
theorem wpList_load_g {P : Program} {ops : Array Oper} {rest : List Oper} {op : Oper} {a : Act} {w : World} {Q : Exit → Act → World → Prop} (hw : Region.wanted op (yielded ops a.tmps) = true) (ty : TypeId) (x : Operand) (ho : op.op = .load ty x)
    (b o : Nat) (hx : a.eval x = .pointer (some ⟨b, o, none⟩)) (cs : List Value) (d : TypeDesc) (hc : w.rangeAt b o cs)
    (hu : P.underlying ty = some d) (hd : d.isRow = true) (hi : (P.info? ty).map (·.size) = some cs.length)
    (h : wpList P ops Q rest (a.put op.dst (.agg cs.toArray)) w) : wpList P ops Q (op :: rest) a w :=
  wpList_step fun K hK => by rw [if_pos hw]; exact wp_load_mid ty x ho b o hx cs d hc hu hd hi (hK _ _ h)
theorem relAt_load_mid {P : Program} {w : World} {o : Oper} {a : Act} {R : Value → World → Prop} (ty : TypeId) (x : Operand) (ho : o.op = .load ty x)
    (b of_ : Nat) (hx : a.eval x = .pointer (some ⟨b, of_, none⟩)) (cs : List Value) (d : TypeDesc) (hc : w.rangeAt b of_ cs)
    (hu : P.underlying ty = some d) (hd : d.isRow = true) (hi : (P.info? ty).map (·.size) = some cs.length) (h : R (.agg cs.toArray) w) : relAt P o a w R := by
  unfold relAt execOp
  simp only [ho, hx, Instr.loadAt, Instr.sureAddr, Sem.run_bind, Sem.run_pure, Result.andThen_ok, run_loadVar_mid w b of_ ty cs d hc hu hd hi]
  exact h
theorem relAt_store_mid {P : Program} {w : World} {o : Oper} {a : Act} {R : Value → World → Prop} (ty : TypeId) (x y : Operand) (ho : o.op = .store ty x y)
    (b of_ : Nat) (cells : Array Value) (hx : a.eval x = .pointer (some ⟨b, of_, none⟩)) (hy : a.eval y = .agg cells)
    (ht : w.there b of_ cells.size) (hi : (P.info? ty).map (·.size) = some cells.size) (h1 : cells.all (·.oneCell') = true)
    (h : R undef (w.setCells b of_ cells.toList)) : relAt P o a w R := by
  unfold relAt execOp
  simp only [ho, hx, hy, Instr.storeAt, Instr.sureAddr, Sem.run_bind, Sem.run_pure, Result.andThen_ok, run_storeVar_mid w b of_ ty cells ht hi h1]
  exact h
theorem Blk.range {w : World} {g t : Nat} {cs : Array Value} (h : Blk w g t cs) : w.rangeAt g 0 cs.toList := h.range'
theorem kbel {w w' : World} (h : Kept (fun _ => False) w w') : Below w.heap.size w w' := h.below (Nat.le_refl _) (fun i h => h.elim)
/-- A slice of bytes that is known, as a value. -/
def ByV (w : World) (v : Value) (l : List UInt8) : Prop := ∃ A c, v = .slice A l.length c ∧ l.length ≤ c ∧ c ≤ maxLen ∧ BS w w.heap.size A l
theorem ByV.on {w w' : World} {v : Value} {l : List UInt8} (h : ByV w v l) (hk : Kept (fun _ => False) w w') : ByV w' v l := by
  obtain ⟨A, c, e, h1, h2, h3⟩ := h
  exact ⟨A, c, e, h1, h2, h3.on hk (fun _ _ h => h)⟩
theorem ByV.nil (w : World) : ByV w (.slice none 0 0) [] := ⟨none, 0, rfl, Nat.le_refl _, by decide, .nil⟩
theorem ByV.row {w : World} {base : Nat} {v : Value} {l : List UInt8} (h : Row w base 5 v (bcs l)) : ByV w v l := by
  obtain ⟨A, c, e, h1, h2, h3⟩ := h.byt
  exact ⟨A, c, e, h1, h2, h3⟩
end Go.Proofs.YtdnbhmfofphblaaGreatDoor
/- tcp's size, Right, copied. -/
namespace Go.Proofs.YtdnbhmfofphblaaGreatDoor
open Go.RowKit
set_option maxRecDepth 100000
set_option linter.unusedVariables false
set_option linter.unusedSimpArgs false
theorem sizeT (sp dp seq ack fl wi sm ur : Int) (OA : Option Addr) (n oc : Nat) (LA : Option Addr) (m lc : Nat) (n40 : n ≤ 40) (m9 : m ≤ 9000) (w : World) :
    Calls Tryz.prog 77 #[.agg #[.int .u16 sp, .int .u16 dp, .int .u32 seq, .int .u32 ack, .int .u8 fl, .int .u16 wi, .int .u16 sm, .int .u16 ur, .slice OA n oc, .slice LA m lc]] w fun e w' => e = .returned (.int .i64 (20 + (n : Int) + (m : Int))) ∧ Kept (fun _ => False) w w' := by
  have n0 : (0 : Int) ≤ (n : Int) := Int.natCast_nonneg _
  have m0 : (0 : Int) ≤ (m : Int) := Int.natCast_nonneg _
  go_enter Tryz.func77, Tryz.ntmps77
  go_wp2
  go_ret
  exact ⟨rfl, (Kept.refl _ _).alloc _⟩
set_option maxRecDepth 100000 in
set_option maxHeartbeats 8000000 in
theorem rightT (sp dp seq ack fl wi sm ur : Int) (OA : Option Addr) (n oc : Nat) (LA : Option Addr) (m lc : Nat) (n40 : n ≤ 40) (n4 : n % 4 = 0) (m9 : m ≤ 9000) (w : World) :
    Calls Tryz.prog 29 #[.agg #[.int .u16 sp, .int .u16 dp, .int .u32 seq, .int .u32 ack, .int .u8 fl, .int .u16 wi, .int .u16 sm, .int .u16 ur, .slice OA n oc, .slice LA m lc]] w fun e w' => e = .returned (.bool true) ∧ Kept (fun _ => False) w w' := by
  have g1 : decide ((n : Int) ≤ 40) = true := decide_eq_true (by omega)
  have g1' : decide (n ≤ 40) = true := decide_eq_true n40
  have g2 : ((n : Int) % 4 == 0) = true := by
    have : (n : Int) % 4 = 0 := by omega
    rw [this]; rfl
  have g3 : decide (20 + (n : Int) + (m : Int) ≤ 65535) = true := decide_eq_true (by omega)
  have HSZ := Lib.hid (fun u => sizeT sp dp seq ack fl wi sm ur OA n oc LA m lc n40 m9 u)
  go_enter Tryz.func29, Tryz.ntmps29
  go_upto_region 1 with fail
  obtain ⟨w1, hw1⟩ : ∃ w1 : World, w1 = w.alloc (.cells #[.int .u16 sp, .int .u16 dp, .int .u32 seq, .int .u32 ack, .int .u8 fl, .int .u16 wi, .int .u16 sm, .int .u16 ur, .slice OA n oc, .slice LA m lc] 48) := ⟨_, rfl⟩
  have HB1 := Lib.hid (show Blk w1 w.heap.size 48 #[.int .u16 sp, .int .u16 dp, .int .u32 seq, .int .u32 ack, .int .u8 fl, .int .u16 wi, .int .u16 sm, .int .u16 ur, .slice OA n oc, .slice LA m lc] by rw [hw1]; exact Blk.new _ _ _)
  have HK1 := Lib.hid (show Kept (fun _ => False) w w1 by rw [hw1]; exact (Kept.refl _ _).alloc _)
  rw [← hw1]
  clear hw1
  obtain ⟨sb, hsb⟩ : ∃ sb, w.heap.size = sb := ⟨_, rfl⟩
  have HSB := Lib.hid hsb
  rw [hsb] at HB1 ⊢
  clear hsb
  have cB := HB1.out.cell
  have lB := HB1.out.lt
  have fB := HB1.out.frozen
  go_wp2_with (show wpList _ _ _ ((⟨_, .load 48 (.tmp 1), _, _, _, some _⟩ : Oper) :: _) _ _; refine wpList_load_g rfl 48 (.tmp 1) rfl sb 0 rfl [.int .u16 sp, .int .u16 dp, .int .u32 seq, .int .u32 ack, .int .u8 fl, .int .u16 wi, .int .u16 sm, .int .u16 ur, .slice OA n oc, .slice LA m lc] _ HB1.out.range Tryz.underlying48 rfl (by kernel_rfl) ?_)
  refine (HSZ.out w1).mono ?_
  rintro e w2 ⟨rfl, hk⟩
  have HK2 := Lib.hid (HK1.out.trans hk)
  have HB2 := Lib.hid (HB1.out.kept hk (fun h => h))
  clear hk cB lB fB
  have cB := HB2.out.cell
  have lB := HB2.out.lt
  have fB := HB2.out.frozen
  go_wp2_with fail
  go_ret
  exact ⟨by first | rfl | rw [g3] | simp [g3], HK2.out⟩
set_option maxRecDepth 100000 in
set_option maxHeartbeats 8000000 in
theorem copiedT (sp dp seq ack fl wi sm ur : Int) (OA : Option Addr) (oc : Nat) (LA : Option Addr) (lc : Nat) (os ls : List UInt8) (n m : Nat) (hn : os.length = n) (hm : ls.length = m) (n40 : n ≤ 40) (m9 : m ≤ 9000) (w : World) (hO : BS w w.heap.size OA os) (hL : BS w w.heap.size LA ls) :
    Calls Tryz.prog 67 #[.agg #[.int .u16 sp, .int .u16 dp, .int .u32 seq, .int .u32 ack, .int .u8 fl, .int .u16 wi, .int .u16 sm, .int .u16 ur, .slice OA n oc, .slice LA m lc]] w fun e w' => ∃ VA vc UA uc, e = .returned (.agg #[.int .u16 sp, .int .u16 dp, .int .u32 seq, .int .u32 ack, .int .u8 fl, .int .u16 wi, .int .u16 sm, .int .u16 ur, .slice VA n vc, .slice UA m uc]) ∧ Row w' w.heap.size 5 (.slice VA n vc) (bcs os) ∧ Row w' w.heap.size 5 (.slice UA m uc) (bcs ls) ∧ Kept (fun _ => False) w w' := by
  have HO := Lib.hid hO
  have HL := Lib.hid hL
  have HN := Lib.hid hn
  have HM := Lib.hid hm
  clear hO hL hn hm
  go_enter Tryz.func67, Tryz.ntmps67
  go_upto_region 1 with fail
  obtain ⟨w1, hw1⟩ : ∃ w1 : World, w1 = (w.alloc (.cells #[.int .u16 sp, .int .u16 dp, .int .u32 seq, .int .u32 ack, .int .u8 fl, .int .u16 wi, .int .u16 sm, .int .u16 ur, .slice OA n oc, .slice LA m lc] 48)).alloc (.cells #[.int .u16 0, .int .u16 0, .int .u32 0, .int .u32 0, .int .u8 0, .int .u16 0, .int .u16 0, .int .u16 0, .slice none 0 0, .slice none 0 0] 48) := ⟨_, rfl⟩
  have HB1 := Lib.hid (show Blk w1 w.heap.size 48 #[.int .u16 sp, .int .u16 dp, .int .u32 seq, .int .u32 ack, .int .u8 fl, .int .u16 wi, .int .u16 sm, .int .u16 ur, .slice OA n oc, .slice LA m lc] by rw [hw1]; exact (Blk.new _ _ _).alloc _)
  have HR1 := Lib.hid (show Blk w1 (w.heap.size + 1) 48 #[.int .u16 0, .int .u16 0, .int .u32 0, .int .u32 0, .int .u8 0, .int .u16 0, .int .u16 0, .int .u16 0, .slice none 0 0, .slice none 0 0] by rw [hw1]; exact Blk.new_ (by simp) _ _)
  have HK1 := Lib.hid (show Kept (fun _ => False) w w1 by rw [hw1]; exact ((Kept.refl _ _).alloc _).alloc _)
  have HZ1 := Lib.hid (show w1.heap.size = w.heap.size + 2 by rw [hw1]; simp)
  rw [← hw1]
  clear hw1
  obtain ⟨sb, hsb⟩ : ∃ sb, w.heap.size = sb := ⟨_, rfl⟩
  have HSB := Lib.hid hsb
  obtain ⟨rb, hrb⟩ : ∃ rb, w.heap.size + 1 = rb := ⟨_, rfl⟩
  have HRB := Lib.hid hrb
  rw [hrb] at HR1
  rw [hsb] at HB1
  have HLT := Lib.hid (show sb < w1.heap.size ∧ rb < w1.heap.size ∧ sb ≠ rb by have := HZ1.out; omega)
  (try rw [hrb]); (try rw [hsb])
  clear hsb hrb
  have cB := HB1.out.cell
  have lB := HB1.out.lt
  have fB := HB1.out.frozen
  have HCO := Lib.hid (clone_len OA oc os n HN.out w1 (by omega) (HO.out.on HK1.out (fun _ _ h => h)))
  go_wp2_with fail
  refine HCO.out.mono ?_
  rintro e w2 ⟨v, rfl, hv, hbw⟩
  obtain ⟨VA, vc, hve, -, -⟩ := hv.shape
  rw [bcs_length, HN.out] at hve
  subst hve
  have hk := Kept.ofB (S := fun _ => False) hbw
  have HV2 := Lib.hid hv
  have HK2 := Lib.hid (HK1.out.trans hk)
  have HB2 := Lib.hid (HB1.out.kept hk (fun h => h))
  have HR2 := Lib.hid (HR1.out.kept hk (fun h => h))
  clear hk cB lB fB
  have cB := HB2.out.cell
  have lB := HB2.out.lt
  have fB := HB2.out.frozen
  clear hv hbw HCO
  go_upto_region 2 with fail
  generalize hw3 : World.setCell _ _ _ = w3
  have HKs := Lib.hid (show Kept (fun i => i = sb) w2 w3 by rw [← hw3]; exact Kept.setIn (S := fun i => i = sb) rfl (Kept.refl _ _))
  have HB3 := Lib.hid (show Blk w3 sb 48 #[.int .u16 sp, .int .u16 dp, .int .u32 seq, .int .u32 ack, .int .u8 fl, .int .u16 wi, .int .u16 sm, .int .u16 ur, .slice VA n vc, .slice LA m lc] by rw [← hw3]; exact HB2.out.set_to rfl)
  have HV3 := Lib.hid (Row.kept HV2.out HKs.out (fun g hg e => by have := (HV2.out.lt g hg).1; have := HLT.out; omega))
  have HK3 := Lib.hid (HK2.out.then HKs.out (fun i hi e => by have := HSB.out; omega))
  have HR3 := Lib.hid (HR2.out.kept HKs.out (fun h => absurd h HLT.out.2.2.symm))
  clear HKs cB lB fB
  have cB := HB3.out.cell
  have lB := HB3.out.lt
  have fB := HB3.out.frozen
  clear hw3
  have HCL := Lib.hid (clone_len LA lc ls m HM.out w3 (by omega) (HL.out.on HK3.out (fun _ _ h => h)))
  go_wp2_with fail
  refine HCL.out.mono ?_
  rintro e w4 ⟨u, rfl, hu, hbw⟩
  obtain ⟨UA, uc, hue, -, -⟩ := hu.shape
  rw [bcs_length, HM.out] at hue
  subst hue
  have hk := Kept.ofB (S := fun _ => False) hbw
  have HU4 := Lib.hid hu
  have HV4 := Lib.hid (Row.kept HV3.out hk (fun _ _ h => h))
  have HK4 := Lib.hid (HK3.out.trans hk)
  have HB4 := Lib.hid (HB3.out.kept hk (fun h => h))
  have HR4 := Lib.hid (HR3.out.kept hk (fun h => h))
  clear hk cB lB fB
  have cB := HB4.out.cell
  have lB := HB4.out.lt
  have fB := HB4.out.frozen
  clear hu hbw HCL
  go_upto_region 3 with fail
  generalize hw5 : World.setCell _ _ _ = w5
  have HKs := Lib.hid (show Kept (fun i => i = sb) w4 w5 by rw [← hw5]; exact Kept.setIn (S := fun i => i = sb) rfl (Kept.refl _ _))
  have HB5 := Lib.hid (show Blk w5 sb 48 #[.int .u16 sp, .int .u16 dp, .int .u32 seq, .int .u32 ack, .int .u8 fl, .int .u16 wi, .int .u16 sm, .int .u16 ur, .slice VA n vc, .slice UA m uc] by rw [← hw5]; exact HB4.out.set_to rfl)
  have HV5 := Lib.hid (Row.kept HV4.out HKs.out (fun g hg e => by have := (HV2.out.lt g hg).1; have := HLT.out; omega))
  have HU5 := Lib.hid (Row.kept HU4.out HKs.out (fun g hg e => by have := (HU4.out.lt g hg).1; have := HB3.out.lt; have := HR3.out.lt; omega))
  have HK5 := Lib.hid (HK4.out.then HKs.out (fun i hi e => by have := HSB.out; omega))
  have HR5 := Lib.hid (HR4.out.kept HKs.out (fun h => absurd h HLT.out.2.2.symm))
  clear HKs cB lB fB
  have cB := HB5.out.cell
  have lB := HB5.out.lt
  have fB := HB5.out.frozen
  clear hw5
  go_wp2_with (first | (show wpList _ _ _ ((⟨_, .load 48 (.tmp 1), _, _, _, none⟩ : Oper) :: _) _ _; refine wpList_load_mid rfl 48 (.tmp 1) rfl sb 0 rfl [.int .u16 sp, .int .u16 dp, .int .u32 seq, .int .u32 ack, .int .u8 fl, .int .u16 wi, .int .u16 sm, .int .u16 ur, .slice VA n vc, .slice UA m uc] _ HB5.out.range Tryz.underlying48 rfl (by kernel_rfl) ?_) | (show wpList _ _ _ ((⟨none, .store 48 (.tmp 2) _, _, _, _, none⟩ : Oper) :: _) _ _; refine wpList_store_mid rfl 48 (.tmp 2) _ rfl rb 0 #[.int .u16 sp, .int .u16 dp, .int .u32 seq, .int .u32 ack, .int .u8 fl, .int .u16 wi, .int .u16 sm, .int .u16 ur, .slice VA n vc, .slice UA m uc] rfl rfl (HR5.out.there rfl) (by kernel_rfl) (by simp [Value.oneCell']) ?_))
  generalize hw6 : (World.setCells _ _ _ _) = w6
  have HKs := Lib.hid (show Kept (fun i => i = rb) w5 w6 by rw [← hw6]; exact Kept.setCells (S := fun i => i = rb) rfl _ _ (Kept.refl _ _))
  have HR6 := Lib.hid (show Blk w6 rb 48 #[.int .u16 sp, .int .u16 dp, .int .u32 seq, .int .u32 ack, .int .u8 fl, .int .u16 wi, .int .u16 sm, .int .u16 ur, .slice VA n vc, .slice UA m uc] by rw [← hw6]; exact HR5.out.setAll #[.int .u16 sp, .int .u16 dp, .int .u32 seq, .int .u32 ack, .int .u8 fl, .int .u16 wi, .int .u16 sm, .int .u16 ur, .slice VA n vc, .slice UA m uc] rfl)
  clear hw6
  refine bodyPost_ret (results_blk1 (P := Tryz.prog) (show Tryz.f67.results = _ from rfl) _ _ rb 48 #[.int .u16 sp, .int .u16 dp, .int .u32 seq, .int .u32 ack, .int .u8 fl, .int .u16 wi, .int .u16 sm, .int .u16 ur, .slice VA n vc, .slice UA m uc] _ rfl HR6.out Tryz.underlying48 rfl (by kernel_rfl)) rfl ⟨VA, vc, UA, uc, rfl, ?_, ?_, ?_⟩
  · exact (Row.kept HV5.out HKs.out (fun g hg e => by have := (HV2.out.lt g hg).1; have := HLT.out; omega)).more (Nat.le_trans HK1.out.size (Nat.le_refl _))
  · exact (Row.kept HU5.out HKs.out (fun g hg e => by have := (HU4.out.lt g hg).1; have := HB3.out.lt; have := HR3.out.lt; omega)).more HK3.out.size
  · exact HK5.out.then HKs.out (fun i hi e => by have := HSB.out; have := HRB.out; omega)
end Go.Proofs.YtdnbhmfofphblaaGreatDoor
/- tcp's Segment.Bytes. -/
namespace Go.Proofs.YtdnbhmfofphblaaGreatDoor
open Go.RowKit
set_option maxRecDepth 100000
set_option linter.unusedVariables false
set_option linter.unusedSimpArgs false
set_option maxRecDepth 100000 in
set_option maxHeartbeats 8000000 in
theorem bytesT (sp dp seq ack fl wi sm ur : Int) (OA : Option Addr) (n oc : Nat) (LA : Option Addr) (m lc : Nat) (os ls : List UInt8) (hn : os.length = n) (hm : ls.length = m) (n40 : n ≤ 40) (n4 : n % 4 = 0) (m9 : m ≤ 9000) (hw : (⟨sp, dp, seq, ack, fl, wi, sm, ur, os, ls⟩ : Sg).wf) (w : World) (hO : BS w w.heap.size OA os) (hL : BS w w.heap.size LA ls) :
    Calls Tryz.prog 35 #[.agg #[.int .u16 sp, .int .u16 dp, .int .u32 seq, .int .u32 ack, .int .u8 fl, .int .u16 wi, .int .u16 sm, .int .u16 ur, .slice OA n oc, .slice LA m lc]] w fun e w' => ∃ v, e = .returned v ∧ Row w' w.heap.size 5 v (bcs (⟨sp, dp, seq, ack, fl, wi, sm, ur, os, ls⟩ : Sg).bytes) ∧ Kept (fun _ => False) w w' := by
  have h5 := Tryz.info5r
  have HO := Lib.hid hO
  have HL := Lib.hid hL
  have HNN := Lib.hid hn
  have HMM := Lib.hid hm
  have HRT := Lib.hid (fun u => rightT sp dp seq ack fl wi sm ur OA n oc LA m lc n40 n4 m9 u)
  obtain ⟨p0, p1, d0, d1, q0, q1, a0, a1, f0, f1, v0, v1, s0, s1, u0, u1, -, -, -⟩ := hw
  simp only at p0 p1 d0 d1 q0 q1 a0 a1 f0 f1 v0 v1 s0 s1 u0 u1
  have n0 : (0 : Int) ≤ (n : Int) := Int.natCast_nonneg _
  clear hO hL hn hm
  go_enter Tryz.func35, Tryz.ntmps35
  go_upto_region 1 with fail
  obtain ⟨w1, hw1⟩ : ∃ w1 : World, w1 = w.alloc (.cells #[.int .u16 sp, .int .u16 dp, .int .u32 seq, .int .u32 ack, .int .u8 fl, .int .u16 wi, .int .u16 sm, .int .u16 ur, .slice OA n oc, .slice LA m lc] 48) := ⟨_, rfl⟩
  have HB1 := Lib.hid (show Blk w1 w.heap.size 48 #[.int .u16 sp, .int .u16 dp, .int .u32 seq, .int .u32 ack, .int .u8 fl, .int .u16 wi, .int .u16 sm, .int .u16 ur, .slice OA n oc, .slice LA m lc] by rw [hw1]; exact Blk.new _ _ _)
  have HK1 := Lib.hid (show Kept (fun _ => False) w w1 by rw [hw1]; exact (Kept.refl _ _).alloc _)
  rw [← hw1]
  clear hw1
  obtain ⟨sb, hsb⟩ : ∃ sb, w.heap.size = sb := ⟨_, rfl⟩
  have HSB := Lib.hid hsb
  rw [hsb] at HB1 ⊢
  clear hsb
  have cB := HB1.out.cell
  have lB := HB1.out.lt
  have fB := HB1.out.frozen
  go_wp2_with (show wpList _ _ _ ((⟨_, .load 48 (.tmp 1), _, _, _, none⟩ : Oper) :: _) _ _; refine wpList_load_mid rfl 48 (.tmp 1) rfl sb 0 rfl [.int .u16 sp, .int .u16 dp, .int .u32 seq, .int .u32 ack, .int .u8 fl, .int .u16 wi, .int .u16 sm, .int .u16 ur, .slice OA n oc, .slice LA m lc] _ HB1.out.range Tryz.underlying48 rfl (by kernel_rfl) ?_)
  refine (HRT.out w1).mono ?_
  rintro e w2 ⟨rfl, hk⟩
  have HW2 := Lib.hid (show Kept (fun _ => False) w1 w2 from hk)
  have HK2 := Lib.hid (HK1.out.trans hk)
  have HB2 := Lib.hid (HB1.out.kept hk (fun h => h))
  clear hk cB lB fB
  have cB := HB2.out.cell
  have lB := HB2.out.lt
  have fB := HB2.out.frozen
  go_wp2_with fail
  refine (put_len none 0 2 [] (sp) w2 0 2 (by rfl) rfl .nil (by omega) (by omega) (by omega) (by omega)).mono ?_
  rintro e w3 ⟨g3, L3, rfl, hL, hN, hO, hg, hbw⟩
  have HL3 := Lib.hid hL
  have HN3 := Lib.hid hN
  have HO3 := Lib.hid hO
  have HG3 := Lib.hid (show w1.heap.size ≤ g3 from Nat.le_trans HW2.out.size hg)
  have HW3 := Lib.hid (HW2.out.trans (Kept.ofB (S := fun _ => False) hbw))
  have HB3 := Lib.hid (HB2.out.kept (Kept.ofB (S := fun _ => False) hbw) (fun h => h))
  clear hL hN hO hg hbw cB lB fB
  have cB := HB3.out.cell
  have lB := HB3.out.lt
  have fB := HB3.out.frozen
  go_wp2_with fail
  refine (put_len (some ⟨g3, 0, none⟩) 2 2 L3 (dp) w3 2 4 (by exact HN3.out) rfl (HO3.out.bs) (by omega) (by omega) (by omega) (by omega)).mono ?_
  rintro e w4 ⟨g4, L4, rfl, hL, hN, hO, hg, hbw⟩
  have HL4 := Lib.hid hL
  have HN4 := Lib.hid hN
  have HO4 := Lib.hid hO
  have HG4 := Lib.hid (show w1.heap.size ≤ g4 from Nat.le_trans HW3.out.size hg)
  have HW4 := Lib.hid (HW3.out.trans (Kept.ofB (S := fun _ => False) hbw))
  have HB4 := Lib.hid (HB3.out.kept (Kept.ofB (S := fun _ => False) hbw) (fun h => h))
  clear hL hN hO hg hbw cB lB fB
  have cB := HB4.out.cell
  have lB := HB4.out.lt
  have fB := HB4.out.frozen
  go_wp2_with fail
  refine (put_len (some ⟨g4, 0, none⟩) 4 4 L4 (seq) w4 4 8 (by exact HN4.out) rfl (HO4.out.bs) (by omega) (by omega) (by omega) (by omega)).mono ?_
  rintro e w5 ⟨g5, L5, rfl, hL, hN, hO, hg, hbw⟩
  have HL5 := Lib.hid hL
  have HN5 := Lib.hid hN
  have HO5 := Lib.hid hO
  have HG5 := Lib.hid (show w1.heap.size ≤ g5 from Nat.le_trans HW4.out.size hg)
  have HW5 := Lib.hid (HW4.out.trans (Kept.ofB (S := fun _ => False) hbw))
  have HB5 := Lib.hid (HB4.out.kept (Kept.ofB (S := fun _ => False) hbw) (fun h => h))
  clear hL hN hO hg hbw cB lB fB
  have cB := HB5.out.cell
  have lB := HB5.out.lt
  have fB := HB5.out.frozen
  go_wp2_with fail
  refine (put_len (some ⟨g5, 0, none⟩) 8 4 L5 (ack) w5 8 12 (by exact HN5.out) rfl (HO5.out.bs) (by omega) (by omega) (by omega) (by omega)).mono ?_
  rintro e w6 ⟨g6, L6, rfl, hL, hN, hO, hg, hbw⟩
  have HL6 := Lib.hid hL
  have HN6 := Lib.hid hN
  have HO6 := Lib.hid hO
  have HG6 := Lib.hid (show w1.heap.size ≤ g6 from Nat.le_trans HW5.out.size hg)
  have HW6 := Lib.hid (HW5.out.trans (Kept.ofB (S := fun _ => False) hbw))
  have HB6 := Lib.hid (HB5.out.kept (Kept.ofB (S := fun _ => False) hbw) (fun h => h))
  clear hL hN hO hg hbw cB lB fB
  have cB := HB6.out.cell
  have lB := HB6.out.lt
  have fB := HB6.out.frozen
  go_wp2_with fail
  refine (put_len (some ⟨g6, 0, none⟩) 12 1 L6 ((20 + (n : Int)) / 4 * 16) w6 12 13 (by exact HN6.out) rfl (HO6.out.bs) (by omega) (by omega) (by omega) (by omega)).mono ?_
  rintro e w7 ⟨g7, L7, rfl, hL, hN, hO, hg, hbw⟩
  have HL7 := Lib.hid hL
  have HN7 := Lib.hid hN
  have HO7 := Lib.hid hO
  have HG7 := Lib.hid (show w1.heap.size ≤ g7 from Nat.le_trans HW6.out.size hg)
  have HW7 := Lib.hid (HW6.out.trans (Kept.ofB (S := fun _ => False) hbw))
  have HB7 := Lib.hid (HB6.out.kept (Kept.ofB (S := fun _ => False) hbw) (fun h => h))
  clear hL hN hO hg hbw cB lB fB
  have cB := HB7.out.cell
  have lB := HB7.out.lt
  have fB := HB7.out.frozen
  go_wp2_with fail
  refine (put_len (some ⟨g7, 0, none⟩) 13 1 L7 (fl) w7 13 14 (by exact HN7.out) rfl (HO7.out.bs) (by omega) (by omega) (by omega) (by omega)).mono ?_
  rintro e w8 ⟨g8, L8, rfl, hL, hN, hO, hg, hbw⟩
  have HL8 := Lib.hid hL
  have HN8 := Lib.hid hN
  have HO8 := Lib.hid hO
  have HG8 := Lib.hid (show w1.heap.size ≤ g8 from Nat.le_trans HW7.out.size hg)
  have HW8 := Lib.hid (HW7.out.trans (Kept.ofB (S := fun _ => False) hbw))
  have HB8 := Lib.hid (HB7.out.kept (Kept.ofB (S := fun _ => False) hbw) (fun h => h))
  clear hL hN hO hg hbw cB lB fB
  have cB := HB8.out.cell
  have lB := HB8.out.lt
  have fB := HB8.out.frozen
  go_wp2_with fail
  refine (put_len (some ⟨g8, 0, none⟩) 14 2 L8 (wi) w8 14 16 (by exact HN8.out) rfl (HO8.out.bs) (by omega) (by omega) (by omega) (by omega)).mono ?_
  rintro e w9 ⟨g9, L9, rfl, hL, hN, hO, hg, hbw⟩
  have HL9 := Lib.hid hL
  have HN9 := Lib.hid hN
  have HO9 := Lib.hid hO
  have HG9 := Lib.hid (show w1.heap.size ≤ g9 from Nat.le_trans HW8.out.size hg)
  have HW9 := Lib.hid (HW8.out.trans (Kept.ofB (S := fun _ => False) hbw))
  have HB9 := Lib.hid (HB8.out.kept (Kept.ofB (S := fun _ => False) hbw) (fun h => h))
  clear hL hN hO hg hbw cB lB fB
  have cB := HB9.out.cell
  have lB := HB9.out.lt
  have fB := HB9.out.frozen
  go_wp2_with fail
  refine (put_len (some ⟨g9, 0, none⟩) 16 2 L9 (sm) w9 16 18 (by exact HN9.out) rfl (HO9.out.bs) (by omega) (by omega) (by omega) (by omega)).mono ?_
  rintro e w10 ⟨g10, L10, rfl, hL, hN, hO, hg, hbw⟩
  have HL10 := Lib.hid hL
  have HN10 := Lib.hid hN
  have HO10 := Lib.hid hO
  have HG10 := Lib.hid (show w1.heap.size ≤ g10 from Nat.le_trans HW9.out.size hg)
  have HW10 := Lib.hid (HW9.out.trans (Kept.ofB (S := fun _ => False) hbw))
  have HB10 := Lib.hid (HB9.out.kept (Kept.ofB (S := fun _ => False) hbw) (fun h => h))
  clear hL hN hO hg hbw cB lB fB
  have cB := HB10.out.cell
  have lB := HB10.out.lt
  have fB := HB10.out.frozen
  go_wp2_with fail
  refine (put_len (some ⟨g10, 0, none⟩) 18 2 L10 (ur) w10 18 20 (by exact HN10.out) rfl (HO10.out.bs) (by omega) (by omega) (by omega) (by omega)).mono ?_
  rintro e w11 ⟨g11, L11, rfl, hL, hN, hO, hg, hbw⟩
  have HL11 := Lib.hid hL
  have HN11 := Lib.hid hN
  have HO11 := Lib.hid hO
  have HG11 := Lib.hid (show w1.heap.size ≤ g11 from Nat.le_trans HW10.out.size hg)
  have HW11 := Lib.hid (HW10.out.trans (Kept.ofB (S := fun _ => False) hbw))
  have HB11 := Lib.hid (HB10.out.kept (Kept.ofB (S := fun _ => False) hbw) (fun h => h))
  clear hL hN hO hg hbw cB lB fB
  have cB := HB11.out.cell
  have lB := HB11.out.lt
  have fB := HB11.out.frozen
  have HR11 := Lib.hid (HO11.out.row_ HG11.out HN11.out)
  go_wp2_with (at_builtin; refine wpList_append_row rfl (.tmp 55) (.tmp 57) 44 rfl w1.heap.size 5 (.int .u8 0) 1 Tryz.underlying44 h5 rfl _ (bcs L11) rfl OA n oc (bcs os) rfl ?a0 HR11.out ?a1 (bcs_one _) ?a3 ?a4 HW11.out.size ?_)
  case a0 => rw [bcs_length, HNN.out]
  case a1 => exact (HO.out.on (HK1.out.trans HW11.out) (fun _ _ h => h)).src
  case a3 => rw [bcs_length, bcs_length, HNN.out, HN11.out]; unfold maxLen; omega
  case a4 => rw [bcs_length, bcs_length, HNN.out, HN11.out]; omega
  intro vA wA hrow hgr _
  rw [← bcs_append] at hrow
  have HWA := Lib.hid (HW11.out.then (kept_grown (S := fun i => w1.heap.size ≤ i) hgr (fun i e _ => (HR11.out.lt i e).1)) (fun i hi h => by omega))
  have HKA := Lib.hid (kept_grown (S := fun i => w1.heap.size ≤ i) hgr (fun i e _ => (HR11.out.lt i e).1))
  have HLB := Lib.hid (show sb < w1.heap.size from HB1.out.lt)
  have HBA := Lib.hid (HB11.out.kept HKA.out (fun h => by have := HLB.out; omega))
  obtain ⟨AA, cA, hve, -, -⟩ := hrow.shape
  have hNA : (L11 ++ os).length = 20 + n := by rw [List.length_append, HN11.out, HNN.out]
  rw [bcs_length, hNA] at hve
  subst hve
  have HRA := Lib.hid hrow
  have HNA := Lib.hid hNA
  clear hrow hgr hNA cB lB fB
  have cB := HBA.out.cell
  have lB := HBA.out.lt
  have fB := HBA.out.frozen
  go_wp2_with (at_builtin; refine wpList_append_row rfl (.tmp 59) (.tmp 61) 44 rfl w1.heap.size 5 (.int .u8 0) 1 Tryz.underlying44 h5 rfl _ (bcs (L11 ++ os)) rfl LA m lc (bcs ls) rfl ?a0 HRA.out ?a1 (bcs_one _) ?a3 ?a4 HWA.out.size ?_)
  case a0 => rw [bcs_length, HMM.out]
  case a1 => exact (HL.out.on (HK1.out.trans HWA.out) (fun _ _ h => h)).src
  case a3 => rw [bcs_length, bcs_length, HMM.out, HNA.out]; unfold maxLen; omega
  case a4 => rw [bcs_length, bcs_length, HMM.out, HNA.out]; omega
  intro vB wB hrow hgr _
  rw [← bcs_append] at hrow
  have HWB := Lib.hid (HWA.out.then (kept_grown (S := fun i => w1.heap.size ≤ i) hgr (fun i e _ => (HRA.out.lt i e).1)) (fun i hi h => by omega))
  have HRB := Lib.hid hrow
  clear hrow hgr cB lB fB
  go_wp2_with fail
  go_ret
  refine ⟨_, rfl, ?_, HK1.out.trans HWB.out⟩
  have e : L11 ++ os ++ ls = (⟨sp, dp, seq, ack, fl, wi, sm, ur, os, ls⟩ : Sg).bytes := by
    rw [HL11.out, HL10.out, HL9.out, HL8.out, HL7.out, HL6.out, HL5.out, HL4.out, HL3.out]
    simp [Sg.bytes, Sg.head, Sg.tail, HNN.out]
  rw [← e]
  exact HRB.out.more HK1.out.size
end Go.Proofs.YtdnbhmfofphblaaGreatDoor
