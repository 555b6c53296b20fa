/- ScriptSames, walked. -/
import Derived.Test.YthfdhggcnkgjfaaDoorI
import Derived.Test.YthfdhggcnkgjfaaDoorPick
import Derived.Deep.Cut
import Derived.Deep.CutRange
import Derived.Deep.CutBlock
import Derived.Deep.Light
namespace Go.Proofs.YthfdhggcnkgjfaaDoor
open Go.RowKit
set_option linter.unusedVariables false
theorem relAt_load_mid {P : Program} {w : World} {o : Oper} {a : Act} {R : Value → World → Prop} (ty : TypeId) (x : Operand) (ho : o.op = .load ty x)
    (b of_ : Nat) (hx : a.eval x = .pointer (some ⟨b, of_, none⟩)) (cs : List Value) (d : TypeDesc) (hc : w.rangeAt b of_ cs)
    (hu : P.underlying ty = some d) (hd : d.isRow = true) (hi : (P.info? ty).map (·.size) = some cs.length) (h : R (.agg cs.toArray) w) : relAt P o a w R := by
  unfold relAt execOp
  simp only [ho, hx, Instr.loadAt, Instr.sureAddr, Sem.run_bind, Sem.run_pure, Result.andThen_ok, run_loadVar_mid w b of_ ty cs d hc hu hd hi]
  exact h
theorem Blk.range' {w : World} {g t : Nat} {cs : Array Value} (h : Blk w g t cs) : w.rangeAt g 0 cs.toList := by
  have := World.rangeAt_of_block h 0 cs.size
  simpa using this
theorem ne_of_get' {l m : List Mb} {k : Nat} (hk : k < l.length) (hm : k < m.length) (e : l[k] ≠ m[k]) : ¬ l.take (k + 1) = m.take (k + 1) := fun h => e (by
  have : (l.take (k + 1))[k]? = (m.take (k + 1))[k]? := by rw [h]
  simpa [List.getElem?_take, hk, hm] using this)
theorem MOk.on {w w' : World} {A : Option Addr} {c : Nat} {ml : List Mb} (h : MOk w A c ml) (hk : Kept (fun _ => False) w w') : MOk w' A c ml := ⟨h.1, h.2.1, h.2.2.on hk (fun _ _ h => h)⟩
set_option maxRecDepth 20000 in
set_option maxHeartbeats 16000000 in
theorem sames_long (fa faz : Int) (f0 f0z : Int) (f1 f1z : Int) (f2 f2z : Int) (f3 f3z : Int) (f4 f4z : Bool) (f5 f5z : Int) (f6 f6z : Int) (f7 f7z : Int) (f8 f8z : Int) (f9 f9z : Int) (MA MAz : Option Addr) (mc mcz : Nat) (ml mlz : List Mb) (fb fbz : Int) (fc fcz : Int) (fd fdz : Int) (LA LAz : Option Addr) (lc lcz : Nat) (ld ldz : List UInt8) (g0 g0z : Int) (g1 g1z : Int) (g2 g2z : Int) (g3 g3z : Bool) (g4 g4z : Int) (g5 g5z : Int) (g6 g6z : Int) (w : World) (hno : ¬ (ml.length ≤ 70 ∧ mlz.length ≤ 70)) :
    Calls Tryd.prog 4 #[.agg #[.int .i64 fa, .int .i64 f0, .int .i64 f1, .int .i64 f2, .int .i64 f3, .bool f4, .int .u64 f5, .int .u64 f6, .int .u16 f7, .int .u8 f8, .int .i64 f9, .slice MA ml.length mc, .int .i64 fb, .int .i64 fc, .int .u8 fd, .slice LA ld.length lc, .int .u32 g0, .int .u32 g1, .int .u32 g2, .bool g3, .int .u64 g4, .int .u64 g5, .int .u16 g6], .agg #[.int .i64 faz, .int .i64 f0z, .int .i64 f1z, .int .i64 f2z, .int .i64 f3z, .bool f4z, .int .u64 f5z, .int .u64 f6z, .int .u16 f7z, .int .u8 f8z, .int .i64 f9z, .slice MAz mlz.length mcz, .int .i64 fbz, .int .i64 fcz, .int .u8 fdz, .slice LAz ldz.length lcz, .int .u32 g0z, .int .u32 g1z, .int .u32 g2z, .bool g3z, .int .u64 g4z, .int .u64 g5z, .int .u16 g6z]] w fun e w' => e = .returned (.bool true) ∧ Below w.heap.size w w' := by
  have HH := Lib.hid hno
  clear hno
  go_enter Tryd.func4, Tryd.ntmps4
  go_upto_region 1 with fail
  obtain ⟨w1, hw1⟩ : ∃ w1 : World, w1 = (w.alloc (.cells #[.int .i64 fa, .int .i64 f0, .int .i64 f1, .int .i64 f2, .int .i64 f3, .bool f4, .int .u64 f5, .int .u64 f6, .int .u16 f7, .int .u8 f8, .int .i64 f9, .slice MA ml.length mc, .int .i64 fb, .int .i64 fc, .int .u8 fd, .slice LA ld.length lc, .int .u32 g0, .int .u32 g1, .int .u32 g2, .bool g3, .int .u64 g4, .int .u64 g5, .int .u16 g6] 41)).alloc (.cells #[.int .i64 faz, .int .i64 f0z, .int .i64 f1z, .int .i64 f2z, .int .i64 f3z, .bool f4z, .int .u64 f5z, .int .u64 f6z, .int .u16 f7z, .int .u8 f8z, .int .i64 f9z, .slice MAz mlz.length mcz, .int .i64 fbz, .int .i64 fcz, .int .u8 fdz, .slice LAz ldz.length lcz, .int .u32 g0z, .int .u32 g1z, .int .u32 g2z, .bool g3z, .int .u64 g4z, .int .u64 g5z, .int .u16 g6z] 41) := ⟨_, rfl⟩
  have HX := Lib.hid (show Blk w1 w.heap.size 41 #[.int .i64 fa, .int .i64 f0, .int .i64 f1, .int .i64 f2, .int .i64 f3, .bool f4, .int .u64 f5, .int .u64 f6, .int .u16 f7, .int .u8 f8, .int .i64 f9, .slice MA ml.length mc, .int .i64 fb, .int .i64 fc, .int .u8 fd, .slice LA ld.length lc, .int .u32 g0, .int .u32 g1, .int .u32 g2, .bool g3, .int .u64 g4, .int .u64 g5, .int .u16 g6] by rw [hw1]; exact (Blk.new _ _ _).alloc _)
  have HY := Lib.hid (show Blk w1 (w.heap.size + 1) 41 #[.int .i64 faz, .int .i64 f0z, .int .i64 f1z, .int .i64 f2z, .int .i64 f3z, .bool f4z, .int .u64 f5z, .int .u64 f6z, .int .u16 f7z, .int .u8 f8z, .int .i64 f9z, .slice MAz mlz.length mcz, .int .i64 fbz, .int .i64 fcz, .int .u8 fdz, .slice LAz ldz.length lcz, .int .u32 g0z, .int .u32 g1z, .int .u32 g2z, .bool g3z, .int .u64 g4z, .int .u64 g5z, .int .u16 g6z] by rw [hw1]; exact Blk.new_ (by simp) _ _)
  have HW := Lib.hid (show Below w.heap.size w w1 by rw [hw1]; exact bel_two)
  rw [← hw1]
  clear hw1
  obtain ⟨yb, hyb⟩ : ∃ yb, w.heap.size + 1 = yb := ⟨_, rfl⟩
  rw [hyb] at HY ⊢
  obtain ⟨xb, hxb⟩ : ∃ xb, w.heap.size = xb := ⟨_, rfl⟩
  have HXB := Lib.hid hxb
  rw [hxb] at HX ⊢
  clear hyb hxb
  have cx := HX.out.cell
  have cy := HY.out.cell
  by_cases h1 : ml.length ≤ 70
  · have h2 : ¬ mlz.length ≤ 70 := fun e => HH.out ⟨h1, e⟩
    have i1 : ¬ (70 : Int) < (ml.length : Int) := by omega
    have i2 : (70 : Int) < (mlz.length : Int) := by omega
    clear h1 h2
    go_wp2_with fail
    refine (awake_any w1).mono ?_
    rintro e w2 ⟨rfl, hb2⟩
    have HW2 := Lib.hid (kept_of HW.out hb2)
    clear hb2
    go_wp2_with fail
    go_ret
    exact ⟨rfl, HW2.out⟩
  · have h2 := h1
    have i1 : (70 : Int) < (ml.length : Int) := by omega
    clear h1 h2
    go_wp2_with fail
    refine (awake_any w1).mono ?_
    rintro e w2 ⟨rfl, hb2⟩
    have HW2 := Lib.hid (kept_of HW.out hb2)
    clear hb2
    go_wp2_with fail
    go_ret
    exact ⟨rfl, HW2.out⟩

set_option maxRecDepth 20000 in
set_option maxHeartbeats 16000000 in
theorem sames_any (fa faz : Int) (f0 f0z : Int) (f1 f1z : Int) (f2 f2z : Int) (f3 f3z : Int) (f4 f4z : Bool) (f5 f5z : Int) (f6 f6z : Int) (f7 f7z : Int) (f8 f8z : Int) (f9 f9z : Int) (MA MAz : Option Addr) (mc mcz : Nat) (ml mlz : List Mb) (fb fbz : Int) (fc fcz : Int) (fd fdz : Int) (LA LAz : Option Addr) (lc lcz : Nat) (ld ldz : List UInt8) (g0 g0z : Int) (g1 g1z : Int) (g2 g2z : Int) (g3 g3z : Bool) (g4 g4z : Int) (g5 g5z : Int) (g6 g6z : Int) (w : World) (hl : ml.length ≤ 70) (hlz : mlz.length ≤ 70) (hm : MOk w MA mc ml) (hmz : MOk w MAz mcz mlz) (hll : ld.length ≤ maxLen) (hL : BS w w.heap.size LA ld) (hLz : BS w w.heap.size LAz ldz) :
    Calls Tryd.prog 4 #[.agg #[.int .i64 fa, .int .i64 f0, .int .i64 f1, .int .i64 f2, .int .i64 f3, .bool f4, .int .u64 f5, .int .u64 f6, .int .u16 f7, .int .u8 f8, .int .i64 f9, .slice MA ml.length mc, .int .i64 fb, .int .i64 fc, .int .u8 fd, .slice LA ld.length lc, .int .u32 g0, .int .u32 g1, .int .u32 g2, .bool g3, .int .u64 g4, .int .u64 g5, .int .u16 g6], .agg #[.int .i64 faz, .int .i64 f0z, .int .i64 f1z, .int .i64 f2z, .int .i64 f3z, .bool f4z, .int .u64 f5z, .int .u64 f6z, .int .u16 f7z, .int .u8 f8z, .int .i64 f9z, .slice MAz mlz.length mcz, .int .i64 fbz, .int .i64 fcz, .int .u8 fdz, .slice LAz ldz.length lcz, .int .u32 g0z, .int .u32 g1z, .int .u32 g2z, .bool g3z, .int .u64 g4z, .int .u64 g5z, .int .u16 g6z]] w fun e w' => e = .returned (.bool true) ∧ Below w.heap.size w w' := by
  have HL70 := Lib.hid hl
  have HL70z := Lib.hid hlz
  have HMO0 := Lib.hid hm
  have HMO0z := Lib.hid hmz
  have HLL := Lib.hid hll
  have HBL0 := Lib.hid hL
  have HBL0z := Lib.hid hLz
  clear hl hlz hm hmz hll hL hLz
  go_enter Tryd.func4, Tryd.ntmps4
  go_upto_region 1 with fail
  obtain ⟨w1, hw1⟩ : ∃ w1 : World, w1 = (w.alloc (.cells #[.int .i64 fa, .int .i64 f0, .int .i64 f1, .int .i64 f2, .int .i64 f3, .bool f4, .int .u64 f5, .int .u64 f6, .int .u16 f7, .int .u8 f8, .int .i64 f9, .slice MA ml.length mc, .int .i64 fb, .int .i64 fc, .int .u8 fd, .slice LA ld.length lc, .int .u32 g0, .int .u32 g1, .int .u32 g2, .bool g3, .int .u64 g4, .int .u64 g5, .int .u16 g6] 41)).alloc (.cells #[.int .i64 faz, .int .i64 f0z, .int .i64 f1z, .int .i64 f2z, .int .i64 f3z, .bool f4z, .int .u64 f5z, .int .u64 f6z, .int .u16 f7z, .int .u8 f8z, .int .i64 f9z, .slice MAz mlz.length mcz, .int .i64 fbz, .int .i64 fcz, .int .u8 fdz, .slice LAz ldz.length lcz, .int .u32 g0z, .int .u32 g1z, .int .u32 g2z, .bool g3z, .int .u64 g4z, .int .u64 g5z, .int .u16 g6z] 41) := ⟨_, rfl⟩
  have HX := Lib.hid (show Blk w1 w.heap.size 41 #[.int .i64 fa, .int .i64 f0, .int .i64 f1, .int .i64 f2, .int .i64 f3, .bool f4, .int .u64 f5, .int .u64 f6, .int .u16 f7, .int .u8 f8, .int .i64 f9, .slice MA ml.length mc, .int .i64 fb, .int .i64 fc, .int .u8 fd, .slice LA ld.length lc, .int .u32 g0, .int .u32 g1, .int .u32 g2, .bool g3, .int .u64 g4, .int .u64 g5, .int .u16 g6] by rw [hw1]; exact (Blk.new _ _ _).alloc _)
  have HY := Lib.hid (show Blk w1 (w.heap.size + 1) 41 #[.int .i64 faz, .int .i64 f0z, .int .i64 f1z, .int .i64 f2z, .int .i64 f3z, .bool f4z, .int .u64 f5z, .int .u64 f6z, .int .u16 f7z, .int .u8 f8z, .int .i64 f9z, .slice MAz mlz.length mcz, .int .i64 fbz, .int .i64 fcz, .int .u8 fdz, .slice LAz ldz.length lcz, .int .u32 g0z, .int .u32 g1z, .int .u32 g2z, .bool g3z, .int .u64 g4z, .int .u64 g5z, .int .u16 g6z] by rw [hw1]; exact Blk.new_ (by simp) _ _)
  have HK := Lib.hid (show Kept (fun _ => False) w w1 by rw [hw1]; exact ((Kept.refl _ _).alloc _).alloc _)
  have HW := Lib.hid (show Below w.heap.size w w1 by rw [hw1]; exact bel_two)
  rw [← hw1]
  clear hw1
  obtain ⟨yb, hyb⟩ : ∃ yb, w.heap.size + 1 = yb := ⟨_, rfl⟩
  rw [hyb] at HY ⊢
  obtain ⟨xb, hxb⟩ : ∃ xb, w.heap.size = xb := ⟨_, rfl⟩
  have HXB := Lib.hid hxb
  rw [hxb] at HX ⊢
  clear hyb hxb
  have cx := HX.out.cell
  have cy := HY.out.cell
  have HMO := Lib.hid (HMO0.out.on HK.out)
  have HMOz := Lib.hid (HMO0z.out.on HK.out)
  have HE := Lib.hid HMO.out.2.2
  have HEz := Lib.hid HMOz.out.2.2
  have HBL := Lib.hid (HBL0.out.on HK.out (fun _ _ h => h))
  have HBLz := Lib.hid (HBL0z.out.on HK.out (fun _ _ h => h))
  clear HMO0 HMO0z HBL0 HBL0z
  have i1 : ¬ (70 : Int) < (ml.length : Int) := by have := HL70.out; omega
  have i2 : ¬ (70 : Int) < (mlz.length : Int) := by have := HL70z.out; omega
  go_upto_region 3 with fail
  clear i1 i2
  go_cut [5] from 22 to 39 (fun c wx => c = .bool (decide (ld = ldz ∧ ml.length = mlz.length)) ∧ w1 = wx)
  case first =>
    have hcv := HBL.out.conv (P := Tryd.prog) (c := lc) Tryd.underlying38 Tryd.underlying5 Tryd.underlying9
    have hcz := HBLz.out.conv (P := Tryd.prog) (c := lcz) Tryd.underlying38 Tryd.underlying5 Tryd.underlying9
    rcases Classical.em (¬ ld = ldz) with he | he
    · have hb : (ld == ldz) = false := by simpa using he
      have HE1 := Lib.hid he
      clear he
      go_wp2_with fail
      go_meet
      exact ⟨congrArg Value.bool (decide_eq_false (fun h => HE1.out h.1)).symm, rfl⟩
    · replace he := Classical.not_not.1 he
      subst he
      go_wp2_with fail
      go_meet
      exact ⟨congrArg Value.bool (by first | (simp; done) | (simp; omega) | (rw [Bool.eq_iff_iff]; simp; omega)), rfl⟩
  case rest =>
  obtain ⟨rfl, rfl⟩ := hcut
  obtain ⟨b5, hb5⟩ : ∃ b, decide (ld = ldz ∧ ml.length = mlz.length) = b := ⟨_, rfl⟩
  rw [hb5]
  have HB5 := Lib.hid hb5
  clear hb5
  go_upto_block 0 with fail
  go_cut [5] from 40 to 63 (fun c wx => c = .bool (decide (ld = ldz ∧ ml = mlz)) ∧ ∃ nd, w1.drewN nd = wx)
  case first =>
    go_wp2_with fail
    go_loopw [5, 6] (fun c i wr => ∃ (k n : Nat) (b : Bool), k ≤ ml.length ∧ c = .bool b ∧ i = .int .i64 k ∧ Hid (decide (ld = ldz ∧ ml.length = mlz.length ∧ ml.take k = mlz.take k) = b) ∧ wr = w1.drewN n) (fun _ i _ => ml.length - (intOf i).toNat)
    case atStart => exact ⟨0, 0, b5, Nat.zero_le _, rfl, rfl, Lib.hid (by rw [← HB5.out]; simp), rfl⟩
    case round =>
    obtain ⟨k, n, b, hk, rfl, rfl, HT, rfl⟩ := hrel
    have hb70 : (ml.length : Int) ≤ 70 := by have := HL70.out; omega
    have hk0 : (0 : Int) ≤ (k : Int) := Int.natCast_nonneg _
    by_cases hlt : k < ml.length
    · have hk1 : (k : Int) < (ml.length : Int) := by omega
      cases b with
      | false =>
        go_wp2_with fail
        go_meet
        refine ⟨congrArg Value.bool (decide_eq_false (fun h => ?_)).symm, n, rfl⟩
        have := of_decide_eq_false HT.out
        obtain ⟨h1, rfl⟩ := h
        exact this ⟨h1, rfl, rfl⟩
      | true =>
      have HT1 := Lib.hid (of_decide_eq_true HT.out)
      have hlt' : k < mlz.length := by have := HT1.out.2.1; omega
      have hk2 : (k : Int) < (mlz.length : Int) := by omega
      clear HT
      obtain ⟨b, off, hb, rfl, HB⟩ := HE.out.at (k := k) (by simpa using hlt)
      obtain ⟨b', off', hb', rfl, HB'⟩ := HEz.out.at (k := k) (by simpa using hlt')
      obtain ⟨h0, h1⟩ := Mb.get HB hlt
      obtain ⟨h0', h1'⟩ := Mb.get HB' hlt'
      have c0 : w1.cell? ⟨b, off + k * 2, none⟩ = some (.int .i64 ml[k].back) := by simpa using h0
      have c1 : w1.cell? ⟨b, off + k * 2 + 1, none⟩ = some (.int .i64 ml[k].weight) := by simpa using h1
      have d0 : w1.cell? ⟨b', off' + k * 2, none⟩ = some (.int .i64 mlz[k].back) := by simpa using h0'
      have d1 : w1.cell? ⟨b', off' + k * 2 + 1, none⟩ = some (.int .i64 mlz[k].weight) := by simpa using h1'
      clear h0 h1 h0' h1' HB HB'
      by_cases he : ml[k].back = mlz[k].back
      · by_cases hf : ml[k].weight = mlz[k].weight
        · have HQ := Lib.hid (show ml[k] = mlz[k] by cases hx : ml[k]; cases hy : mlz[k]; rw [hx, hy] at he hf; simp at he hf; rw [he, hf])
          go_wp2_with fail
          go_region
          go_wp2_with fail
          go_roundw
          case rel => exact ⟨k + 1, n + 1, true, by omega, by first | rfl | simp, by go_num, Lib.hid (decide_eq_true ⟨HT1.out.1, HT1.out.2.1, take_snoc_eq HT1.out.2.2 hlt hlt' HQ.out⟩), by simp⟩
          case measure => simp [intOf]; omega
        · have HF := Lib.hid (ne_of_get' hlt hlt' (fun e => hf (by rw [e])))
          go_wp2_with fail
          go_region
          go_wp2_with fail
          go_roundw
          case rel => exact ⟨k + 1, n + 1, false, by omega, by first | rfl | simp, by go_num, Lib.hid (decide_eq_false (fun h => HF.out h.2.2)), by simp⟩
          case measure => simp [intOf]; omega
      · have HF := Lib.hid (ne_of_get' hlt hlt' (fun e => he (by rw [e])))
        go_wp2_with fail
        go_region
        go_wp2_with fail
        go_roundw
        case rel => exact ⟨k + 1, n + 1, false, by omega, by first | rfl | simp, by go_num, Lib.hid (decide_eq_false (fun h => HF.out h.2.2)), by simp⟩
        case measure => simp [intOf]; omega
    · have : k = ml.length := by omega
      subst this
      go_wp2_with fail
      go_meet
      refine ⟨congrArg Value.bool (HT.out.symm.trans (decide_eq_decide.2 ⟨fun h => ⟨h.1, ?_⟩, fun h => ⟨h.1, ?_, ?_⟩⟩)), n, rfl⟩
      · have := h.2.2; rwa [List.take_length, h.2.1, List.take_length] at this
      · rw [h.2]
      · rw [h.2]
  case rest =>
  obtain ⟨rfl, nd, hwn⟩ := hcut
  obtain ⟨wd, hwd⟩ : ∃ wd : World, wd = wc := ⟨_, rfl⟩
  rw [← hwd]
  have HKD := Lib.hid (show Kept (fun _ => False) w1 wd by rw [hwd, ← hwn]; exact (Kept.refl _ _).drewN nd)
  clear hwd hwn cx cy
  have HXd := Lib.hid (HX.out.kept HKD.out (fun h => h))
  have HYd := Lib.hid (HY.out.kept HKD.out (fun h => h))
  have cx := HXd.out.cell
  have cy := HYd.out.cell
  obtain ⟨b8, hb8⟩ : ∃ b, decide (ld = ldz ∧ ml = mlz) = b := ⟨_, rfl⟩
  rw [hb8]
  have HB8 := Lib.hid hb8
  clear hb8 HB5
  have lx := HXd.out.lt
  have ly := HYd.out.lt
  have n1 : ¬ wd.heap.size = xb := by omega
  have n2 : ¬ xb = wd.heap.size := by omega
  have n3 : ¬ wd.heap.size = yb := by omega
  have n4 : ¬ yb = wd.heap.size := by omega
  have n5 : ¬ wd.heap.size + 1 = xb := by omega
  have n6 : ¬ xb = wd.heap.size + 1 := by omega
  have n7 : ¬ wd.heap.size + 1 = yb := by omega
  have n8 : ¬ yb = wd.heap.size + 1 := by omega
  go_upto_region 8 with fail
  go_cut [7, 8] from 64 to 67 (fun p q wx => ∃ xo yo : Nat, p = .pointer (some ⟨xo, 0, none⟩) ∧ q = .pointer (some ⟨yo, 0, none⟩) ∧ Hid (xo ≠ yo) ∧ Hid (Blk wx xo 37 #[.int .i64 f0, .int .i64 f1, .int .i64 f2, .int .i64 f3, .bool f4, .int .u64 f5, .int .u64 f6, .int .u16 f7, .int .u8 f8, .int .i64 f9, .slice MA ml.length mc]) ∧ Hid (Blk wx yo 37 #[.int .i64 f0z, .int .i64 f1z, .int .i64 f2z, .int .i64 f3z, .bool f4z, .int .u64 f5z, .int .u64 f6z, .int .u16 f7z, .int .u8 f8z, .int .i64 f9z, .slice MAz mlz.length mcz]) ∧ Hid (Kept (fun _ => False) wd wx))
  case first =>
    go_region
    all_goals (go_wp2_with fail; go_meet)
    · exact ⟨_, _, rfl, rfl, Lib.hid (by omega), Lib.hid ((Blk.new _ _ _).alloc _), Lib.hid (Blk.new_ (by simp) _ _), Lib.hid (((Kept.refl _ _).alloc _).alloc _).drew⟩
    · exact ⟨_, _, rfl, rfl, Lib.hid (by omega), Lib.hid (Blk.new_ (by simp) _ _), Lib.hid ((Blk.new _ _ _).alloc _), Lib.hid (((Kept.refl _ _).alloc _).alloc _).drew⟩
  case rest =>
  obtain ⟨xo, yo, rfl, rfl, HGH, HG, HHB, HKd2⟩ := hcut
  have HK2 := Lib.hid (HKD.out.trans HKd2.out)
  clear HKD HKd2 HXd HYd
  obtain ⟨w2, hw2⟩ : ∃ w2 : World, w2 = wc := ⟨_, rfl⟩
  rw [← hw2] at HG HHB HK2 ⊢
  clear hw2 cx cy lx ly n1 n2 n3 n4 n5 n6 n7 n8
  have HX2 := Lib.hid (HX.out.kept HK2.out (fun h => h))
  have HY2 := Lib.hid (HY.out.kept HK2.out (fun h => h))
  have HW2 := Lib.hid (HW.out.trans (HK2.out.below HW.out.size (fun i h => h.elim)))
  clear HX HY
  have cx0 : w2.cell? ⟨xb, 0, none⟩ = some (.int .i64 fa) := HX2.out.cell 0
  have cy0 : w2.cell? ⟨yb, 0, none⟩ = some (.int .i64 faz) := HY2.out.cell 0
  have cx12 : w2.cell? ⟨xb, 12, none⟩ = some (.int .i64 fb) := HX2.out.cell 12
  have cy12 : w2.cell? ⟨yb, 12, none⟩ = some (.int .i64 fbz) := HY2.out.cell 12
  have cx13 : w2.cell? ⟨xb, 13, none⟩ = some (.int .i64 fc) := HX2.out.cell 13
  have cy13 : w2.cell? ⟨yb, 13, none⟩ = some (.int .i64 fcz) := HY2.out.cell 13
  have cx14 : w2.cell? ⟨xb, 14, none⟩ = some (.int .u8 fd) := HX2.out.cell 14
  have cy14 : w2.cell? ⟨yb, 14, none⟩ = some (.int .u8 fdz) := HY2.out.cell 14
  have cx16 : w2.cell? ⟨xb, 16, none⟩ = some (.int .u32 g0) := HX2.out.cell 16
  have cy16 : w2.cell? ⟨yb, 16, none⟩ = some (.int .u32 g0z) := HY2.out.cell 16
  have cx17 : w2.cell? ⟨xb, 17, none⟩ = some (.int .u32 g1) := HX2.out.cell 17
  have cy17 : w2.cell? ⟨yb, 17, none⟩ = some (.int .u32 g1z) := HY2.out.cell 17
  have cx18 : w2.cell? ⟨xb, 18, none⟩ = some (.int .u32 g2) := HX2.out.cell 18
  have cy18 : w2.cell? ⟨yb, 18, none⟩ = some (.int .u32 g2z) := HY2.out.cell 18
  have cx19 : w2.cell? ⟨xb, 19, none⟩ = some (.bool g3) := HX2.out.cell 19
  have cy19 : w2.cell? ⟨yb, 19, none⟩ = some (.bool g3z) := HY2.out.cell 19
  have cx20 : w2.cell? ⟨xb, 20, none⟩ = some (.int .u64 g4) := HX2.out.cell 20
  have cy20 : w2.cell? ⟨yb, 20, none⟩ = some (.int .u64 g4z) := HY2.out.cell 20
  have cx21 : w2.cell? ⟨xb, 21, none⟩ = some (.int .u64 g5) := HX2.out.cell 21
  have cy21 : w2.cell? ⟨yb, 21, none⟩ = some (.int .u64 g5z) := HY2.out.cell 21
  have cx22 : w2.cell? ⟨xb, 22, none⟩ = some (.int .u16 g6) := HX2.out.cell 22
  have cy22 : w2.cell? ⟨yb, 22, none⟩ = some (.int .u16 g6z) := HY2.out.cell 22
  obtain ⟨R9, hR9⟩ : ∃ R, R = decide (b8 = true ∧ fa = faz ∧ fb = fbz ∧ fc = fcz ∧ fd = fdz ∧ g0 = g0z ∧ g1 = g1z ∧ g2 = g2z ∧ g3 = g3z ∧ g4 = g4z ∧ g5 = g5z ∧ g6 = g6z) := ⟨_, rfl⟩
  have HR9 := Lib.hid hR9
  clear hR9
  go_upto_region 9 with fail
  go_cut [5] from 68 to 131 (fun c wx => c = .bool R9 ∧ w2 = wx)
  case first =>
    simp only [List.append_eq, List.cons_append, List.nil_append]
    cases b8 with
    | false =>
      have hz := HR9.out.trans (decide_eq_false (fun h => absurd h.1 (by decide)))
      subst hz
      go_wp2_with fail
      go_meet
      exact ⟨rfl, rfl⟩
    | true =>
    rcases Classical.em (¬ fa = faz) with e1 | e1
    · have hz := HR9.out.trans (decide_eq_false (fun h => e1 h.2.1))
      subst hz
      go_wp2_with fail
      go_meet
      first | exact ⟨rfl, rfl⟩ | exact ⟨congrArg Value.bool (a₁ := (fa == faz)) (by simpa using e1), rfl⟩
    replace e1 := Classical.not_not.1 e1
    subst e1
    rcases Classical.em (¬ fb = fbz) with e2 | e2
    · have hz := HR9.out.trans (decide_eq_false (fun h => e2 h.2.2.1))
      subst hz
      go_wp2_with fail
      go_meet
      first | exact ⟨rfl, rfl⟩ | exact ⟨congrArg Value.bool (a₁ := (fb == fbz)) (by simpa using e2), rfl⟩
    replace e2 := Classical.not_not.1 e2
    subst e2
    rcases Classical.em (¬ fc = fcz) with e3 | e3
    · have hz := HR9.out.trans (decide_eq_false (fun h => e3 h.2.2.2.1))
      subst hz
      go_wp2_with fail
      go_meet
      first | exact ⟨rfl, rfl⟩ | exact ⟨congrArg Value.bool (a₁ := (fc == fcz)) (by simpa using e3), rfl⟩
    replace e3 := Classical.not_not.1 e3
    subst e3
    rcases Classical.em (¬ fd = fdz) with e4 | e4
    · have hz := HR9.out.trans (decide_eq_false (fun h => e4 h.2.2.2.2.1))
      subst hz
      go_wp2_with fail
      go_meet
      first | exact ⟨rfl, rfl⟩ | exact ⟨congrArg Value.bool (a₁ := (fd == fdz)) (by simpa using e4), rfl⟩
    replace e4 := Classical.not_not.1 e4
    subst e4
    rcases Classical.em (¬ g0 = g0z) with e5 | e5
    · have hz := HR9.out.trans (decide_eq_false (fun h => e5 h.2.2.2.2.2.1))
      subst hz
      go_wp2_with fail
      go_meet
      first | exact ⟨rfl, rfl⟩ | exact ⟨congrArg Value.bool (a₁ := (g0 == g0z)) (by simpa using e5), rfl⟩
    replace e5 := Classical.not_not.1 e5
    subst e5
    rcases Classical.em (¬ g1 = g1z) with e6 | e6
    · have hz := HR9.out.trans (decide_eq_false (fun h => e6 h.2.2.2.2.2.2.1))
      subst hz
      go_wp2_with fail
      go_meet
      first | exact ⟨rfl, rfl⟩ | exact ⟨congrArg Value.bool (a₁ := (g1 == g1z)) (by simpa using e6), rfl⟩
    replace e6 := Classical.not_not.1 e6
    subst e6
    rcases Classical.em (¬ g2 = g2z) with e7 | e7
    · have hz := HR9.out.trans (decide_eq_false (fun h => e7 h.2.2.2.2.2.2.2.1))
      subst hz
      go_wp2_with fail
      go_meet
      first | exact ⟨rfl, rfl⟩ | exact ⟨congrArg Value.bool (a₁ := (g2 == g2z)) (by simpa using e7), rfl⟩
    replace e7 := Classical.not_not.1 e7
    subst e7
    rcases Classical.em (¬ g3 = g3z) with e8 | e8
    · have hz := HR9.out.trans (decide_eq_false (fun h => e8 h.2.2.2.2.2.2.2.2.1))
      subst hz
      go_wp2_with fail
      go_meet
      first | exact ⟨rfl, rfl⟩ | exact ⟨congrArg Value.bool (a₁ := (g3 == g3z)) (by simpa using e8), rfl⟩
    replace e8 := Classical.not_not.1 e8
    subst e8
    rcases Classical.em (¬ g4 = g4z) with e9 | e9
    · have hz := HR9.out.trans (decide_eq_false (fun h => e9 h.2.2.2.2.2.2.2.2.2.1))
      subst hz
      go_wp2_with fail
      go_meet
      first | exact ⟨rfl, rfl⟩ | exact ⟨congrArg Value.bool (a₁ := (g4 == g4z)) (by simpa using e9), rfl⟩
    replace e9 := Classical.not_not.1 e9
    subst e9
    rcases Classical.em (¬ g5 = g5z) with e10 | e10
    · have hz := HR9.out.trans (decide_eq_false (fun h => e10 h.2.2.2.2.2.2.2.2.2.2.1))
      subst hz
      go_wp2_with fail
      go_meet
      first | exact ⟨rfl, rfl⟩ | exact ⟨congrArg Value.bool (a₁ := (g5 == g5z)) (by simpa using e10), rfl⟩
    replace e10 := Classical.not_not.1 e10
    subst e10
    rcases Classical.em (¬ g6 = g6z) with e11 | e11
    · have hz := HR9.out.trans (decide_eq_false (fun h => e11 h.2.2.2.2.2.2.2.2.2.2.2))
      subst hz
      go_wp2_with fail
      go_meet
      first | exact ⟨rfl, rfl⟩ | exact ⟨congrArg Value.bool (a₁ := (g6 == g6z)) (by simpa using e11), rfl⟩
    replace e11 := Classical.not_not.1 e11
    subst e11
    have hz := HR9.out.trans (decide_eq_true (by refine ⟨?_, ?_, ?_, ?_, ?_, ?_, ?_, ?_, ?_, ?_, ?_, ?_⟩ <;> rfl))
    subst hz
    go_wp2_with fail
    go_meet
    exact ⟨rfl, rfl⟩
  case rest =>
  obtain ⟨rfl, rfl⟩ := hcut
  clear cx0 cy0 cx12 cy12 cx13 cy13 cx14 cy14 cx16 cy16 cx17 cy17 cx18 cy18 cx19 cy19 cx20 cy20 cx21 cy21 cx22 cy22
  have cg0 : w2.cell? ⟨xo, 0, none⟩ = some (.int .i64 f0) := HG.out.cell 0
  have ch0 : w2.cell? ⟨yo, 0, none⟩ = some (.int .i64 f0z) := HHB.out.cell 0
  have cg1 : w2.cell? ⟨xo, 1, none⟩ = some (.int .i64 f1) := HG.out.cell 1
  have ch1 : w2.cell? ⟨yo, 1, none⟩ = some (.int .i64 f1z) := HHB.out.cell 1
  have cg2 : w2.cell? ⟨xo, 2, none⟩ = some (.int .i64 f2) := HG.out.cell 2
  have ch2 : w2.cell? ⟨yo, 2, none⟩ = some (.int .i64 f2z) := HHB.out.cell 2
  have cg3 : w2.cell? ⟨xo, 3, none⟩ = some (.int .i64 f3) := HG.out.cell 3
  have ch3 : w2.cell? ⟨yo, 3, none⟩ = some (.int .i64 f3z) := HHB.out.cell 3
  have cg4 : w2.cell? ⟨xo, 4, none⟩ = some (.bool f4) := HG.out.cell 4
  have ch4 : w2.cell? ⟨yo, 4, none⟩ = some (.bool f4z) := HHB.out.cell 4
  have cg5 : w2.cell? ⟨xo, 5, none⟩ = some (.int .u64 f5) := HG.out.cell 5
  have ch5 : w2.cell? ⟨yo, 5, none⟩ = some (.int .u64 f5z) := HHB.out.cell 5
  have cg6 : w2.cell? ⟨xo, 6, none⟩ = some (.int .u64 f6) := HG.out.cell 6
  have ch6 : w2.cell? ⟨yo, 6, none⟩ = some (.int .u64 f6z) := HHB.out.cell 6
  have cg7 : w2.cell? ⟨xo, 7, none⟩ = some (.int .u16 f7) := HG.out.cell 7
  have ch7 : w2.cell? ⟨yo, 7, none⟩ = some (.int .u16 f7z) := HHB.out.cell 7
  have cg8 : w2.cell? ⟨xo, 8, none⟩ = some (.int .u8 f8) := HG.out.cell 8
  have ch8 : w2.cell? ⟨yo, 8, none⟩ = some (.int .u8 f8z) := HHB.out.cell 8
  have cg9 : w2.cell? ⟨xo, 9, none⟩ = some (.int .i64 f9) := HG.out.cell 9
  have ch9 : w2.cell? ⟨yo, 9, none⟩ = some (.int .i64 f9z) := HHB.out.cell 9
  obtain ⟨R10, hR10⟩ : ∃ R, R = decide (R9 = true ∧ f0 = f0z ∧ f1 = f1z ∧ f2 = f2z ∧ f3 = f3z ∧ f4 = f4z ∧ f5 = f5z ∧ f6 = f6z ∧ f7 = f7z ∧ f8 = f8z ∧ f9 = f9z) := ⟨_, rfl⟩
  have HR10 := Lib.hid hR10
  clear hR10
  go_upto_region 10 with fail
  go_cut [5] from 132 to 188 (fun c wx => c = .bool R10 ∧ w2 = wx)
  case first =>
    cases R9 with
    | false =>
      have hz := HR10.out.trans (decide_eq_false (fun h => absurd h.1 (by decide)))
      subst hz
      go_wp2_with fail
      go_meet
      exact ⟨rfl, rfl⟩
    | true =>
    rcases Classical.em (¬ f0 = f0z) with e1 | e1
    · have hz := HR10.out.trans (decide_eq_false (fun h => e1 h.2.1))
      subst hz
      go_wp2_with fail
      go_meet
      first | exact ⟨rfl, rfl⟩ | exact ⟨congrArg Value.bool (a₁ := (f0 == f0z)) (by simpa using e1), rfl⟩
    replace e1 := Classical.not_not.1 e1
    subst e1
    rcases Classical.em (¬ f1 = f1z) with e2 | e2
    · have hz := HR10.out.trans (decide_eq_false (fun h => e2 h.2.2.1))
      subst hz
      go_wp2_with fail
      go_meet
      first | exact ⟨rfl, rfl⟩ | exact ⟨congrArg Value.bool (a₁ := (f1 == f1z)) (by simpa using e2), rfl⟩
    replace e2 := Classical.not_not.1 e2
    subst e2
    rcases Classical.em (¬ f2 = f2z) with e3 | e3
    · have hz := HR10.out.trans (decide_eq_false (fun h => e3 h.2.2.2.1))
      subst hz
      go_wp2_with fail
      go_meet
      first | exact ⟨rfl, rfl⟩ | exact ⟨congrArg Value.bool (a₁ := (f2 == f2z)) (by simpa using e3), rfl⟩
    replace e3 := Classical.not_not.1 e3
    subst e3
    rcases Classical.em (¬ f3 = f3z) with e4 | e4
    · have hz := HR10.out.trans (decide_eq_false (fun h => e4 h.2.2.2.2.1))
      subst hz
      go_wp2_with fail
      go_meet
      first | exact ⟨rfl, rfl⟩ | exact ⟨congrArg Value.bool (a₁ := (f3 == f3z)) (by simpa using e4), rfl⟩
    replace e4 := Classical.not_not.1 e4
    subst e4
    rcases Classical.em (¬ f4 = f4z) with e5 | e5
    · have hz := HR10.out.trans (decide_eq_false (fun h => e5 h.2.2.2.2.2.1))
      subst hz
      go_wp2_with fail
      go_meet
      first | exact ⟨rfl, rfl⟩ | exact ⟨congrArg Value.bool (a₁ := (f4 == f4z)) (by simpa using e5), rfl⟩
    replace e5 := Classical.not_not.1 e5
    subst e5
    rcases Classical.em (¬ f5 = f5z) with e6 | e6
    · have hz := HR10.out.trans (decide_eq_false (fun h => e6 h.2.2.2.2.2.2.1))
      subst hz
      go_wp2_with fail
      go_meet
      first | exact ⟨rfl, rfl⟩ | exact ⟨congrArg Value.bool (a₁ := (f5 == f5z)) (by simpa using e6), rfl⟩
    replace e6 := Classical.not_not.1 e6
    subst e6
    rcases Classical.em (¬ f6 = f6z) with e7 | e7
    · have hz := HR10.out.trans (decide_eq_false (fun h => e7 h.2.2.2.2.2.2.2.1))
      subst hz
      go_wp2_with fail
      go_meet
      first | exact ⟨rfl, rfl⟩ | exact ⟨congrArg Value.bool (a₁ := (f6 == f6z)) (by simpa using e7), rfl⟩
    replace e7 := Classical.not_not.1 e7
    subst e7
    rcases Classical.em (¬ f7 = f7z) with e8 | e8
    · have hz := HR10.out.trans (decide_eq_false (fun h => e8 h.2.2.2.2.2.2.2.2.1))
      subst hz
      go_wp2_with fail
      go_meet
      first | exact ⟨rfl, rfl⟩ | exact ⟨congrArg Value.bool (a₁ := (f7 == f7z)) (by simpa using e8), rfl⟩
    replace e8 := Classical.not_not.1 e8
    subst e8
    rcases Classical.em (¬ f8 = f8z) with e9 | e9
    · have hz := HR10.out.trans (decide_eq_false (fun h => e9 h.2.2.2.2.2.2.2.2.2.1))
      subst hz
      go_wp2_with fail
      go_meet
      first | exact ⟨rfl, rfl⟩ | exact ⟨congrArg Value.bool (a₁ := (f8 == f8z)) (by simpa using e9), rfl⟩
    replace e9 := Classical.not_not.1 e9
    subst e9
    rcases Classical.em (¬ f9 = f9z) with e10 | e10
    · have hz := HR10.out.trans (decide_eq_false (fun h => e10 h.2.2.2.2.2.2.2.2.2.2))
      subst hz
      go_wp2_with fail
      go_meet
      first | exact ⟨rfl, rfl⟩ | exact ⟨congrArg Value.bool (a₁ := (f9 == f9z)) (by simpa using e10), rfl⟩
    replace e10 := Classical.not_not.1 e10
    subst e10
    have hz := HR10.out.trans (decide_eq_true (by refine ⟨?_, ?_, ?_, ?_, ?_, ?_, ?_, ?_, ?_, ?_, ?_⟩ <;> rfl))
    subst hz
    go_wp2_with fail
    go_meet
    exact ⟨rfl, rfl⟩
  case rest =>
  obtain ⟨rfl, rfl⟩ := hcut
  clear cg0 ch0 cg1 ch1 cg2 ch2 cg3 ch3 cg4 ch4 cg5 ch5 cg6 ch6 cg7 ch7 cg8 ch8 cg9 ch9
  have HSP := Lib.hid (show decide (fa = faz ∧ (f0 = f0z ∧ f1 = f1z ∧ f2 = f2z ∧ f3 = f3z ∧ f4 = f4z ∧ f5 = f5z ∧ f6 = f6z ∧ f7 = f7z ∧ f8 = f8z ∧ f9 = f9z ∧ ml = mlz) ∧ fb = fbz ∧ fc = fcz ∧ fd = fdz ∧ ld = ldz ∧ g0 = g0z ∧ g1 = g1z ∧ g2 = g2z ∧ g3 = g3z ∧ g4 = g4z ∧ g5 = g5z ∧ g6 = g6z) = R10 by
    rw [HR10.out]
    refine decide_eq_decide.2 ⟨fun h => ?_, fun h => ?_⟩
    · obtain ⟨a0, ⟨o0, o1, o2, o3, o4, o5, o6, o7, o8, o9, om⟩, a1, a2, a3, ol, a4, a5, a6, a7, a8, a9, a10⟩ := h
      exact ⟨HR9.out.trans (decide_eq_true ⟨HB8.out.symm.trans (decide_eq_true ⟨ol, om⟩), a0, a1, a2, a3, a4, a5, a6, a7, a8, a9, a10⟩), o0, o1, o2, o3, o4, o5, o6, o7, o8, o9⟩
    · obtain ⟨h9, o0, o1, o2, o3, o4, o5, o6, o7, o8, o9⟩ := h
      obtain ⟨h8, a0, a1, a2, a3, a4, a5, a6, a7, a8, a9, a10⟩ := of_decide_eq_true (HR9.out.symm.trans h9)
      obtain ⟨ol, om⟩ := of_decide_eq_true (HB8.out.trans h8)
      exact ⟨a0, ⟨o0, o1, o2, o3, o4, o5, o6, o7, o8, o9, om⟩, a1, a2, a3, ol, a4, a5, a6, a7, a8, a9, a10⟩)
  clear HR10 HR9 HB8
  as_aux_lemma =>
    go_upto_region 11 with fail
    refine wp_region_kept 17 [(0, fun v u => v = .agg #[.int .i64 fa, .int .i64 f0, .int .i64 f1, .int .i64 f2, .int .i64 f3, .bool f4, .int .u64 f5, .int .u64 f6, .int .u16 f7, .int .u8 f8, .int .i64 f9, .slice MA ml.length mc, .int .i64 fb, .int .i64 fc, .int .u8 fd, .slice LA ld.length lc, .int .u32 g0, .int .u32 g1, .int .u32 g2, .bool g3, .int .u64 g4, .int .u64 g5, .int .u16 g6]), (1, fun v u => ∃ A c, v = .agg #[.int .i64 fa, .int .i64 f0, .int .i64 f1, .int .i64 f2, .int .i64 f3, .bool f4, .int .u64 f5, .int .u64 f6, .int .u16 f7, .int .u8 f8, .int .i64 f9, .slice A ml.length c, .int .i64 fb, .int .i64 fc, .int .u8 fd, .slice LA ld.length lc, .int .u32 g0, .int .u32 g1, .int .u32 g2, .bool g3, .int .u64 g4, .int .u64 g5, .int .u16 g6] ∧ MOk u A c ml), (2, fun v u => v = .agg #[.int .i64 faz, .int .i64 f0z, .int .i64 f1z, .int .i64 f2z, .int .i64 f3z, .bool f4z, .int .u64 f5z, .int .u64 f6z, .int .u16 f7z, .int .u8 f8z, .int .i64 f9z, .slice MAz mlz.length mcz, .int .i64 fbz, .int .i64 fcz, .int .u8 fdz, .slice LAz ldz.length lcz, .int .u32 g0z, .int .u32 g1z, .int .u32 g2z, .bool g3z, .int .u64 g4z, .int .u64 g5z, .int .u16 g6z]), (3, fun v u => ∃ A c, v = .agg #[.int .i64 faz, .int .i64 f0z, .int .i64 f1z, .int .i64 f2z, .int .i64 f3z, .bool f4z, .int .u64 f5z, .int .u64 f6z, .int .u16 f7z, .int .u8 f8z, .int .i64 f9z, .slice A mlz.length c, .int .i64 fbz, .int .i64 fcz, .int .u8 fdz, .slice LAz ldz.length lcz, .int .u32 g0z, .int .u32 g1z, .int .u32 g2z, .bool g3z, .int .u64 g4z, .int .u64 g5z, .int .u16 g6z] ∧ MOk u A c mlz), (4, fun v u => v = .bool R10), (8, fun v u => v = .agg #[.int .i64 fa, .int .i64 f0, .int .i64 f1, .int .i64 f2, .int .i64 f3, .bool f4, .int .u64 f5, .int .u64 f6, .int .u16 f7, .int .u8 f8, .int .i64 f9, .slice MA ml.length mc, .int .i64 fb, .int .i64 fc, .int .u8 fd, .slice LA ld.length lc, .int .u32 g0, .int .u32 g1, .int .u32 g2, .bool g3, .int .u64 g4, .int .u64 g5, .int .u16 g6]), (9, fun v u => ∃ A c, v = .agg #[.int .i64 fa, .int .i64 f0, .int .i64 f1, .int .i64 f2, .int .i64 f3, .bool f4, .int .u64 f5, .int .u64 f6, .int .u16 f7, .int .u8 f8, .int .i64 f9, .slice A ml.length c, .int .i64 fb, .int .i64 fc, .int .u8 fd, .slice LA ld.length lc, .int .u32 g0, .int .u32 g1, .int .u32 g2, .bool g3, .int .u64 g4, .int .u64 g5, .int .u16 g6] ∧ MOk u A c ml), (10, fun v u => v = .agg #[.int .i64 fa, .int .i64 f0, .int .i64 f1, .int .i64 f2, .int .i64 f3, .bool f4, .int .u64 f5, .int .u64 f6, .int .u16 f7, .int .u8 f8, .int .i64 f9, .slice MA ml.length mc, .int .i64 fb, .int .i64 fc, .int .u8 fd, .slice LA ld.length lc, .int .u32 g0, .int .u32 g1, .int .u32 g2, .bool g3, .int .u64 g4, .int .u64 g5, .int .u16 g6]), (11, fun v u => ∃ A c, v = .agg #[.int .i64 fa, .int .i64 f0, .int .i64 f1, .int .i64 f2, .int .i64 f3, .bool f4, .int .u64 f5, .int .u64 f6, .int .u16 f7, .int .u8 f8, .int .i64 f9, .slice A ml.length c, .int .i64 fb, .int .i64 fc, .int .u8 fd, .slice LA ld.length lc, .int .u32 g0, .int .u32 g1, .int .u32 g2, .bool g3, .int .u64 g4, .int .u64 g5, .int .u16 g6] ∧ MOk u A c ml), (12, fun v u => v = .bool true), (15, fun v u => v = .bool true)] ?st ?ne rfl (by kernel_rfl) (by kernel_rfl) ?_
    case st =>
      intro p hp
      simp only [List.mem_cons, List.not_mem_nil, or_false] at hp
      rcases hp with rfl | rfl | rfl | rfl | rfl | rfl | rfl | rfl | rfl | rfl | rfl
      · intro v u u' h hk; exact h
      · rintro v u u' ⟨A, c, rfl, h⟩ hk; exact ⟨A, c, rfl, h.on hk⟩
      · intro v u u' h hk; exact h
      · rintro v u u' ⟨A, c, rfl, h⟩ hk; exact ⟨A, c, rfl, h.on hk⟩
      · intro v u u' h hk; exact h
      · intro v u u' h hk; exact h
      · rintro v u u' ⟨A, c, rfl, h⟩ hk; exact ⟨A, c, rfl, h.on hk⟩
      · intro v u u' h hk; exact h
      · rintro v u u' ⟨A, c, rfl, h⟩ hk; exact ⟨A, c, rfl, h.on hk⟩
      · intro v u u' h hk; exact h
      · intro v u u' h hk; exact h
    case ne =>
      intro p hp
      simp only [List.mem_cons, List.not_mem_nil, or_false] at hp
      rcases hp with rfl | rfl | rfl | rfl | rfl | rfl | rfl | rfl | rfl | rfl | rfl
      · exact ⟨_, _, Kept.refl _ _, rfl⟩
      · exact ⟨_, _, Kept.refl _ _, _, _, rfl, HMO.out.on HK2.out⟩
      · exact ⟨_, _, Kept.refl _ _, rfl⟩
      · exact ⟨_, _, Kept.refl _ _, _, _, rfl, HMOz.out.on HK2.out⟩
      · exact ⟨_, _, Kept.refl _ _, rfl⟩
      · exact ⟨_, _, Kept.refl _ _, rfl⟩
      · exact ⟨_, _, Kept.refl _ _, _, _, rfl, HMO.out.on HK2.out⟩
      · exact ⟨_, _, Kept.refl _ _, rfl⟩
      · exact ⟨_, _, Kept.refl _ _, _, _, rfl, HMO.out.on HK2.out⟩
      · exact ⟨_, _, Kept.refl _ _, rfl⟩
      · exact ⟨_, _, Kept.refl _ _, rfl⟩
    simp only [List.take_succ_cons, List.take_zero, List.drop_succ_cons, List.drop_zero]
    intro G pick hR hp1 hp2
    repeat (first | (refine wpR_det hp2 rfl ((hR.rel _).trans rfl) rfl ?_; intro K hK; go_big_quiet_op; go_big_quiet_on) | (refine wpR_ptr hp2 rfl ((hR.rel _).trans rfl) rfl rfl ?_; intro K hK; go_big_quiet_op; go_big_quiet_on) | (refine wpR_skip pick rfl ?_; intro K hK; go_big_quiet_op; go_big_quiet_on))
    refine wpR_rel pick rfl ((hR.rel _).trans rfl) ((hR.turns _).trans rfl) ?_ ?_
    · as_aux_lemma =>
        intro u hu
        have hk := hR.since hu.1
        have hks := hk.size
        refine relAt_load_mid 41 (.tmp 2) rfl xb 0 rfl [.int .i64 fa, .int .i64 f0, .int .i64 f1, .int .i64 f2, .int .i64 f3, .bool f4, .int .u64 f5, .int .u64 f6, .int .u16 f7, .int .u8 f8, .int .i64 f9, .slice MA ml.length mc, .int .i64 fb, .int .i64 fc, .int .u8 fd, .slice LA ld.length lc, .int .u32 g0, .int .u32 g1, .int .u32 g2, .bool g3, .int .u64 g4, .int .u64 g5, .int .u16 g6] _ ((HX2.out.kept hk (fun h => h)).range') Tryd.underlying41 rfl (by kernel_rfl) ?_
        exact ⟨hR.into0 (Kept.refl _ _), hR.put 0 rfl rfl rfl⟩
    as_aux_lemma =>
      intro v hv
      obtain ⟨u, _, hu⟩ := hv
      obtain rfl := hR.get 0 rfl hu
      clear hu
      intro K hK
      go_big_quiet_op
      go_big_quiet_on
      repeat (first | (refine wpR_det hp2 rfl ((hR.rel _).trans rfl) rfl ?_; intro K hK; go_big_quiet_op; go_big_quiet_on) | (refine wpR_ptr hp2 rfl ((hR.rel _).trans rfl) rfl rfl ?_; intro K hK; go_big_quiet_op; go_big_quiet_on) | (refine wpR_skip pick rfl ?_; intro K hK; go_big_quiet_op; go_big_quiet_on))
      refine wpR_rel pick rfl ((hR.rel _).trans rfl) ((hR.turns _).trans rfl) ?_ ?_
      · as_aux_lemma =>
          intro u hu
          have hk := hR.since hu.1
          have hks := hk.size
          have hz := to_any fa f0 f1 f2 f3 f4 f5 f6 f7 f8 f9 MA mc ml fb fc fd LA lc ld g0 g1 g2 g3 g4 g5 g6 u HL70.out (HMO.out.on (Kept.trans HK2.out hk))
          unfold relAt
          go_simp
          refine hz.mono ?_
          rintro e w' ⟨⟨A', c', rfl, hm⟩, hb'⟩
          exact ⟨_, rfl, hR.intoB hb', hR.put 1 rfl rfl ⟨A', c', rfl, hm⟩⟩
      as_aux_lemma =>
        intro v hv
        obtain ⟨u, _, hu⟩ := hv
        obtain ⟨A1, c1, rfl, -⟩ := hR.get 1 rfl hu
        clear hu
        intro K hK
        go_big_quiet_op
        go_big_quiet_on
        repeat (first | (refine wpR_det hp2 rfl ((hR.rel _).trans rfl) rfl ?_; intro K hK; go_big_quiet_op; go_big_quiet_on) | (refine wpR_ptr hp2 rfl ((hR.rel _).trans rfl) rfl rfl ?_; intro K hK; go_big_quiet_op; go_big_quiet_on) | (refine wpR_skip pick rfl ?_; intro K hK; go_big_quiet_op; go_big_quiet_on))
        refine wpR_rel pick rfl ((hR.rel _).trans rfl) ((hR.turns _).trans rfl) ?_ ?_
        · as_aux_lemma =>
            intro u hu
            have hk := hR.since hu.1
            have hks := hk.size
            refine relAt_load_mid 41 (.tmp 3) rfl yb 0 rfl [.int .i64 faz, .int .i64 f0z, .int .i64 f1z, .int .i64 f2z, .int .i64 f3z, .bool f4z, .int .u64 f5z, .int .u64 f6z, .int .u16 f7z, .int .u8 f8z, .int .i64 f9z, .slice MAz mlz.length mcz, .int .i64 fbz, .int .i64 fcz, .int .u8 fdz, .slice LAz ldz.length lcz, .int .u32 g0z, .int .u32 g1z, .int .u32 g2z, .bool g3z, .int .u64 g4z, .int .u64 g5z, .int .u16 g6z] _ ((HY2.out.kept hk (fun h => h)).range') Tryd.underlying41 rfl (by kernel_rfl) ?_
            exact ⟨hR.into0 (Kept.refl _ _), hR.put 2 rfl rfl rfl⟩
        as_aux_lemma =>
          intro v hv
          obtain ⟨u, _, hu⟩ := hv
          obtain rfl := hR.get 2 rfl hu
          clear hu
          intro K hK
          go_big_quiet_op
          go_big_quiet_on
          repeat (first | (refine wpR_det hp2 rfl ((hR.rel _).trans rfl) rfl ?_; intro K hK; go_big_quiet_op; go_big_quiet_on) | (refine wpR_ptr hp2 rfl ((hR.rel _).trans rfl) rfl rfl ?_; intro K hK; go_big_quiet_op; go_big_quiet_on) | (refine wpR_skip pick rfl ?_; intro K hK; go_big_quiet_op; go_big_quiet_on))
          refine wpR_rel pick rfl ((hR.rel _).trans rfl) ((hR.turns _).trans rfl) ?_ ?_
          · as_aux_lemma =>
              intro u hu
              have hk := hR.since hu.1
              have hks := hk.size
              have hz := to_any faz f0z f1z f2z f3z f4z f5z f6z f7z f8z f9z MAz mcz mlz fbz fcz fdz LAz lcz ldz g0z g1z g2z g3z g4z g5z g6z u HL70z.out (HMOz.out.on (Kept.trans HK2.out hk))
              unfold relAt
              go_simp
              refine hz.mono ?_
              rintro e w' ⟨⟨A', c', rfl, hm⟩, hb'⟩
              exact ⟨_, rfl, hR.intoB hb', hR.put 3 rfl rfl ⟨A', c', rfl, hm⟩⟩
          as_aux_lemma =>
            intro v hv
            obtain ⟨u, _, hu⟩ := hv
            obtain ⟨A3, c3, rfl, -⟩ := hR.get 3 rfl hu
            clear hu
            intro K hK
            go_big_quiet_op
            go_big_quiet_on
            repeat (first | (refine wpR_det hp2 rfl ((hR.rel _).trans rfl) rfl ?_; intro K hK; go_big_quiet_op; go_big_quiet_on) | (refine wpR_ptr hp2 rfl ((hR.rel _).trans rfl) rfl rfl ?_; intro K hK; go_big_quiet_op; go_big_quiet_on) | (refine wpR_skip pick rfl ?_; intro K hK; go_big_quiet_op; go_big_quiet_on))
            refine wpR_rel pick rfl ((hR.rel _).trans rfl) ((hR.turns _).trans rfl) ?_ ?_
            · as_aux_lemma =>
                intro u hu
                have hk := hR.since hu.1
                have hks := hk.size
                obtain ⟨A', c', e, hm1⟩ := (hR.get 1 rfl (hu.2 _ _ (Got.upd_old (Got.upd_old (Got.upd_self _ _ _) rfl) rfl) (by kernel_rfl)))
                obtain ⟨rfl, rfl⟩ : A1 = A' ∧ c1 = c' := by simpa using e
                obtain ⟨A', c', e, hm2⟩ := (hR.get 3 rfl (hu.2 _ _ (Got.upd_self _ _ _) (by kernel_rfl)))
                obtain ⟨rfl, rfl⟩ : A3 = A' ∧ c3 = c' := by simpa using e
                have hz := same_any fa faz f0 f0z f1 f1z f2 f2z f3 f3z f4 f4z f5 f5z f6 f6z f7 f7z f8 f8z f9 f9z A1 A3 c1 c3 ml mlz fb fbz fc fcz fd fdz LA LAz lc lcz ld ldz g0 g0z g1 g1z g2 g2z g3 g3z g4 g4z g5 g5z g6 g6z u (by have := HL70.out; unfold maxLen; omega) hm1.2.2 hm2.2.2 HLL.out (HBL.out.on (Kept.trans HK2.out hk) (fun _ _ h => h)) (HBLz.out.on (Kept.trans HK2.out hk) (fun _ _ h => h))
                rw [HSP.out] at hz
                unfold relAt
                go_simp
                refine hz.mono ?_
                rintro e w' ⟨rfl, hb'⟩
                exact ⟨_, rfl, hR.intoB hb', hR.put 4 rfl rfl rfl⟩
            as_aux_lemma =>
              intro v hv
              obtain ⟨u, _, hu⟩ := hv
              obtain rfl := hR.get 4 rfl hu
              clear hu
              intro K hK
              go_big_quiet_op
              go_big_quiet_on
              repeat (first | (refine wpR_det hp2 rfl ((hR.rel _).trans rfl) rfl ?_; intro K hK; go_big_quiet_op; go_big_quiet_on) | (refine wpR_ptr hp2 rfl ((hR.rel _).trans rfl) rfl rfl ?_; intro K hK; go_big_quiet_op; go_big_quiet_on) | (refine wpR_skip pick rfl ?_; intro K hK; go_big_quiet_op; go_big_quiet_on))
              refine wpR_rel pick rfl ((hR.rel _).trans rfl) ((hR.turns _).trans rfl) ?_ ?_
              · as_aux_lemma =>
                  intro u hu
                  have hk := hR.since hu.1
                  have hks := hk.size
                  refine relAt_load_mid 41 (.tmp 2) rfl xb 0 rfl [.int .i64 fa, .int .i64 f0, .int .i64 f1, .int .i64 f2, .int .i64 f3, .bool f4, .int .u64 f5, .int .u64 f6, .int .u16 f7, .int .u8 f8, .int .i64 f9, .slice MA ml.length mc, .int .i64 fb, .int .i64 fc, .int .u8 fd, .slice LA ld.length lc, .int .u32 g0, .int .u32 g1, .int .u32 g2, .bool g3, .int .u64 g4, .int .u64 g5, .int .u16 g6] _ ((HX2.out.kept hk (fun h => h)).range') Tryd.underlying41 rfl (by kernel_rfl) ?_
                  exact ⟨hR.into0 (Kept.refl _ _), hR.put 5 rfl rfl rfl⟩
              as_aux_lemma =>
                intro v hv
                obtain ⟨u, _, hu⟩ := hv
                obtain rfl := hR.get 5 rfl hu
                clear hu
                intro K hK
                go_big_quiet_op
                go_big_quiet_on
                repeat (first | (refine wpR_det hp2 rfl ((hR.rel _).trans rfl) rfl ?_; intro K hK; go_big_quiet_op; go_big_quiet_on) | (refine wpR_ptr hp2 rfl ((hR.rel _).trans rfl) rfl rfl ?_; intro K hK; go_big_quiet_op; go_big_quiet_on) | (refine wpR_skip pick rfl ?_; intro K hK; go_big_quiet_op; go_big_quiet_on))
                refine wpR_rel pick rfl ((hR.rel _).trans rfl) ((hR.turns _).trans rfl) ?_ ?_
                · as_aux_lemma =>
                    intro u hu
                    have hk := hR.since hu.1
                    have hks := hk.size
                    have hz := to_any fa f0 f1 f2 f3 f4 f5 f6 f7 f8 f9 MA mc ml fb fc fd LA lc ld g0 g1 g2 g3 g4 g5 g6 u HL70.out (HMO.out.on (Kept.trans HK2.out hk))
                    unfold relAt
                    go_simp
                    refine hz.mono ?_
                    rintro e w' ⟨⟨A', c', rfl, hm⟩, hb'⟩
                    exact ⟨_, rfl, hR.intoB hb', hR.put 6 rfl rfl ⟨A', c', rfl, hm⟩⟩
                as_aux_lemma =>
                  intro v hv
                  obtain ⟨u, _, hu⟩ := hv
                  obtain ⟨A9, c9, rfl, -⟩ := hR.get 6 rfl hu
                  clear hu
                  intro K hK
                  go_big_quiet_op
                  go_big_quiet_on
                  repeat (first | (refine wpR_det hp2 rfl ((hR.rel _).trans rfl) rfl ?_; intro K hK; go_big_quiet_op; go_big_quiet_on) | (refine wpR_ptr hp2 rfl ((hR.rel _).trans rfl) rfl rfl ?_; intro K hK; go_big_quiet_op; go_big_quiet_on) | (refine wpR_skip pick rfl ?_; intro K hK; go_big_quiet_op; go_big_quiet_on))
                  refine wpR_rel pick rfl ((hR.rel _).trans rfl) ((hR.turns _).trans rfl) ?_ ?_
                  · as_aux_lemma =>
                      intro u hu
                      have hk := hR.since hu.1
                      have hks := hk.size
                      refine relAt_load_mid 41 (.tmp 2) rfl xb 0 rfl [.int .i64 fa, .int .i64 f0, .int .i64 f1, .int .i64 f2, .int .i64 f3, .bool f4, .int .u64 f5, .int .u64 f6, .int .u16 f7, .int .u8 f8, .int .i64 f9, .slice MA ml.length mc, .int .i64 fb, .int .i64 fc, .int .u8 fd, .slice LA ld.length lc, .int .u32 g0, .int .u32 g1, .int .u32 g2, .bool g3, .int .u64 g4, .int .u64 g5, .int .u16 g6] _ ((HX2.out.kept hk (fun h => h)).range') Tryd.underlying41 rfl (by kernel_rfl) ?_
                      exact ⟨hR.into0 (Kept.refl _ _), hR.put 7 rfl rfl rfl⟩
                  as_aux_lemma =>
                    intro v hv
                    obtain ⟨u, _, hu⟩ := hv
                    obtain rfl := hR.get 7 rfl hu
                    clear hu
                    intro K hK
                    go_big_quiet_op
                    go_big_quiet_on
                    repeat (first | (refine wpR_det hp2 rfl ((hR.rel _).trans rfl) rfl ?_; intro K hK; go_big_quiet_op; go_big_quiet_on) | (refine wpR_ptr hp2 rfl ((hR.rel _).trans rfl) rfl rfl ?_; intro K hK; go_big_quiet_op; go_big_quiet_on) | (refine wpR_skip pick rfl ?_; intro K hK; go_big_quiet_op; go_big_quiet_on))
                    refine wpR_rel pick rfl ((hR.rel _).trans rfl) ((hR.turns _).trans rfl) ?_ ?_
                    · as_aux_lemma =>
                        intro u hu
                        have hk := hR.since hu.1
                        have hks := hk.size
                        have hz := to_any fa f0 f1 f2 f3 f4 f5 f6 f7 f8 f9 MA mc ml fb fc fd LA lc ld g0 g1 g2 g3 g4 g5 g6 u HL70.out (HMO.out.on (Kept.trans HK2.out hk))
                        unfold relAt
                        go_simp
                        refine hz.mono ?_
                        rintro e w' ⟨⟨A', c', rfl, hm⟩, hb'⟩
                        exact ⟨_, rfl, hR.intoB hb', hR.put 8 rfl rfl ⟨A', c', rfl, hm⟩⟩
                    as_aux_lemma =>
                      intro v hv
                      obtain ⟨u, _, hu⟩ := hv
                      obtain ⟨A11, c11, rfl, -⟩ := hR.get 8 rfl hu
                      clear hu
                      intro K hK
                      go_big_quiet_op
                      go_big_quiet_on
                      repeat (first | (refine wpR_det hp2 rfl ((hR.rel _).trans rfl) rfl ?_; intro K hK; go_big_quiet_op; go_big_quiet_on) | (refine wpR_ptr hp2 rfl ((hR.rel _).trans rfl) rfl rfl ?_; intro K hK; go_big_quiet_op; go_big_quiet_on) | (refine wpR_skip pick rfl ?_; intro K hK; go_big_quiet_op; go_big_quiet_on))
                      refine wpR_rel pick rfl ((hR.rel _).trans rfl) ((hR.turns _).trans rfl) ?_ ?_
                      · as_aux_lemma =>
                          intro u hu
                          have hk := hR.since hu.1
                          have hks := hk.size
                          obtain ⟨A', c', e, hm1⟩ := (hR.get 6 rfl (hu.2 _ _ (Got.upd_old (Got.upd_old (Got.upd_self _ _ _) rfl) rfl) (by kernel_rfl)))
                          obtain ⟨rfl, rfl⟩ : A9 = A' ∧ c9 = c' := by simpa using e
                          obtain ⟨A', c', e, hm2⟩ := (hR.get 8 rfl (hu.2 _ _ (Got.upd_self _ _ _) (by kernel_rfl)))
                          obtain ⟨rfl, rfl⟩ : A11 = A' ∧ c11 = c' := by simpa using e
                          have hz := same_any fa fa f0 f0 f1 f1 f2 f2 f3 f3 f4 f4 f5 f5 f6 f6 f7 f7 f8 f8 f9 f9 A9 A11 c9 c11 ml ml fb fb fc fc fd fd LA LA lc lc ld ld g0 g0 g1 g1 g2 g2 g3 g3 g4 g4 g5 g5 g6 g6 u (by have := HL70.out; unfold maxLen; omega) hm1.2.2 hm2.2.2 HLL.out (HBL.out.on (Kept.trans HK2.out hk) (fun _ _ h => h)) (HBL.out.on (Kept.trans HK2.out hk) (fun _ _ h => h))
                          rw [decide_eq_true (by refine ⟨rfl, ⟨rfl, rfl, rfl, rfl, rfl, rfl, rfl, rfl, rfl, rfl, rfl⟩, rfl, rfl, rfl, rfl, rfl, rfl, rfl, rfl, rfl, rfl, rfl⟩)] at hz
                          unfold relAt
                          go_simp
                          refine hz.mono ?_
                          rintro e w' ⟨rfl, hb'⟩
                          exact ⟨_, rfl, hR.intoB hb', hR.put 9 rfl rfl rfl⟩
                      as_aux_lemma =>
                        intro v hv
                        obtain ⟨u, _, hu⟩ := hv
                        obtain rfl := hR.get 9 rfl hu
                        clear hu
                        intro K hK
                        go_big_quiet_op
                        go_big_quiet_on
                        repeat (first | (refine wpR_det hp2 rfl ((hR.rel _).trans rfl) rfl ?_; intro K hK; go_big_quiet_op; go_big_quiet_on) | (refine wpR_ptr hp2 rfl ((hR.rel _).trans rfl) rfl rfl ?_; intro K hK; go_big_quiet_op; go_big_quiet_on) | (refine wpR_skip pick rfl ?_; intro K hK; go_big_quiet_op; go_big_quiet_on))
                        refine wpR_rel pick rfl ((hR.rel _).trans rfl) ((hR.turns _).trans rfl) ?_ ?_
                        · as_aux_lemma =>
                            intro u hu
                            have hk := hR.since hu.1
                            have hks := hk.size
                            have hz := awake_any u
                            unfold relAt
                            go_simp
                            refine hz.mono ?_
                            rintro e w' ⟨rfl, hb'⟩
                            exact ⟨_, rfl, hR.intoB hb', hR.put 10 rfl rfl rfl⟩
                        as_aux_lemma =>
                          intro v hv
                          obtain ⟨u, _, hu⟩ := hv
                          obtain rfl := hR.get 10 rfl hu
                          clear hu
                          intro K hK
                          go_big_quiet_op
                          go_big_quiet_on
                          repeat (first | (refine wpR_det hp2 rfl ((hR.rel _).trans rfl) rfl ?_; intro K hK; go_big_quiet_op; go_big_quiet_on) | (refine wpR_ptr hp2 rfl ((hR.rel _).trans rfl) rfl rfl ?_; intro K hK; go_big_quiet_op; go_big_quiet_on) | (refine wpR_skip pick rfl ?_; intro K hK; go_big_quiet_op; go_big_quiet_on))
                          refine wpR_nil ?_
                          intro w3 hk2 hF hM
                          have HW3 := Lib.hid (HW2.out.trans (hk2.below HW2.out.size (fun i h => h.elim)))
                          clear hF hM hk2 hp1 hp2 hR
                          go_wp2_with fail
                          go_ret
                          exact ⟨rfl, HW3.out⟩
end Go.Proofs.YthfdhggcnkgjfaaDoor
