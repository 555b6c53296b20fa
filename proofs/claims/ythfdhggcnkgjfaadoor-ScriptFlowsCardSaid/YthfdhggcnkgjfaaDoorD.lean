/- Same, walked. -/
import Derived.Test.YthfdhggcnkgjfaaDoorC
namespace Go.Proofs.YthfdhggcnkgjfaaDoor
open Go.RowKit
set_option linter.unusedVariables false
set_option maxRecDepth 20000 in
set_option maxHeartbeats 16000000 in
theorem same_any (K Kz : Int) (k0 k0z : Int) (k1 k1z : Int) (k2 k2z : Int) (k3 k3z : Int) (s sz : Bool) (h hz : Int) (l lz : Int) (p pz : Int) (q qz : Int) (y yz : Int) (MA MAz : Option Addr) (mc mcz : Nat) (ml mlz : List Mb) (wh whz : Int) (tm tmz : Int) (fg fgz : Int) (LA LAz : Option Addr) (lc lcz : Nat) (ld ldz : List UInt8) (n nz : Int) (x xz : Int) (v vz : Int) (sa saz : Bool) (ha haz : Int) (la laz : Int) (pa paz : Int) (w : World) (hm : ml.length ≤ maxLen) (hM : ES w w.heap.size MA 2 (ml.map Mb.cs)) (hMz : ES w w.heap.size MAz 2 (mlz.map Mb.cs)) (hl : ld.length ≤ maxLen) (hL : BS w w.heap.size LA ld) (hLz : BS w w.heap.size LAz ldz) :
    Calls Tryd.prog 8 #[.agg #[.int .i64 K, .int .i64 k0, .int .i64 k1, .int .i64 k2, .int .i64 k3, .bool s, .int .u64 h, .int .u64 l, .int .u16 p, .int .u8 q, .int .i64 y, .slice MA ml.length mc, .int .i64 wh, .int .i64 tm, .int .u8 fg, .slice LA ld.length lc, .int .u32 n, .int .u32 x, .int .u32 v, .bool sa, .int .u64 ha, .int .u64 la, .int .u16 pa], .agg #[.int .i64 Kz, .int .i64 k0z, .int .i64 k1z, .int .i64 k2z, .int .i64 k3z, .bool sz, .int .u64 hz, .int .u64 lz, .int .u16 pz, .int .u8 qz, .int .i64 yz, .slice MAz mlz.length mcz, .int .i64 whz, .int .i64 tmz, .int .u8 fgz, .slice LAz ldz.length lcz, .int .u32 nz, .int .u32 xz, .int .u32 vz, .bool saz, .int .u64 haz, .int .u64 laz, .int .u16 paz]] w fun e w' => e = .returned (.bool (decide (K = Kz ∧ (k0 = k0z ∧ k1 = k1z ∧ k2 = k2z ∧ k3 = k3z ∧ s = sz ∧ h = hz ∧ l = lz ∧ p = pz ∧ q = qz ∧ y = yz ∧ ml = mlz) ∧ wh = whz ∧ tm = tmz ∧ fg = fgz ∧ ld = ldz ∧ n = nz ∧ x = xz ∧ v = vz ∧ sa = saz ∧ ha = haz ∧ la = laz ∧ pa = paz))) ∧ Below w.heap.size w w' := by
  obtain ⟨R, hR⟩ : ∃ R, R = decide (K = Kz ∧ (k0 = k0z ∧ k1 = k1z ∧ k2 = k2z ∧ k3 = k3z ∧ s = sz ∧ h = hz ∧ l = lz ∧ p = pz ∧ q = qz ∧ y = yz ∧ ml = mlz) ∧ wh = whz ∧ tm = tmz ∧ fg = fgz ∧ ld = ldz ∧ n = nz ∧ x = xz ∧ v = vz ∧ sa = saz ∧ ha = haz ∧ la = laz ∧ pa = paz) := ⟨_, rfl⟩
  rw [← hR]
  have HR := Lib.hid hR
  have HM := Lib.hid hm
  have HE := Lib.hid hM
  have HEz := Lib.hid hMz
  have HL := Lib.hid hl
  have HB := Lib.hid hL
  have HBz := Lib.hid hLz
  clear hm hM hMz hl hL hLz hR
  go_enter Tryd.func8, Tryd.ntmps8
  go_upto_region 1 with fail
  obtain ⟨w1, hw1⟩ : ∃ w1 : World, w1 = (w.alloc (.cells #[.int .i64 K, .int .i64 k0, .int .i64 k1, .int .i64 k2, .int .i64 k3, .bool s, .int .u64 h, .int .u64 l, .int .u16 p, .int .u8 q, .int .i64 y, .slice MA ml.length mc, .int .i64 wh, .int .i64 tm, .int .u8 fg, .slice LA ld.length lc, .int .u32 n, .int .u32 x, .int .u32 v, .bool sa, .int .u64 ha, .int .u64 la, .int .u16 pa] 49)).alloc (.cells #[.int .i64 Kz, .int .i64 k0z, .int .i64 k1z, .int .i64 k2z, .int .i64 k3z, .bool sz, .int .u64 hz, .int .u64 lz, .int .u16 pz, .int .u8 qz, .int .i64 yz, .slice MAz mlz.length mcz, .int .i64 whz, .int .i64 tmz, .int .u8 fgz, .slice LAz ldz.length lcz, .int .u32 nz, .int .u32 xz, .int .u32 vz, .bool saz, .int .u64 haz, .int .u64 laz, .int .u16 paz] 49) := ⟨_, rfl⟩
  have HX1 := Lib.hid (show Blk w1 w.heap.size 49 #[.int .i64 K, .int .i64 k0, .int .i64 k1, .int .i64 k2, .int .i64 k3, .bool s, .int .u64 h, .int .u64 l, .int .u16 p, .int .u8 q, .int .i64 y, .slice MA ml.length mc, .int .i64 wh, .int .i64 tm, .int .u8 fg, .slice LA ld.length lc, .int .u32 n, .int .u32 x, .int .u32 v, .bool sa, .int .u64 ha, .int .u64 la, .int .u16 pa] by rw [hw1]; exact (Blk.new _ _ _).alloc _)
  have HY1 := Lib.hid (show Blk w1 (w.heap.size + 1) 49 #[.int .i64 Kz, .int .i64 k0z, .int .i64 k1z, .int .i64 k2z, .int .i64 k3z, .bool sz, .int .u64 hz, .int .u64 lz, .int .u16 pz, .int .u8 qz, .int .i64 yz, .slice MAz mlz.length mcz, .int .i64 whz, .int .i64 tmz, .int .u8 fgz, .slice LAz ldz.length lcz, .int .u32 nz, .int .u32 xz, .int .u32 vz, .bool saz, .int .u64 haz, .int .u64 laz, .int .u16 paz] by rw [hw1]; exact Blk.new_ (by simp) _ _)
  have HW := Lib.hid (show Below w.heap.size w w1 by rw [hw1]; exact bel_two)
  rw [← hw1]
  clear hw1
  obtain ⟨yb, hyb⟩ : ∃ yb, w.heap.size + 1 = yb := ⟨_, rfl⟩
  rw [hyb] at HY1 ⊢
  obtain ⟨xb, hxb⟩ : ∃ xb, w.heap.size = xb := ⟨_, rfl⟩
  have HXB := Lib.hid hxb
  rw [hxb] at HX1 ⊢
  clear hyb hxb
  have cx := HX1.out.cell
  have cy := HY1.out.cell
  rcases Classical.em (¬ K = Kz) with e0 | e0
  · have hz := HR.out.trans (decide_eq_false (fun h => e0 h.1))
    subst hz
    go_wp2_with fail
    go_ret
    first | exact ⟨rfl, HW.out⟩ | exact ⟨congrArg (fun b => Ending.returned (Value.bool b)) (a₁ := (K == Kz)) (by simpa using e0), HW.out⟩
  replace e0 := Classical.not_not.1 e0
  subst e0
  go_wp2_with fail
  refine (sameOp_any k0 k0z k1 k1z k2 k2z k3 k3z s sz h hz l lz p pz q qz y yz MA MAz mc mcz ml mlz w1 HM.out (HE.out.onB HW.out (Nat.le_refl _)) (HEz.out.onB HW.out (Nat.le_refl _))).mono ?_
  rintro e w2 ⟨rfl, hb2⟩
  have HW2 := Lib.hid (kept_of HW.out hb2)
  have HX2 := Lib.hid (HX1.out.below hb2 HX1.out.lt)
  have HY2 := Lib.hid (HY1.out.below hb2 HY1.out.lt)
  clear hb2 cx cy HX1 HY1
  have cx := HX2.out.cell
  have cy := HY2.out.cell
  obtain ⟨o1, ho1⟩ : ∃ o1, decide (k0 = k0z ∧ k1 = k1z ∧ k2 = k2z ∧ k3 = k3z ∧ s = sz ∧ h = hz ∧ l = lz ∧ p = pz ∧ q = qz ∧ y = yz ∧ ml = mlz) = o1 := ⟨_, rfl⟩
  rw [ho1]
  cases o1 with
  | false =>
    have hz := HR.out.trans (decide_eq_false (fun h => of_decide_eq_false ho1 h.2.1))
    clear ho1
    subst hz
    go_wp2_with fail
    go_ret
    exact ⟨rfl, HW2.out⟩
  | true =>
  have Ho1 := Lib.hid (of_decide_eq_true ho1)
  clear ho1
  rcases Classical.em (¬ wh = whz) with e2 | e2
  · have hz := HR.out.trans (decide_eq_false (fun h => e2 h.2.2.1))
    subst hz
    go_wp2_with fail
    go_ret
    first | exact ⟨rfl, HW2.out⟩ | exact ⟨congrArg (fun b => Ending.returned (Value.bool b)) (a₁ := (wh == whz)) (by simpa using e2), HW2.out⟩
  replace e2 := Classical.not_not.1 e2
  subst e2
  rcases Classical.em (¬ tm = tmz) with e3 | e3
  · have hz := HR.out.trans (decide_eq_false (fun h => e3 h.2.2.2.1))
    subst hz
    go_wp2_with fail
    go_ret
    first | exact ⟨rfl, HW2.out⟩ | exact ⟨congrArg (fun b => Ending.returned (Value.bool b)) (a₁ := (tm == tmz)) (by simpa using e3), HW2.out⟩
  replace e3 := Classical.not_not.1 e3
  subst e3
  rcases Classical.em (¬ fg = fgz) with e4 | e4
  · have hz := HR.out.trans (decide_eq_false (fun h => e4 h.2.2.2.2.1))
    subst hz
    go_wp2_with fail
    go_ret
    first | exact ⟨rfl, HW2.out⟩ | exact ⟨congrArg (fun b => Ending.returned (Value.bool b)) (a₁ := (fg == fgz)) (by simpa using e4), HW2.out⟩
  replace e4 := Classical.not_not.1 e4
  subst e4
  go_wp2_with fail
  refine (eqB_any LA LAz lc lcz ld ldz w2 HL.out (HB.out.onB HW2.out (Nat.le_refl _)) (HBz.out.onB HW2.out (Nat.le_refl _))).mono ?_
  rintro e w3 ⟨rfl, hb3⟩
  have HW3 := Lib.hid (kept_of HW2.out hb3)
  have HX3 := Lib.hid (HX2.out.below hb3 HX2.out.lt)
  have HY3 := Lib.hid (HY2.out.below hb3 HY2.out.lt)
  clear hb3 cx cy HX2 HY2
  have cx := HX3.out.cell
  have cy := HY3.out.cell
  obtain ⟨o2, ho2⟩ : ∃ o2, decide (ld = ldz) = o2 := ⟨_, rfl⟩
  rw [ho2]
  cases o2 with
  | false =>
    have hz := HR.out.trans (decide_eq_false (fun h => of_decide_eq_false ho2 h.2.2.2.2.2.1))
    clear ho2
    subst hz
    go_wp2_with fail
    go_ret
    exact ⟨rfl, HW3.out⟩
  | true =>
  have Ho2 := Lib.hid (of_decide_eq_true ho2)
  clear ho2
  rcases Classical.em (¬ n = nz) with e6 | e6
  · have hz := HR.out.trans (decide_eq_false (fun h => e6 h.2.2.2.2.2.2.1))
    subst hz
    go_wp2_with fail
    go_ret
    first | exact ⟨rfl, HW3.out⟩ | exact ⟨congrArg (fun b => Ending.returned (Value.bool b)) (a₁ := (n == nz)) (by simpa using e6), HW3.out⟩
  replace e6 := Classical.not_not.1 e6
  subst e6
  rcases Classical.em (¬ x = xz) with e7 | e7
  · have hz := HR.out.trans (decide_eq_false (fun h => e7 h.2.2.2.2.2.2.2.1))
    subst hz
    go_wp2_with fail
    go_ret
    first | exact ⟨rfl, HW3.out⟩ | exact ⟨congrArg (fun b => Ending.returned (Value.bool b)) (a₁ := (x == xz)) (by simpa using e7), HW3.out⟩
  replace e7 := Classical.not_not.1 e7
  subst e7
  rcases Classical.em (¬ v = vz) with e8 | e8
  · have hz := HR.out.trans (decide_eq_false (fun h => e8 h.2.2.2.2.2.2.2.2.1))
    subst hz
    go_wp2_with fail
    go_ret
    first | exact ⟨rfl, HW3.out⟩ | exact ⟨congrArg (fun b => Ending.returned (Value.bool b)) (a₁ := (v == vz)) (by simpa using e8), HW3.out⟩
  replace e8 := Classical.not_not.1 e8
  subst e8
  rcases Classical.em (¬ sa = saz) with e9 | e9
  · have hz := HR.out.trans (decide_eq_false (fun h => e9 h.2.2.2.2.2.2.2.2.2.1))
    subst hz
    go_wp2_with fail
    go_ret
    first | exact ⟨rfl, HW3.out⟩ | exact ⟨congrArg (fun b => Ending.returned (Value.bool b)) (a₁ := (sa == saz)) (by simpa using e9), HW3.out⟩
  replace e9 := Classical.not_not.1 e9
  subst e9
  rcases Classical.em (¬ ha = haz) with e10 | e10
  · have hz := HR.out.trans (decide_eq_false (fun h => e10 h.2.2.2.2.2.2.2.2.2.2.1))
    subst hz
    go_wp2_with fail
    go_ret
    first | exact ⟨rfl, HW3.out⟩ | exact ⟨congrArg (fun b => Ending.returned (Value.bool b)) (a₁ := (ha == haz)) (by simpa using e10), HW3.out⟩
  replace e10 := Classical.not_not.1 e10
  subst e10
  rcases Classical.em (¬ la = laz) with e11 | e11
  · have hz := HR.out.trans (decide_eq_false (fun h => e11 h.2.2.2.2.2.2.2.2.2.2.2.1))
    subst hz
    go_wp2_with fail
    go_ret
    first | exact ⟨rfl, HW3.out⟩ | exact ⟨congrArg (fun b => Ending.returned (Value.bool b)) (a₁ := (la == laz)) (by simpa using e11), HW3.out⟩
  replace e11 := Classical.not_not.1 e11
  subst e11
  rcases Classical.em (¬ pa = paz) with e12 | e12
  · have hz := HR.out.trans (decide_eq_false (fun h => e12 h.2.2.2.2.2.2.2.2.2.2.2.2))
    subst hz
    go_wp2_with fail
    go_ret
    first | exact ⟨rfl, HW3.out⟩ | exact ⟨congrArg (fun b => Ending.returned (Value.bool b)) (a₁ := (pa == paz)) (by simpa using e12), HW3.out⟩
  replace e12 := Classical.not_not.1 e12
  subst e12
  have hz := HR.out.trans (decide_eq_true (by refine ⟨?_, Ho1.out, ?_, ?_, ?_, Ho2.out, ?_, ?_, ?_, ?_, ?_, ?_, ?_⟩ <;> first | rfl | trivial))
  subst hz
  go_wp2_with fail
  go_ret
  exact ⟨rfl, HW3.out⟩
end Go.Proofs.YthfdhggcnkgjfaaDoor
