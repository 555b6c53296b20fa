/- The law LpmFinds, walked; calls that came in. -/
import Derived.Test.YtchgbdghllkcpaaS
import Derived.Test.YtchgbdghllkcpaaI
namespace Go.Proofs.Ytchgbdghllkcpaa
open Go.RowKit
set_option linter.unusedVariables false
set_option maxHeartbeats 16000000 in
set_option maxRecDepth 100000 in
theorem finds_any (A : Option Addr) (c : Nat) (l : List AcE) (a : Ad) (w : World) (hl : l.length ≤ maxLen) (hw : ∀ y ∈ l, y.x.a.wf) (ha : a.wf) (hE : ES w w.heap.size A 6 (l.map AcE.cs)) :
    Calls Try.prog 4 #[.slice A l.length c, .agg #[.bool a.six, .int .u64 (a.hi : Int), .int .u64 (a.lo : Int)]] w fun e w' => e = .returned (.bool true) ∧ Below w.heap.size w w' := by
  have HE := Lib.hid hE
  have HWF := Lib.hid hw
  have HAW := Lib.hid ha
  clear hE hw ha
  go_enter Try.func4, Try.ntmps4
  go_wp2_with fail
  obtain ⟨w1, hw1⟩ : ∃ w1 : World, w1 = w.alloc (.cells #[.bool a.six, .int .u64 (a.hi : Int), .int .u64 (a.lo : Int)] 24) := ⟨_, rfl⟩
  have HX1 := Lib.hid (show Blk w1 w.heap.size 24 #[.bool a.six, .int .u64 (a.hi : Int), .int .u64 (a.lo : Int)] by rw [hw1]; exact Blk.new _ _ _)
  have HB1 := Lib.hid (show Below w.heap.size w w1 by rw [hw1]; exact bel1)
  rw [← hw1]
  clear hw1
  refine (awake_any w1).mono ?_
  rintro e w2 ⟨rfl, hb2⟩
  have HX2 := Lib.hid (HX1.out.below hb2 HX1.out.lt)
  have HB2 := Lib.hid (HB1.out.trans (hb2.mono HB1.out.size))
  have HMA := Lib.hid (made_any A c l w2 hl HWF.out (HE.out.onB HB2.out (Nat.le_refl _)))
  clear hb2 HX1 HB1
  go_wp2_with fail
  refine HMA.out.mono ?_
  rintro e w3 ⟨tb, M, R, rA, rc, rfl, hM, hR40, hb3⟩
  have HM3 := Lib.hid hM
  have HX3 := Lib.hid (HX2.out.below hb3 HX2.out.lt)
  have HB3 := Lib.hid (HB2.out.trans (hb3.mono HB2.out.size))
  clear hM hb3 HMA HX2 HB2
  by_cases hr : a.right
  · have HRR := Lib.hid hr
    have HFI := Lib.hid (find_yes tb w2.heap.size M (R.length : Int) a w3 HAW.out hr HM3.out.tab)
    clear hr
    have x0 := HX3.out.cell
    have xlt := HX3.out.lt
    go_wp2_with fail
    refine HFI.out.mono ?_
    rintro e w4 ⟨⟨sz, val, fd, hbest, rfl⟩, hb4⟩
    have HBE := Lib.hid hbest
    have HM4 := Lib.hid (HM3.out.onB hb4)
    have HX4 := Lib.hid (HX3.out.below hb4 HX3.out.lt)
    have HB4 := Lib.hid (HB3.out.trans (hb4.mono HB3.out.size))
    clear hb4 hbest HFI x0 xlt
    cases fd with
    | false =>
      rw [if_neg (by decide)]
      go_upto_region 7 with fail
      obtain ⟨w5, hw5⟩ : ∃ w5 : World, w5 = w4.alloc (.cells #[.bool false, .int .u64 0, .int .u64 0, .int .i64 0] 29) := ⟨_, rfl⟩
      have HP5 := Lib.hid (show Blk w5 w4.heap.size 29 #[.bool false, .int .u64 0, .int .u64 0, .int .i64 0] by rw [hw5]; exact Blk.new _ _ _)
      have HB5 := Lib.hid (show Below w.heap.size w w5 by rw [hw5]; exact HB4.out.alloc HB4.out.size _)
      have HS5 := Lib.hid (show Below w4.heap.size w4 w5 by rw [hw5]; exact bel1)
      rw [← hw5]
      clear hw5
      have HX5 := Lib.hid (HX4.out.below HS5.out HX4.out.lt)
      have x0 := HX5.out.cell
      have xlt := HX5.out.lt
      have HM5 := Lib.hid (HM4.out.onB HS5.out)
      obtain ⟨rA', rc', rhe, -, -, hrE⟩ := HM5.out.rs.get
      injection rhe with e1 e2 e3
      subst e1 e3
      have HRF := Lib.hid (refFind_yes rA rc R a w5 HAW.out HRR.out (by omega) hrE)
      clear hrE e2
      go_wp2_with fail
      refine HRF.out.mono ?_
      rintro e w6 ⟨z, rfl, hz, hb6⟩
      have HBX := Lib.hid (HB5.out.trans (hb6.mono HB5.out.size))
      have HP6 := Lib.hid (HP5.out.below hb6 HP5.out.lt)
      have p0 := HP6.out.cell
      have plt := HP6.out.lt
      clear hb6 x0 xlt
      have hval : z = -1 ∧ val = 0 := by
        rcases find_twin HM5.out.tw HAW.out HRR.out HBE.out hz with ⟨h1, h2, h3⟩ | ⟨j, hj, h1, h2, -⟩
        · exact ⟨h1, h3⟩
        · cases h2
      obtain ⟨rfl, rfl⟩ := hval
      clear hz
      go_wp2_with fail
      refine (awake_any _).mono ?_
      rintro e wz ⟨rfl, hbz⟩
      have HBZ := Lib.hid (HBX.out.trans (hbz.mono HBX.out.size))
      clear hbz
      go_wp2_with fail
      go_ret
      exact ⟨rfl, HBZ.out⟩
    | true =>
      rw [if_pos rfl]
      obtain ⟨⟨s, h, lo⟩, hcut⟩ : ∃ c, a.cut sz = c := ⟨_, rfl⟩
      have HCU := Lib.hid hcut
      rw [hcut]
      clear hcut
      go_upto_region 7 with fail
      obtain ⟨w5, hw5⟩ : ∃ w5 : World, w5 = w4.alloc (.cells #[.bool s, .int .u64 (h : Int), .int .u64 (lo : Int), .int .i64 sz] 29) := ⟨_, rfl⟩
      have HP5 := Lib.hid (show Blk w5 w4.heap.size 29 #[.bool s, .int .u64 (h : Int), .int .u64 (lo : Int), .int .i64 sz] by rw [hw5]; exact Blk.new _ _ _)
      have HB5 := Lib.hid (show Below w.heap.size w w5 by rw [hw5]; exact HB4.out.alloc HB4.out.size _)
      have HS5 := Lib.hid (show Below w4.heap.size w4 w5 by rw [hw5]; exact bel1)
      rw [← hw5]
      clear hw5
      have HX5 := Lib.hid (HX4.out.below HS5.out HX4.out.lt)
      have x0 := HX5.out.cell
      have xlt := HX5.out.lt
      have HM5 := Lib.hid (HM4.out.onB HS5.out)
      obtain ⟨rA', rc', rhe, -, -, hrE⟩ := HM5.out.rs.get
      injection rhe with e1 e2 e3
      subst e1 e3
      have HRF := Lib.hid (refFind_yes rA rc R a w5 HAW.out HRR.out (by omega) hrE)
      clear hrE e2
      go_wp2_with fail
      refine HRF.out.mono ?_
      rintro e w6 ⟨z, rfl, hz, hb6⟩
      have HM6 := Lib.hid (HM5.out.onB hb6)
      have HB6 := Lib.hid (HB5.out.trans (hb6.mono HB5.out.size))
      have HP6 := Lib.hid (HP5.out.below hb6 HP5.out.lt)
      clear hb6 x0 xlt HRF
      rcases find_twin HM6.out.tw HAW.out HRR.out HBE.out hz with ⟨-, h2, -⟩ | ⟨j, hj, rfl, -, hsz, hval, hcu⟩
      · cases h2
      · obtain ⟨rA', rc', rhe, -, -, hrE⟩ := HM6.out.rs.get
        injection rhe with e1 e2 e3
        subst e1 e3
        obtain ⟨b, o, hb, rfl, hel⟩ := hrE.at (k := j) (by simpa using hj)
        obtain ⟨c0, c1, c2, c3, c4⟩ := en_cells hel hj
        rw [← hcu, HCU.out] at c0 c1 c2
        rw [← hsz] at c3
        rw [← hval] at c4
        simp only at c0 c1 c2
        have q0 := HP6.out.cell 0
        have q1 := HP6.out.cell 1
        have q2 := HP6.out.cell 2
        have q3 := HP6.out.cell 3
        simp at q0 q1 q2 q3
        have plt := HP6.out.lt
        have HTO := Lib.hid (fun u => to_any ⟨⟨s, h, lo⟩, sz, val⟩ u)
        have jI : ¬ (j : Int) < 0 := by omega
        have jL : (j : Int) < (R.length : Int) := by omega
        have hs6 := HB6.out.size
        clear hz hrE hel hsz hval hcu e2
        go_upto_region 10 with fail
        refine wp_region_kept 23 [(16, fun v u => v = .agg #[.bool s, .int .u64 (h : Int), .int .u64 (lo : Int), .int .i64 sz]), (20, fun v u => v = .bool true)] ?st ?ne rfl (by kernel_rfl) (by kernel_rfl) ?_
        case st =>
          intro p hp
          simp only [List.mem_cons, List.not_mem_nil, or_false] at hp
          rcases hp with rfl | rfl
          · intro v u u' h hk; exact h
          · intro v u u' h hk; exact h
        case ne =>
          intro p hp
          simp only [List.mem_cons, List.not_mem_nil, or_false] at hp
          rcases hp with rfl | rfl
          · exact ⟨_, _, Kept.refl _ _, rfl⟩
          · exact ⟨_, _, Kept.refl _ _, rfl⟩
        simp only [List.take_succ_cons, List.take_zero, List.drop_succ_cons, List.drop_zero]
        intro G pick hR hp1 hp2
        have p0 : ∀ u, (pick u).cell? ⟨w4.heap.size, 0, none⟩ = some (.bool s) := fun u => ((hp1 u).cell plt (fun h => h) _).trans q0
        have p1 : ∀ u, (pick u).cell? ⟨w4.heap.size, 1, none⟩ = some (.int .u64 (h : Int)) := fun u => ((hp1 u).cell plt (fun h => h) _).trans q1
        have p2 : ∀ u, (pick u).cell? ⟨w4.heap.size, 2, none⟩ = some (.int .u64 (lo : Int)) := fun u => ((hp1 u).cell plt (fun h => h) _).trans q2
        have p3 : ∀ u, (pick u).cell? ⟨w4.heap.size, 3, none⟩ = some (.int .i64 sz) := fun u => ((hp1 u).cell plt (fun h => h) _).trans q3
        have r0 : ∀ u, (pick u).cell? ⟨b, o + j * 5, none⟩ = some (.bool s) := fun u => ((hp1 u).cell hb (fun h => h) _).trans c0
        have r1 : ∀ u, (pick u).cell? ⟨b, o + j * 5 + 1, none⟩ = some (.int .u64 (h : Int)) := fun u => ((hp1 u).cell hb (fun h => h) _).trans c1
        have r2 : ∀ u, (pick u).cell? ⟨b, o + j * 5 + 2, none⟩ = some (.int .u64 (lo : Int)) := fun u => ((hp1 u).cell hb (fun h => h) _).trans c2
        have r3 : ∀ u, (pick u).cell? ⟨b, o + j * 5 + 3, none⟩ = some (.int .i64 sz) := fun u => ((hp1 u).cell hb (fun h => h) _).trans c3
        have r4 : ∀ u, (pick u).cell? ⟨b, o + j * 5 + 4, none⟩ = some (.int .i64 val) := fun u => ((hp1 u).cell hb (fun h => h) _).trans c4
        repeat (first | (refine wpR_det hp2 rfl ((hR.rel _).trans rfl) rfl ?_; intro K hK; go_big_quiet_op; go_big_quiet_on) | (refine wpR_ptr hp2 rfl ((hR.rel _).trans rfl) rfl rfl ?_; intro K hK; go_big_quiet_op; go_big_quiet_on) | (refine wpR_skip pick rfl ?_; intro K hK; go_big_quiet_op; go_big_quiet_on))
        refine wpR_rel pick rfl ((hR.rel _).trans rfl) ((hR.turns _).trans rfl) ?_ ?_
        · intro u hu
          have hk := hR.since hu.1
          have hks := hk.size
          unfold relAt
          go_simp
          refine (HTO.out u).mono ?_
          rintro e w' ⟨rfl, hb'⟩
          exact ⟨_, rfl, hR.intoB hb', hR.put 0 rfl rfl rfl⟩
        intro v hv
        obtain ⟨u, _, hu⟩ := hv
        obtain rfl := hR.get 0 rfl hu
        clear hu
        intro K hK
        go_big_quiet_op
        go_big_quiet_on
        repeat (first | (refine wpR_det hp2 rfl ((hR.rel _).trans rfl) rfl ?_; intro K hK; go_big_quiet_op; go_big_quiet_on) | (refine wpR_ptr hp2 rfl ((hR.rel _).trans rfl) rfl rfl ?_; intro K hK; go_big_quiet_op; go_big_quiet_on) | (refine wpR_skip pick rfl ?_; intro K hK; go_big_quiet_op; go_big_quiet_on))
        refine wpR_rel pick rfl ((hR.rel _).trans rfl) ((hR.turns _).trans rfl) ?_ ?_
        · intro u hu
          have hk := hR.since hu.1
          have hks := hk.size
          unfold relAt
          go_simp
          refine (awake_any u).mono ?_
          rintro e w' ⟨rfl, hb'⟩
          exact ⟨_, rfl, hR.intoB hb', hR.put 1 rfl rfl rfl⟩
        intro v hv
        obtain ⟨u, _, hu⟩ := hv
        obtain rfl := hR.get 1 rfl hu
        clear hu
        intro K hK
        go_big_quiet_op
        go_big_quiet_on
        repeat (first | (refine wpR_det hp2 rfl ((hR.rel _).trans rfl) rfl ?_; intro K hK; go_big_quiet_op; go_big_quiet_on) | (refine wpR_ptr hp2 rfl ((hR.rel _).trans rfl) rfl rfl ?_; intro K hK; go_big_quiet_op; go_big_quiet_on) | (refine wpR_skip pick rfl ?_; intro K hK; go_big_quiet_op; go_big_quiet_on))
        refine wpR_nil ?_
        intro w7 hk2 hF hM
        have HB7 := Lib.hid (HB6.out.trans (hk2.below hs6 (fun i h => h.elim)))
        clear hF hM hk2 hp1 hp2 hR p0 p1 p2 p3 r0 r1 r2 r3 r4 c0 c1 c2 c3 c4 q0 q1 q2 q3
        go_wp2_with fail
        go_ret
        exact ⟨rfl, HB7.out⟩
  · have HFI := Lib.hid (find_no tb a w3 hr)
    have HRR := Lib.hid hr
    clear hr
    have x0 := HX3.out.cell
    have xlt := HX3.out.lt
    go_wp2_with fail
    refine HFI.out.mono ?_
    rintro e w4 ⟨rfl, hb4⟩
    have HM4 := Lib.hid (HM3.out.onB hb4)
    have HX4 := Lib.hid (HX3.out.below hb4 HX3.out.lt)
    have HB4 := Lib.hid (HB3.out.trans (hb4.mono HB3.out.size))
    clear hb4 HFI x0 xlt
    go_upto_region 7 with fail
    obtain ⟨w5, hw5⟩ : ∃ w5 : World, w5 = w4.alloc (.cells #[.bool false, .int .u64 0, .int .u64 0, .int .i64 0] 29) := ⟨_, rfl⟩
    have HP5 := Lib.hid (show Blk w5 w4.heap.size 29 #[.bool false, .int .u64 0, .int .u64 0, .int .i64 0] by rw [hw5]; exact Blk.new _ _ _)
    have HB5 := Lib.hid (show Below w.heap.size w w5 by rw [hw5]; exact HB4.out.alloc HB4.out.size _)
    have HS5 := Lib.hid (show Below w4.heap.size w4 w5 by rw [hw5]; exact bel1)
    rw [← hw5]
    clear hw5
    have HX5 := Lib.hid (HX4.out.below HS5.out HX4.out.lt)
    have x0 := HX5.out.cell
    have xlt := HX5.out.lt
    have HRF := Lib.hid (refFind_no rA rc R a w5 (by omega) HRR.out)
    go_wp2_with fail
    refine HRF.out.mono ?_
    rintro e w6 ⟨rfl, hb6⟩
    have HBX := Lib.hid (HB5.out.trans (hb6.mono HB5.out.size))
    have HP6 := Lib.hid (HP5.out.below hb6 HP5.out.lt)
    have p0 := HP6.out.cell
    have plt := HP6.out.lt
    clear hb6 x0 xlt
    go_wp2_with fail
    refine (awake_any _).mono ?_
    rintro e wz ⟨rfl, hbz⟩
    have HBZ := Lib.hid (HBX.out.trans (hbz.mono HBX.out.size))
    clear hbz
    go_wp2_with fail
    go_ret
    exact ⟨rfl, HBZ.out⟩
section
open Go.ChangeShapes Go.WideShapes Go.ChangeAt Go.Deep
structure EnO where
  a : AdO
  len : Int
  val : Int
def EnO.cs (a : EnO) : List Value := a.a.cs ++ [.int .i64 a.len] ++ [.int .i64 a.val]
theorem EnO.cs_len (a : EnO) : a.cs.length = 5 := rfl
def EnO.wf (a : EnO) (w : World) : Prop := a.a.wf w ∧ (-9223372036854775808 ≤ a.len ∧ a.len ≤ 9223372036854775807) ∧ (-9223372036854775808 ≤ a.val ∧ a.val ≤ 9223372036854775807)
theorem trod_EnO {H : Type} {enc : TypeId × Value → H} {w : World} {base : Nat} {spare : Nat → Bool} {held : Bool} {fuel : Nat} {l : List Value} {x : DataW H × List MemPlace} (h : DataW.trod enc Try.prog w base spare held fuel 42 l = some x) (hl : l.length = 5) : ∃ a : EnO, l = a.cs ∧ a.wf w := by
  match l, hl with
  | [c0, c1, c2, c3, c4], _ =>
    obtain ⟨xs, n, -, -, -, hlen, hg⟩ := DataW.trod_struct Try.underlying42 h
    have hlk : xs.length = 3 := hlen
    have g0 : DataW.trod enc Try.prog w base spare held n 24 (([c0, c1, c2, c3, c4].drop 0).take (Try.prog.cellsOf 24)) = xs[0]? := hg 0 _ rfl
    rw [show Try.prog.cellsOf 24 = 3 by kernel_rfl, List.getElem?_eq_getElem (by omega)] at g0
    have g1 : DataW.trod enc Try.prog w base spare held n 3 (([c0, c1, c2, c3, c4].drop 3).take (Try.prog.cellsOf 3)) = xs[1]? := hg 1 _ rfl
    rw [show Try.prog.cellsOf 3 = 1 by kernel_rfl, List.getElem?_eq_getElem (by omega)] at g1
    have g2 : DataW.trod enc Try.prog w base spare held n 3 (([c0, c1, c2, c3, c4].drop 4).take (Try.prog.cellsOf 3)) = xs[2]? := hg 2 _ rfl
    rw [show Try.prog.cellsOf 3 = 1 by kernel_rfl, List.getElem?_eq_getElem (by omega)] at g2
    obtain ⟨a0, e0, z0⟩ := trod_AdO g0 rfl
    have e0' : [c0, c1, c2] = a0.cs := e0
    unfold AdO.cs at e0'
    first | simp only [List.cons.injEq, and_true] at e0' | simp only [List.cons_append, List.nil_append, List.cons.injEq, and_true] at e0'
    obtain ⟨rfl, rfl, rfl⟩ := e0'
    obtain ⟨a1, e1, -, z1⟩ := DataW.trod_int Try.underlying3 g1
    simp [Lit.wf, IntKind.min, IntKind.max, IntKind.signed, IntKind.bits] at e1 z1
    subst e1
    obtain ⟨a2, e2, -, z2⟩ := DataW.trod_int Try.underlying3 g2
    simp [Lit.wf, IntKind.min, IntKind.max, IntKind.signed, IntKind.bits] at e2 z2
    subst e2
    exact ⟨⟨a0, a1, a2⟩, rfl, ⟨z0, ⟨by simpa using z1.1, by simpa using z1.2⟩, ⟨by simpa using z2.1, by simpa using z2.2⟩⟩⟩
structure AcO where
  kind : Int
  x : EnO
def AcO.cs (a : AcO) : List Value := [.int .i64 a.kind] ++ a.x.cs
theorem AcO.cs_len (a : AcO) : a.cs.length = 6 := rfl
def AcO.wf (a : AcO) (w : World) : Prop := (-9223372036854775808 ≤ a.kind ∧ a.kind ≤ 9223372036854775807) ∧ a.x.wf w
theorem trod_AcO {H : Type} {enc : TypeId × Value → H} {w : World} {base : Nat} {spare : Nat → Bool} {held : Bool} {fuel : Nat} {l : List Value} {x : DataW H × List MemPlace} (h : DataW.trod enc Try.prog w base spare held fuel 66 l = some x) (hl : l.length = 6) : ∃ a : AcO, l = a.cs ∧ a.wf w := by
  match l, hl with
  | [c0, c1, c2, c3, c4, c5], _ =>
    obtain ⟨xs, n, -, -, -, hlen, hg⟩ := DataW.trod_struct Try.underlying66 h
    have hlk : xs.length = 2 := hlen
    have g0 : DataW.trod enc Try.prog w base spare held n 3 (([c0, c1, c2, c3, c4, c5].drop 0).take (Try.prog.cellsOf 3)) = xs[0]? := hg 0 _ rfl
    rw [show Try.prog.cellsOf 3 = 1 by kernel_rfl, List.getElem?_eq_getElem (by omega)] at g0
    have g1 : DataW.trod enc Try.prog w base spare held n 42 (([c0, c1, c2, c3, c4, c5].drop 1).take (Try.prog.cellsOf 42)) = xs[1]? := hg 1 _ rfl
    rw [show Try.prog.cellsOf 42 = 5 by kernel_rfl, List.getElem?_eq_getElem (by omega)] at g1
    obtain ⟨a0, e0, -, z0⟩ := DataW.trod_int Try.underlying3 g0
    simp [Lit.wf, IntKind.min, IntKind.max, IntKind.signed, IntKind.bits] at e0 z0
    subst e0
    obtain ⟨a1, e1, z1⟩ := trod_EnO g1 rfl
    have e1' : [c1, c2, c3, c4, c5] = a1.cs := e1
    unfold EnO.cs AdO.cs at e1'
    first | simp only [List.cons.injEq, and_true] at e1' | simp only [List.cons_append, List.nil_append, List.cons.injEq, and_true] at e1'
    obtain ⟨rfl, rfl, rfl, rfl, rfl⟩ := e1'
    exact ⟨⟨a0, a1⟩, rfl, ⟨⟨by simpa using z0.1, by simpa using z0.2⟩, z1⟩⟩

theorem trod_AcE {H : Type} {enc : TypeId × Value → H} {w : World} {base : Nat} {spare : Nat → Bool} {held : Bool} {fuel : Nat} {l : List Value} {x : DataW H × List MemPlace} (h : DataW.trod enc Try.prog w base spare held fuel 66 l = some x) (hl : l.length = 6) : ∃ y : AcE, l = y.cs ∧ y.x.a.wf := by
  obtain ⟨y, h1, h2⟩ := trod_AcO h hl
  obtain ⟨-, ⟨⟨g1, g2⟩, g3, g4⟩, -⟩ := h2
  refine ⟨⟨y.kind, ⟨⟨y.x.a.six, y.x.a.high.toNat, y.x.a.low.toNat⟩, y.x.len, y.x.val⟩⟩, ?_, by unfold Ad.wf; simp only; omega⟩
  rw [h1]
  simp [AcE.cs, AcO.cs, EnO.cs, AdO.cs, Int.toNat_of_nonneg g1, Int.toNat_of_nonneg g3]
theorem open_acts {H : Type} {enc : TypeId × Value → H} {w : World} {base : Nat} {spare : Nat → Bool} {held : Bool} {fuel len cap : Nat} {A : Option Addr} {x : DataW H × List MemPlace} (h : DataW.trod enc Try.prog w base spare held fuel 33 [.slice A len cap] = some x) :
    ∃ L : List AcE, len = L.length ∧ L.length ≤ cap ∧ cap ≤ maxLen ∧ ES w w.heap.size A 6 (L.map AcE.cs) ∧ ∀ y ∈ L, y.x.a.wf :=
  open_elems AcE.cs (fun a => a.x.a.wf) ⟨0, ⟨⟨false, 0, 0⟩, 0, 0⟩⟩ Try.underlying33 (by kernel_rfl) (by omega) AcE.cs_len (fun _ _ _ h hl => trod_AcE h hl) h
end
end Go.Proofs.Ytchgbdghllkcpaa
