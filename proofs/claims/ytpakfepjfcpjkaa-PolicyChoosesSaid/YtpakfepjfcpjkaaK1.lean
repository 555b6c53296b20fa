/- The law PolicyFits, walked: fits_in. -/
import Derived.Test.YtpakfepjfcpjkaaK
namespace Go.Proofs.Ytpakfepjfcpjkaa
open Go.RowKit
set_option linter.unusedVariables false
set_option maxRecDepth 100000 in
set_option maxHeartbeats 4000000 in
theorem fits_in (A : Option Addr) (c : Nat) (l : List Cd) (way at_ x y : Int) (z : Cd) (w : World) (hl : l.length ≤ maxLen) (hE : ES w w.heap.size A 4 (l.map Cd.cs)) (hx : 0 ≤ x) (hx' : x ≤ 4294967295) (hy : 0 ≤ y) (hy' : y ≤ 4294967295) (hat : 0 ≤ at_ ∧ at_ < (l.length : Int)) :
    Calls Try.prog 5 #[.agg #[.int .i64 way, .slice A l.length c, .int .u32 x, .int .u32 y], .int .i64 at_, z.agg] w fun e w' => e = .returned (.bool true) ∧ Below w.heap.size w w' := by
  have HE := Lib.hid hE
  have HL := Lib.hid hl
  unfold maxLen at hl
  clear hE
  obtain ⟨z0, z1, z2, z3⟩ := z
  unfold Cd.agg
  go_enter Try.func5, Try.ntmps5
  go_wp2_with fail
  obtain ⟨w1, hw1⟩ : ∃ w1 : World, w1 = (w.alloc (.cells #[.int .i64 way, .slice A l.length c, .int .u32 x, .int .u32 y] 42)).alloc (.cells #[.int .i64 z0, .int .i64 z1, .int .i64 z2, .int .u32 z3] 54) := ⟨_, rfl⟩
  have HZ := Lib.hid (show Blk w1 (w.heap.size + 1) 54 #[.int .i64 z0, .int .i64 z1, .int .i64 z2, .int .u32 z3] by rw [hw1]; exact Blk.new_ (by simp) _ _)
  have HF1 := Lib.hid (show FxS w w1 w.heap.size #[.int .i64 way, .slice A l.length c, .int .u32 x, .int .u32 y] A l by
    have hb : Below w.heap.size w w1 := by rw [hw1]; exact ((Below.refl _ _).alloc (Nat.le_refl _) _).alloc (by simp) _
    exact ⟨by rw [hw1]; exact (Blk.new _ _ _).alloc _, HE.out.onB hb (Nat.le_refl _), hb, Nat.le_refl _⟩)
  have hs1 : w.heap.size + 2 ≤ w1.heap.size := by rw [hw1]; simp
  rw [← hw1]
  clear hw1
  refine (rightL_any A c l w1 HL.out HF1.out.es).mono ?_
  rintro e w2 ⟨b, rfl, hb2, hgood⟩
  have hs2 := hb2.size
  have HF2 := Lib.hid (HF1.out.onB hb2)
  have HZ2 := Lib.hid (HZ.out.below hb2 HZ.out.lt)
  clear hb2 HF1 HZ
  cases b with
  | false =>
    clear hgood
    go_wp2_with fail
    refine (awake_any w2).mono ?_
    rintro e w3 ⟨rfl, hb3⟩
    have HB3 := Lib.hid (bel2 HF2.out.bel hb3)
    clear hb3
    go_wp2_with fail
    go_ret
    exact ⟨rfl, HB3.out⟩
  | true =>
    obtain ⟨hl30, hr, hds⟩ := hgood rfl
    have HR := Lib.hid hr
    clear hgood hr hds
    have cA := HF2.out.blk.cell
    have lA := HF2.out.blk.lt
    have cZ := HZ2.out.cell
    have lZ := HZ2.out.lt
    obtain ⟨ha0, ha1⟩ := hat
    obtain ⟨i, rfl⟩ : ∃ i : Nat, at_ = (i : Int) := ⟨at_.toNat, by omega⟩
    have hil : i < l.length := by omega
    obtain ⟨b, o, hb, rfl, hel⟩ := HF2.out.es.at (k := i) (by simpa using hil)
    obtain ⟨c0, c1, c2, c3⟩ := cd_cells hel hil
    obtain ⟨⟨y0, y1, y2, y3⟩, hy⟩ : ∃ y, l[i] = y := ⟨_, rfl⟩
    rw [hy] at c0 c1 c2 c3
    simp only at c0 c1 c2 c3
    clear hy hel
    go_upto_region 6 with fail
    obtain ⟨w3, hw3⟩ : ∃ w3 : World, w3 = w2.alloc (.cells #[.int .i64 y0, .int .i64 y1, .int .i64 y2, .int .u32 y3] 54) := ⟨_, rfl⟩
    have HK3 := Lib.hid (show Kept (fun _ => False) w2 w3 by rw [hw3]; exact (Kept.refl _ _).alloc _)
    have HX3 := Lib.hid (show Blk w3 w2.heap.size 54 #[.int .i64 y0, .int .i64 y1, .int .i64 y2, .int .u32 y3] by rw [hw3]; exact Blk.new _ _ _)
    have HF3 := Lib.hid (HF2.out.on HK3.out)
    have hs3 : w2.heap.size + 1 ≤ w3.heap.size := by rw [hw3]; simp
    rw [← hw3]
    clear hw3 HK3 HZ2 HF2 cA lA cZ lZ c0 c1 c2 c3 hb
    obtain ⟨A, hA_⟩ : ∃ A : Option Addr, some ⟨b, o, none⟩ = A := ⟨_, rfl⟩
    rw [hA_] at HF3 ⊢
    clear hA_
    obtain ⟨xb, hxb⟩ : ∃ xb, w2.heap.size = xb := ⟨_, rfl⟩
    rw [hxb] at HX3 hs3 ⊢
    obtain ⟨ab, hab⟩ : ∃ ab, w.heap.size = ab := ⟨_, rfl⟩
    rw [hab] at HF3 ⊢
    clear hxb hab hs2 hs1 HE
    go_wp2_with fail
    go_loopw [8, 9] (fun n i wr => ∃ k : Nat, k ≤ l.length ∧ i = .int .i64 (k : Int) ∧ ∃ q : Int, n = .int .i64 q ∧ Hid (InP l ⟨y0, y1, y2, y3⟩ k q) ∧ Hid (Kept (fun _ => False) w3 wr)) (fun _ i _ => l.length - (intOf i).toNat)
    case atStart => exact ⟨0, by omega, rfl, -1, rfl, Lib.hid (.inl ⟨rfl, fun j h hj => by omega⟩), Lib.hid (Kept.refl _ _)⟩
    case round =>
      obtain ⟨k, hk, rfl, q, rfl, HI, HK⟩ := hrel
      have HF := Lib.hid (HF3.out.on HK.out)
      have HX := Lib.hid (HX3.out.kept HK.out (fun h => h))
      have f1 := HF.out.blk.cell 1
      have f0 := HF.out.blk.cell 0
      have f2 := HF.out.blk.cell 2
      have f3 := HF.out.blk.cell 3
      simp at f0 f1 f2 f3
      have g0 := HX.out.cell 0
      have g1 := HX.out.cell 1
      have g2 := HX.out.cell 2
      have g3 := HX.out.cell 3
      simp at g0 g1 g2 g3
      have alt := HF.out.blk.lt
      have xlt := HX.out.lt
      by_cases hkl : k < l.length
      · obtain ⟨eb, eo, heb, rfl, hel⟩ := HF.out.es.at (k := k) (by simpa using hkl)
        obtain ⟨d0, d1, d2, d3⟩ := cd_cells hel hkl
        have hkI : (k : Int) < (l.length : Int) := by omega
        have hk0 : (0 : Int) ≤ (k : Int) := by omega
        obtain ⟨y, hy_⟩ : ∃ y, l[k] = y := ⟨_, rfl⟩
        rw [hy_] at d0 d1 d2 d3
        obtain ⟨e0, e1, e2, e3⟩ := y
        simp only at d0 d1 d2 d3
        have HY := Lib.hid hy_
        clear hy_ hel
        by_cases hn : y0 = e0
        · subst hn
          by_cases hn : y1 = e1
          · subst hn
            by_cases hn : y2 = e2
            · subst hn
              by_cases hn : y3 = e3
              · subst hn
                go_upto_region 10 with fail
                refine wp_region_kept 7 [] ?st ?ne rfl (by kernel_rfl) (by kernel_rfl) ?_
                case st => intro p hp; cases hp
                case ne => intro p hp; cases hp
                simp only [List.take_succ_cons, List.take_zero, List.drop_succ_cons, List.drop_zero]
                intro G pick hR hp1 hp2
                have pa : ∀ u, (pick u).cell? ⟨ab, 1, none⟩ = some (.slice (some ⟨eb, eo, none⟩) l.length c) := fun u => ((hp1 u).cell alt (fun h => h) _).trans f1
                have p0 : ∀ u, (pick u).cell? ⟨xb, 0, none⟩ = some (.int .i64 y0) := fun u => ((hp1 u).cell xlt (fun h => h) _).trans g0
                have q0 : ∀ u, (pick u).cell? ⟨eb, eo + k * 4, none⟩ = some (.int .i64 y0) := fun u => ((hp1 u).cell heb (fun h => h) _).trans d0
                have p1 : ∀ u, (pick u).cell? ⟨xb, 1, none⟩ = some (.int .i64 y1) := fun u => ((hp1 u).cell xlt (fun h => h) _).trans g1
                have q1 : ∀ u, (pick u).cell? ⟨eb, eo + k * 4 + 1, none⟩ = some (.int .i64 y1) := fun u => ((hp1 u).cell heb (fun h => h) _).trans d1
                have p2 : ∀ u, (pick u).cell? ⟨xb, 2, none⟩ = some (.int .i64 y2) := fun u => ((hp1 u).cell xlt (fun h => h) _).trans g2
                have q2 : ∀ u, (pick u).cell? ⟨eb, eo + k * 4 + 2, none⟩ = some (.int .i64 y2) := fun u => ((hp1 u).cell heb (fun h => h) _).trans d2
                have p3 : ∀ u, (pick u).cell? ⟨xb, 3, none⟩ = some (.int .u32 y3) := fun u => ((hp1 u).cell xlt (fun h => h) _).trans g3
                have q3 : ∀ u, (pick u).cell? ⟨eb, eo + k * 4 + 3, none⟩ = some (.int .u32 y3) := fun u => ((hp1 u).cell heb (fun h => h) _).trans d3
                repeat (first | (refine wpR_det hp2 rfl ((hR.rel _).trans rfl) rfl ?_; intro K hK; go_big_quiet_op; go_big_quiet_on) | (refine wpR_ptr hp2 rfl ((hR.rel _).trans rfl) rfl rfl ?_; intro K hK; go_big_quiet_op; go_big_quiet_on) | (refine wpR_skip pick rfl ?_; intro K hK; go_big_quiet_op; go_big_quiet_on))
                refine wpR_nil ?_
                intro wX hk2 hF hM
                have HKX := Lib.hid (HK.out.trans hk2)
                clear hF hM hk2 hp1 hp2 hR pa p0 p1 p2 p3 q0 q1 q2 q3
                go_wp2_with fail
                go_roundw
                case rel => exact ⟨k + 1, by omega, by go_num, k, rfl, Lib.hid (.inr ⟨k, hkl, by omega, rfl, HY.out⟩), HKX⟩
                case measure => simp [intOf]; omega
              · go_upto_region 10 with fail
                refine wp_region_kept 7 [] ?st ?ne rfl (by kernel_rfl) (by kernel_rfl) ?_
                case st => intro p hp; cases hp
                case ne => intro p hp; cases hp
                simp only [List.take_succ_cons, List.take_zero, List.drop_succ_cons, List.drop_zero]
                intro G pick hR hp1 hp2
                have pa : ∀ u, (pick u).cell? ⟨ab, 1, none⟩ = some (.slice (some ⟨eb, eo, none⟩) l.length c) := fun u => ((hp1 u).cell alt (fun h => h) _).trans f1
                have p0 : ∀ u, (pick u).cell? ⟨xb, 0, none⟩ = some (.int .i64 y0) := fun u => ((hp1 u).cell xlt (fun h => h) _).trans g0
                have q0 : ∀ u, (pick u).cell? ⟨eb, eo + k * 4, none⟩ = some (.int .i64 y0) := fun u => ((hp1 u).cell heb (fun h => h) _).trans d0
                have p1 : ∀ u, (pick u).cell? ⟨xb, 1, none⟩ = some (.int .i64 y1) := fun u => ((hp1 u).cell xlt (fun h => h) _).trans g1
                have q1 : ∀ u, (pick u).cell? ⟨eb, eo + k * 4 + 1, none⟩ = some (.int .i64 y1) := fun u => ((hp1 u).cell heb (fun h => h) _).trans d1
                have p2 : ∀ u, (pick u).cell? ⟨xb, 2, none⟩ = some (.int .i64 y2) := fun u => ((hp1 u).cell xlt (fun h => h) _).trans g2
                have q2 : ∀ u, (pick u).cell? ⟨eb, eo + k * 4 + 2, none⟩ = some (.int .i64 y2) := fun u => ((hp1 u).cell heb (fun h => h) _).trans d2
                have p3 : ∀ u, (pick u).cell? ⟨xb, 3, none⟩ = some (.int .u32 y3) := fun u => ((hp1 u).cell xlt (fun h => h) _).trans g3
                have q3 : ∀ u, (pick u).cell? ⟨eb, eo + k * 4 + 3, none⟩ = some (.int .u32 e3) := fun u => ((hp1 u).cell heb (fun h => h) _).trans d3
                repeat (first | (refine wpR_det hp2 rfl ((hR.rel _).trans rfl) rfl ?_; intro K hK; go_big_quiet_op; go_big_quiet_on) | (refine wpR_ptr hp2 rfl ((hR.rel _).trans rfl) rfl rfl ?_; intro K hK; go_big_quiet_op; go_big_quiet_on) | (refine wpR_skip pick rfl ?_; intro K hK; go_big_quiet_op; go_big_quiet_on))
                refine wpR_nil ?_
                intro wX hk2 hF hM
                have HKX := Lib.hid (HK.out.trans hk2)
                clear hF hM hk2 hp1 hp2 hR pa p0 p1 p2 p3 q0 q1 q2 q3
                go_wp2_with fail
                go_roundw
                case rel => exact ⟨k + 1, by omega, by go_num, q, rfl, Lib.hid (HI.out.no hkl (by rw [HY.out]; intro e; injection e with a0 a1 a2 a3; exact hn a3.symm)), HKX⟩
                case measure => simp [intOf]; omega
            · go_upto_region 10 with fail
              refine wp_region_kept 7 [] ?st ?ne rfl (by kernel_rfl) (by kernel_rfl) ?_
              case st => intro p hp; cases hp
              case ne => intro p hp; cases hp
              simp only [List.take_succ_cons, List.take_zero, List.drop_succ_cons, List.drop_zero]
              intro G pick hR hp1 hp2
              have pa : ∀ u, (pick u).cell? ⟨ab, 1, none⟩ = some (.slice (some ⟨eb, eo, none⟩) l.length c) := fun u => ((hp1 u).cell alt (fun h => h) _).trans f1
              have p0 : ∀ u, (pick u).cell? ⟨xb, 0, none⟩ = some (.int .i64 y0) := fun u => ((hp1 u).cell xlt (fun h => h) _).trans g0
              have q0 : ∀ u, (pick u).cell? ⟨eb, eo + k * 4, none⟩ = some (.int .i64 y0) := fun u => ((hp1 u).cell heb (fun h => h) _).trans d0
              have p1 : ∀ u, (pick u).cell? ⟨xb, 1, none⟩ = some (.int .i64 y1) := fun u => ((hp1 u).cell xlt (fun h => h) _).trans g1
              have q1 : ∀ u, (pick u).cell? ⟨eb, eo + k * 4 + 1, none⟩ = some (.int .i64 y1) := fun u => ((hp1 u).cell heb (fun h => h) _).trans d1
              have p2 : ∀ u, (pick u).cell? ⟨xb, 2, none⟩ = some (.int .i64 y2) := fun u => ((hp1 u).cell xlt (fun h => h) _).trans g2
              have q2 : ∀ u, (pick u).cell? ⟨eb, eo + k * 4 + 2, none⟩ = some (.int .i64 e2) := fun u => ((hp1 u).cell heb (fun h => h) _).trans d2
              have p3 : ∀ u, (pick u).cell? ⟨xb, 3, none⟩ = some (.int .u32 y3) := fun u => ((hp1 u).cell xlt (fun h => h) _).trans g3
              have q3 : ∀ u, (pick u).cell? ⟨eb, eo + k * 4 + 3, none⟩ = some (.int .u32 e3) := fun u => ((hp1 u).cell heb (fun h => h) _).trans d3
              repeat (first | (refine wpR_det hp2 rfl ((hR.rel _).trans rfl) rfl ?_; intro K hK; go_big_quiet_op; go_big_quiet_on) | (refine wpR_ptr hp2 rfl ((hR.rel _).trans rfl) rfl rfl ?_; intro K hK; go_big_quiet_op; go_big_quiet_on) | (refine wpR_skip pick rfl ?_; intro K hK; go_big_quiet_op; go_big_quiet_on))
              refine wpR_nil ?_
              intro wX hk2 hF hM
              have HKX := Lib.hid (HK.out.trans hk2)
              clear hF hM hk2 hp1 hp2 hR pa p0 p1 p2 p3 q0 q1 q2 q3
              go_wp2_with fail
              go_roundw
              case rel => exact ⟨k + 1, by omega, by go_num, q, rfl, Lib.hid (HI.out.no hkl (by rw [HY.out]; intro e; injection e with a0 a1 a2 a3; exact hn a2.symm)), HKX⟩
              case measure => simp [intOf]; omega
          · go_upto_region 10 with fail
            refine wp_region_kept 7 [] ?st ?ne rfl (by kernel_rfl) (by kernel_rfl) ?_
            case st => intro p hp; cases hp
            case ne => intro p hp; cases hp
            simp only [List.take_succ_cons, List.take_zero, List.drop_succ_cons, List.drop_zero]
            intro G pick hR hp1 hp2
            have pa : ∀ u, (pick u).cell? ⟨ab, 1, none⟩ = some (.slice (some ⟨eb, eo, none⟩) l.length c) := fun u => ((hp1 u).cell alt (fun h => h) _).trans f1
            have p0 : ∀ u, (pick u).cell? ⟨xb, 0, none⟩ = some (.int .i64 y0) := fun u => ((hp1 u).cell xlt (fun h => h) _).trans g0
            have q0 : ∀ u, (pick u).cell? ⟨eb, eo + k * 4, none⟩ = some (.int .i64 y0) := fun u => ((hp1 u).cell heb (fun h => h) _).trans d0
            have p1 : ∀ u, (pick u).cell? ⟨xb, 1, none⟩ = some (.int .i64 y1) := fun u => ((hp1 u).cell xlt (fun h => h) _).trans g1
            have q1 : ∀ u, (pick u).cell? ⟨eb, eo + k * 4 + 1, none⟩ = some (.int .i64 e1) := fun u => ((hp1 u).cell heb (fun h => h) _).trans d1
            have p2 : ∀ u, (pick u).cell? ⟨xb, 2, none⟩ = some (.int .i64 y2) := fun u => ((hp1 u).cell xlt (fun h => h) _).trans g2
            have q2 : ∀ u, (pick u).cell? ⟨eb, eo + k * 4 + 2, none⟩ = some (.int .i64 e2) := fun u => ((hp1 u).cell heb (fun h => h) _).trans d2
            have p3 : ∀ u, (pick u).cell? ⟨xb, 3, none⟩ = some (.int .u32 y3) := fun u => ((hp1 u).cell xlt (fun h => h) _).trans g3
            have q3 : ∀ u, (pick u).cell? ⟨eb, eo + k * 4 + 3, none⟩ = some (.int .u32 e3) := fun u => ((hp1 u).cell heb (fun h => h) _).trans d3
            repeat (first | (refine wpR_det hp2 rfl ((hR.rel _).trans rfl) rfl ?_; intro K hK; go_big_quiet_op; go_big_quiet_on) | (refine wpR_ptr hp2 rfl ((hR.rel _).trans rfl) rfl rfl ?_; intro K hK; go_big_quiet_op; go_big_quiet_on) | (refine wpR_skip pick rfl ?_; intro K hK; go_big_quiet_op; go_big_quiet_on))
            refine wpR_nil ?_
            intro wX hk2 hF hM
            have HKX := Lib.hid (HK.out.trans hk2)
            clear hF hM hk2 hp1 hp2 hR pa p0 p1 p2 p3 q0 q1 q2 q3
            go_wp2_with fail
            go_roundw
            case rel => exact ⟨k + 1, by omega, by go_num, q, rfl, Lib.hid (HI.out.no hkl (by rw [HY.out]; intro e; injection e with a0 a1 a2 a3; exact hn a1.symm)), HKX⟩
            case measure => simp [intOf]; omega
        · go_upto_region 10 with fail
          refine wp_region_kept 7 [] ?st ?ne rfl (by kernel_rfl) (by kernel_rfl) ?_
          case st => intro p hp; cases hp
          case ne => intro p hp; cases hp
          simp only [List.take_succ_cons, List.take_zero, List.drop_succ_cons, List.drop_zero]
          intro G pick hR hp1 hp2
          have pa : ∀ u, (pick u).cell? ⟨ab, 1, none⟩ = some (.slice (some ⟨eb, eo, none⟩) l.length c) := fun u => ((hp1 u).cell alt (fun h => h) _).trans f1
          have p0 : ∀ u, (pick u).cell? ⟨xb, 0, none⟩ = some (.int .i64 y0) := fun u => ((hp1 u).cell xlt (fun h => h) _).trans g0
          have q0 : ∀ u, (pick u).cell? ⟨eb, eo + k * 4, none⟩ = some (.int .i64 e0) := fun u => ((hp1 u).cell heb (fun h => h) _).trans d0
          have p1 : ∀ u, (pick u).cell? ⟨xb, 1, none⟩ = some (.int .i64 y1) := fun u => ((hp1 u).cell xlt (fun h => h) _).trans g1
          have q1 : ∀ u, (pick u).cell? ⟨eb, eo + k * 4 + 1, none⟩ = some (.int .i64 e1) := fun u => ((hp1 u).cell heb (fun h => h) _).trans d1
          have p2 : ∀ u, (pick u).cell? ⟨xb, 2, none⟩ = some (.int .i64 y2) := fun u => ((hp1 u).cell xlt (fun h => h) _).trans g2
          have q2 : ∀ u, (pick u).cell? ⟨eb, eo + k * 4 + 2, none⟩ = some (.int .i64 e2) := fun u => ((hp1 u).cell heb (fun h => h) _).trans d2
          have p3 : ∀ u, (pick u).cell? ⟨xb, 3, none⟩ = some (.int .u32 y3) := fun u => ((hp1 u).cell xlt (fun h => h) _).trans g3
          have q3 : ∀ u, (pick u).cell? ⟨eb, eo + k * 4 + 3, none⟩ = some (.int .u32 e3) := fun u => ((hp1 u).cell heb (fun h => h) _).trans d3
          repeat (first | (refine wpR_det hp2 rfl ((hR.rel _).trans rfl) rfl ?_; intro K hK; go_big_quiet_op; go_big_quiet_on) | (refine wpR_ptr hp2 rfl ((hR.rel _).trans rfl) rfl rfl ?_; intro K hK; go_big_quiet_op; go_big_quiet_on) | (refine wpR_skip pick rfl ?_; intro K hK; go_big_quiet_op; go_big_quiet_on))
          refine wpR_nil ?_
          intro wX hk2 hF hM
          have HKX := Lib.hid (HK.out.trans hk2)
          clear hF hM hk2 hp1 hp2 hR pa p0 p1 p2 p3 q0 q1 q2 q3
          go_wp2_with fail
          go_roundw
          case rel => exact ⟨k + 1, by omega, by go_num, q, rfl, Lib.hid (HI.out.no hkl (by rw [HY.out]; intro e; injection e with a0 a1 a2 a3; exact hn a0.symm)), HKX⟩
          case measure => simp [intOf]; omega
      · obtain rfl : k = l.length := by omega
        have hkn : ¬ (l.length : Int) < (l.length : Int) := by omega
        have HTO := Lib.hid (fun u (hu : Kept (fun _ => False) wr u) => toT_any A c l u (by omega) (HF.out.on hu).es)
        go_upto_block 2 with fail
        go_cut [10] (fun s wx => ∃ b : Bool, s = .bool b ∧ Hid (b = true ↔ FitsP way l x y ⟨y0, y1, y2, y3⟩) ∧ Hid (Kept (fun _ => False) wr wx))
        case first =>
          rcases HI.out with ⟨rfl, hno⟩ | ⟨j, hj, -, rfl, hjx⟩
          · have HNO := Lib.hid (fits_none way l x y _ hno)
            clear hno HI
            by_cases h1 : way = 1
            · subst h1
              go_wp2_with fail
              go_meet
              exact ⟨_, rfl, Lib.hid ⟨(fun h => by simp at h), fun h => absurd h HNO.out⟩, Lib.hid (Kept.refl _ _)⟩
            have b1 : (way == 1) = false := beq_eq_false_iff_ne.2 h1
            by_cases h2 : way = 2
            · subst h2
              go_wp2_with fail
              go_meet
              exact ⟨_, rfl, Lib.hid ⟨(fun h => by simp at h), fun h => absurd h HNO.out⟩, Lib.hid (Kept.refl _ _)⟩
            have b2 : (way == 2) = false := beq_eq_false_iff_ne.2 h2
            by_cases h3 : way = 3
            · subst h3
              have HC := Lib.hid (refCh_any 3 (by omega) A c l x y wr (by omega) hx hx' hy hy' HF.out.es)
              go_wp2_with fail
              refine HC.out.mono ?_
              rintro e w5 ⟨rfl, hb5⟩
              have HK5 := Lib.hid (Kept.ofB (S := fun _ => False) hb5)
              clear hb5 HC
              go_wp2_with fail
              go_meet
              exact ⟨_, rfl, Lib.hid ⟨(fun h => by simp at h), fun h => absurd h HNO.out⟩, Lib.hid (HK5.out.alloc _)⟩
            have b3 : (way == 3) = false := beq_eq_false_iff_ne.2 h3
            by_cases h4 : way = 4
            · subst h4
              have HC := Lib.hid (refCh_any 4 (by omega) A c l x y wr (by omega) hx hx' hy hy' HF.out.es)
              go_wp2_with fail
              refine HC.out.mono ?_
              rintro e w5 ⟨rfl, hb5⟩
              have HK5 := Lib.hid (Kept.ofB (S := fun _ => False) hb5)
              clear hb5 HC
              go_wp2_with fail
              go_meet
              exact ⟨_, rfl, Lib.hid ⟨(fun h => by simp at h), fun h => absurd h HNO.out⟩, Lib.hid (HK5.out.alloc _)⟩
            have b4 : (way == 4) = false := beq_eq_false_iff_ne.2 h4
            go_wp2_with fail
            go_meet
            exact ⟨_, rfl, Lib.hid ⟨(fun h => by simp at h), fun h => absurd h (fits_0 x y h1 h2 h3 h4)⟩, Lib.hid (Kept.refl _ _)⟩
          · clear HI
            have HJX := Lib.hid hjx
            clear hjx
            have hj0 : (0 : Int) ≤ (j : Int) := by omega
            by_cases h1 : way = 1
            · subst h1
              go_wp2_with fail
              go_meet
              exact ⟨_, rfl, Lib.hid ⟨fun _ => by rw [← HJX.out]; exact fits_1 x y hj, fun _ => by simp⟩, Lib.hid (Kept.refl _ _)⟩
            have b1 : (way == 1) = false := beq_eq_false_iff_ne.2 h1
            by_cases h2 : way = 2
            · subst h2
              have HQ := Lib.hid (fits_2 x y hj)
              rw [HJX.out] at HQ
              by_cases hz : 0 < y2
              · go_wp2_with fail
                go_meet
                exact ⟨_, rfl, Lib.hid ⟨fun _ => HQ.out.2 hz, fun _ => by simp⟩, Lib.hid (Kept.refl _ _)⟩
              · have hzd : decide (0 < y2) = false := decide_eq_false hz
                go_wp2_with fail
                go_meet
                exact ⟨_, rfl, Lib.hid ⟨(fun h => by simp at h), (fun h => absurd (HQ.out.1 h) (by simp; omega))⟩, Lib.hid (Kept.refl _ _)⟩
            have b2 : (way == 2) = false := beq_eq_false_iff_ne.2 h2
            by_cases h3 : way = 3
            · subst h3
              have HC := Lib.hid (refCh_any 3 (by omega) A c l x y wr (by omega) hx hx' hy hy' HF.out.es)
              go_wp2_with fail
              refine HC.out.mono ?_
              rintro e w5 ⟨rfl, hb5⟩
              have HK5 := Lib.hid (Kept.ofB (S := fun _ => False) hb5)
              clear hb5 HC
              have HQ := Lib.hid (chK_iff (way := 3) (by omega) HR.out x y hj)
              rw [HJX.out] at HQ
              obtain ⟨kk, hkk⟩ : ∃ kk, chK 3 l x y = kk := ⟨_, rfl⟩
              rw [hkk] at HQ ⊢
              clear hkk
              by_cases hz : kk = (j : Int)
              · subst hz
                go_wp2_with fail
                go_meet
                exact ⟨_, rfl, Lib.hid ⟨fun _ => HQ.out.1 (by trivial), fun _ => by simp⟩, Lib.hid (HK5.out.alloc _)⟩
              · have hzd : (kk == (j : Int)) = false := beq_eq_false_iff_ne.2 hz
                go_wp2_with fail
                go_meet
                exact ⟨_, rfl, Lib.hid ⟨(fun h => by simp at h), (fun h => absurd (HQ.out.2 h) hz)⟩, Lib.hid (HK5.out.alloc _)⟩
            have b3 : (way == 3) = false := beq_eq_false_iff_ne.2 h3
            by_cases h4 : way = 4
            · subst h4
              have HC := Lib.hid (refCh_any 4 (by omega) A c l x y wr (by omega) hx hx' hy hy' HF.out.es)
              go_wp2_with fail
              refine HC.out.mono ?_
              rintro e w5 ⟨rfl, hb5⟩
              have HK5 := Lib.hid (Kept.ofB (S := fun _ => False) hb5)
              clear hb5 HC
              have HQ := Lib.hid (chK_iff (way := 4) (by omega) HR.out x y hj)
              rw [HJX.out] at HQ
              obtain ⟨kk, hkk⟩ : ∃ kk, chK 4 l x y = kk := ⟨_, rfl⟩
              rw [hkk] at HQ ⊢
              clear hkk
              by_cases hz : kk = (j : Int)
              · subst hz
                go_wp2_with fail
                go_meet
                exact ⟨_, rfl, Lib.hid ⟨fun _ => HQ.out.1 (by trivial), fun _ => by simp⟩, Lib.hid (HK5.out.alloc _)⟩
              · have hzd : (kk == (j : Int)) = false := beq_eq_false_iff_ne.2 hz
                go_wp2_with fail
                go_meet
                exact ⟨_, rfl, Lib.hid ⟨(fun h => by simp at h), (fun h => absurd (HQ.out.2 h) hz)⟩, Lib.hid (HK5.out.alloc _)⟩
            have b4 : (way == 4) = false := beq_eq_false_iff_ne.2 h4
            go_wp2_with fail
            go_meet
            exact ⟨_, rfl, Lib.hid ⟨(fun h => by simp at h), fun h => absurd h (fits_0 x y h1 h2 h3 h4)⟩, Lib.hid (Kept.refl _ _)⟩
        case rest =>
          obtain ⟨b, rfl, HB, HKc⟩ := hcut
          have HFc := Lib.hid (HF.out.on HKc.out)
          have HXc := Lib.hid (HX.out.kept HKc.out (fun h => h))
          have f0 := HFc.out.blk.cell 0
          have f1 := HFc.out.blk.cell 1
          have f2 := HFc.out.blk.cell 2
          have f3 := HFc.out.blk.cell 3
          simp at f0 f1 f2 f3
          have g0 := HXc.out.cell 0
          have g1 := HXc.out.cell 1
          have g2 := HXc.out.cell 2
          have g3 := HXc.out.cell 3
          simp at g0 g1 g2 g3
          have alt := HFc.out.blk.lt
          have xlt := HXc.out.lt
          clear HF HX HI
          go_upto_region 22 with fail
          refine wp_region_kept 20 [(4, fun v u => TCV u v l), (10, fun v u => ∃ g, v = .slice (some ⟨g, 0, none⟩) 1 1 ∧ Blk u g 54 #[.int .i64 y0, .int .i64 y1, .int .i64 y2, .int .u32 y3]), (11, fun v u => T1 u v (⟨y0, y1, y2, y3⟩ : Cd)), (13, fun v u => v = .agg #[.int .i64 y0, .int .i64 y1, .int .i64 y2, .int .u32 y3]), (14, fun v u => v = .bool b), (18, fun v u => v = .bool true)] ?st ?ne rfl (by kernel_rfl) (by kernel_rfl) ?_
          case st =>
            intro p hp
            simp only [List.mem_cons, List.not_mem_nil, or_false] at hp
            rcases hp with rfl | rfl | rfl | rfl | rfl | rfl
            · intro v u u' h hk; exact h.on hk
            · rintro v u u' ⟨g, rfl, h⟩ hk; exact ⟨g, rfl, h.kept hk (fun h => h)⟩
            · intro v u u' h hk; exact h.on hk
            · intro v u u' h hk; exact h
            · intro v u u' h hk; exact h
            · intro v u u' h hk; exact h
          case ne =>
            intro p hp
            simp only [List.mem_cons, List.not_mem_nil, or_false] at hp
            rcases hp with rfl | rfl | rfl | rfl | rfl | rfl
            · exact TCV.is_ _ _ (by omega)
            · exact ⟨_, _, (Kept.refl _ _).alloc _, _, rfl, Blk.new _ _ _⟩
            · exact T1.is_ _ _
            · exact ⟨_, _, Kept.refl _ _, rfl⟩
            · exact ⟨_, _, Kept.refl _ _, rfl⟩
            · exact ⟨_, _, Kept.refl _ _, rfl⟩
          simp only [List.take_succ_cons, List.take_zero, List.drop_succ_cons, List.drop_zero]
          intro G pick hR hp1 hp2
          have q0 : ∀ u, (pick u).cell? ⟨ab, 0, none⟩ = some (.int .i64 way) := fun u => ((hp1 u).cell alt (fun h => h) _).trans f0
          have q1 : ∀ u, (pick u).cell? ⟨ab, 1, none⟩ = some (.slice A l.length c) := fun u => ((hp1 u).cell alt (fun h => h) _).trans f1
          have q2 : ∀ u, (pick u).cell? ⟨ab, 2, none⟩ = some (.int .u32 x) := fun u => ((hp1 u).cell alt (fun h => h) _).trans f2
          have q3 : ∀ u, (pick u).cell? ⟨ab, 3, none⟩ = some (.int .u32 y) := fun u => ((hp1 u).cell alt (fun h => h) _).trans f3
          have p0 : ∀ u, (pick u).cell? ⟨xb, 0, none⟩ = some (.int .i64 y0) := fun u => ((hp1 u).cell xlt (fun h => h) _).trans g0
          have p1 : ∀ u, (pick u).cell? ⟨xb, 1, none⟩ = some (.int .i64 y1) := fun u => ((hp1 u).cell xlt (fun h => h) _).trans g1
          have p2 : ∀ u, (pick u).cell? ⟨xb, 2, none⟩ = some (.int .i64 y2) := fun u => ((hp1 u).cell xlt (fun h => h) _).trans g2
          have p3 : ∀ u, (pick u).cell? ⟨xb, 3, none⟩ = some (.int .u32 y3) := fun u => ((hp1 u).cell xlt (fun h => h) _).trans g3
          repeat (first | (refine wpR_det hp2 rfl ((hR.rel _).trans rfl) rfl ?_; intro K hK; go_big_quiet_op; go_big_quiet_on) | (refine wpR_ptr hp2 rfl ((hR.rel _).trans rfl) rfl rfl ?_; intro K hK; go_big_quiet_op; go_big_quiet_on) | (refine wpR_skip pick rfl ?_; intro K hK; go_big_quiet_op; go_big_quiet_on))
          refine wpR_rel pick rfl ((hR.rel _).trans rfl) ((hR.turns _).trans rfl) ?_ ?_
          · intro u hu
            have hk := hR.since hu.1
            have hks := hk.size
            have hz := HTO.out u (HKc.out.trans hk)
            unfold relAt
            go_simp
            refine hz.mono ?_
            rintro e w' ⟨v, rfl, hT, hb'⟩
            exact ⟨_, rfl, hR.intoB hb', hR.put 0 rfl rfl hT⟩
          intro v hv
          obtain ⟨u, _, hu⟩ := hv
          obtain hT4 := hR.get 0 rfl hu
          clear hu
          have HT4 := Lib.hid hT4
          clear hT4
          intro K hK
          go_big_quiet_op
          go_big_quiet_on
          repeat (first | (refine wpR_det hp2 rfl ((hR.rel _).trans rfl) rfl ?_; intro K hK; go_big_quiet_op; go_big_quiet_on) | (refine wpR_ptr hp2 rfl ((hR.rel _).trans rfl) rfl rfl ?_; intro K hK; go_big_quiet_op; go_big_quiet_on) | (refine wpR_skip pick rfl ?_; intro K hK; go_big_quiet_op; go_big_quiet_on))
          refine wpR_rel pick rfl ((hR.rel _).trans rfl) ((hR.turns _).trans rfl) ?_ ?_
          · intro u hu
            have hk := hR.since hu.1
            have hks := hk.size
            unfold relAt
            go_simp
            exact ⟨hR.into0 ((Kept.refl _ _).alloc _), hR.put 1 rfl rfl ⟨_, rfl, Blk.new _ _ _⟩⟩
          intro v hv
          obtain ⟨u, _, hu⟩ := hv
          obtain ⟨g, rfl, -⟩ := hR.get 1 rfl hu
          clear hu
          intro K hK
          go_big_quiet_op
          go_big_quiet_on
          repeat (first | (refine wpR_det hp2 rfl ((hR.rel _).trans rfl) rfl ?_; intro K hK; go_big_quiet_op; go_big_quiet_on) | (refine wpR_ptr hp2 rfl ((hR.rel _).trans rfl) rfl rfl ?_; intro K hK; go_big_quiet_op; go_big_quiet_on) | (refine wpR_skip pick rfl ?_; intro K hK; go_big_quiet_op; go_big_quiet_on))
          refine wpR_rel pick rfl ((hR.rel _).trans rfl) ((hR.turns _).trans rfl) ?_ ?_
          · intro u hu
            have hk := hR.since hu.1
            have hks := hk.size
            obtain ⟨g', e, hB⟩ := (hR.get 1 rfl (hu.2 _ _ (Got.upd_self _ _ _) (by kernel_rfl)))
            obtain rfl : g = g' := by injection e with e; injection e with e; injection e
            have hz := toT_any (some ⟨g, 0, none⟩) 1 [(⟨y0, y1, y2, y3⟩ : Cd)] u (by simp) (.inr ⟨g, 0, hB.lt, rfl, ElAt.of_blk hB (sz_map Cd.cs_len _) rfl⟩)
            simp only [List.length_cons, List.length_nil, Nat.zero_add] at hz
            clear e hB
            unfold relAt
            go_simp
            refine hz.mono ?_
            rintro e w' ⟨v, rfl, hT, hb'⟩
            exact ⟨_, rfl, hR.intoB hb', hR.put 2 rfl rfl hT.t1⟩
          intro v hv
          obtain ⟨u, _, hu⟩ := hv
          obtain ⟨tb, tc, rfl, -⟩ := hR.get 2 rfl hu
          clear hu
          intro K hK
          go_big_quiet_op
          go_big_quiet_on
          repeat (first | (refine wpR_det hp2 rfl ((hR.rel _).trans rfl) rfl ?_; intro K hK; go_big_quiet_op; go_big_quiet_on) | (refine wpR_ptr hp2 rfl ((hR.rel _).trans rfl) rfl rfl ?_; intro K hK; go_big_quiet_op; go_big_quiet_on) | (refine wpR_skip pick rfl ?_; intro K hK; go_big_quiet_op; go_big_quiet_on))
          refine wpR_rel pick rfl ((hR.rel _).trans rfl) ((hR.turns _).trans rfl) ?_ ?_
          · intro u hu
            have hk := hR.since hu.1
            have hks := hk.size
            obtain ⟨tb', tc', e, hlt, hel⟩ := (hR.get 2 rfl (hu.2 _ _ (Got.upd_self _ _ _) (by kernel_rfl)))
            injection e with e1 e2 e3
            injection e1 with e1
            injection e1 with e1
            subst e1
            obtain ⟨l0, l1, l2, l3⟩ := t1_cells hel
            clear hel
            unfold relAt
            go_simp
            exact ⟨hR.into0 (Kept.refl _ _), hR.put 3 rfl rfl rfl⟩
          intro v hv
          obtain ⟨u, _, hu⟩ := hv
          obtain rfl := hR.get 3 rfl hu
          clear hu
          intro K hK
          go_big_quiet_op
          go_big_quiet_on
          repeat (first | (refine wpR_det hp2 rfl ((hR.rel _).trans rfl) rfl ?_; intro K hK; go_big_quiet_op; go_big_quiet_on) | (refine wpR_ptr hp2 rfl ((hR.rel _).trans rfl) rfl rfl ?_; intro K hK; go_big_quiet_op; go_big_quiet_on) | (refine wpR_skip pick rfl ?_; intro K hK; go_big_quiet_op; go_big_quiet_on))
          refine wpR_rel pick rfl ((hR.rel _).trans rfl) ((hR.turns _).trans rfl) ?_ ?_
          · intro u hu
            have hk := hR.since hu.1
            have hks := hk.size
            have hz := fits_u way _ l x y (⟨y0, y1, y2, y3⟩ : Cd) u (hR.get 0 rfl (hu.2 _ _ (Got.upd_old (Got.upd_old (Got.upd_old (Got.upd_self _ _ _) rfl) rfl) rfl) (by kernel_rfl))) hl30 HR.out hx hx' hy hy'
            unfold Cd.agg at hz
            unfold relAt
            go_simp
            refine hz.mono ?_
            rintro e w' ⟨b', rfl, hb1, hb'⟩
            exact ⟨_, rfl, hR.intoB hb', hR.put 4 rfl rfl (congrArg Value.bool (Bool.eq_iff_iff.2 (hb1.trans HB.out.symm)))⟩
          intro v hv
          obtain ⟨u, _, hu⟩ := hv
          obtain rfl := hR.get 4 rfl hu
          clear hu
          intro K hK
          go_big_quiet_op
          go_big_quiet_on
          repeat (first | (refine wpR_det hp2 rfl ((hR.rel _).trans rfl) rfl ?_; intro K hK; go_big_quiet_op; go_big_quiet_on) | (refine wpR_ptr hp2 rfl ((hR.rel _).trans rfl) rfl rfl ?_; intro K hK; go_big_quiet_op; go_big_quiet_on) | (refine wpR_skip pick rfl ?_; intro K hK; go_big_quiet_op; go_big_quiet_on))
          refine wpR_rel pick rfl ((hR.rel _).trans rfl) ((hR.turns _).trans rfl) ?_ ?_
          · intro u hu
            have hk := hR.since hu.1
            have hks := hk.size
            unfold relAt
            go_simp
            refine (awake_any u).mono ?_
            rintro e w' ⟨rfl, hb'⟩
            exact ⟨_, rfl, hR.intoB hb', hR.put 5 rfl rfl rfl⟩
          intro v hv
          obtain ⟨u, _, hu⟩ := hv
          obtain rfl := hR.get 5 rfl hu
          clear hu
          intro K hK
          go_big_quiet_op
          go_big_quiet_on
          repeat (first | (refine wpR_det hp2 rfl ((hR.rel _).trans rfl) rfl ?_; intro K hK; go_big_quiet_op; go_big_quiet_on) | (refine wpR_ptr hp2 rfl ((hR.rel _).trans rfl) rfl rfl ?_; intro K hK; go_big_quiet_op; go_big_quiet_on) | (refine wpR_skip pick rfl ?_; intro K hK; go_big_quiet_op; go_big_quiet_on))
          refine wpR_nil ?_
          intro wZ hk2 hF hM
          have HBZ := Lib.hid (belK HFc.out.bel hk2)
          clear hF hM hk2 hp1 hp2 hR
          go_wp2_with fail
          go_ret
          exact ⟨rfl, HBZ.out⟩
end Go.Proofs.Ytpakfepjfcpjkaa
