/- slices.Index and slices.Contains at candidates. -/
import Derived.Test.YtpakfepjfcpjkaaSmPlain
import Derived.Test.YtpakfepjfcpjkaaRgW
namespace Go.Proofs.Ytpakfepjfcpjkaa
open Go.RowKit
set_option linter.unusedVariables false
def Cd.agg (c : Cd) : Value := .agg #[.int .i64 c.slot, .int .i64 c.backend, .int .i64 c.weight, .int .u32 c.load]
set_option maxHeartbeats 1000000 in
theorem index_any (A : Option Addr) (c : Nat) (l : List Cd) (x : Cd) (w : World) (hl : l.length ≤ 70) (hE : ES w w.heap.size A 4 (l.map Cd.cs)) :
    Calls Try.prog 28 #[.slice A l.length c, x.agg] w fun e w' => ∃ z : Int, e = .returned (.int .i64 z) ∧ (0 ≤ z ↔ x ∈ l) ∧ Below w.heap.size w w' := by
  have HE := Lib.hid hE
  clear hE
  obtain ⟨x0, x1, x2, x3⟩ := x
  unfold Cd.agg
  go_enter Try.func28, Try.ntmps28
  go_wp2_with fail
  obtain ⟨w1, hw1⟩ : ∃ w1 : World, w1 = w.alloc (.cells #[.int .i64 x0, .int .i64 x1, .int .i64 x2, .int .u32 x3] 45) := ⟨_, rfl⟩
  have HB := Lib.hid (show Below w.heap.size w w1 by rw [hw1]; exact (Below.refl _ _).alloc (Nat.le_refl _) _)
  have hc1 := (show Blk w1 w.heap.size 45 #[.int .i64 x0, .int .i64 x1, .int .i64 x2, .int .u32 x3] by rw [hw1]; exact Blk.new _ _ _).cell
  have e0 := hc1 0
  have e1 := hc1 1
  have e2 := hc1 2
  have e3 := hc1 3
  simp at e0 e1 e2 e3
  have hlt1 : w.heap.size < w1.heap.size := by rw [hw1]; simp
  rw [← hw1]
  clear hw1 hc1
  go_loopw [5, 8] (fun _ i wr => ∃ k : Nat, k ≤ l.length ∧ i = .int .i64 (k : Int) ∧ Hid (Kept (fun _ => False) w1 wr) ∧ Hid (∀ j (h : j < l.length), j < k → l[j] ≠ ⟨x0, x1, x2, x3⟩)) (fun _ i _ => l.length - (intOf i).toNat)
  case atStart => exact ⟨0, by omega, rfl, Lib.hid (Kept.refl _ _), Lib.hid (fun j h hj => by omega)⟩
  case round =>
    obtain ⟨k, hk, rfl, HK, HN⟩ := hrel
    have hsk := HK.out.size
    have clt : w.heap.size < wr.heap.size := by omega
    have f0 := (HK.out.cell hlt1 (fun h => h) _).trans e0
    have f1 := (HK.out.cell hlt1 (fun h => h) _).trans e1
    have f2 := (HK.out.cell hlt1 (fun h => h) _).trans e2
    have f3 := (HK.out.cell hlt1 (fun h => h) _).trans e3
    have HBR := Lib.hid (HB.out.trans (HK.out.below (by omega) (fun _ h => h.elim)))
    by_cases hkl : k < l.length
    · obtain ⟨b, o, hb, rfl, hel⟩ := HE.out.at (k := k) (by simpa using hkl)
      obtain ⟨c0, c1, c2, c3⟩ := cd_cells (hel.keep (w' := wr) (fun o => HBR.out.cell (p := ⟨b, o, none⟩) hb)) hkl
      have hkI : (k : Int) < (l.length : Int) := by omega
      have hk0 : (0 : Int) ≤ (k : Int) := by omega
      obtain ⟨y, hy⟩ : ∃ y, l[k] = y := ⟨_, rfl⟩
      rw [hy] at c0 c1 c2 c3
      obtain ⟨y0, y1, y2, y3⟩ := y
      simp only at c0 c1 c2 c3
      have blt : b < wr.heap.size := by omega
      clear hel e0 e1 e2 e3
      have HY := Lib.hid hy
      clear hy
      by_cases hn : x0 = y0
      · subst hn
        by_cases hn : x1 = y1
        · subst hn
          by_cases hn : x2 = y2
          · subst hn
            by_cases hn : x3 = y3
            · subst hn
              go_upto_region 4 with fail
              refine wp_region_kept 6 [] ?st ?ne rfl (by kernel_rfl) (by kernel_rfl) ?_
              case st => intro p hp; cases hp
              case ne => intro p hp; cases hp
              simp only [List.take_succ_cons, List.take_zero, List.drop_succ_cons, List.drop_zero]
              intro G pick hR hp1 hp2
              have p0 : ∀ u, (pick u).cell? ⟨w.heap.size, 0, none⟩ = some (.int .i64 x0) := fun u => ((hp1 u).cell clt (fun h => h) _).trans f0
              have p1 : ∀ u, (pick u).cell? ⟨w.heap.size, 1, none⟩ = some (.int .i64 x1) := fun u => ((hp1 u).cell clt (fun h => h) _).trans f1
              have p2 : ∀ u, (pick u).cell? ⟨w.heap.size, 2, none⟩ = some (.int .i64 x2) := fun u => ((hp1 u).cell clt (fun h => h) _).trans f2
              have p3 : ∀ u, (pick u).cell? ⟨w.heap.size, 3, none⟩ = some (.int .u32 x3) := fun u => ((hp1 u).cell clt (fun h => h) _).trans f3
              have q0 : ∀ u, (pick u).cell? ⟨b, o + k * 4, none⟩ = some (.int .i64 x0) := fun u => ((hp1 u).cell blt (fun h => h) _).trans c0
              have q1 : ∀ u, (pick u).cell? ⟨b, o + k * 4 + 1, none⟩ = some (.int .i64 x1) := fun u => ((hp1 u).cell blt (fun h => h) _).trans c1
              have q2 : ∀ u, (pick u).cell? ⟨b, o + k * 4 + 2, none⟩ = some (.int .i64 x2) := fun u => ((hp1 u).cell blt (fun h => h) _).trans c2
              have q3 : ∀ u, (pick u).cell? ⟨b, o + k * 4 + 3, none⟩ = some (.int .u32 x3) := fun u => ((hp1 u).cell blt (fun h => h) _).trans c3
              repeat (first | (refine wpR_det hp2 rfl ((hR.rel _).trans rfl) rfl ?_; intro K hK; go_big_quiet_op; go_big_quiet_on) | (refine wpR_ptr hp2 rfl ((hR.rel _).trans rfl) rfl rfl ?_; intro K hK; go_big_quiet_op; go_big_quiet_on) | (refine wpR_skip pick rfl ?_; intro K hK; go_big_quiet_op; go_big_quiet_on))
              refine wpR_nil ?_
              intro wX hk2 hF hM
              have HKX := Lib.hid (HK.out.trans hk2)
              clear hF hM hk2 hp1 hp2 hR p0 p1 p2 p3 q0 q1 q2 q3
              go_wp2_with fail
              go_ret
              exact ⟨_, rfl, ⟨fun _ => by rw [← HY.out]; exact List.getElem_mem _, fun _ => by omega⟩, HB.out.trans (HKX.out.below (by omega) (fun _ h => h.elim))⟩
            · go_upto_region 4 with fail
              refine wp_region_kept 6 [] ?st ?ne rfl (by kernel_rfl) (by kernel_rfl) ?_
              case st => intro p hp; cases hp
              case ne => intro p hp; cases hp
              simp only [List.take_succ_cons, List.take_zero, List.drop_succ_cons, List.drop_zero]
              intro G pick hR hp1 hp2
              have p0 : ∀ u, (pick u).cell? ⟨w.heap.size, 0, none⟩ = some (.int .i64 x0) := fun u => ((hp1 u).cell clt (fun h => h) _).trans f0
              have p1 : ∀ u, (pick u).cell? ⟨w.heap.size, 1, none⟩ = some (.int .i64 x1) := fun u => ((hp1 u).cell clt (fun h => h) _).trans f1
              have p2 : ∀ u, (pick u).cell? ⟨w.heap.size, 2, none⟩ = some (.int .i64 x2) := fun u => ((hp1 u).cell clt (fun h => h) _).trans f2
              have p3 : ∀ u, (pick u).cell? ⟨w.heap.size, 3, none⟩ = some (.int .u32 x3) := fun u => ((hp1 u).cell clt (fun h => h) _).trans f3
              have q0 : ∀ u, (pick u).cell? ⟨b, o + k * 4, none⟩ = some (.int .i64 x0) := fun u => ((hp1 u).cell blt (fun h => h) _).trans c0
              have q1 : ∀ u, (pick u).cell? ⟨b, o + k * 4 + 1, none⟩ = some (.int .i64 x1) := fun u => ((hp1 u).cell blt (fun h => h) _).trans c1
              have q2 : ∀ u, (pick u).cell? ⟨b, o + k * 4 + 2, none⟩ = some (.int .i64 x2) := fun u => ((hp1 u).cell blt (fun h => h) _).trans c2
              have q3 : ∀ u, (pick u).cell? ⟨b, o + k * 4 + 3, none⟩ = some (.int .u32 y3) := fun u => ((hp1 u).cell blt (fun h => h) _).trans c3
              repeat (first | (refine wpR_det hp2 rfl ((hR.rel _).trans rfl) rfl ?_; intro K hK; go_big_quiet_op; go_big_quiet_on) | (refine wpR_ptr hp2 rfl ((hR.rel _).trans rfl) rfl rfl ?_; intro K hK; go_big_quiet_op; go_big_quiet_on) | (refine wpR_skip pick rfl ?_; intro K hK; go_big_quiet_op; go_big_quiet_on))
              refine wpR_nil ?_
              intro wX hk2 hF hM
              have HKX := Lib.hid (HK.out.trans hk2)
              clear hF hM hk2 hp1 hp2 hR p0 p1 p2 p3 q0 q1 q2 q3
              go_wp2_with fail
              go_roundw
              case rel =>
                refine ⟨k + 1, by omega, by go_num, HKX, Lib.hid (fun j h hj => ?_)⟩
                by_cases e : j = k
                · subst e; rw [HY.out]; intro e; injection e with a0 a1 a2 a3; exact hn (a3.symm)
                · exact HN.out j h (by omega)
              case measure => simp [intOf]; omega
          · go_upto_region 4 with fail
            refine wp_region_kept 6 [] ?st ?ne rfl (by kernel_rfl) (by kernel_rfl) ?_
            case st => intro p hp; cases hp
            case ne => intro p hp; cases hp
            simp only [List.take_succ_cons, List.take_zero, List.drop_succ_cons, List.drop_zero]
            intro G pick hR hp1 hp2
            have p0 : ∀ u, (pick u).cell? ⟨w.heap.size, 0, none⟩ = some (.int .i64 x0) := fun u => ((hp1 u).cell clt (fun h => h) _).trans f0
            have p1 : ∀ u, (pick u).cell? ⟨w.heap.size, 1, none⟩ = some (.int .i64 x1) := fun u => ((hp1 u).cell clt (fun h => h) _).trans f1
            have p2 : ∀ u, (pick u).cell? ⟨w.heap.size, 2, none⟩ = some (.int .i64 x2) := fun u => ((hp1 u).cell clt (fun h => h) _).trans f2
            have p3 : ∀ u, (pick u).cell? ⟨w.heap.size, 3, none⟩ = some (.int .u32 x3) := fun u => ((hp1 u).cell clt (fun h => h) _).trans f3
            have q0 : ∀ u, (pick u).cell? ⟨b, o + k * 4, none⟩ = some (.int .i64 x0) := fun u => ((hp1 u).cell blt (fun h => h) _).trans c0
            have q1 : ∀ u, (pick u).cell? ⟨b, o + k * 4 + 1, none⟩ = some (.int .i64 x1) := fun u => ((hp1 u).cell blt (fun h => h) _).trans c1
            have q2 : ∀ u, (pick u).cell? ⟨b, o + k * 4 + 2, none⟩ = some (.int .i64 y2) := fun u => ((hp1 u).cell blt (fun h => h) _).trans c2
            have q3 : ∀ u, (pick u).cell? ⟨b, o + k * 4 + 3, none⟩ = some (.int .u32 y3) := fun u => ((hp1 u).cell blt (fun h => h) _).trans c3
            repeat (first | (refine wpR_det hp2 rfl ((hR.rel _).trans rfl) rfl ?_; intro K hK; go_big_quiet_op; go_big_quiet_on) | (refine wpR_ptr hp2 rfl ((hR.rel _).trans rfl) rfl rfl ?_; intro K hK; go_big_quiet_op; go_big_quiet_on) | (refine wpR_skip pick rfl ?_; intro K hK; go_big_quiet_op; go_big_quiet_on))
            refine wpR_nil ?_
            intro wX hk2 hF hM
            have HKX := Lib.hid (HK.out.trans hk2)
            clear hF hM hk2 hp1 hp2 hR p0 p1 p2 p3 q0 q1 q2 q3
            go_wp2_with fail
            go_roundw
            case rel =>
              refine ⟨k + 1, by omega, by go_num, HKX, Lib.hid (fun j h hj => ?_)⟩
              by_cases e : j = k
              · subst e; rw [HY.out]; intro e; injection e with a0 a1 a2 a3; exact hn (a2.symm)
              · exact HN.out j h (by omega)
            case measure => simp [intOf]; omega
        · go_upto_region 4 with fail
          refine wp_region_kept 6 [] ?st ?ne rfl (by kernel_rfl) (by kernel_rfl) ?_
          case st => intro p hp; cases hp
          case ne => intro p hp; cases hp
          simp only [List.take_succ_cons, List.take_zero, List.drop_succ_cons, List.drop_zero]
          intro G pick hR hp1 hp2
          have p0 : ∀ u, (pick u).cell? ⟨w.heap.size, 0, none⟩ = some (.int .i64 x0) := fun u => ((hp1 u).cell clt (fun h => h) _).trans f0
          have p1 : ∀ u, (pick u).cell? ⟨w.heap.size, 1, none⟩ = some (.int .i64 x1) := fun u => ((hp1 u).cell clt (fun h => h) _).trans f1
          have p2 : ∀ u, (pick u).cell? ⟨w.heap.size, 2, none⟩ = some (.int .i64 x2) := fun u => ((hp1 u).cell clt (fun h => h) _).trans f2
          have p3 : ∀ u, (pick u).cell? ⟨w.heap.size, 3, none⟩ = some (.int .u32 x3) := fun u => ((hp1 u).cell clt (fun h => h) _).trans f3
          have q0 : ∀ u, (pick u).cell? ⟨b, o + k * 4, none⟩ = some (.int .i64 x0) := fun u => ((hp1 u).cell blt (fun h => h) _).trans c0
          have q1 : ∀ u, (pick u).cell? ⟨b, o + k * 4 + 1, none⟩ = some (.int .i64 y1) := fun u => ((hp1 u).cell blt (fun h => h) _).trans c1
          have q2 : ∀ u, (pick u).cell? ⟨b, o + k * 4 + 2, none⟩ = some (.int .i64 y2) := fun u => ((hp1 u).cell blt (fun h => h) _).trans c2
          have q3 : ∀ u, (pick u).cell? ⟨b, o + k * 4 + 3, none⟩ = some (.int .u32 y3) := fun u => ((hp1 u).cell blt (fun h => h) _).trans c3
          repeat (first | (refine wpR_det hp2 rfl ((hR.rel _).trans rfl) rfl ?_; intro K hK; go_big_quiet_op; go_big_quiet_on) | (refine wpR_ptr hp2 rfl ((hR.rel _).trans rfl) rfl rfl ?_; intro K hK; go_big_quiet_op; go_big_quiet_on) | (refine wpR_skip pick rfl ?_; intro K hK; go_big_quiet_op; go_big_quiet_on))
          refine wpR_nil ?_
          intro wX hk2 hF hM
          have HKX := Lib.hid (HK.out.trans hk2)
          clear hF hM hk2 hp1 hp2 hR p0 p1 p2 p3 q0 q1 q2 q3
          go_wp2_with fail
          go_roundw
          case rel =>
            refine ⟨k + 1, by omega, by go_num, HKX, Lib.hid (fun j h hj => ?_)⟩
            by_cases e : j = k
            · subst e; rw [HY.out]; intro e; injection e with a0 a1 a2 a3; exact hn (a1.symm)
            · exact HN.out j h (by omega)
          case measure => simp [intOf]; omega
      · go_upto_region 4 with fail
        refine wp_region_kept 6 [] ?st ?ne rfl (by kernel_rfl) (by kernel_rfl) ?_
        case st => intro p hp; cases hp
        case ne => intro p hp; cases hp
        simp only [List.take_succ_cons, List.take_zero, List.drop_succ_cons, List.drop_zero]
        intro G pick hR hp1 hp2
        have p0 : ∀ u, (pick u).cell? ⟨w.heap.size, 0, none⟩ = some (.int .i64 x0) := fun u => ((hp1 u).cell clt (fun h => h) _).trans f0
        have p1 : ∀ u, (pick u).cell? ⟨w.heap.size, 1, none⟩ = some (.int .i64 x1) := fun u => ((hp1 u).cell clt (fun h => h) _).trans f1
        have p2 : ∀ u, (pick u).cell? ⟨w.heap.size, 2, none⟩ = some (.int .i64 x2) := fun u => ((hp1 u).cell clt (fun h => h) _).trans f2
        have p3 : ∀ u, (pick u).cell? ⟨w.heap.size, 3, none⟩ = some (.int .u32 x3) := fun u => ((hp1 u).cell clt (fun h => h) _).trans f3
        have q0 : ∀ u, (pick u).cell? ⟨b, o + k * 4, none⟩ = some (.int .i64 y0) := fun u => ((hp1 u).cell blt (fun h => h) _).trans c0
        have q1 : ∀ u, (pick u).cell? ⟨b, o + k * 4 + 1, none⟩ = some (.int .i64 y1) := fun u => ((hp1 u).cell blt (fun h => h) _).trans c1
        have q2 : ∀ u, (pick u).cell? ⟨b, o + k * 4 + 2, none⟩ = some (.int .i64 y2) := fun u => ((hp1 u).cell blt (fun h => h) _).trans c2
        have q3 : ∀ u, (pick u).cell? ⟨b, o + k * 4 + 3, none⟩ = some (.int .u32 y3) := fun u => ((hp1 u).cell blt (fun h => h) _).trans c3
        repeat (first | (refine wpR_det hp2 rfl ((hR.rel _).trans rfl) rfl ?_; intro K hK; go_big_quiet_op; go_big_quiet_on) | (refine wpR_ptr hp2 rfl ((hR.rel _).trans rfl) rfl rfl ?_; intro K hK; go_big_quiet_op; go_big_quiet_on) | (refine wpR_skip pick rfl ?_; intro K hK; go_big_quiet_op; go_big_quiet_on))
        refine wpR_nil ?_
        intro wX hk2 hF hM
        have HKX := Lib.hid (HK.out.trans hk2)
        clear hF hM hk2 hp1 hp2 hR p0 p1 p2 p3 q0 q1 q2 q3
        go_wp2_with fail
        go_roundw
        case rel =>
          refine ⟨k + 1, by omega, by go_num, HKX, Lib.hid (fun j h hj => ?_)⟩
          by_cases e : j = k
          · subst e; rw [HY.out]; intro e; injection e with a0 a1 a2 a3; exact hn (a0.symm)
          · exact HN.out j h (by omega)
        case measure => simp [intOf]; omega
    · obtain rfl : k = l.length := by omega
      go_wp2_with fail
      go_ret
      refine ⟨_, rfl, ⟨fun h => by omega, fun h => ?_⟩, HBR.out⟩
      obtain ⟨j, hj, e⟩ := List.mem_iff_getElem.1 h
      exact absurd e (HN.out j hj hj)
theorem contains_any (A : Option Addr) (c : Nat) (l : List Cd) (x : Cd) (w : World) (hl : l.length ≤ 70) (hE : ES w w.heap.size A 4 (l.map Cd.cs)) :
    Calls Try.prog 25 #[.slice A l.length c, x.agg] w fun e w' => ∃ b : Bool, e = .returned (.bool b) ∧ (b = true ↔ x ∈ l) ∧ Below w.heap.size w w' := by
  have HI := Lib.hid (fun u (h : ES u u.heap.size A 4 (l.map Cd.cs)) => index_any A c l x u hl h)
  have HE := Lib.hid hE
  clear hE
  obtain ⟨x0, x1, x2, x3⟩ := x
  unfold Cd.agg at HI ⊢
  go_enter Try.func25, Try.ntmps25
  go_wp2_with fail
  refine (HI.out _ ((HE.out.alloc (Nat.le_refl _) _).more (by simp))).mono ?_
  rintro e w1 ⟨z, rfl, hz, hb⟩
  have HB := Lib.hid hb
  have HZ := Lib.hid hz
  clear hb hz
  go_wp2_with fail
  go_ret
  exact ⟨_, rfl, by simpa using HZ.out, Kept.below (S := fun _ => False) (((Kept.refl _ _).alloc _).then (Kept.ofB (S := fun _ => False) HB.out) (fun _ _ h => h.elim)) (Nat.le_refl _) (fun i h => h.elim)⟩
end Go.Proofs.Ytpakfepjfcpjkaa
