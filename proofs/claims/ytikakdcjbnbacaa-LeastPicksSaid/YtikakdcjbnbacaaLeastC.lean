/- Contracts of least.Pick and of the reference's Pick of layer 20. -/
import Derived.Test.YtikakdcjbnbacaaSmPlainC
import Derived.Outline
import Derived.Deep.Light
namespace Go.Proofs.Ytikakdcjbnbacaa
open Go.RowKit
set_option linter.unusedVariables false

def lf (l : List Cd) (i : Nat) : Int := -(l.getD i ⟨0, 0, 0, 0⟩).load
/-- The first of the least loads, of the first k. -/
def lbTo (l : List Cd) (k : Nat) : Nat := bestTo (lf l) k
theorem lf_at (l : List Cd) (i : Nat) (h : i < l.length) : lf l i = -l[i].load := by unfold lf; simp [List.getD_eq_getElem?_getD, h]
theorem lbTo_succ (l : List Cd) (k : Nat) (hk : k < l.length) (x y : Cd) (hx : l[k]? = some x) (hy : l[lbTo l k]? = some y) : lbTo l (k + 1) = if x.load < y.load then k else lbTo l k := by
  obtain ⟨h1, rfl⟩ := List.getElem?_eq_some_iff.1 hx
  obtain ⟨h2, rfl⟩ := List.getElem?_eq_some_iff.1 hy
  unfold lbTo at h2 ⊢
  rw [bestTo, lf_at l k hk, lf_at l _ h2]
  by_cases h : l[k].load < l[bestTo (lf l) k].load
  · rw [if_pos (by omega), if_pos h]
  · rw [if_neg (by omega), if_neg h]
theorem lbTo_lt (l : List Cd) (k : Nat) (h : 0 < k) : lbTo l k < k := bestTo_lt _ _ h
theorem lbTo_one (l : List Cd) : lbTo l 1 = 0 := by have := lbTo_lt l 1 (by omega); omega
def Rising (l : List Cd) : Prop := ∀ i j (hj : j < l.length) (hij : i < j), l[i].slot < l[j].slot
theorem lpick_nil (A : Option Addr) (c : Nat) (w : World) : Calls Try.prog 8 #[.slice A 0 c] w fun e w' => e = .returned (.tuple #[.agg #[.int .i64 0, .int .i64 0, .int .i64 0, .int .u32 0], .bool false]) ∧ Below w.heap.size w w' := by
  go_enter Try.func8, Try.ntmps8
  go_wp2_with fail
  exact bodyPost_ret (v := .tuple #[.agg #[.int .i64 0, .int .i64 0, .int .i64 0, .int .u32 0], .bool false]) (by simp [results, Try.results8, go_sem]) rfl ⟨rfl, (Below.refl _ _).alloc (Nat.le_refl _) _⟩
def LPost (l : List Cd) (w : World) (e : Ending) (w' : World) : Prop := ∃ x : Cd, l[lbTo l l.length]? = some x ∧ e = .returned (.tuple #[.agg #[.int .i64 x.slot, .int .i64 x.backend, .int .i64 x.weight, .int .u32 x.load], .bool true]) ∧ Below w.heap.size w w'
set_option maxRecDepth 100000 in
set_option maxHeartbeats 2000000 in
theorem lpick_any (A : Option Addr) (c : Nat) (l : List Cd) (w : World) (h0 : 0 < l.length) (hl : l.length ≤ 100) (hc : l.length ≤ c) (hcm : c ≤ maxLen) (hs : Rising l) (hE : ES w w.heap.size A 4 (l.map Cd.cs)) :
    Calls Try.prog 8 #[.slice A l.length c] w (LPost l w) := by
  unfold maxLen at hcm
  obtain ⟨b, o, hb, rfl, hel⟩ := hE.at (k := 0) (by simpa using h0)
  have HEL := Lib.hid hel
  have HS := Lib.hid hs
  obtain ⟨x0, hx0⟩ : ∃ x, l[0]? = some x := ⟨_, List.getElem?_eq_getElem h0⟩
  have HX0 := Lib.hid hx0
  obtain ⟨c0, c1, c2, c3⟩ := cd_cells hel h0
  rw [show l[0] = x0 from (List.getElem?_eq_some_iff.1 hx0).2] at c0 c1 c2 c3
  simp only [Nat.zero_mul, Nat.add_zero] at c0 c1 c2 c3
  have hz : ((l.length : Int) == 0) = false := beq_eq_false_iff_ne.2 (by omega)
  have hb1 : b < w.heap.size + 1 := by omega
  have hb2 : b < w.heap.size + 1 + 1 := by omega
  clear hE hel hs hx0
  by_cases hc1 : c = 1
  · subst hc1
    have hl1 : l.length = 1 := by omega
    have HL1 := Lib.hid hl1
    rw [hl1]
    clear hl1 hz
    go_enter Try.func8, Try.ntmps8
    go_wp2_with fail
    refine wp_loop_rounds 1 ?_; rw [rounds_succ]
    go_wp2_with fail
    refine bodyPost_ret (results_blk_tmp (P := Try.prog) Try.results8 _ _ w.heap.size 29 #[.int .i64 x0.slot, .int .i64 x0.backend, .int .i64 x0.weight, .int .u32 x0.load] _ rfl ?_ Try.underlying29 rfl (by kernel_rfl)) rfl ⟨x0, by rw [HL1.out, lbTo_one]; exact HX0.out, rfl, ?_⟩
    · go_light
      repeat (first | (with_reducible exact Blk.new _ _ _) | (with_reducible apply Blk.set_to) | ((with_reducible apply Blk.far'); omega) | (with_reducible apply Blk.alloc))
    · go_light
      refine Kept.below (S := fun i => w.heap.size ≤ i) ?_ (Nat.le_refl _) (fun i h => h)
      repeat (first | (with_reducible exact Kept.refl _ _) | ((with_reducible apply Kept.setNew); omega) | (with_reducible apply Kept.alloc))
  · have hc1' : ¬ 1 = c := fun h => hc1 h.symm
    go_enter Try.func8, Try.ntmps8
    go_wp2_with fail
    clear c0 c1 c2 c3
    go_loopw [6, 17] (fun _ i wr => ∃ (k : Nat) (y : Cd), k + 1 ≤ l.length ∧ i = .int .i64 (k : Int) ∧ Hid (l[lbTo l (k + 1)]? = some y) ∧ Hid (Blk wr w.heap.size 29 #[.int .i64 0, .int .i64 0, .int .i64 0, .int .u32 0]) ∧ Hid (Blk wr (w.heap.size + 1) 29 #[.int .i64 y.slot, .int .i64 y.backend, .int .i64 y.weight, .int .u32 y.load]) ∧ Hid (Kept (fun i => w.heap.size ≤ i) w wr)) (fun _ i _ => l.length - (intOf i).toNat)
    case atStart => exact ⟨0, x0, by omega, rfl, Lib.hid (by rw [lbTo_one]; exact HX0.out), Lib.hid ((Blk.new _ _ _).alloc _), Lib.hid (Blk.new_ (by simp) _ _), Lib.hid (((Kept.refl _ _).alloc _).alloc _)⟩
    case round =>
      obtain ⟨k, y, hk, rfl, HY, HR, HBY, HK⟩ := hrel
      have hsw := HK.out.size
      have lR := HR.out.lt
      have lY := HBY.out.lt
      have cY := HBY.out.cell
      have fY := HBY.out.frozen
      by_cases hkl : k + 1 < l.length
      · have hkI : (k : Int) < (l.length : Int) - 1 := by omega
        have hkN : k < l.length - 1 := by omega
        obtain ⟨x, hx⟩ : ∃ x, l[k + 1]? = some x := ⟨_, List.getElem?_eq_getElem hkl⟩
        obtain ⟨d0, d1, d2, d3⟩ := cd_cells (HEL.out.keep (fun o => HK.out.cell hb (by omega) o)) hkl
        rw [show l[k + 1] = x from (List.getElem?_eq_some_iff.1 hx).2] at d0 d1 d2 d3
        rw [show o + (k + 1) * 4 = o + 4 + k * 4 by omega] at d0 d1 d2 d3
        have HSU := Lib.hid (lbTo_succ l (k + 1) hkl x y hx HY.out)
        have HX := Lib.hid hx
        have hsl : y.slot < x.slot := by
          have h1 := lbTo_lt l (k + 1) (by omega)
          obtain ⟨h2, e2⟩ := List.getElem?_eq_some_iff.1 HY.out
          obtain ⟨h3, e3⟩ := List.getElem?_eq_some_iff.1 hx
          have := HS.out (lbTo l (k + 1)) (k + 1) h3 h1
          rw [e2, e3] at this; exact this
        have hsl' : ¬ x.slot < y.slot := by omega
        have blt : b < wr.heap.size := by omega
        clear hx
        by_cases hlt : x.load < y.load
        · have HSU2 := Lib.hid (HSU.out.trans (by rw [if_pos hlt]))
          go_wp2_with fail
          go_roundw
          case rel =>
            go_light
            refine ⟨k + 1, x, by omega, by go_num, Lib.hid (by rw [HSU2.out]; exact HX.out), Lib.hid ?_, Lib.hid ?_, Lib.hid ?_⟩
            · repeat (first | ((with_reducible apply Blk.far'); omega) | (with_reducible apply Blk.alloc))
              exact HR.out
            · repeat (first | (with_reducible apply Blk.set_to) | ((with_reducible apply Blk.far'); omega) | (with_reducible apply Blk.alloc))
              exact HBY.out
              all_goals rfl
            · repeat (first | ((with_reducible apply Kept.setIn); omega) | (with_reducible apply Kept.alloc))
              exact HK.out
          case measure => simp [intOf]; omega
        · have HSU2 := Lib.hid (HSU.out.trans (by rw [if_neg hlt]))
          by_cases heq : x.load = y.load
          · have heq' : (x.load == y.load) = true := by simp [heq]
            clear heq
            go_wp2_with fail
            go_roundw
            case rel => exact ⟨k + 1, y, by omega, by go_num, Lib.hid (by rw [HSU2.out]; exact HY.out), Lib.hid (HR.out.alloc _), Lib.hid (HBY.out.alloc _), Lib.hid (HK.out.alloc _)⟩
            case measure => simp [intOf]; omega
          · have heq' : (x.load == y.load) = false := by simp [heq]
            clear heq
            go_wp2_with fail
            go_roundw
            case rel => exact ⟨k + 1, y, by omega, by go_num, Lib.hid (by rw [HSU2.out]; exact HY.out), Lib.hid (HR.out.alloc _), Lib.hid (HBY.out.alloc _), Lib.hid (HK.out.alloc _)⟩
            case measure => simp [intOf]; omega
      · have HL := Lib.hid (show k + 1 = l.length by omega)
        have cR := HR.out.cell
        have fR := HR.out.frozen
        go_wp2_with fail
        refine bodyPost_ret (results_blk_tmp (P := Try.prog) Try.results8 _ _ w.heap.size 29 #[.int .i64 y.slot, .int .i64 y.backend, .int .i64 y.weight, .int .u32 y.load] _ rfl ?_ Try.underlying29 rfl (by kernel_rfl)) rfl ⟨y, by rw [← HL.out]; exact HY.out, rfl, ?_⟩
        · go_light
          repeat (first | (with_reducible apply Blk.set_to) | ((with_reducible apply Blk.far'); omega) | (with_reducible apply Blk.alloc))
          exact HR.out
          all_goals rfl
        · go_light
          refine Kept.below (S := fun i => w.heap.size ≤ i) ?_ (Nat.le_refl _) (fun i h => h)
          repeat (first | ((with_reducible apply Kept.setNew); omega) | (with_reducible apply Kept.alloc))
          exact HK.out
theorem refLp_nil (A : Option Addr) (c : Nat) (w : World) : Calls Try.prog 9 #[.slice A 0 c] w fun e w' => e = .returned (.int .i64 (-1)) ∧ w = w' := by
  go_enter Try.func9, Try.ntmps9
  go_wp2_with fail
  refine wp_loop_rounds 1 ?_; rw [rounds_succ]
  go_wp2_with fail
  go_ret
  exact ⟨rfl, rfl⟩
set_option maxRecDepth 100000 in
set_option maxHeartbeats 2000000 in
theorem refLp_any (A : Option Addr) (c : Nat) (l : List Cd) (w : World) (h0 : 0 < l.length) (hl : l.length ≤ 100) (hE : ES w w.heap.size A 4 (l.map Cd.cs)) :
    Calls Try.prog 9 #[.slice A l.length c] w fun e w' => e = .returned (.int .i64 (lbTo l l.length : Int)) ∧ Below w.heap.size w w' := by
  obtain ⟨b, o, hb, rfl, hel⟩ := hE.at (k := 0) (by simpa using h0)
  have HEL := Lib.hid hel
  clear hE hel
  go_enter Try.func9, Try.ntmps9
  go_wp2_with fail
  go_loopw [3, 4] (fun v i wr => ∃ k : Nat, k ≤ l.length ∧ i = .int .i64 (k : Int) ∧ v = .int .i64 (if k = 0 then -1 else (lbTo l k : Int)) ∧ Hid (Below w.heap.size w wr)) (fun _ i _ => l.length - (intOf i).toNat)
  case atStart => exact ⟨0, by omega, rfl, rfl, Lib.hid (Below.refl _ _)⟩
  case round =>
    obtain ⟨k, hk, rfl, rfl, HW⟩ := hrel
    have hsw := HW.out.size
    by_cases hkl : k < l.length
    · have hkI : (k : Int) < (l.length : Int) := by omega
      rcases Nat.eq_zero_or_pos k with rfl | hkp
      · rw [if_pos rfl]
        go_wp2_with fail
        refine wp_region_kept 15 [] ?st ?ne rfl (by kernel_rfl) (by kernel_rfl) ?_
        case st => intro p hp; cases hp
        case ne => intro p hp; cases hp
        simp only [List.take_succ_cons, List.take_zero, List.drop_succ_cons, List.drop_zero]
        intro G pick hR hp1 hp2
        repeat (first | (refine wpR_det hp2 rfl ((hR.rel _).trans rfl) rfl ?_; intro K hK; go_big_quiet_op; go_big_quiet_on) | (refine wpR_ptr hp2 rfl ((hR.rel _).trans rfl) rfl rfl ?_; intro K hK; go_big_quiet_op; go_big_quiet_on) | (refine wpR_skip pick rfl ?_; intro K hK; go_big_quiet_op; go_big_quiet_on))
        refine wpR_nil ?_
        intro w3 hk2 hF hM
        have HB2 := Lib.hid (HW.out.trans (hk2.below hsw (fun _ h => h.elim)))
        clear hF hM hk2 hp1 hp2 hR
        go_wp2_with fail
        go_roundw
        case rel => exact ⟨1, by omega, rfl, by rw [if_neg (by omega), lbTo_one], HB2⟩
        case measure => simp [intOf]; omega
      · have hlb := lbTo_lt l k hkp
        obtain ⟨x, hx⟩ : ∃ x, l[k]? = some x := ⟨_, List.getElem?_eq_getElem hkl⟩
        obtain ⟨y, hy⟩ : ∃ y, l[lbTo l k]? = some y := ⟨_, List.getElem?_eq_getElem (by omega)⟩
        have hel := HEL.out.keep (w' := wr) (fun o => HW.out.cell (p := ⟨b, o, none⟩) hb)
        obtain ⟨-, -, -, d3⟩ := cd_cells hel hkl
        obtain ⟨-, -, -, e3⟩ := cd_cells hel (show lbTo l k < l.length by omega)
        rw [show l[k] = x from (List.getElem?_eq_some_iff.1 hx).2] at d3
        rw [show (l[lbTo l k]'(by omega)) = y from (List.getElem?_eq_some_iff.1 hy).2] at e3
        have HSU := Lib.hid (lbTo_succ l k hkl x y hx hy)
        rw [if_neg (by omega)]
        have hne : ¬ k + 1 = 0 := by omega
        obtain ⟨B, hB⟩ : ∃ B, lbTo l k = B := ⟨_, rfl⟩
        rw [hB] at hlb e3 HSU ⊢
        have hBI : (B : Int) < (l.length : Int) := by omega
        have hB0 : (0 : Int) ≤ (B : Int) := by omega
        have hBn : ¬ (B : Int) < 0 := by omega
        have hBd : decide ((B : Int) < 0) = false := by simp
        have hk0 : (0 : Int) ≤ (k : Int) := by omega
        have blt : b < wr.heap.size := by omega
        clear hx hy hel hB
        by_cases hlt : x.load < y.load
        · have HSU2 := Lib.hid (HSU.out.trans (by rw [if_pos hlt]))
          go_wp2_with fail
          refine wp_region_kept 15 [] ?st ?ne rfl (by kernel_rfl) (by kernel_rfl) ?_
          case st => intro p hp; cases hp
          case ne => intro p hp; cases hp
          simp only [List.take_succ_cons, List.take_zero, List.drop_succ_cons, List.drop_zero]
          intro G pick hR hp1 hp2
          have p1 : ∀ u, (pick u).cell? ⟨b, o + k * 4 + 3, none⟩ = some (.int .u32 x.load) := fun u => ((hp1 u).cell blt (fun h => h) _).trans d3
          have p2 : ∀ u, (pick u).cell? ⟨b, o + B * 4 + 3, none⟩ = some (.int .u32 y.load) := fun u => ((hp1 u).cell blt (fun h => h) _).trans e3
          repeat (first | (refine wpR_det hp2 rfl ((hR.rel _).trans rfl) rfl ?_; intro K hK; go_big_quiet_op; go_big_quiet_on) | (refine wpR_ptr hp2 rfl ((hR.rel _).trans rfl) rfl rfl ?_; intro K hK; go_big_quiet_op; go_big_quiet_on) | (refine wpR_skip pick rfl ?_; intro K hK; go_big_quiet_op; go_big_quiet_on))
          refine wpR_nil ?_
          intro w3 hk2 hF hM
          have HB2 := Lib.hid (HW.out.trans (hk2.below hsw (fun _ h => h.elim)))
          clear hF hM hk2 hp1 hp2 hR p1 p2
          go_wp2_with fail
          go_roundw
          case rel => exact ⟨k + 1, by omega, by go_num, by rw [if_neg hne, HSU2.out], HB2⟩
          case measure => simp [intOf]; omega
        · have HSU2 := Lib.hid (HSU.out.trans (by rw [if_neg hlt]))
          go_wp2_with fail
          refine wp_region_kept 15 [] ?st ?ne rfl (by kernel_rfl) (by kernel_rfl) ?_
          case st => intro p hp; cases hp
          case ne => intro p hp; cases hp
          simp only [List.take_succ_cons, List.take_zero, List.drop_succ_cons, List.drop_zero]
          intro G pick hR hp1 hp2
          have p1 : ∀ u, (pick u).cell? ⟨b, o + k * 4 + 3, none⟩ = some (.int .u32 x.load) := fun u => ((hp1 u).cell blt (fun h => h) _).trans d3
          have p2 : ∀ u, (pick u).cell? ⟨b, o + B * 4 + 3, none⟩ = some (.int .u32 y.load) := fun u => ((hp1 u).cell blt (fun h => h) _).trans e3
          repeat (first | (refine wpR_det hp2 rfl ((hR.rel _).trans rfl) rfl ?_; intro K hK; go_big_quiet_op; go_big_quiet_on) | (refine wpR_ptr hp2 rfl ((hR.rel _).trans rfl) rfl rfl ?_; intro K hK; go_big_quiet_op; go_big_quiet_on) | (refine wpR_skip pick rfl ?_; intro K hK; go_big_quiet_op; go_big_quiet_on))
          refine wpR_nil ?_
          intro w3 hk2 hF hM
          have HB2 := Lib.hid (HW.out.trans (hk2.below hsw (fun _ h => h.elim)))
          clear hF hM hk2 hp1 hp2 hR p1 p2
          go_wp2_with fail
          go_roundw
          case rel => exact ⟨k + 1, by omega, by go_num, by rw [if_neg hne, HSU2.out], HB2⟩
          case measure => simp [intOf]; omega
    · obtain rfl : k = l.length := by omega
      rw [if_neg (by omega)]
      go_wp2_with fail
      go_ret
      exact ⟨rfl, HW.out⟩
end Go.Proofs.Ytikakdcjbnbacaa
