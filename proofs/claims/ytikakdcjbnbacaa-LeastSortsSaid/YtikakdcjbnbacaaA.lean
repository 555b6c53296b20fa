/- Items in memory; Compare, order, Less, Swap, Len of a pile. -/
import Derived.Test.YtikakdcjbnbacaaOpenN
import Derived.Test.YtikakdcjbnbacaaRgRow
import Derived.Test.YtikakdcjbnbacaaRowX
import Derived.Test.YtikakdcjbnbacaaRowE
import Derived.Test.YtikakdcjbnbacaaRows
import Derived.Deep.Light
import Derived.Outline
namespace Go.Proofs.Ytikakdcjbnbacaa
open Go.RowKit
set_option linter.unusedVariables false
structure It where
  w : Int
  id : Int
deriving DecidableEq
def It.cs (x : It) : List Value := [.int .u64 x.w, .int .i64 x.id]
theorem It.cs_len (x : It) : x.cs.length = 2 := rfl
def It.wf (x : It) : Prop := 0 ≤ x.w ∧ x.w ≤ 18446744073709551615
def ltI (a b : It) : Prop := a.w < b.w ∨ (a.w = b.w ∧ a.id < b.id)
instance (a b : It) : Decidable (ltI a b) := by unfold ltI; infer_instance
def ltB (a b : It) : Bool := decide (ltI a b)
def ordZ (x y : Int) : Int := if x < y then -1 else if y < x then 1 else 0
def ordI (a b : It) : Int := if ordZ a.w b.w = 0 then ordZ a.id b.id else ordZ a.w b.w
theorem ordZ_cases (x y : Int) : (ordZ x y = -1 ∧ x < y) ∨ (ordZ x y = 0 ∧ x = y) ∨ (ordZ x y = 1 ∧ y < x) := by
  unfold ordZ
  rcases Int.lt_trichotomy x y with h | h | h
  · exact .inl ⟨by rw [if_pos h], h⟩
  · exact .inr (.inl ⟨by rw [if_neg (by omega), if_neg (by omega)], h⟩)
  · exact .inr (.inr ⟨by rw [if_neg (by omega), if_pos h], h⟩)
theorem ordI_lt (a b : It) : decide (ordI a b < 0) = ltB a b := by
  unfold ltB
  apply decide_eq_decide.2
  unfold ordI ltI
  rcases ordZ_cases a.w b.w with ⟨e, h⟩ | ⟨e, h⟩ | ⟨e, h⟩ <;> rcases ordZ_cases a.id b.id with ⟨e', h'⟩ | ⟨e', h'⟩ | ⟨e', h'⟩ <;> rw [e, e'] <;> split <;> omega
theorem isNaN_u (x : Int) (w : World) : Calls Try.prog 53 #[.int .u64 x] w fun e w' => e = .returned (.bool false) ∧ w = w' := by
  have hxx : (x != x) = false := by simp
  go_enter Try.func53, Try.ntmps53
  go_wp2
  go_ret
  exact ⟨rfl, rfl⟩
theorem isNaN_i (x : Int) (w : World) : Calls Try.prog 54 #[.int .i64 x] w fun e w' => e = .returned (.bool false) ∧ w = w' := by
  have hxx : (x != x) = false := by simp
  go_enter Try.func54, Try.ntmps54
  go_wp2
  go_ret
  exact ⟨rfl, rfl⟩
theorem cmp_u (x y : Int) (w : World) : Calls Try.prog 51 #[.int .u64 x, .int .u64 y] w fun e w' => e = .returned (.int .i64 (ordZ x y)) ∧ w = w' := by
  have hxx : (x != x) = false := by simp
  have hyy : (y != y) = false := by simp
  rcases Int.lt_trichotomy x y with h | h | h
  · have hz : ordZ x y = -1 := by unfold ordZ; rw [if_pos h]
    rw [hz]
    clear hz
    go_enter Try.func51, Try.ntmps51
    go_wp2
    go_ret
    exact ⟨rfl, rfl⟩
  · subst h
    have hz : ordZ x x = 0 := by unfold ordZ; simp
    rw [hz]
    clear hz
    go_enter Try.func51, Try.ntmps51
    go_wp2
    go_ret
    exact ⟨rfl, rfl⟩
  · have hz : ordZ x y = 1 := by unfold ordZ; rw [if_neg (by omega), if_pos h]
    have h1 : ¬ x < y := by omega
    rw [hz]
    clear hz
    go_enter Try.func51, Try.ntmps51
    go_wp2
    go_ret
    exact ⟨rfl, rfl⟩
theorem cmp_i (x y : Int) (w : World) : Calls Try.prog 52 #[.int .i64 x, .int .i64 y] w fun e w' => e = .returned (.int .i64 (ordZ x y)) ∧ w = w' := by
  have hxx : (x != x) = false := by simp
  have hyy : (y != y) = false := by simp
  rcases Int.lt_trichotomy x y with h | h | h
  · have hz : ordZ x y = -1 := by unfold ordZ; rw [if_pos h]
    rw [hz]
    clear hz
    go_enter Try.func52, Try.ntmps52
    go_wp2
    go_ret
    exact ⟨rfl, rfl⟩
  · subst h
    have hz : ordZ x x = 0 := by unfold ordZ; simp
    rw [hz]
    clear hz
    go_enter Try.func52, Try.ntmps52
    go_wp2
    go_ret
    exact ⟨rfl, rfl⟩
  · have hz : ordZ x y = 1 := by unfold ordZ; rw [if_neg (by omega), if_pos h]
    have h1 : ¬ x < y := by omega
    rw [hz]
    clear hz
    go_enter Try.func52, Try.ntmps52
    go_wp2
    go_ret
    exact ⟨rfl, rfl⟩
theorem order_any (a b : It) (w : World) : Calls Try.prog 50 #[.agg #[.int .u64 a.w, .int .i64 a.id], .agg #[.int .u64 b.w, .int .i64 b.id]] w fun e w' => e = .returned (.int .i64 (ordI a b)) ∧ Below w.heap.size w w' := by
  have hbel : ∀ o o', Below w.heap.size w ((w.alloc o).alloc o') := fun o o' => ((Below.refl _ _).alloc (Nat.le_refl _) _).alloc (by simp) _
  obtain ⟨z, hz⟩ : ∃ z, ordZ a.w b.w = z := ⟨_, rfl⟩
  obtain ⟨t, ht⟩ : ∃ t, ordZ a.id b.id = t := ⟨_, rfl⟩
  have HO := Lib.hid (show ordI a b = if z = 0 then t else z by unfold ordI; rw [hz, ht])
  have H1 := Lib.hid (fun u => cmp_u a.w b.w u)
  have H2 := Lib.hid (fun u => cmp_i a.id b.id u)
  rw [hz] at H1
  rw [ht] at H2
  have HBB := Lib.hid hbel
  clear hz ht hbel
  by_cases h0 : z = 0
  · subst h0
    go_enter Try.func50, Try.ntmps50
    go_wp2_with fail
    refine (H1.out _).mono ?_
    rintro e w1 ⟨rfl, rfl⟩
    go_wp2_with fail
    refine (H2.out _).mono ?_
    rintro e w1 ⟨rfl, rfl⟩
    go_wp2_with fail
    go_ret
    exact ⟨ret_int (by rw [HO.out]; rfl), HBB.out _ _⟩
  · have hb : (z == 0) = false := by simpa using h0
    have HZ := Lib.hid h0
    clear h0
    go_enter Try.func50, Try.ntmps50
    go_wp2_with fail
    refine (H1.out _).mono ?_
    rintro e w1 ⟨rfl, rfl⟩
    go_wp2_with fail
    go_ret
    exact ⟨ret_int (by rw [HO.out, if_neg HZ.out]), HBB.out _ _⟩
theorem len_pile (A : Option Addr) (n c : Nat) (w : World) : Calls Try.prog 26 #[.slice A n c] w fun e w' => e = .returned (.int .i64 (n : Int)) ∧ w = w' := by
  go_enter Try.func26, Try.ntmps26
  go_wp2_with fail
  go_ret
  exact ⟨rfl, rfl⟩
theorem it_cells {w : World} {b off k : Nat} {L : List It} (h : ElAt w b off 2 (L.map It.cs)) (hk : k < L.length) :
    w.cell? ⟨b, off + k * 2, none⟩ = some (.int .u64 L[k].w) ∧ w.cell? ⟨b, off + k * 2 + 1, none⟩ = some (.int .i64 L[k].id) := by
  have hk' : k < (L.map It.cs).length := by simpa using hk
  have h0 := h.get0 hk' (by omega)
  have h1 := h.get hk' 1 (by omega)
  simp [It.cs] at h0 h1
  exact ⟨h0, h1⟩
theorem it_one (x : It) : ∀ u ∈ [x.cs].flatten, u.oneCell' = true := by
  intro u hu
  simp [It.cs] at hu
  rcases hu with rfl | rfl <;> rfl
set_option maxHeartbeats 2000000 in
theorem less_any (A : Option Addr) (c : Nat) (H : List It) (i j : Nat) (hi : i < H.length) (hj : j < H.length) (w : World) (hl : H.length ≤ 100000) (hE : ES w w.heap.size A 2 (H.map It.cs)) :
    Calls Try.prog 48 #[.slice A H.length c, .int .i64 (i : Int), .int .i64 (j : Int)] w fun e w' => e = .returned (.bool (ltB H[i] H[j])) ∧ Below w.heap.size w w' := by
  obtain ⟨b, o, hb, rfl, hel⟩ := hE.at (k := i) (by simpa using hi)
  obtain ⟨c0, c1⟩ := it_cells hel hi
  obtain ⟨d0, d1⟩ := it_cells hel hj
  obtain ⟨x, hx⟩ : ∃ x, H[i] = x := ⟨_, rfl⟩
  obtain ⟨y, hy⟩ : ∃ y, H[j] = y := ⟨_, rfl⟩
  rw [hx] at c0 c1
  rw [hy] at d0 d1
  rw [hx, hy]
  have HLT := Lib.hid (ordI_lt x y)
  clear hE hel hx hy
  have iI : (i : Int) < (H.length : Int) := by omega
  have jI : (j : Int) < (H.length : Int) := by omega
  have i0 : (0 : Int) ≤ (i : Int) := by omega
  have j0 : (0 : Int) ≤ (j : Int) := by omega
  go_enter Try.func48, Try.ntmps48
  go_upto_region 1 with fail
  refine wp_region_kept 11 [(8, fun v u => v = .int .i64 (ordI x y))] ?st ?ne rfl (by kernel_rfl) (by kernel_rfl) ?_
  case st =>
    intro p hp
    simp only [List.mem_cons, List.not_mem_nil, or_false] at hp
    subst hp
    · intro v u u' h hk; exact h
  case ne =>
    intro p hp
    simp only [List.mem_cons, List.not_mem_nil, or_false] at hp
    subst hp
    · exact ⟨_, _, Kept.refl _ _, rfl⟩
  simp only [List.take_succ_cons, List.take_zero, List.drop_succ_cons, List.drop_zero]
  intro G pick hR hp1 hp2
  have p0 : ∀ u, (pick u).cell? ⟨b, o + i * 2, none⟩ = some (.int .u64 x.w) := fun u => ((hp1 u).cell hb (fun h => h) _).trans c0
  have p1 : ∀ u, (pick u).cell? ⟨b, o + i * 2 + 1, none⟩ = some (.int .i64 x.id) := fun u => ((hp1 u).cell hb (fun h => h) _).trans c1
  have q0 : ∀ u, (pick u).cell? ⟨b, o + j * 2, none⟩ = some (.int .u64 y.w) := fun u => ((hp1 u).cell hb (fun h => h) _).trans d0
  have q1 : ∀ u, (pick u).cell? ⟨b, o + j * 2 + 1, none⟩ = some (.int .i64 y.id) := fun u => ((hp1 u).cell hb (fun h => h) _).trans d1
  repeat (first | (refine wpR_det hp2 rfl ((hR.rel _).trans rfl) rfl ?_; intro K hK; go_big_quiet_op; go_big_quiet_on) | (refine wpR_ptr hp2 rfl ((hR.rel _).trans rfl) rfl rfl ?_; intro K hK; go_big_quiet_op; go_big_quiet_on) | (refine wpR_skip pick rfl ?_; intro K hK; go_big_quiet_op; go_big_quiet_on))
  refine wpR_rel pick rfl ((hR.rel _).trans rfl) ((hR.turns _).trans rfl) ?_ ?_
  · intro u hu
    have hk := hR.since hu.1
    have hks := hk.size
    unfold relAt
    go_simp
    refine (order_any x y u).mono ?_
    rintro e w' ⟨rfl, hb'⟩
    exact ⟨_, rfl, hR.intoB hb', hR.put 0 rfl rfl rfl⟩
  intro v hv
  obtain ⟨u, _, hu⟩ := hv
  obtain rfl := hR.get 0 rfl hu
  clear hu
  intro K hK
  go_big_quiet_op
  go_big_quiet_on
  repeat (first | (refine wpR_det hp2 rfl ((hR.rel _).trans rfl) rfl ?_; intro K hK; go_big_quiet_op; go_big_quiet_on) | (refine wpR_ptr hp2 rfl ((hR.rel _).trans rfl) rfl rfl ?_; intro K hK; go_big_quiet_op; go_big_quiet_on) | (refine wpR_skip pick rfl ?_; intro K hK; go_big_quiet_op; go_big_quiet_on))
  refine wpR_nil ?_
  intro w2 hk2 hF hM
  have HB := Lib.hid (hk2.below (Nat.le_refl _) (fun i h => h.elim))
  clear hF hM hk2 hp1 hp2 hR p0 p1 q0 q1
  go_wp2_with fail
  go_ret
  exact ⟨ret_bool HLT.out, HB.out⟩
end Go.Proofs.Ytikakdcjbnbacaa
