/- Compare, Less, digit of layer 3. -/
import Derived.Test.YtbigikpioomjlaaDoorRows
import Derived.Test.YtbigikpioomjlaaDoorRgRow
import Derived.IntWalk
namespace Go.Proofs.YtbigikpioomjlaaDoor
open Go.RowKit
set_option linter.unusedVariables false
theorem nan_any (x : Int) (w : World) : Calls Tryd.prog 28 #[.int .u64 x] w fun e w' => e = .returned (.bool false) ∧ w' = w := by
  go_enter Tryd.func28, Tryd.ntmps28
  go_wp2_with fail
  go_ret
  exact ⟨rfl, rfl⟩
def cmpI (x y : Int) : Int := if x < y then -1 else if y < x then 1 else 0
set_option maxHeartbeats 1000000 in
theorem cmp_any (x y : Int) (w : World) : Calls Tryd.prog 21 #[.int .u64 x, .int .u64 y] w fun e w' => e = .returned (.int .i64 (cmpI x y)) ∧ w' = w := by
  by_cases h1 : x < y
  · have HE := Lib.hid (show cmpI x y = -1 by simp [cmpI, h1])
    go_enter Tryd.func21, Tryd.ntmps21
    go_wp2_with fail
    refine (nan_any x w).mono ?_
    rintro e w1 ⟨rfl, rfl⟩
    go_wp2_with fail
    refine (nan_any y w1).mono ?_
    rintro e w2 ⟨rfl, rfl⟩
    go_wp2_with fail
    go_ret
    exact ⟨by rw [HE.out]; rfl, rfl⟩
  · by_cases h2 : y < x
    · have HE := Lib.hid (show cmpI x y = 1 by simp [cmpI, h1, h2])
      go_enter Tryd.func21, Tryd.ntmps21
      go_wp2_with fail
      refine (nan_any x w).mono ?_
      rintro e w1 ⟨rfl, rfl⟩
      go_wp2_with fail
      refine (nan_any y w1).mono ?_
      rintro e w2 ⟨rfl, rfl⟩
      go_wp2_with fail
      go_ret
      exact ⟨by rw [HE.out]; rfl, rfl⟩
    · have HE := Lib.hid (show cmpI x y = 0 by simp [cmpI, h1, h2])
      go_enter Tryd.func21, Tryd.ntmps21
      go_wp2_with fail
      refine (nan_any x w).mono ?_
      rintro e w1 ⟨rfl, rfl⟩
      go_wp2_with fail
      refine (nan_any y w1).mono ?_
      rintro e w2 ⟨rfl, rfl⟩
      go_wp2_with fail
      go_ret
      exact ⟨by rw [HE.out]; rfl, rfl⟩
def orI (x y : Int) : Int := if x = 0 then y else x
set_option maxHeartbeats 1000000 in
theorem or_any (g : Nat) (x y : Int) (w : World) (c0 : w.cell? ⟨g, 0, none⟩ = some (.int .i64 x)) (c1 : w.cell? ⟨g, 1, none⟩ = some (.int .i64 y)) : Calls Tryd.prog 20 #[.slice (some ⟨g, 0, none⟩) 2 2] w fun e w' => e = .returned (.int .i64 (orI x y)) ∧ w' = w := by
  by_cases h1 : x = 0
  · subst h1
    by_cases h2 : y = 0
    · subst h2
      go_enter Tryd.func20, Tryd.ntmps20
      go_wp2_with fail
      go_loop [8] (fun i => ∃ n : Nat, n ≤ 2 ∧ i = .int .i64 (n : Int)) (fun i => (2 - intOf i).toNat)
      case atStart => exact ⟨0, by omega, rfl⟩
      case round =>
        obtain ⟨n, hn, rfl⟩ := hrel
        obtain rfl | rfl | rfl : n = 0 ∨ n = 1 ∨ n = 2 := by omega
        · go_wp2_with fail
          go_round
          case rel => exact ⟨1, by omega, rfl⟩
          case measure => simp [intOf]
        · go_wp2_with fail
          go_round
          case rel => exact ⟨2, by omega, rfl⟩
          case measure => simp [intOf]
        · go_wp2_with fail
          go_ret
          exact ⟨rfl, rfl⟩
    · have HE := Lib.hid (show orI 0 y = y by simp [orI])
      go_enter Tryd.func20, Tryd.ntmps20
      go_wp2_with fail
      go_loop [8] (fun i => ∃ n : Nat, n ≤ 1 ∧ i = .int .i64 (n : Int)) (fun i => (2 - intOf i).toNat)
      case atStart => exact ⟨0, by omega, rfl⟩
      case round =>
        obtain ⟨n, hn, rfl⟩ := hrel
        obtain rfl | rfl : n = 0 ∨ n = 1 := by omega
        · go_wp2_with fail
          go_round
          case rel => exact ⟨1, by omega, rfl⟩
          case measure => simp [intOf]
        · go_wp2_with fail
          go_ret
          exact ⟨by rw [HE.out]; rfl, rfl⟩
  · have HE := Lib.hid (show orI x y = x by simp [orI, h1])
    go_enter Tryd.func20, Tryd.ntmps20
    go_wp2_with fail
    go_loop [8] (fun i => i = .int .i64 0) (fun i => (2 - intOf i).toNat)
    case atStart => rfl
    case round =>
      obtain rfl := hrel
      go_wp2_with fail
      go_ret
      exact ⟨by rw [HE.out]; rfl, rfl⟩
structure AdL where
  six : Bool
  high : Int
  low : Int
def lessB (a b : Bool × Int × Int) : Bool := if a.1 != b.1 then b.1 else if a.2.1 ≠ b.2.1 then decide (a.2.1 < b.2.1) else decide (a.2.2 < b.2.2)
def compI (a b : Bool × Int × Int) : Int := if a.1 != b.1 then (if b.1 then -1 else 1) else orI (cmpI a.2.1 b.2.1) (cmpI a.2.2 b.2.2)
set_option maxHeartbeats 1000000 in
theorem less_same (s : Bool) (h l h' l' : Int) (w : World) : Calls Tryd.prog 11 #[.agg #[.bool s, .int .u64 h, .int .u64 l], .agg #[.bool s, .int .u64 h', .int .u64 l']] w fun e w' => e = .returned (.bool (lessB (s, h, l) (s, h', l'))) ∧ Below w.heap.size w w' := by
  by_cases h1 : h = h'
  · subst h1
    have HE := Lib.hid (show lessB (s, h, l) (s, h, l') = decide (l < l') by simp [lessB])
    cases s <;>
    · go_enter Tryd.func11, Tryd.ntmps11
      go_wp2_with fail
      go_ret
      exact ⟨by rw [HE.out]; rfl, ((Below.refl _ _).alloc (Nat.le_refl _) _).alloc (by simp) _⟩
  · have HE := Lib.hid (show lessB (s, h, l) (s, h', l') = decide (h < h') by simp [lessB, h1])
    have h1' : (h == h') = false := by simp [h1]
    clear h1
    cases s <;>
    · go_enter Tryd.func11, Tryd.ntmps11
      go_wp2_with fail
      go_ret
      exact ⟨by rw [HE.out]; rfl, ((Below.refl _ _).alloc (Nat.le_refl _) _).alloc (by simp) _⟩
set_option maxHeartbeats 1000000 in
theorem less_diff (s : Bool) (h l h' l' : Int) (w : World) : Calls Tryd.prog 11 #[.agg #[.bool s, .int .u64 h, .int .u64 l], .agg #[.bool (!s), .int .u64 h', .int .u64 l']] w fun e w' => e = .returned (.bool (lessB (s, h, l) (!s, h', l'))) ∧ Below w.heap.size w w' := by
  have HE := Lib.hid (show lessB (s, h, l) (!s, h', l') = !s by cases s <;> simp [lessB])
  cases s <;>
  · go_enter Tryd.func11, Tryd.ntmps11
    go_wp2_with fail
    go_ret
    exact ⟨by rw [HE.out]; rfl, ((Below.refl _ _).alloc (Nat.le_refl _) _).alloc (by simp) _⟩
theorem less_any (a b : Bool × Int × Int) (w : World) : Calls Tryd.prog 11 #[.agg #[.bool a.1, .int .u64 a.2.1, .int .u64 a.2.2], .agg #[.bool b.1, .int .u64 b.2.1, .int .u64 b.2.2]] w fun e w' => e = .returned (.bool (lessB a b)) ∧ Below w.heap.size w w' := by
  obtain ⟨s, h, l⟩ := a
  obtain ⟨s', h', l'⟩ := b
  by_cases e : s' = s
  · subst e; exact less_same _ _ _ _ _ w
  · obtain rfl : s' = !s := by cases s <;> cases s' <;> simp_all
    exact less_diff _ _ _ _ _ w
set_option maxHeartbeats 1000000 in
theorem comp_diff (s : Bool) (h l h' l' : Int) (w : World) : Calls Tryd.prog 10 #[.agg #[.bool s, .int .u64 h, .int .u64 l], .agg #[.bool (!s), .int .u64 h', .int .u64 l']] w fun e w' => e = .returned (.int .i64 (compI (s, h, l) (!s, h', l'))) ∧ Below w.heap.size w w' := by
  cases s <;>
  · go_enter Tryd.func10, Tryd.ntmps10
    go_wp2_with fail
    go_ret
    exact ⟨rfl, ((Below.refl _ _).alloc (Nat.le_refl _) _).alloc (by simp) _⟩
end Go.Proofs.YtbigikpioomjlaaDoor
