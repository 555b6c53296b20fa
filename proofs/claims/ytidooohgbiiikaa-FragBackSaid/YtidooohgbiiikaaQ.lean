/- Parts in memory; their comparison. -/
import Derived.Test.YtidooohgbiiikaaA
import Derived.Test.YtidooohgbiiikaaSetAll
import Derived.Test.YtidooohgbiiikaaRgRow
import Derived.Test.YtidooohgbiiikaaPlainR
import Derived.IntWalk
namespace Go.Proofs.Ytidooohgbiiikaa
open Go.RowKit
set_option linter.unusedVariables false
/-- A part's Offset. -/
def kof (x : List Value) : Int := match x[5]? with | some (Value.int _ n) => n | _ => 0
def Good (x : List Value) : Prop := x.length = 17 ∧ (∃ n, x[5]? = some (.int .i64 n)) ∧ ∀ v ∈ x, v.oneCell' = true
theorem Good.k5 {x : List Value} (h : Good x) : x[5]? = some (.int .i64 (kof x)) := by
  obtain ⟨-, ⟨n, hn⟩, -⟩ := h
  unfold kof; rw [hn]
structure PR (w : World) (g n : Nat) (f : Nat → List Value) : Prop where
  good : ∀ k, k < n → Good (f k)
  blk : ∃ cur, Blk w g 54 cur ∧ n * 17 ≤ cur.size ∧ ∀ k, k < n → ∀ j, j < 17 → cur[k * 17 + j]? = (f k)[j]?
def setF (f : Nat → List Value) (i : Nat) (x : List Value) : Nat → List Value := fun k => if k = i then x else f k
theorem swp_setF (f : Nat → List Value) (i j : Nat) : setF (setF f i (f j)) j (f i) = swp f i j := by
  funext k; unfold setF swp
  by_cases h1 : k = j
  · rw [if_pos h1]
    by_cases h2 : k = i
    · rw [if_pos h2, ← h2, h1]
    · rw [if_neg h2, if_pos h1]
  · rw [if_neg h1]
    by_cases h2 : k = i
    · rw [if_pos h2, if_pos h2]
    · rw [if_neg h2, if_neg h2, if_neg h1]
section
variable {w w' : World} {g n : Nat} {f : Nat → List Value}
theorem PR.lt (h : PR w g n f) : g < w.heap.size := by obtain ⟨c, h, _⟩ := h.blk; exact h.lt
theorem PR.one (h : PR w g n f) {k : Nat} (hk : k < n) : (f k).toArray.all (·.oneCell') = true := all_oneCell_toArray (h.good k hk).2.2
theorem PR.range (h : PR w g n f) {k : Nat} (hk : k < n) : w.rangeAt g (k * 17) (f k) := by
  intro j v hv
  obtain ⟨cur, h1, -, h3⟩ := h.blk
  have hj : j < 17 := by
    have := (List.getElem?_eq_some_iff.1 hv).1
    rw [(h.good k hk).1] at this; exact this
  rw [h1.cell, h3 k hk j hj, hv]
theorem PR.there (h : PR w g n f) {k : Nat} {x : List Value} (hk : k < n) (hx : x.length = 17) : w.there g (k * 17) x.toArray.size := by
  intro j hj
  obtain ⟨cur, h1, h2, h3⟩ := h.blk
  simp only [List.size_toArray, hx] at hj
  refine ⟨?_, h1.frozen _⟩
  rw [h1.cell, Array.getElem?_eq_getElem (by have : (k + 1) * 17 ≤ n * 17 := Nat.mul_le_mul_right _ hk; omega)]
  rfl
theorem PR.kept {S : Nat → Prop} (h : PR w g n f) (hk : Kept S w w') (hn : ¬ S g) : PR w' g n f := by
  obtain ⟨h0, cur, h1, h2, h3⟩ := h
  exact ⟨h0, cur, h1.kept hk hn, h2, h3⟩
theorem PR.keptS (o : Nat) (x : List Value) : Kept (fun k => k = g) w (w.setCells g o x.toArray.toList) := Kept.setCells (S := fun k => k = g) rfl _ _ (Kept.refl _ _)
theorem PR.put (h : PR w g n f) {i : Nat} {x : List Value} (hi : i < n) (hx : Good x) (_ : x.toArray.all (·.oneCell') = true) : PR (w.setCells g (i * 17) x.toArray.toList) g n (setF f i x) := by
  obtain ⟨h0, cur, h1, h2, h3⟩ := h
  have hin : (i + 1) * 17 ≤ n * 17 := Nat.mul_le_mul_right _ hi
  obtain ⟨c, k1, k2, k3, k4, k5⟩ := Blk.setAll_aux x (i * 17) h1 (by rw [hx.1]; omega)
  rw [hx.1] at k4 k5
  refine ⟨fun k hk => ?_, c, k1, by omega, fun k hk j hj => ?_⟩
  · unfold setF; split
    · exact hx
    · exact h0 k hk
  · unfold setF; split
    · rename_i e; subst e; exact k4 j hj
    · rename_i e
      rw [← h3 k hk j hj]
      rcases Nat.lt_or_ge k i with hlt | hge
      · exact k3 _ (by have : (k + 1) * 17 ≤ i * 17 := Nat.mul_le_mul_right _ hlt; omega)
      · exact k5 _ (by have : (i + 1) * 17 ≤ k * 17 := Nat.mul_le_mul_right _ (by omega); omega)
theorem PR.swp {i j : Nat} (h : PR w g n (setF (setF f i (f j)) j (f i))) : PR w g n (swp f i j) := by rw [← swp_setF]; exact h
end
theorem relAt_store_row {P : Program} {w : World} {o : Oper} {a : Act} {R : Value → World → Prop} (ty : TypeId) (x y : Operand) (b of_ : Nat) (cs : List Value) (ho : o.op = .store ty x y)
    (hxy : a.eval x = .pointer (some ⟨b, of_, none⟩) ∧ a.eval y = .agg cs.toArray) (ht : w.there b of_ cs.toArray.size) (hi : (P.info? ty).map (·.size) = some cs.toArray.size) (h1 : cs.toArray.all (·.oneCell') = true) (h : R undef (w.setCells b of_ cs.toArray.toList)) : relAt P o a w R := by
  unfold relAt execOp
  simp only [ho, hxy.1, hxy.2, Instr.storeAt, Instr.sureAddr, Sem.run_bind, Sem.run_pure, Result.andThen_ok, run_storeVar_mid w b of_ ty cs.toArray ht hi h1]
  exact h
theorem quiet_load_row {P : Program} {pick : World → World} {d : Option Tmp} {ty0 : TypeId} {pos : String} {af : Array Edge} {gd : Option (Nat × Bool)} {a : Act} {K : Act → Prop} (ty : TypeId) (x : Operand) (b of_ : Nat) (cs : List Value) (dd : TypeDesc)
    (hx : a.eval x = .pointer (some ⟨b, of_, none⟩)) (hc : ∀ u, (pick u).rangeAt b of_ cs) (hu : P.underlying ty = some dd) (hd : dd.isRow = true) (hi : (P.info? ty).map (·.size) = some cs.length)
    (h : (Oper.mk d (.move (.const (.agg cs.toArray))) ty0 pos af gd).quiet P a (fun w => ∃ u, w = pick u) K) : (Oper.mk d (.load ty x) ty0 pos af gd).quiet P a (fun w => ∃ u, w = pick u) K :=
  ⟨.agg cs.toArray, fun w hw => by
    obtain ⟨u, rfl⟩ := hw
    unfold Oper.quietAt execOp
    simp only [hx, Instr.loadAt, Instr.sureAddr, Sem.run_bind, Sem.run_pure, Result.andThen_ok, run_loadVar_mid _ b of_ ty cs dd (hc u) hu hd hi]
    exact ⟨rfl, rfl⟩, quiet_const h⟩
theorem nan_any (x : Int) (w : World) : Calls Try.prog 30 #[.int .i64 x] w fun e w' => e = .returned (.bool false) ∧ w' = w := by
  go_enter Try.func30, Try.ntmps30
  go_wp2_with fail
  go_ret
  exact ⟨rfl, rfl⟩
def cmpI (x y : Int) : Int := if x < y then -1 else if y < x then 1 else 0
theorem cmpI_lt (x y : Int) : decide (cmpI x y < 0) = decide (x < y) := by
  unfold cmpI
  split
  · rename_i h; simp [h]
  · rename_i h; split <;> simp [h]
theorem cmpI_neg (x y : Int) : cmpI x y < 0 ↔ x < y := by
  have := cmpI_lt x y
  simpa using this
set_option maxHeartbeats 1000000 in
theorem cmp_any (x y : Int) (w : World) : Calls Try.prog 19 #[.int .i64 x, .int .i64 y] w fun e w' => e = .returned (.int .i64 (cmpI x y)) ∧ w' = w := by
  by_cases h1 : x < y
  · have HE := Lib.hid (show cmpI x y = -1 by simp [cmpI, h1])
    go_enter Try.func19, Try.ntmps19
    go_wp2_with fail
    refine (nan_any x w).mono ?_
    rintro e w1 ⟨rfl, rfl⟩
    go_wp2_with fail
    refine (nan_any y w1).mono ?_
    rintro e w2 ⟨rfl, rfl⟩
    go_wp2_with fail
    go_ret
    exact ⟨by rw [HE.out]; rfl, rfl⟩
  · by_cases h2 : y < x
    · have HE := Lib.hid (show cmpI x y = 1 by simp [cmpI, h1, h2])
      go_enter Try.func19, Try.ntmps19
      go_wp2_with fail
      refine (nan_any x w).mono ?_
      rintro e w1 ⟨rfl, rfl⟩
      go_wp2_with fail
      refine (nan_any y w1).mono ?_
      rintro e w2 ⟨rfl, rfl⟩
      go_wp2_with fail
      go_ret
      exact ⟨by rw [HE.out]; rfl, rfl⟩
    · have HE := Lib.hid (show cmpI x y = 0 by simp [cmpI, h1, h2])
      go_enter Try.func19, Try.ntmps19
      go_wp2_with fail
      refine (nan_any x w).mono ?_
      rintro e w1 ⟨rfl, rfl⟩
      go_wp2_with fail
      refine (nan_any y w1).mono ?_
      rintro e w2 ⟨rfl, rfl⟩
      go_wp2_with fail
      go_ret
      exact ⟨by rw [HE.out]; rfl, rfl⟩
set_option maxHeartbeats 1000000 in
/-- The comparison that Join hands the sort. -/
theorem join1_any (x y : List Value) (w : World) (hx : Good x) (hy : Good y) : Calls Try.prog 18 #[.agg x.toArray, .agg y.toArray] w fun e w' => e = .returned (.int .i64 (cmpI (kof x) (kof y))) ∧ Kept (fun _ => False) w w' := by
  have x5 := hx.k5
  have y5 := hy.k5
  have x5' : x.toArray[5]? = some (.int .i64 (kof x)) := by simpa using x5
  have y5' : y.toArray[5]? = some (.int .i64 (kof y)) := by simpa using y5
  obtain ⟨kx, hkx⟩ : ∃ k, kof x = k := ⟨_, rfl⟩
  obtain ⟨ky, hky⟩ : ∃ k, kof y = k := ⟨_, rfl⟩
  rw [hkx] at x5 x5' ⊢
  rw [hky] at y5 y5' ⊢
  clear hx hy hkx hky
  go_enter Try.func18, Try.ntmps18
  go_wp2_with fail
  refine (cmp_any kx ky _).mono ?_
  rintro e w1 ⟨rfl, rfl⟩
  go_wp2_with fail
  go_ret
  exact ⟨rfl, ((Kept.refl _ _).alloc _).alloc _⟩
end Go.Proofs.Ytidooohgbiiikaa
