/- The plain law: of as many picks as all weigh together, each candidate gets as many as it weighs, wherever they begin. -/
import Derived.Test.YtfdlpgmoohlgeaaSmPlain
namespace Go.Proofs.Ytfdlpgmoohlgeaa
set_option linter.unusedVariables false

def sumTo (g : Nat → Int) : Nat → Int
  | 0 => 0
  | k + 1 => sumTo g k + g k
theorem sumTo_congr (f g : Nat → Int) (n : Nat) (h : ∀ i, i < n → f i = g i) : sumTo f n = sumTo g n := by
  induction n with
  | zero => rfl
  | succ n ih => rw [sumTo, sumTo, ih (fun i hi => h i (by omega)), h n (by omega)]
theorem sumTo_add (f g : Nat → Int) (n : Nat) : sumTo (fun i => f i + g i) n = sumTo f n + sumTo g n := by
  induction n with
  | zero => rfl
  | succ n ih => rw [sumTo, sumTo, sumTo, ih]; omega
theorem sumTo_zero (n : Nat) : sumTo (fun _ => 0) n = 0 := by
  induction n with
  | zero => rfl
  | succ n ih => rw [sumTo, ih]; rfl
theorem sumTo_one (m : Nat) (c : Int) (n : Nat) : sumTo (fun i => if i = m then c else 0) n = if m < n then c else 0 := by
  induction n with
  | zero => simp [sumTo]
  | succ n ih =>
    rw [sumTo, ih]
    by_cases h : m < n
    · rw [if_pos h, if_neg (by omega), if_pos (by omega)]; omega
    · rw [if_neg h]
      by_cases e : n = m
      · rw [if_pos e, if_pos (by omega)]; omega
      · rw [if_neg e, if_neg (by omega)]; omega
theorem sumTo_le (f : Nat → Int) (n : Nat) (h : ∀ i, i < n → f i ≤ 0) : sumTo f n ≤ 0 := by
  induction n with
  | zero => simp [sumTo]
  | succ n ih => have := ih (fun i hi => h i (by omega)); have := h n (by omega); rw [sumTo]; omega
theorem sumTo_pos (f : Nat → Int) (n : Nat) (h : ∀ i, i < n → 0 ≤ f i) : 0 ≤ sumTo f n ∧ (sumTo f n = 0 → ∀ i, i < n → f i = 0) := by
  induction n with
  | zero => exact ⟨by simp [sumTo], fun _ i hi => by omega⟩
  | succ n ih =>
    obtain ⟨h1, h2⟩ := ih (fun i hi => h i (by omega))
    have h3 := h n (by omega)
    rw [sumTo]
    refine ⟨by omega, fun e i hi => ?_⟩
    rcases Nat.lt_succ_iff_lt_or_eq.1 hi with hi | rfl
    · exact h2 (by omega) i hi
    · omega

/-! ### The shares, pick by pick -/
def stp (h : List Cd) (S : List Sh) : List Sh := if h = [] then S else stepS (baseS S h)
def stAt (h : List Cd) : Nat → List Sh
  | 0 => []
  | t + 1 => stp h (stAt h t)
/-- The shares ahead of pick t. -/
def xAt (h : List Cd) (t : Nat) : List Sh := baseS (stAt h t) h
def bAt (h : List Cd) (t : Nat) : Nat := stepB (xAt h t)
theorem stepS_at (S : List Sh) (i : Nat) (hi : i < S.length) : (stepS S)[i]'(by rw [stepS_len]; exact hi) = ⟨S[i].backend, S[i].weight, S[i].credit + S[i].weight - if i = stepB S then totTo S S.length else 0⟩ := by
  unfold stepS
  rw [List.getElem_set]
  by_cases e : stepB S = i
  · subst e
    rw [if_pos rfl, if_pos rfl]
    simp [subS, addS, List.getD_eq_getElem?_getD, hi]
  · rw [if_neg e, if_neg (fun h => e h.symm)]
    simp [addS]
theorem knows_step {S : List Sh} {h : List Cd} (hk : knowsB S h = true) : knowsB (stepS S) h = true := by
  obtain ⟨h1, h2⟩ := knows_at hk
  refine knows_all _ _ (by rw [stepS_len]; exact h1) fun k k1 k2 => ?_
  have hk' : k < S.length := by rw [stepS_len] at k1; exact k1
  rw [stepS_at S k hk']
  exact h2 k hk' k2
theorem knows_base (S : List Sh) (h : List Cd) : knowsB (baseS S h) h = true :=
  knows_all _ _ (baseS_len S h) fun k k1 k2 => ⟨(baseS_at S h k k1 k2).2, (baseS_at S h k k1 k2).1⟩
theorem base_of_knows {S : List Sh} {h : List Cd} (hk : knowsB S h = true) : baseS S h = S := by unfold baseS; rw [if_pos hk]
variable {h : List Cd}
theorem xAt_zero (hne : h ≠ []) : xAt h 0 = freshS h := by
  unfold xAt stAt baseS
  rw [if_neg]
  have := knows_len [] h (by have := List.length_pos_iff.2 hne; simp; omega)
  rw [this]; simp
theorem stAt_succ (hne : h ≠ []) (t : Nat) : stAt h (t + 1) = stepS (xAt h t) := by
  show stp h (stAt h t) = _
  unfold stp; rw [if_neg hne]; rfl
theorem xAt_succ (hne : h ≠ []) (t : Nat) : xAt h (t + 1) = stepS (xAt h t) := by
  have : xAt h (t + 1) = baseS (stAt h (t + 1)) h := rfl
  rw [this, stAt_succ hne]
  exact base_of_knows (knows_step (show knowsB (xAt h t) h = true from knows_base _ _))
theorem xAt_len (t : Nat) : (xAt h t).length = h.length := baseS_len _ _
def wAt (h : List Cd) (i : Nat) : Int := (h.getD i ⟨0, 0, 0, 0⟩).weight
theorem wAt_at (i : Nat) (hi : i < h.length) : wAt h i = h[i].weight := by unfold wAt; simp [List.getD_eq_getElem?_getD, hi]
theorem xAt_weight (t i : Nat) (hi : i < h.length) : ((xAt h t)[i]'(by rw [xAt_len]; exact hi)).weight = wAt h i := by
  rw [wAt_at i hi]; exact (baseS_at _ _ i (by rw [baseS_len]; exact hi) hi).1
def tot (h : List Cd) : Int := sumTo (wAt h) h.length
theorem tot_is (t : Nat) : totTo (xAt h t) (xAt h t).length = tot h := by
  have : ∀ k, k ≤ h.length → totTo (xAt h t) k = sumTo (wAt h) k := by
    intro k
    induction k with
    | zero => intro _; simp [totTo, sumTo]
    | succ k ih =>
      intro hk
      rw [totTo_succ _ _ (by rw [xAt_len]; omega), ih (by omega), sumTo, xAt_weight t k (by omega)]
  rw [xAt_len]
  exact this _ (Nat.le_refl _)
/-- What candidate i is owed ahead of pick t. -/
def cAt (h : List Cd) (t i : Nat) : Int := crd (xAt h t) i
theorem cAt_zero (hne : h ≠ []) (i : Nat) (hi : i < h.length) : cAt h 0 i = 0 := by
  unfold cAt
  rw [crd_at _ _ (by rw [xAt_len]; exact hi)]
  simp only [xAt_zero hne]
  simp [freshS]
theorem cAt_succ (hne : h ≠ []) (t i : Nat) (hi : i < h.length) : cAt h (t + 1) i = cAt h t i + wAt h i - if i = bAt h t then tot h else 0 := by
  unfold cAt
  have hi' : i < (xAt h t).length := by rw [xAt_len]; exact hi
  rw [crd_at _ _ (by rw [xAt_len]; exact hi), crd_at _ _ hi']
  simp only [xAt_succ hne]
  rw [stepS_at _ _ hi', tot_is]
  simp only [xAt_weight t i hi]
  rfl
theorem bAt_lt (hne : h ≠ []) (t : Nat) : bAt h t < h.length := by
  have := stepB_lt (xAt h t) (by rw [xAt_len]; exact List.length_pos_iff.2 hne)
  rwa [xAt_len] at this
theorem bAt_max (t i : Nat) (hi : i < h.length) : cAt h t i + wAt h i ≤ cAt h t (bAt h t) + wAt h (bAt h t) := by
  have hne : h ≠ [] := by rintro rfl; simp at hi
  have hb := bAt_lt hne t
  have hm := bestTo_max (crd ((xAt h t).map addS)) (xAt h t).length i (by rw [xAt_len]; exact hi)
  have e : ∀ j, j < h.length → crd ((xAt h t).map addS) j = cAt h t j + wAt h j := fun j hj => by
    have hj' : j < (xAt h t).length := by rw [xAt_len]; exact hj
    rw [crd_at _ _ (by simpa using hj')]
    unfold cAt
    rw [crd_at _ _ hj', ← xAt_weight t j hj]
    simp [addS]
  have hm' : crd ((xAt h t).map addS) i ≤ crd ((xAt h t).map addS) (bAt h t) := hm
  rw [e i hi, e _ hb] at hm'
  exact hm'
variable (hw : ∀ c ∈ h, 0 < c.weight)
theorem wAt_pos (hw : ∀ c ∈ h, 0 < c.weight) (i : Nat) (hi : i < h.length) : 0 < wAt h i := by rw [wAt_at i hi]; exact hw _ (List.getElem_mem _)
theorem tot_pos (hne : h ≠ []) (hw : ∀ c ∈ h, 0 < c.weight) : 0 < tot h := by
  have h1 := (sumTo_pos (wAt h) h.length (fun i hi => Int.le_of_lt (wAt_pos hw i hi)))
  have h2 := wAt_pos hw 0 (List.length_pos_iff.2 hne)
  rcases Int.lt_or_le 0 (tot h) with h3 | h3
  · exact h3
  · have := h1.2 (by unfold tot at h3; omega) 0 (List.length_pos_iff.2 hne); omega
theorem cAt_sum (hne : h ≠ []) (t : Nat) : sumTo (cAt h t) h.length = 0 := by
  induction t with
  | zero => rw [sumTo_congr _ (fun _ => 0) _ (fun i hi => cAt_zero hne i hi), sumTo_zero]
  | succ t ih =>
    rw [sumTo_congr _ (fun i => (cAt h t i + wAt h i) + (if i = bAt h t then -tot h else 0)) _ (fun i hi => by
      rw [cAt_succ hne t i hi]; split <;> omega)]
    rw [sumTo_add, sumTo_add, ih, sumTo_one, if_pos (bAt_lt hne t)]
    show 0 + tot h + -tot h = 0
    omega
theorem cAt_low (hne : h ≠ []) (hw : ∀ c ∈ h, 0 < c.weight) (t i : Nat) (hi : i < h.length) : -tot h < cAt h t i := by
  have hp := tot_pos hne hw
  induction t generalizing i with
  | zero => rw [cAt_zero hne i hi]; omega
  | succ t ih =>
    rw [cAt_succ hne t i hi]
    by_cases e : i = bAt h t
    · rw [if_pos e]
      have hd : 0 < cAt h t i + wAt h i := by
        rcases Int.lt_or_le 0 (cAt h t i + wAt h i) with hd | hd
        · exact hd
        · have h1 := sumTo_le (fun j => cAt h t j + wAt h j) h.length (fun j hj => by
            have := bAt_max t j hj
            rw [← e] at this
            show cAt h t j + wAt h j ≤ 0
            omega)
          rw [sumTo_add, cAt_sum hne] at h1
          unfold tot at hp; omega
      omega
    · rw [if_neg e]
      have := ih i hi
      have := wAt_pos hw i hi
      omega
/-- How often candidate i was picked, ahead of pick t. -/
def nAt (h : List Cd) (i : Nat) : Nat → Int
  | 0 => 0
  | t + 1 => nAt h i t + if bAt h t = i then 1 else 0
theorem cAt_is (hne : h ≠ []) (t i : Nat) (hi : i < h.length) : cAt h t i = t * wAt h i - tot h * nAt h i t := by
  induction t with
  | zero => rw [cAt_zero hne i hi]; simp [nAt]
  | succ t ih =>
    rw [cAt_succ hne t i hi, ih, nAt]
    by_cases e : i = bAt h t
    · rw [if_pos e, if_pos e.symm, Int.mul_add, show ((t + 1 : Nat) : Int) = (t : Int) + 1 by omega, Int.add_mul]; omega
    · rw [if_neg e, if_neg (fun h => e h.symm), show ((t + 1 : Nat) : Int) = (t : Int) + 1 by omega, Int.add_mul]; simp; omega
theorem back (hne : h ≠ []) (hw : ∀ c ∈ h, 0 < c.weight) : xAt h (tot h).toNat = xAt h 0 := by
  have hp := tot_pos hne hw
  have ht : (((tot h).toNat : Nat) : Int) = tot h := by omega
  have hz : ∀ i, i < h.length → cAt h (tot h).toNat i = 0 := by
    refine (sumTo_pos _ _ fun i hi => ?_).2 (cAt_sum hne _)
    have h1 := cAt_is hne (tot h).toNat i hi
    rw [ht] at h1
    have h2 := cAt_low hne hw (tot h).toNat i hi
    have h3 : cAt h (tot h).toNat i = tot h * (wAt h i - nAt h i (tot h).toNat) := by rw [h1, Int.mul_sub]
    rw [h3] at h2 ⊢
    have h4 : -1 < wAt h i - nAt h i (tot h).toNat := by
      rcases Int.lt_or_le (-1) (wAt h i - nAt h i (tot h).toNat) with h5 | h5
      · exact h5
      · have := Int.mul_le_mul_of_nonneg_left h5 (Int.le_of_lt hp)
        omega
    exact Int.mul_nonneg (Int.le_of_lt hp) (by omega)
  apply List.ext_getElem
  · rw [xAt_len, xAt_len]
  · intro i h1 h2
    have hi : i < h.length := by rw [xAt_len] at h1; exact h1
    have a1 := xAt_weight (h := h) (tot h).toNat i hi
    have a2 := xAt_weight (h := h) 0 i hi
    have b1 := (baseS_at (stAt h (tot h).toNat) h i (by rw [baseS_len]; exact hi) hi).2
    have b2 := (baseS_at (stAt h 0) h i (by rw [baseS_len]; exact hi) hi).2
    have c1 := hz i hi
    have c2 := cAt_zero hne i hi
    unfold cAt at c1 c2
    rw [crd_at _ _ h1] at c1
    rw [crd_at _ _ h2] at c2
    have b1' : (xAt h (tot h).toNat)[i].backend = h[i].backend := b1
    have b2' : (xAt h 0)[i].backend = h[i].backend := b2
    generalize (xAt h (tot h).toNat)[i] = x at *
    generalize (xAt h 0)[i] = y at *
    cases x; cases y
    simp only at a1 a2 b1' b2' c1 c2
    rw [a1, a2, b1', b2', c1, c2]
theorem again (hne : h ≠ []) (hw : ∀ c ∈ h, 0 < c.weight) (a : Nat) : xAt h ((tot h).toNat + a) = xAt h a := by
  induction a with
  | zero => exact back hne hw
  | succ a ih => rw [← Nat.add_assoc, xAt_succ hne, ih, ← xAt_succ hne]
theorem shares (hne : h ≠ []) (hw : ∀ c ∈ h, 0 < c.weight) (a i : Nat) (hi : i < h.length) : nAt h i ((tot h).toNat + a) - nAt h i a = wAt h i := by
  have hp := tot_pos hne hw
  have e : cAt h ((tot h).toNat + a) i = cAt h a i := by unfold cAt; rw [again hne hw]
  rw [cAt_is hne _ i hi, cAt_is hne _ i hi, show (((tot h).toNat + a : Nat) : Int) = tot h + a by omega, Int.add_mul] at e
  have e2 : tot h * wAt h i = tot h * (nAt h i ((tot h).toNat + a) - nAt h i a) := by rw [Int.mul_sub]; omega
  exact (Int.eq_of_mul_eq_mul_left (by omega) e2).symm
end Go.Proofs.Ytfdlpgmoohlgeaa
