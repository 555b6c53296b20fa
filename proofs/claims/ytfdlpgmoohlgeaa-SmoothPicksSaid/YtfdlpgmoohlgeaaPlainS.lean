/- Plain words for the law SmoothShares: what was told, by place. -/
import Derived.Test.YtfdlpgmoohlgeaaWrr
namespace Go.Proofs.Ytfdlpgmoohlgeaa
set_option linter.unusedVariables false
theorem rf_weight {l : List Cd} {last : Int} (h : rightFrom last l = true) : ∀ c ∈ l, 0 ≤ c.weight ∧ c.weight ≤ 100 := by
  induction l generalizing last with
  | nil => intro c hc; cases hc
  | cons d r ih =>
    rw [rightFrom, Bool.and_eq_true] at h
    obtain ⟨h1, h2⟩ := h
    unfold Cd.okB at h1
    simp only [Bool.and_eq_true, decide_eq_true_eq] at h1
    intro c hc
    cases hc with
    | head => omega
    | tail _ hm => exact ih h2 c hm
/-- A block of numbers. -/
def fv (n : Nat) (f : Nat → Int) : Array Value := ((List.range n).map fun i => Value.int .i64 (f i)).toArray
def updF (f : Nat → Int) (i : Nat) (x : Int) : Nat → Int := fun k => if k = i then x else f k
theorem fv_at (n : Nat) (f : Nat → Int) (i : Nat) (h : i < n) : (fv n f)[i]? = some (.int .i64 (f i)) := by simp [fv, h]
theorem fv_set (n : Nat) (f : Nat → Int) (i : Nat) (x : Int) : (fv n f).setIfInBounds i (.int .i64 x) = fv n (updF f i x) := by
  apply Array.ext
  · simp [fv]
  · intro j h1 h2
    rw [Array.getElem_setIfInBounds (by simpa using h1)]
    by_cases h : i = j
    · subst h; simp [fv, updF]
    · rw [if_neg h]; simp [fv, updF, Ne.symm h]
theorem made_fv (n : Nat) : madeCells #[.int .i64 0] n = fv n (fun _ => 0) := by
  apply Array.ext
  · simp [fv, size_madeCells]
  · intro i h1 h2
    simp [madeCells, fv, Nat.mod_one]
def wsum (l : List Cd) : Int := (l.map (·.weight)).sum
theorem wsum_snoc (l : List Cd) (k : Nat) (h : k < l.length) : wsum (l.take (k + 1)) = wsum (l.take k) + l[k].weight := by
  unfold wsum; rw [List.take_succ_eq_append_getElem h]; simp only [List.map_append, List.sum_append, List.map_cons, List.map_nil, List.sum_cons, List.sum_nil]; omega
theorem wsum_range (l : List Cd) (h : ∀ c ∈ l, 0 ≤ c.weight ∧ c.weight ≤ 100) : 0 ≤ wsum l ∧ wsum l ≤ 100 * l.length := by
  unfold wsum
  induction l with
  | nil => simp
  | cons c l ih =>
    have := ih (fun d hd => h d (by simp [hd]))
    have := h c (by simp)
    simp only [List.map_cons, List.sum_cons, List.length_cons]; omega
theorem sumTo_shift (g : Nat → Int) (n : Nat) : sumTo g (n + 1) = g 0 + sumTo (fun i => g (i + 1)) n := by
  induction n with
  | zero => simp [sumTo]
  | succ n ih => rw [sumTo, ih, sumTo]; omega
theorem tot_wsum (h : List Cd) : tot h = wsum h := by
  unfold tot wsum
  induction h with
  | nil => rfl
  | cons c h ih =>
    rw [List.length_cons, sumTo_shift, List.map_cons, List.sum_cons, ← ih]
    rfl
theorem wsum_heavy (l : List Cd) (h : ∀ c ∈ l, 0 ≤ c.weight) : wsum (heavy l) = wsum l := by
  unfold heavy wsum
  induction l with
  | nil => rfl
  | cons c l ih =>
    have ih' := ih (fun d hd => h d (by simp [hd]))
    have hc := h c (by simp)
    rw [List.filter_cons]
    by_cases hp : 0 < c.weight
    · rw [if_pos (by simpa using hp)]; simp only [List.map_cons, List.sum_cons]; omega
    · rw [if_neg (by simpa using hp)]; simp only [List.map_cons, List.sum_cons]; omega
/-- The place that pick t tells. -/
def slotAt (h : List Cd) (t : Nat) : Nat := (h.getD (bAt h t) ⟨0, 0, 0, 0⟩).slot.toNat
def tf (h : List Cd) (a : Nat) : Nat → Nat → Int
  | 0 => fun _ => 0
  | k + 1 => updF (tf h a k) (slotAt h (a + k)) (tf h a k (slotAt h (a + k)) + 1)
theorem tf_at (h : List Cd) (hne : h ≠ []) (hd : ∀ i j (hi : i < h.length) (hj : j < h.length), h[i].slot.toNat = h[j].slot.toNat → i = j) (a k m : Nat) (hm : m < h.length) : tf h a k h[m].slot.toNat = nAt h m (a + k) - nAt h m a := by
  induction k with
  | zero => simp [tf]
  | succ k ih =>
    have hb := bAt_lt hne (a + k)
    have es : slotAt h (a + k) = (h[bAt h (a + k)]'hb).slot.toNat := by unfold slotAt; simp [List.getD_eq_getElem?_getD, hb]
    rw [tf]
    unfold updF
    rw [← Nat.add_assoc, nAt]
    by_cases e : bAt h (a + k) = m
    · subst e
      rw [if_pos es.symm, if_pos rfl, es, ih]; omega
    · rw [if_neg (fun h' => e (hd _ _ hb hm (by rw [← es, h']))), if_neg e, ih]; omega
theorem tf_none (h : List Cd) (hne : h ≠ []) (s : Nat) (hs : ∀ c ∈ h, c.slot.toNat ≠ s) (a k : Nat) : tf h a k s = 0 := by
  induction k with
  | zero => rfl
  | succ k ih =>
    have hb := bAt_lt hne (a + k)
    have es : slotAt h (a + k) = (h[bAt h (a + k)]'hb).slot.toNat := by unfold slotAt; simp [List.getD_eq_getElem?_getD, hb]
    rw [tf]
    unfold updF
    rw [if_neg (fun h' => hs _ (List.getElem_mem hb) (by rw [← es, h'])), ih]
theorem tf_nil (a : Nat) (s : Nat) : tf [] a 0 s = 0 := rfl
/-- The law. -/
theorem told_all (l : List Cd) (hr : rightFrom (-1) l = true) (a i : Nat) (hi : i < l.length) : tf (heavy l) a (wsum l).toNat l[i].slot.toNat = l[i].weight := by
  have hw := rf_weight hr
  have hwi := hw l[i] (List.getElem_mem hi)
  have hmem := rf_mem hr
  have e1 : (wsum l).toNat = (tot (heavy l)).toNat := by rw [tot_wsum, wsum_heavy l (fun c hc => (hw c hc).1)]
  have hdl : ∀ x ∈ l, ∀ y ∈ l, x.slot.toNat = y.slot.toNat → x = y := by
    intro x hx y hy e
    obtain ⟨p, hp, rfl⟩ := List.getElem_of_mem hx
    obtain ⟨q, hq, rfl⟩ := List.getElem_of_mem hy
    have h1 := hmem _ hx
    have h2 := hmem _ hy
    rcases Nat.lt_trichotomy p q with h | h | h
    · have := rf_lt hr p q hq h; omega
    · subst h; rfl
    · have := rf_lt hr q p hp h; omega
  by_cases hp : 0 < l[i].weight
  · have hin : l[i] ∈ heavy l := by unfold heavy; rw [List.mem_filter]; exact ⟨List.getElem_mem hi, by simpa using hp⟩
    obtain ⟨m, hm, em⟩ := List.getElem_of_mem hin
    have hne : heavy l ≠ [] := List.ne_nil_of_mem hin
    have hwh : ∀ c ∈ heavy l, 0 < c.weight := fun c hc => (heavy_pos l c hc).2
    have hnd : ∀ p q (hp : p < (heavy l).length) (hq : q < (heavy l).length), (heavy l)[p].slot.toNat = (heavy l)[q].slot.toNat → p = q := by
      intro p q hp hq e
      have h1 := hdl _ (heavy_pos l _ (List.getElem_mem hp)).1 _ (heavy_pos l _ (List.getElem_mem hq)).1 e
      have hpw : (heavy l).Pairwise (fun x y => x.slot < y.slot) := by
        unfold heavy
        refine List.Pairwise.filter _ ?_
        rw [List.pairwise_iff_getElem]
        intro i j hi hj hij
        exact rf_lt hr i j hj hij
      rw [List.pairwise_iff_getElem] at hpw
      rcases Nat.lt_trichotomy p q with h | h | h
      · have := hpw p q hp hq h; rw [h1] at this; omega
      · exact h
      · have := hpw q p hq hp h; rw [h1] at this; omega
    rw [e1, ← em, tf_at (heavy l) hne hnd a _ m hm, Nat.add_comm, shares hne hwh a m hm, wAt_at m hm]
  · have hz : l[i].weight = 0 := by omega
    rw [hz]
    by_cases hne : heavy l = []
    · rw [e1, hne]; rfl
    · refine tf_none _ hne _ (fun c hc e => ?_) _ _
      have h1 := heavy_pos l c hc
      have := hdl c h1.1 _ (List.getElem_mem hi) e
      rw [this] at h1; omega
theorem stAt_credit (h : List Cd) (hw : ∀ c ∈ h, 0 ≤ c.weight ∧ c.weight ≤ 100) (hl : h.length ≤ 30) (t : Nat) : ∀ s ∈ stAt h t, -(3100 * (t : Int)) ≤ s.credit ∧ s.credit ≤ 3100 * (t : Int) := by
  induction t with
  | zero => intro s hs; cases hs
  | succ t ih =>
    intro s hs
    show -(3100 * ((t + 1 : Nat) : Int)) ≤ _ ∧ _
    have hs' : s ∈ stp h (stAt h t) := hs
    unfold stp at hs'
    split at hs'
    · have := ih s hs'; omega
    · have hb := baseS_credit (stAt h t) h (3100 * (t : Int)) ih (by omega)
      have hww : ∀ s ∈ baseS (stAt h t) h, 0 ≤ s.weight ∧ s.weight ≤ 100 := by
        intro s hs
        obtain ⟨i, hi, rfl⟩ := List.getElem_of_mem hs
        have hi' : i < h.length := by rw [baseS_len] at hi; exact hi
        rw [(baseS_at _ _ i hi hi').1]
        exact hw _ (List.getElem_mem _)
      have := stepS_credit (baseS (stAt h t) h) (3100 * (t : Int)) hb hww (by rw [baseS_len]; exact hl) (by omega) s hs'
      omega
theorem stAt_len (h : List Cd) (t : Nat) : (stAt h t).length ≤ h.length := by
  cases t with
  | zero => simp [stAt]
  | succ t =>
    by_cases hne : h = []
    · have : ∀ t, stAt [] t = [] := by
        intro t
        induction t with
        | zero => rfl
        | succ t ih => show stp [] (stAt [] t) = []; rw [ih]; rfl
      rw [hne, this]; simp
    · rw [stAt_succ hne, stepS_len, xAt_len]; exact Nat.le_refl _
end Go.Proofs.Ytfdlpgmoohlgeaa
