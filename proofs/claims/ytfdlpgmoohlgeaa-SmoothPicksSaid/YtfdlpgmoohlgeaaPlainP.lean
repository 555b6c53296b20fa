/- What the reference and the program keep, step for step, in plain words. -/
import Derived.Test.YtfdlpgmoohlgeaaA
import Derived.Test.YtfdlpgmoohlgeaaSmRef
import Derived.Test.YtfdlpgmoohlgeaaCdsOpen
namespace Go.Proofs.Ytfdlpgmoohlgeaa
open Go.RowKit
set_option linter.unusedVariables false
def nextR (R : List ShR) (l : List Cd) : List ShR := if heavy l = [] then R else rowR (heavy l) (crd (stepS (baseS (R.map ShR.sh) (heavy l))))
theorem row_sh (S : List Sh) (h : List Cd) : (rowR h (crd (stepS (baseS S h)))).map ShR.sh = stepS (baseS S h) := by
  have hl : (stepS (baseS S h)).length = h.length := by rw [stepS_len, baseS_len]
  apply List.ext_getElem
  · simp [rowR_len, hl]
  · intro i h1 h2
    have hi : i < h.length := by simpa [rowR_len] using h1
    have hb : i < (baseS S h).length := by rw [baseS_len]; exact hi
    obtain ⟨e1, e2⟩ := baseS_at S h i hb hi
    simp only [List.getElem_map, rowR_at h _ i hi, ShR.sh, crd_at _ _ h2]
    have e3 : (stepS (baseS S h))[i].backend = (baseS S h)[i].backend ∧ (stepS (baseS S h))[i].weight = (baseS S h)[i].weight := by
      simp only [stepS, List.getElem_set]
      split
      · rename_i e; subst e
        simp [subS, addS, List.getD_eq_getElem?_getD, hb]
      · simp [addS]
    rw [← e1, ← e2, ← e3.1, ← e3.2]
theorem next_sh (R : List ShR) (l : List Cd) : (nextR R l).map ShR.sh = stp (heavy l) (R.map ShR.sh) := by
  unfold nextR stp
  split
  · rfl
  · exact row_sh _ _
theorem next_len (R : List ShR) (l : List Cd) (hR : R.length ≤ 30) (hl : l.length ≤ 30) : (nextR R l).length ≤ 30 := by
  unfold nextR
  split
  · exact hR
  · rw [rowR_len]; exact Nat.le_trans (heavy_len l) hl
def DistR (R : List ShR) : Prop := R.Pairwise fun a b => a.c.backend ≠ b.c.backend
theorem dist_pw (l : List Cd) (h : Dist l) : l.Pairwise fun a b => a.backend ≠ b.backend := by
  rw [List.pairwise_iff_getElem]
  intro i j hi hj hij e
  exact h j i hj hij e.symm
theorem next_dist (R : List ShR) (l : List Cd) (hR : DistR R) (hl : Dist l) : DistR (nextR R l) := by
  unfold nextR
  split
  · exact hR
  · have h1 : (heavy l).Pairwise fun a b => a.backend ≠ b.backend := (dist_pw l hl).filter _
    rw [DistR, List.pairwise_iff_getElem]
    intro i j hi hj hij
    rw [rowR_len] at hi hj
    rw [rowR_at _ _ _ hi, rowR_at _ _ _ hj]
    exact List.pairwise_iff_getElem.1 h1 i j hi hj hij
def CrB (R : List ShR) (B : Int) : Prop := ∀ r ∈ R, -B ≤ r.owed ∧ r.owed ≤ B
theorem CrB.sh {R : List ShR} {B : Int} (h : CrB R B) : ∀ s ∈ R.map ShR.sh, -B ≤ s.credit ∧ s.credit ≤ B := by
  intro s hs
  obtain ⟨r, hr, rfl⟩ := List.mem_map.1 hs
  exact h r hr
theorem next_cr (R : List ShR) (l : List Cd) (B : Int) (hB : CrB R B) (b0 : 0 ≤ B) (hw : ∀ c ∈ l, 0 ≤ c.weight ∧ c.weight ≤ 100) (hl : l.length ≤ 30) : CrB (nextR R l) (B + 3100) := by
  have h1 : ∀ s ∈ (nextR R l).map ShR.sh, -(B + 3100) ≤ s.credit ∧ s.credit ≤ B + 3100 := by
    rw [next_sh]
    unfold stp
    split
    · intro s hs; have := hB.sh s hs; omega
    · refine stepS_credit _ B (baseS_credit _ _ B hB.sh b0) ?_ ?_ b0
      · intro s hs
        obtain ⟨i, hi, rfl⟩ := List.mem_iff_getElem.1 hs
        have hi' : i < (heavy l).length := by rw [baseS_len] at hi; exact hi
        rw [(baseS_at _ _ i hi hi').1]
        exact hw _ (heavy_pos l _ (List.getElem_mem hi')).1
      · rw [baseS_len]; exact Nat.le_trans (heavy_len l) hl
  intro r hr
  exact h1 r.sh (List.mem_map_of_mem hr)
/-- What the loop over the reference's shares keeps of backend x. -/
def wantTo (R : List ShR) (x : Int) (k : Nat) : Int := owedI ((R.take k).map ShR.sh) x
theorem owed_snoc (S : List Sh) (s : Sh) (x : Int) (h : ∀ t ∈ S, t.backend ≠ s.backend) : owedI (S ++ [s]) x = if s.backend = x then s.credit else owedI S x := by
  unfold owedI
  rw [List.find?_append]
  by_cases e : s.backend = x
  · have : S.find? (fun t => decide (t.backend = x)) = none := by
      rw [List.find?_eq_none]; intro t ht; simp; rw [← e]; exact h t ht
    rw [this, if_pos e]; simp [e]
  · rw [if_neg e]
    cases hf : S.find? (fun t => decide (t.backend = x)) with
    | some t => simp
    | none => simp [e]
theorem want_succ (R : List ShR) (x : Int) (k : Nat) (hk : k < R.length) (hd : DistR R) : wantTo R x (k + 1) = if R[k].c.backend = x then R[k].owed else wantTo R x k := by
  unfold wantTo
  rw [List.take_succ_eq_append_getElem hk, List.map_append, List.map_cons, List.map_nil, owed_snoc]
  · rfl
  · intro t ht
    obtain ⟨r, hr, rfl⟩ := List.mem_map.1 ht
    obtain ⟨i, hi, rfl⟩ := List.mem_iff_getElem.1 hr
    rw [List.getElem_take]
    simp at hi
    exact List.pairwise_iff_getElem.1 hd i k (by omega) hk (by omega)
theorem want_all (R : List ShR) (x : Int) : wantTo R x R.length = owedI (R.map ShR.sh) x := by unfold wantTo; rw [List.take_length]
theorem owed_own (R : List ShR) (k : Nat) (hk : k < R.length) (hd : DistR R) : owedI (R.map ShR.sh) R[k].c.backend = R[k].owed := by
  rw [owed_at (R.map ShR.sh) k (by simpa using hk) _ (by simp [ShR.sh])]
  · simp [ShR.sh]
  · intro j hj
    simp only [List.getElem_map, ShR.sh]
    exact List.pairwise_iff_getElem.1 hd j k (by omega) hk hj
theorem SmS.below {sb base : Nat} {S : List Sh} {w0 w w' : World} (h : SmS sb base S w0 w) (hb : Below w.heap.size w w') : SmS sb base S w0 w' := by
  obtain ⟨⟨v, hB, hR⟩, hK⟩ := h
  exact ⟨⟨v, hB.below hb hB.lt, hR.belowAll hb⟩, hK.then (Kept.ofB (S := fun _ => False) hb) (fun _ _ h => h.elim)⟩
theorem RowN.past {w w' : World} {base e sz sb : Nat} {v s : Value} {L : List (List Value)} (h : RowN w base e sz v L) (hs : Blk w sb 28 #[s]) (he : e ≠ 28) (h50 : e ≠ 50) (hk : ∀ g t cs, Blk w g t cs → g ≠ sb → t ≠ 50 → Blk w' g t cs) : RowN w' base e sz v L :=
  h.keep fun g hg => by
    obtain ⟨cs, hB⟩ := h.blk hg
    exact (hk g e cs hB (fun e' => by subst e'; exact h.ne hs he hg) h50).trans hB.symm
end Go.Proofs.Ytfdlpgmoohlgeaa
