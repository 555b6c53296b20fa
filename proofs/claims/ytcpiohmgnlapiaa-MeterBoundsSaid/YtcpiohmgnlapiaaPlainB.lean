/- Plain law: in no stretch of time more comes through than the size, and the rate times the stretch. -/
import Derived.Test.YtcpiohmgnlapiaaPlain
namespace Go.Proofs.Ytcpiohmgnlapiaa

/-- The sum of what was taken from place k on. -/
def sumFrom (l : List Int) (k : Nat) : Int := (l.drop k).foldr (· + ·) 0
theorem sumFrom_step (l : List Int) (k : Nat) (h : k < l.length) : sumFrom l k = l[k] + sumFrom l (k + 1) := by
  unfold sumFrom
  rw [List.drop_eq_getElem_cons h, List.foldr_cons]
theorem sumFrom_end (l : List Int) (k : Nat) (h : l.length ≤ k) : sumFrom l k = 0 := by
  unfold sumFrom
  rw [List.drop_eq_nil_of_le h]; rfl
theorem foldr_snoc (l : List Int) (x : Int) : (l ++ [x]).foldr (· + ·) 0 = l.foldr (· + ·) 0 + x := by
  induction l with
  | nil => simp
  | cons a r ih => simp only [List.cons_append, List.foldr_cons, ih]; omega
theorem sumFrom_snoc (l : List Int) (x : Int) (k : Nat) (h : k ≤ l.length) : sumFrom (l ++ [x]) k = sumFrom l k + x := by
  unfold sumFrom
  rw [List.drop_append_of_le_length h, foldr_snoc]
theorem foldr_range (l : List Int) (c : Int) (h : ∀ x ∈ l, 0 ≤ x ∧ x ≤ c) : 0 ≤ l.foldr (· + ·) 0 ∧ l.foldr (· + ·) 0 ≤ c * l.length := by
  induction l with
  | nil => simp
  | cons a r ih =>
    have h1 := h a (List.mem_cons_self ..)
    have h2 := ih fun x hx => h x (List.mem_cons_of_mem _ hx)
    simp only [List.foldr_cons, List.length_cons]
    have : c * ((r.length + 1 : Nat) : Int) = c * (r.length : Int) + c := by rw [Int.natCast_add, Int.mul_add]; simp
    rw [this]
    omega
theorem sumFrom_range (l : List Int) (k : Nat) (c : Int) (hc : 0 ≤ c) (h : ∀ x ∈ l, 0 ≤ x ∧ x ≤ c) (hl : l.length ≤ 40) : 0 ≤ sumFrom l k ∧ sumFrom l k ≤ c * 40 := by
  have h1 := foldr_range (l.drop k) c (fun x hx => h x (List.mem_of_mem_drop hx))
  unfold sumFrom
  refine ⟨h1.1, Int.le_trans h1.2 ?_⟩
  have : ((l.drop k).length : Int) ≤ 40 := by rw [List.length_drop]; omega
  exact Int.mul_le_mul_of_nonneg_left this hc

/-- What holds of the bucket and of what was taken. -/
def Bnd (r s lv t : Int) (tms tks : List Int) : Prop :=
  tms.length = tks.length ∧ (∀ x ∈ tks, 0 ≤ x ∧ x ≤ 99999) ∧ ∀ k (h : k < tms.length), 0 ≤ tms[k] ∧ tms[k] ≤ t ∧ sumFrom tks k + lv ≤ s + r * (t - tms[k])
theorem Bnd.start (r s : Int) : Bnd r s s 0 [] [] := ⟨rfl, (fun x h => by simp at h), (fun k h => by simp at h)⟩
theorem Bnd.fill {r s lv t now : Int} {tms tks : List Int} (h : Bnd r s lv t tms tks) (r0 : 0 ≤ r) (ht : t ≤ now) : Bnd r s (fillL r s lv t now) now tms tks := by
  refine ⟨h.1, h.2.1, fun k hk => ?_⟩
  obtain ⟨h1, h2, h3⟩ := h.2.2 k hk
  refine ⟨h1, by omega, ?_⟩
  have e : r * (now - tms[k]) = r * (t - tms[k]) + r * (now - t) := by rw [← Int.mul_add]; congr 1; omega
  have hl : fillL r s lv t now ≤ lv + r * (now - t) := by
    unfold fillL
    split
    · have : 0 ≤ r * (now - t) := Int.mul_nonneg r0 (by omega)
      omega
    · have : r * min (now - t) 2147483648 ≤ r * (now - t) := Int.mul_le_mul_of_nonneg_left (by omega) r0
      omega
  rw [e]
  omega
theorem Bnd.take {r s lv t n : Int} {tms tks : List Int} (h : Bnd r s lv t tms tks) (t0 : 0 ≤ t) (n0 : 0 ≤ n) (n1 : n ≤ 99999) (hn : n ≤ lv) (hl : lv ≤ s) : Bnd r s (lv - n) t (tms ++ [t]) (tks ++ [n]) := by
  refine ⟨by simp [h.1], fun x hx => ?_, fun k hk => ?_⟩
  · rcases List.mem_append.1 hx with hx | hx
    · exact h.2.1 x hx
    · simp at hx; subst hx; exact ⟨n0, n1⟩
  · by_cases hk' : k < tms.length
    · obtain ⟨h1, h2, h3⟩ := h.2.2 k hk'
      rw [List.getElem_append_left hk', sumFrom_snoc _ _ _ (by rw [← h.1]; omega)]
      exact ⟨h1, h2, by omega⟩
    · have hke : k = tms.length := by simp at hk; omega
      subst hke
      rw [List.getElem_append_right (Nat.le_refl _), sumFrom_snoc _ _ _ (by rw [← h.1]; omega), sumFrom_end _ _ (by rw [← h.1]; omega)]
      simp
      exact ⟨t0, by omega⟩
theorem Bnd.ok {r s lv t : Int} {tms tks : List Int} (h : Bnd r s lv t tms tks) (r0 : 0 ≤ r) (l0 : 0 ≤ lv) {now : Int} (ht : t ≤ now) (k : Nat) (hk : k < tms.length) : sumFrom tks k ≤ s + r * (now - tms[k]) := by
  obtain ⟨h1, h2, h3⟩ := h.2.2 k hk
  have : r * (t - tms[k]) ≤ r * (now - tms[k]) := Int.mul_le_mul_of_nonneg_left (by omega) r0
  omega
end Go.Proofs.Ytcpiohmgnlapiaa
