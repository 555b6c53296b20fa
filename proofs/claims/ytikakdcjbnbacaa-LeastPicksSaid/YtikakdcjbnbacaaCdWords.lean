/- Plain words for the proofs of layer 18: candidates as plain data, and what it means that a slice holds them. -/
import Derived.Test.YtikakdcjbnbacaaRows
import Derived.Test.YtikakdcjbnbacaaBase
namespace Go.Proofs.Ytikakdcjbnbacaa
open Go.RowKit

structure Cd where
  slot : Int
  backend : Int
  weight : Int
  load : Int

def Cd.okB (c : Cd) (last : Int) : Bool := decide (last < c.slot) && decide (c.slot ≤ 4095) && decide (0 ≤ c.weight) && decide (c.weight ≤ 100)

def Cd.val (c : Cd) : Value := .agg #[.int .i64 c.slot, .int .i64 c.backend, .int .i64 c.weight, .int .u32 c.load]

def rightFrom (last : Int) : List Cd → Bool
  | [] => true
  | c :: r => c.okB last && rightFrom c.slot r

theorem rf_bad {l : List Cd} {k : Nat} {last : Int} (h : k < l.length) (hb : l[k].slot ≤ last ∨ 4095 < l[k].slot ∨ l[k].weight < 0 ∨ 100 < l[k].weight) : rightFrom last (l.drop k) = false := by
  rw [List.drop_eq_getElem_cons h, rightFrom, Bool.and_eq_false_iff]
  left
  unfold Cd.okB
  simp only [Bool.and_eq_false_iff, decide_eq_false_iff_not]
  omega
theorem rf_good {l : List Cd} {k : Nat} {last : Int} (h : k < l.length) (h1 : last < l[k].slot) (h2 : l[k].slot ≤ 4095) (h3 : 0 ≤ l[k].weight) (h4 : l[k].weight ≤ 100) :
    rightFrom last (l.drop k) = rightFrom l[k].slot (l.drop (k + 1)) := by
  rw [List.drop_eq_getElem_cons h, rightFrom]
  simp [Cd.okB, h1, h2, h3, h4]
theorem rf_end {l : List Cd} {k : Nat} {last : Int} (h : ¬ k < l.length) : rightFrom last (l.drop k) = true := by
  rw [List.drop_eq_nil_of_le (by omega)]; rfl

/-- Right's candidates: the places rise from 0 to 4095. -/
theorem rf_mem {l : List Cd} {last : Int} (h : rightFrom last l = true) : ∀ c ∈ l, last < c.slot ∧ c.slot ≤ 4095 := by
  induction l generalizing last with
  | nil => intro c hc; cases hc
  | cons d r ih =>
    rw [rightFrom, Bool.and_eq_true] at h
    obtain ⟨h1, h2⟩ := h
    unfold Cd.okB at h1
    simp only [Bool.and_eq_true, decide_eq_true_eq] at h1
    intro c hc
    cases hc with
    | head => omega
    | tail _ hm => have := ih h2 c hm; omega


def pickI (l : List Cd) (n : Int) : Nat := let i := l.findIdx (fun c => decide (n ≤ c.slot)); if i < l.length then i else 0

theorem pickI_lt (l : List Cd) (n : Int) (h : 0 < l.length) : pickI l n < l.length := by
  unfold pickI; simp only; split <;> omega

theorem pickI_at {l : List Cd} {n : Int} {k : Nat} (hk : k < l.length) (h1 : n ≤ l[k].slot) (h2 : ∀ j (h : j < k), l[j].slot < n) : pickI l n = k := by
  have : l.findIdx (fun c => decide (n ≤ c.slot)) = k := by
    rw [List.findIdx_eq hk]
    refine ⟨by simpa using h1, fun j hj => ?_⟩
    have := h2 j hj
    simp; omega
  unfold pickI; simp only [this]; rw [if_pos hk]

theorem pickI_none {l : List Cd} {n : Int} (h2 : ∀ j (h : j < l.length), l[j].slot < n) : pickI l n = 0 := by
  have : l.findIdx (fun c => decide (n ≤ c.slot)) = l.length := by
    rw [List.findIdx_eq_length]
    intro c hc
    obtain ⟨j, hj, rfl⟩ := List.getElem_of_mem hc
    have := h2 j hj
    simp; omega
  unfold pickI; simp only [this]; rw [if_neg (by omega)]


theorem rf_lt {l : List Cd} {last : Int} (h : rightFrom last l = true) : ∀ i j (hj : j < l.length) (hij : i < j), l[i].slot < l[j].slot := by
  induction l generalizing last with
  | nil => intro i j hj; simp at hj
  | cons d r ih =>
    rw [rightFrom, Bool.and_eq_true] at h
    intro i j hj hij
    cases j with
    | zero => omega
    | succ j =>
      have hj' : j < r.length := by simpa using hj
      cases i with
      | zero => simpa using (rf_mem h.2 r[j] (List.getElem_mem hj')).1
      | succ i => simpa using ih h.2 i j hj' (by omega)

theorem pick_next {l : List Cd} (h : rightFrom (-1) l = true) (p : Nat) (hp : p < l.length) : pickI l (l[p].slot + 1) = (p + 1) % l.length := by
  by_cases h1 : p + 1 < l.length
  · rw [Nat.mod_eq_of_lt h1]
    refine pickI_at h1 ?_ fun j hj => ?_
    · have := rf_lt h p (p + 1) h1 (by omega); omega
    · by_cases e : j = p
      · subst e; omega
      · have := rf_lt h j p hp (by omega); omega
  · have e : p + 1 = l.length := by omega
    rw [e, Nat.mod_self]
    refine pickI_none fun j hj => ?_
    by_cases e : j = p
    · subst e; omega
    · have := rf_lt h j p hp (by omega); omega

theorem mod_ne {p i j n : Nat} (hi : i < n) (hj : j < i) : (p + j) % n ≠ (p + i) % n := by
  intro e
  have h1 := Nat.div_add_mod (p + j) n
  have h2 := Nat.div_add_mod (p + i) n
  rw [e] at h1
  have h3 : n * ((p + j) / n) + (i - j) = n * ((p + i) / n) := by omega
  rcases Nat.lt_trichotomy ((p + j) / n) ((p + i) / n) with h | h | h
  · have : n * ((p + j) / n + 1) ≤ n * ((p + i) / n) := Nat.mul_le_mul_left n h
    rw [Nat.mul_add] at this
    omega
  · rw [h] at h3; omega
  · have : n * ((p + i) / n + 1) ≤ n * ((p + j) / n) := Nat.mul_le_mul_left n h
    rw [Nat.mul_add] at this
    omega

def CellsAt (w : World) (b off : Nat) (l : List Cd) : Prop :=
  ∀ k (h : k < l.length), w.cell? ⟨b, off + k * 4, none⟩ = some (.int .i64 l[k].slot) ∧ w.cell? ⟨b, off + k * 4 + 1, none⟩ = some (.int .i64 l[k].backend) ∧
    w.cell? ⟨b, off + k * 4 + 2, none⟩ = some (.int .i64 l[k].weight) ∧ w.cell? ⟨b, off + k * 4 + 3, none⟩ = some (.int .u32 l[k].load)

theorem CellsAt.keep {w w' : World} {b off : Nat} {l : List Cd} (h : CellsAt w b off l) (hk : ∀ o, w'.cell? ⟨b, o, none⟩ = w.cell? ⟨b, o, none⟩) : CellsAt w' b off l := by
  intro k hk'
  have := h k hk'
  simp only [hk]
  exact this

end Go.Proofs.Ytikakdcjbnbacaa
