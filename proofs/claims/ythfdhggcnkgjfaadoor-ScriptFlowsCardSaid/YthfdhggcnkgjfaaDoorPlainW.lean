/- Plain words on texts: parts between signs, numbers, addresses, flows. No program in sight. -/
import Derived.Lib.Split
import Derived.Lib.IndexBytes
import Derived.Lib.SplitLaws
import Derived.Laws.BitsAllLaws
namespace Go.Proofs.YthfdhggcnkgjfaaDoor
set_option linter.unusedVariables false
def parts (c : UInt8) : List UInt8 → List (List UInt8)
  | [] => [[]]
  | x :: l => if x = c then [] :: parts c l else match parts c l with
    | [] => [[x]]
    | p :: ps => (x :: p) :: ps
theorem parts_ne (c : UInt8) (l : List UInt8) : parts c l ≠ [] := by
  cases l with
  | nil => simp [parts]
  | cons x l =>
    unfold parts
    split
    · simp
    · split <;> simp
theorem parts_cons_eq {c x : UInt8} {l : List UInt8} (h : x = c) : parts c (x :: l) = [] :: parts c l := by rw [parts, if_pos h]
theorem parts_cons_ne {c x : UInt8} {l p : List UInt8} {ps : List (List UInt8)} (h : x ≠ c) (hp : parts c l = p :: ps) : parts c (x :: l) = (x :: p) :: ps := by rw [parts, if_neg h, hp]
theorem parts_pos (c : UInt8) (l : List UInt8) : 0 < (parts c l).length := List.length_pos_iff.2 (parts_ne c l)
theorem parts_len (c : UInt8) (l : List UInt8) : (parts c l).length ≤ l.length + 1 := by
  induction l with
  | nil => simp [parts]
  | cons x l ih =>
    unfold parts
    split
    · simp; exact ih
    · split
      · simp
      · rename_i p ps h; rw [h] at ih; simp at ih ⊢; omega
theorem parts_snoc_eq (c : UInt8) (l : List UInt8) : parts c (l ++ [c]) = parts c l ++ [[]] := by
  induction l with
  | nil => simp [parts]
  | cons x l ih =>
    rw [List.cons_append]
    by_cases h : x = c
    · rw [parts_cons_eq h, parts_cons_eq h, ih]; rfl
    · cases hp : parts c l with
      | nil => exact absurd hp (parts_ne c l)
      | cons p ps => rw [parts_cons_ne h hp, parts_cons_ne h (by rw [ih, hp]; rfl)]; rfl
def joinC (c : UInt8) : List (List UInt8) → List UInt8
  | [] => []
  | [p] => p
  | p :: ps => p ++ c :: joinC c ps
theorem joinC_cons2 (c : UInt8) (p q : List UInt8) (ps : List (List UInt8)) : joinC c (p :: q :: ps) = p ++ c :: joinC c (q :: ps) := rfl
theorem joinC_cons (c : UInt8) (p : List UInt8) {ps : List (List UInt8)} (h : ps ≠ []) : joinC c (p :: ps) = p ++ c :: joinC c ps := by
  cases ps with
  | nil => exact absurd rfl h
  | cons q ps => rfl
theorem join_parts (c : UInt8) (l : List UInt8) : joinC c (parts c l) = l := by
  induction l with
  | nil => rfl
  | cons x l ih =>
    by_cases h : x = c
    · rw [parts_cons_eq h, joinC_cons c [] (parts_ne c l), ih, h]; rfl
    · cases hp : parts c l with
      | nil => exact absurd hp (parts_ne c l)
      | cons p ps =>
        rw [parts_cons_ne h hp]
        rw [hp] at ih
        cases ps with
        | nil => simp only [joinC] at ih ⊢; rw [ih]
        | cons q ps => rw [joinC_cons2] at ih ⊢; rw [List.cons_append, ih]
theorem parts_mem (c : UInt8) (l : List UInt8) : ∀ p ∈ parts c l, c ∉ p := by
  induction l with
  | nil => intro p hp; simp [parts] at hp; simp [hp]
  | cons x l ih =>
    by_cases h : x = c
    · rw [parts_cons_eq h]
      intro p hp
      rcases List.mem_cons.1 hp with rfl | hp
      · simp
      · exact ih p hp
    · cases hp : parts c l with
      | nil => exact absurd hp (parts_ne c l)
      | cons q ps =>
        rw [parts_cons_ne h hp]
        rw [hp] at ih
        intro p hm
        rcases List.mem_cons.1 hm with rfl | hm
        · have := ih q (by simp)
          simp only [List.mem_cons, not_or]
          exact ⟨fun e => h e.symm, this⟩
        · exact ih p (by simp [hm])
/-- Where the sign is not, there is one part. -/
theorem parts_one {c : UInt8} {l : List UInt8} (h : c ∉ l) : parts c l = [l] := by
  induction l with
  | nil => rfl
  | cons x l ih =>
    simp only [List.mem_cons, not_or] at h
    exact parts_cons_ne (fun e => h.1 e.symm) (ih h.2)
/-- Of what stands before the sign. -/
theorem parts_app {c : UInt8} {p r : List UInt8} (h : c ∉ p) : parts c (p ++ c :: r) = p :: parts c r := by
  induction p with
  | nil => exact parts_cons_eq rfl
  | cons x p ih =>
    simp only [List.mem_cons, not_or] at h
    rw [List.cons_append]
    exact parts_cons_ne (fun e => h.1 e.symm) (ih h.2)
theorem parts_join {c : UInt8} {ps : List (List UInt8)} (hne : ps ≠ []) (h : ∀ p ∈ ps, c ∉ p) : parts c (joinC c ps) = ps := by
  induction ps with
  | nil => exact absurd rfl hne
  | cons p ps ih =>
    cases ps with
    | nil => exact parts_one (h p (by simp))
    | cons q ps => rw [joinC_cons2, parts_app (h p (by simp)), ih (by simp) fun x hx => h x (by simp [hx])]
/-! ### The sign, sought -/
theorem index_none {c : UInt8} {l : List UInt8} (h : c ∉ l) : Lib.indexByte l c = -1 := by
  induction l with
  | nil => rfl
  | cons x l ih =>
    simp only [List.mem_cons, not_or] at h
    have hx : (x == c) = false := by simp; exact fun e => h.1 e.symm
    unfold Lib.indexByte
    rw [hx, ih h.2]; rfl
theorem index_app {c : UInt8} {p r : List UInt8} (h : c ∉ p) : Lib.indexByte (p ++ c :: r) c = (p.length : Int) := by
  induction p with
  | nil => unfold Lib.indexByte; simp
  | cons x p ih =>
    simp only [List.mem_cons, not_or] at h
    have hx : (x == c) = false := by simp; exact fun e => h.1 e.symm
    rw [List.cons_append]
    unfold Lib.indexByte
    rw [hx, ih h.2]
    have : ((p.length : Int) == -1) = false := by simp
    rw [this]
    simp
/-! ### Numbers -/
def dig (base : Nat) (x : UInt8) : Option Nat := if 48 ≤ x.toNat ∧ x.toNat ≤ 57 then some (x.toNat - 48) else if base = 16 ∧ 97 ≤ x.toNat ∧ x.toNat ≤ 102 then some (x.toNat - 87) else none
def numF (base most : Nat) : List UInt8 → Nat → Option Nat
  | [], n => some n
  | x :: l, n => match dig base x with
    | none => none
    | some d => if most < n * base + d then none else numF base most l (n * base + d)
def shapeB (l : List UInt8) : Bool := decide (l = [] ∨ (l.head? = some 48 ∧ 1 < l.length))
def numP (base most : Nat) (l : List UInt8) : Option Nat := if shapeB l = true then none else numF base most l 0
theorem numF_none {base most n : Nat} {x : UInt8} {l : List UInt8} (h : dig base x = none) : numF base most (x :: l) n = none := by rw [numF, h]
theorem numF_over {base most n d : Nat} {x : UInt8} {l : List UInt8} (h : dig base x = some d) (h2 : most < n * base + d) : numF base most (x :: l) n = none := by rw [numF, h]; simp only; rw [if_pos h2]
theorem numF_step {base most n d : Nat} {x : UInt8} {l : List UInt8} (h : dig base x = some d) (h2 : ¬ most < n * base + d) : numF base most (x :: l) n = numF base most l (n * base + d) := by rw [numF, h]; simp only; rw [if_neg h2]
theorem numF_le {base most : Nat} {l : List UInt8} : ∀ {n v : Nat}, n ≤ most → numF base most l n = some v → v ≤ most := by
  induction l with
  | nil => intro n v hn h; injection h with h; omega
  | cons x l ih =>
    intro n v hn h
    cases hd : dig base x with
    | none => rw [numF_none hd] at h; cases h
    | some d =>
      by_cases h2 : most < n * base + d
      · rw [numF_over hd h2] at h; cases h
      · rw [numF_step hd h2] at h; exact ih (by omega) h
theorem numP_le {base most : Nat} {l : List UInt8} {v : Nat} (h : numP base most l = some v) : v ≤ most := by
  unfold numP at h
  split at h
  · cases h
  · exact numF_le (Nat.zero_le _) h
theorem dig_lt {base : Nat} {x : UInt8} {d : Nat} (hb : 10 ≤ base) (h : dig base x = some d) : d < base := by
  unfold dig at h
  split at h
  · injection h with h; omega
  · split at h
    · injection h with h; omega
    · cases h
/-- Numbers of parts; all of them must be. -/
def numAll (base most : Nat) : List (List UInt8) → Option (List Nat)
  | [] => some []
  | p :: ps => match numP base most p with
    | none => none
    | some n => match numAll base most ps with
      | none => none
      | some ns => some (n :: ns)
theorem numAll_snoc {base most : Nat} {p : List UInt8} : ∀ {ps : List (List UInt8)} {ns : List Nat}, numAll base most ps = some ns → numAll base most (ps ++ [p]) = (numP base most p).map (fun n => ns ++ [n])
  | [], ns, h => by
    injection h with h
    subst h
    rw [List.nil_append, numAll]
    cases numP base most p <;> rfl
  | q :: ps, ns, h => by
    rw [numAll] at h
    rw [List.cons_append, numAll]
    cases hq : numP base most q with
    | none => rw [hq] at h; cases h
    | some m =>
      rw [hq] at h
      cases hr : numAll base most ps with
      | none => rw [hr] at h; cases h
      | some ms =>
        rw [hr] at h
        injection h with h
        subst h
        simp only
        rw [numAll_snoc hr]
        cases numP base most p <;> rfl
theorem numAll_none {base most : Nat} {p : List UInt8} {qs : List (List UInt8)} (h : numP base most p = none) : ∀ (ps : List (List UInt8)), numAll base most (ps ++ p :: qs) = none
  | [] => by rw [List.nil_append, numAll, h]
  | q :: ps => by
    rw [List.cons_append, numAll, numAll_none h ps]
    cases numP base most q <;> rfl
theorem numAll_le {base most : Nat} : ∀ {ps : List (List UInt8)} {ns : List Nat}, numAll base most ps = some ns → ns.length = ps.length ∧ ∀ n ∈ ns, n ≤ most
  | [], ns, h => by injection h with h; subst h; exact ⟨rfl, fun n hn => by cases hn⟩
  | p :: ps, ns, h => by
    rw [numAll] at h
    cases hp : numP base most p with
    | none => rw [hp] at h; cases h
    | some m =>
      rw [hp] at h
      cases hr : numAll base most ps with
      | none => rw [hr] at h; cases h
      | some ms =>
        rw [hr] at h
        injection h with h
        subst h
        obtain ⟨h1, h2⟩ := numAll_le hr
        refine ⟨by simp [h1], fun n hn => ?_⟩
        rcases List.mem_cons.1 hn with rfl | hn
        · exact numP_le hp
        · exact h2 n hn
end Go.Proofs.YthfdhggcnkgjfaaDoor
