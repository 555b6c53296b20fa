/- Plain words: a line's words by a pattern's letters. No program in sight. -/
import Derived.Test.YthfdhggcnkgjfaaDoorPlainX
namespace Go.Proofs.YthfdhggcnkgjfaaDoor
set_option linter.unusedVariables false
structure Fd where
  nums : List Nat
  a : Adr
  po : Nat
  p : Nat
  wy : Nat
  load : List UInt8
def Fd.zero : Fd := ⟨[], Adr.zero, 0, 0, 0, []⟩
def turnsT : List UInt8 := [116, 117, 114, 110, 115]
def weightsT : List UInt8 := [119, 101, 105, 103, 104, 116, 115]
def loadsT : List UInt8 := [108, 111, 97, 100, 115]
def drawsT : List UInt8 := [100, 114, 97, 119, 115]
def wayN (k : Nat) : List UInt8 := if k = 1 then turnsT else if k = 2 then weightsT else if k = 3 then loadsT else if k = 4 then drawsT else []
/-- The last way ahead of the k-th that has the name. -/
def wayU : Nat → List UInt8 → Option Nat
  | 0, _ => none
  | k + 1, w => if 1 ≤ k ∧ wayN k = w then some k else wayU k w
def wayP (w : List UInt8) : Option Nat := wayU 5 w
def limP (c : UInt8) : Nat := if c = 75 ∨ c = 70 then 255 else if c = 80 then 65535 else if c = 49 then 1 else if c = 57 then 99 else 1073741824
theorem limP_le (c : UInt8) : limP c ≤ 1073741824 := by
  unfold limP
  split <;> (try split) <;> (try split) <;> (try split) <;> omega
def fitStep (c : UInt8) (ws : List (List UInt8)) (f : Fd) : Option (List (List UInt8) × Fd) := match ws with
  | [] => none
  | w :: ws =>
    if c = 97 then (addrP w).map fun a => (ws, { f with a := a })
    else if c = 112 then (protoP w).map fun n => (ws, { f with p := n })
    else if c = 119 then (wayP w).map fun n => (ws, { f with wy := n })
    else if c = 84 then some ([], { f with load := joinC 32 (w :: ws) })
    else if c = 80 then (numP 10 65535 w).map fun n => (ws, { f with po := n })
    else (numP 10 (limP c) w).map fun n => (ws, { f with nums := f.nums ++ [n] })
def fitS : List UInt8 → List (List UInt8) → Fd → Option Fd
  | [], ws, f => if ws.isEmpty = true then some f else none
  | c :: p, ws, f => match fitStep c ws f with
    | none => none
    | some (ws', f') => fitS p ws' f'
theorem fitS_none {c : UInt8} {p : List UInt8} {ws : List (List UInt8)} {f : Fd} (h : fitStep c ws f = none) : fitS (c :: p) ws f = none := by rw [fitS, h]
theorem fitS_some {c : UInt8} {p : List UInt8} {ws ws' : List (List UInt8)} {f f' : Fd} (h : fitStep c ws f = some (ws', f')) : fitS (c :: p) ws f = fitS p ws' f' := by rw [fitS, h]
section
variable {c : UInt8} {w : List UInt8} {ws : List (List UInt8)} {f : Fd}
theorem fitStep_a : fitStep 97 (w :: ws) f = (addrP w).map fun a => (ws, { f with a := a }) := rfl
theorem fitStep_p : fitStep 112 (w :: ws) f = (protoP w).map fun n => (ws, { f with p := n }) := rfl
theorem fitStep_w : fitStep 119 (w :: ws) f = (wayP w).map fun n => (ws, { f with wy := n }) := rfl
theorem fitStep_T : fitStep 84 (w :: ws) f = some ([], { f with load := joinC 32 (w :: ws) }) := rfl
theorem fitStep_P : fitStep 80 (w :: ws) f = (numP 10 65535 w).map fun n => (ws, { f with po := n }) := rfl
theorem fitStep_n (h1 : c ≠ 97) (h2 : c ≠ 112) (h3 : c ≠ 119) (h4 : c ≠ 84) (h5 : c ≠ 80) : fitStep c (w :: ws) f = (numP 10 (limP c) w).map fun n => (ws, { f with nums := f.nums ++ [n] }) := by
  unfold fitStep
  simp only
  rw [if_neg h1, if_neg h2, if_neg h3, if_neg h4, if_neg h5]
end
theorem wayU_le : ∀ {k : Nat} {w : List UInt8} {n : Nat}, wayU k w = some n → 1 ≤ n ∧ n < k
  | 0, w, n, h => by cases h
  | k + 1, w, n, h => by
    unfold wayU at h
    split at h
    · injection h with h; omega
    · have := wayU_le h; omega
theorem joinC_snoc (c : UInt8) (q : List UInt8) : ∀ {ps : List (List UInt8)}, ps ≠ [] → joinC c (ps ++ [q]) = joinC c ps ++ c :: q
  | [], h => absurd rfl h
  | [p], _ => rfl
  | p :: r :: ps, _ => by
    rw [List.cons_append, joinC_cons c p (by simp), joinC_snoc c q (by simp), joinC_cons c p (by simp), List.append_assoc, List.cons_append]
theorem joinC_take_le (c : UInt8) : ∀ (ps : List (List UInt8)) (k : Nat), (joinC c (ps.take k)).length ≤ (joinC c ps).length
  | [], k => by simp
  | [p], k => by cases k <;> simp [joinC]
  | p :: q :: ps, 0 => by simp [joinC]
  | p :: q :: ps, 1 => by simp [joinC]
  | p :: q :: ps, k + 2 => by
    have := joinC_take_le c (q :: ps) (k + 1)
    rw [List.take_succ_cons] at this ⊢
    rw [joinC_cons c p (by simp), joinC_cons c p (by simp)]
    simp only [List.length_append, List.length_cons]
    rw [List.take_succ_cons]
    omega
theorem joinC_len_get (c : UInt8) : ∀ (ps : List (List UInt8)) (p : List UInt8), p ∈ ps → p.length ≤ (joinC c ps).length
  | [q], p, h => by simp at h; subst h; exact Nat.le_refl _
  | q :: r :: ps, p, h => by
    rw [joinC_cons c q (by simp), List.length_append, List.length_cons]
    rcases List.mem_cons.1 h with rfl | h
    · omega
    · have := joinC_len_get c (r :: ps) p h; omega
end Go.Proofs.YthfdhggcnkgjfaaDoor
