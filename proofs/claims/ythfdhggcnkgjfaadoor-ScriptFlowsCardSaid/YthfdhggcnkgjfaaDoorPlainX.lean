/- Plain words on addresses and flows as texts. No program in sight. -/
import Derived.Test.YthfdhggcnkgjfaaDoorPlainW
namespace Go.Proofs.YthfdhggcnkgjfaaDoor
set_option linter.unusedVariables false
structure Adr where
  six : Bool
  hi : Nat
  lo : Nat
def Adr.zero : Adr := ⟨false, 0, 0⟩
def val (b : Nat) (ns : List Nat) : Nat := ns.foldl (fun v n => v * b + n) 0
theorem val_snoc (b : Nat) (ns : List Nat) (n : Nat) : val b (ns ++ [n]) = val b ns * b + n := by simp [val]
def adr6 (ns : List Nat) : Adr := ⟨true, val 65536 ns / 18446744073709551616, val 65536 ns % 18446744073709551616⟩
def adr4 (ns : List Nat) : Adr := ⟨false, 0, val 256 ns⟩
def p6 (s : List UInt8) : Option Adr := if (parts 58 s).length = 8 then (numAll 16 65535 (parts 58 s)).map adr6 else none
def p4 (s : List UInt8) : Option Adr := if (parts 46 s).length = 4 then (numAll 10 255 (parts 46 s)).map adr4 else none
def addrP (s : List UInt8) : Option Adr := match p6 s with
  | some a => some a
  | none => p4 s
/-- As the document says it. -/
def addrR (s : List UInt8) : Option Adr := if (parts 46 s).length = 4 then (numAll 10 255 (parts 46 s)).map adr4 else p6 s
theorem numF_mem {base most : Nat} {c : UInt8} (hc : dig base c = none) {l : List UInt8} : ∀ {n v : Nat}, numF base most l n = some v → c ∉ l := by
  induction l with
  | nil => intro n v _; simp
  | cons x l ih =>
    intro n v h
    cases hd : dig base x with
    | none => rw [numF_none hd] at h; cases h
    | some d =>
      by_cases h2 : most < n * base + d
      · rw [numF_over hd h2] at h; cases h
      · rw [numF_step hd h2] at h
        simp only [List.mem_cons, not_or]
        exact ⟨fun e => (by rw [← e, hc] at hd; cases hd), ih h⟩
theorem numP_mem {base most : Nat} {c : UInt8} (hc : dig base c = none) {l : List UInt8} {v : Nat} (h : numP base most l = some v) : c ∉ l := by
  unfold numP at h
  split at h
  · cases h
  · exact numF_mem hc h
theorem numAll_mem {base most : Nat} {c : UInt8} (hc : dig base c = none) : ∀ {ps : List (List UInt8)} {ns : List Nat}, numAll base most ps = some ns → ∀ p ∈ ps, c ∉ p
  | [], ns, _ => fun p hp => by cases hp
  | q :: ps, ns, h => by
    rw [numAll] at h
    cases hq : numP base most q with
    | none => rw [hq] at h; cases h
    | some m =>
      rw [hq] at h
      cases hr : numAll base most ps with
      | none => rw [hr] at h; cases h
      | some ms =>
        intro p hp
        rcases List.mem_cons.1 hp with rfl | hp
        · exact numP_mem hc hq
        · exact numAll_mem hc hr p hp
theorem join_mem {c d : UInt8} (hcd : c ≠ d) : ∀ {ps : List (List UInt8)}, (∀ p ∈ ps, c ∉ p) → c ∉ joinC d ps
  | [], _ => by simp [joinC]
  | [p], h => by simpa [joinC] using h p (by simp)
  | p :: q :: ps, h => by
    rw [joinC_cons2]
    have := join_mem hcd (ps := q :: ps) fun x hx => h x (by simp [hx])
    have := h p (by simp)
    simp only [List.mem_append, List.mem_cons, not_or]
    exact ⟨this, hcd, by assumption⟩
theorem parts_free {base most : Nat} {c d : UInt8} (hc : dig base c = none) (hcd : c ≠ d) {s : List UInt8} {ns : List Nat} (h : numAll base most (parts d s) = some ns) : c ∉ s := by
  rw [← join_parts d s]
  exact join_mem hcd (numAll_mem hc h)
theorem p6_mem {s : List UInt8} {a : Adr} (h : p6 s = some a) {c : UInt8} (hc : dig 16 c = none) (hcd : c ≠ 58) : c ∉ s := by
  unfold p6 at h
  split at h
  · cases hn : numAll 16 65535 (parts 58 s) with
    | none => rw [hn] at h; cases h
    | some ns => exact parts_free hc hcd hn
  · cases h
theorem p4_mem {s : List UInt8} {a : Adr} (h : p4 s = some a) {c : UInt8} (hc : dig 10 c = none) (hcd : c ≠ 46) : c ∉ s := by
  unfold p4 at h
  split at h
  · cases hn : numAll 10 255 (parts 46 s) with
    | none => rw [hn] at h; cases h
    | some ns => exact parts_free hc hcd hn
  · cases h
theorem addrR_eq (s : List UInt8) : addrR s = addrP s := by
  unfold addrR addrP
  cases h6 : p6 s with
  | some a =>
    have h1 : 46 ∉ s := p6_mem h6 (by decide) (by decide)
    rw [parts_one h1, if_neg (by simp)]
  | none =>
    by_cases h4 : (parts 46 s).length = 4
    · rw [if_pos h4]; unfold p4; rw [if_pos h4]
    · rw [if_neg h4]; unfold p4; rw [if_neg h4]
theorem addrP_mem {s : List UInt8} {a : Adr} (h : addrP s = some a) : (10 : UInt8) ∉ s := by
  unfold addrP at h
  cases h6 : p6 s with
  | some b => exact p6_mem h6 (by decide) (by decide)
  | none => rw [h6] at h; exact p4_mem h (by decide) (by decide)
/-! ### Flows -/
def tcpT : List UInt8 := [116, 99, 112]
def udpT : List UInt8 := [117, 100, 112]
def protoP (p : List UInt8) : Option Nat := if p = tcpT then some 6 else if p = udpT then some 17 else none
structure Flw where
  src : Adr
  dst : Adr
  sp : Nat
  dp : Nat
  pr : Nat
def flowW : List (List UInt8) → Option Flw
  | [a, p, b, q, r] => match addrP a, numP 10 65535 p, addrP b, numP 10 65535 q, protoP r with
    | some a, some p, some b, some q, some r => some ⟨a, b, p, q, r⟩
    | _, _, _, _, _ => none
  | _ => none
def flowP (s : List UInt8) : Option Flw := flowW (parts 32 s)
theorem protoP_mem {p : List UInt8} {r : Nat} (h : protoP p = some r) : (10 : UInt8) ∉ p := by
  unfold protoP at h
  split at h
  · rename_i e; rw [e]; decide
  · split at h
    · rename_i e; rw [e]; decide
    · cases h
theorem flowP_mem {s : List UInt8} {f : Flw} (h : flowP s = some f) : (10 : UInt8) ∉ s := by
  unfold flowP at h
  rw [← join_parts 32 s]
  refine join_mem (by decide) ?_
  generalize parts 32 s = l at h
  match l, h with
  | [a, p, b, q, r], h =>
    unfold flowW at h
    dsimp only at h
    cases ha : addrP a with
    | none => rw [ha] at h; cases h
    | some a' =>
      cases hp : numP 10 65535 p with
      | none => rw [ha, hp] at h; cases h
      | some p' =>
        cases hb : addrP b with
        | none => rw [ha, hp, hb] at h; cases h
        | some b' =>
          cases hq : numP 10 65535 q with
          | none => rw [ha, hp, hb, hq] at h; cases h
          | some q' =>
            cases hr : protoP r with
            | none => rw [ha, hp, hb, hq, hr] at h; cases h
            | some r' =>
              intro x hx
              simp only [List.mem_cons, List.not_mem_nil, or_false] at hx
              rcases hx with rfl | rfl | rfl | rfl | rfl
              · exact addrP_mem ha
              · exact numP_mem (by decide) hp
              · exact addrP_mem hb
              · exact numP_mem (by decide) hq
              · exact protoP_mem hr
  | [], h => cases h
  | [_], h => cases h
  | [_, _], h => cases h
  | [_, _, _], h => cases h
  | [_, _, _, _], h => cases h
  | _ :: _ :: _ :: _ :: _ :: _ :: _, h => cases h
end Go.Proofs.YthfdhggcnkgjfaaDoor
