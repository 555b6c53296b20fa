/- Plain words on texts: parts between signs, numbers, addresses, flows. No program in sight. -/
import Derived.Lib.Split
import Derived.Lib.IndexBytes
import Derived.Lib.SplitLaws
import Derived.Laws.BitsAllLaws
import Derived.Test.YthfdhggcnkgjfaaGreatDoorBase
import Derived.Lib.ItoaNum
namespace Go.Proofs.YthfdhggcnkgjfaaGreatDoor
set_option linter.unusedVariables false
def parts (c : UInt8) : List UInt8 → List (List UInt8)
  | [] => [[]]
  | x :: l => if x = c then [] :: parts c l else match parts c l with
    | [] => [[x]]
    | p :: ps => (x :: p) :: ps
theorem parts_ne (c : UInt8) (l : List UInt8) : parts c l ≠ [] := by
  cases l with
  | nil => simp [parts]
  | cons x l =>
    unfold parts
    split
    · simp
    · split <;> simp
theorem parts_cons_eq {c x : UInt8} {l : List UInt8} (h : x = c) : parts c (x :: l) = [] :: parts c l := by rw [parts, if_pos h]
theorem parts_cons_ne {c x : UInt8} {l p : List UInt8} {ps : List (List UInt8)} (h : x ≠ c) (hp : parts c l = p :: ps) : parts c (x :: l) = (x :: p) :: ps := by rw [parts, if_neg h, hp]
theorem parts_pos (c : UInt8) (l : List UInt8) : 0 < (parts c l).length := List.length_pos_iff.2 (parts_ne c l)
theorem parts_len (c : UInt8) (l : List UInt8) : (parts c l).length ≤ l.length + 1 := by
  induction l with
  | nil => simp [parts]
  | cons x l ih =>
    unfold parts
    split
    · simp; exact ih
    · split
      · simp
      · rename_i p ps h; rw [h] at ih; simp at ih ⊢; omega
def joinC (c : UInt8) : List (List UInt8) → List UInt8
  | [] => []
  | [p] => p
  | p :: ps => p ++ c :: joinC c ps
theorem joinC_cons2 (c : UInt8) (p q : List UInt8) (ps : List (List UInt8)) : joinC c (p :: q :: ps) = p ++ c :: joinC c (q :: ps) := rfl
theorem joinC_cons (c : UInt8) (p : List UInt8) {ps : List (List UInt8)} (h : ps ≠ []) : joinC c (p :: ps) = p ++ c :: joinC c ps := by
  cases ps with
  | nil => exact absurd rfl h
  | cons q ps => rfl
theorem join_parts (c : UInt8) (l : List UInt8) : joinC c (parts c l) = l := by
  induction l with
  | nil => rfl
  | cons x l ih =>
    by_cases h : x = c
    · rw [parts_cons_eq h, joinC_cons c [] (parts_ne c l), ih, h]; rfl
    · cases hp : parts c l with
      | nil => exact absurd hp (parts_ne c l)
      | cons p ps =>
        rw [parts_cons_ne h hp]
        rw [hp] at ih
        cases ps with
        | nil => simp only [joinC] at ih ⊢; rw [ih]
        | cons q ps => rw [joinC_cons2] at ih ⊢; rw [List.cons_append, ih]
theorem parts_mem (c : UInt8) (l : List UInt8) : ∀ p ∈ parts c l, c ∉ p := by
  induction l with
  | nil => intro p hp; simp [parts] at hp; simp [hp]
  | cons x l ih =>
    by_cases h : x = c
    · rw [parts_cons_eq h]
      intro p hp
      rcases List.mem_cons.1 hp with rfl | hp
      · simp
      · exact ih p hp
    · cases hp : parts c l with
      | nil => exact absurd hp (parts_ne c l)
      | cons q ps =>
        rw [parts_cons_ne h hp]
        rw [hp] at ih
        intro p hm
        rcases List.mem_cons.1 hm with rfl | hm
        · have := ih q (by simp)
          simp only [List.mem_cons, not_or]
          exact ⟨fun e => h e.symm, this⟩
        · exact ih p (by simp [hm])
/-- Where the sign is not, there is one part. -/
theorem parts_one {c : UInt8} {l : List UInt8} (h : c ∉ l) : parts c l = [l] := by
  induction l with
  | nil => rfl
  | cons x l ih =>
    simp only [List.mem_cons, not_or] at h
    exact parts_cons_ne (fun e => h.1 e.symm) (ih h.2)
/-- Of what stands before the sign. -/
theorem parts_app {c : UInt8} {p r : List UInt8} (h : c ∉ p) : parts c (p ++ c :: r) = p :: parts c r := by
  induction p with
  | nil => exact parts_cons_eq rfl
  | cons x p ih =>
    simp only [List.mem_cons, not_or] at h
    rw [List.cons_append]
    exact parts_cons_ne (fun e => h.1 e.symm) (ih h.2)
theorem parts_join {c : UInt8} {ps : List (List UInt8)} (hne : ps ≠ []) (h : ∀ p ∈ ps, c ∉ p) : parts c (joinC c ps) = ps := by
  induction ps with
  | nil => exact absurd rfl hne
  | cons p ps ih =>
    cases ps with
    | nil => exact parts_one (h p (by simp))
    | cons q ps => rw [joinC_cons2, parts_app (h p (by simp)), ih (by simp) fun x hx => h x (by simp [hx])]
/-! ### The sign, sought -/
theorem index_none {c : UInt8} {l : List UInt8} (h : c ∉ l) : Lib.indexByte l c = -1 := by
  induction l with
  | nil => rfl
  | cons x l ih =>
    simp only [List.mem_cons, not_or] at h
    have hx : (x == c) = false := by simp; exact fun e => h.1 e.symm
    unfold Lib.indexByte
    rw [hx, ih h.2]; rfl
theorem index_app {c : UInt8} {p r : List UInt8} (h : c ∉ p) : Lib.indexByte (p ++ c :: r) c = (p.length : Int) := by
  induction p with
  | nil => unfold Lib.indexByte; simp
  | cons x p ih =>
    simp only [List.mem_cons, not_or] at h
    have hx : (x == c) = false := by simp; exact fun e => h.1 e.symm
    rw [List.cons_append]
    unfold Lib.indexByte
    rw [hx, ih h.2]
    have : ((p.length : Int) == -1) = false := by simp
    rw [this]
    simp
/-! ### Numbers -/
def dig (base : Nat) (x : UInt8) : Option Nat := if 48 ≤ x.toNat ∧ x.toNat ≤ 57 then some (x.toNat - 48) else if base = 16 ∧ 97 ≤ x.toNat ∧ x.toNat ≤ 102 then some (x.toNat - 87) else none
def numF (base most : Nat) : List UInt8 → Nat → Option Nat
  | [], n => some n
  | x :: l, n => match dig base x with
    | none => none
    | some d => if most < n * base + d then none else numF base most l (n * base + d)
def shapeB (l : List UInt8) : Bool := decide (l = [] ∨ (l.head? = some 48 ∧ 1 < l.length))
def numP (base most : Nat) (l : List UInt8) : Option Nat := if shapeB l = true then none else numF base most l 0
theorem numF_none {base most n : Nat} {x : UInt8} {l : List UInt8} (h : dig base x = none) : numF base most (x :: l) n = none := by rw [numF, h]
theorem numF_over {base most n d : Nat} {x : UInt8} {l : List UInt8} (h : dig base x = some d) (h2 : most < n * base + d) : numF base most (x :: l) n = none := by rw [numF, h]; simp only; rw [if_pos h2]
theorem numF_step {base most n d : Nat} {x : UInt8} {l : List UInt8} (h : dig base x = some d) (h2 : ¬ most < n * base + d) : numF base most (x :: l) n = numF base most l (n * base + d) := by rw [numF, h]; simp only; rw [if_neg h2]
theorem numF_le {base most : Nat} {l : List UInt8} : ∀ {n v : Nat}, n ≤ most → numF base most l n = some v → v ≤ most := by
  induction l with
  | nil => intro n v hn h; injection h with h; omega
  | cons x l ih =>
    intro n v hn h
    cases hd : dig base x with
    | none => rw [numF_none hd] at h; cases h
    | some d =>
      by_cases h2 : most < n * base + d
      · rw [numF_over hd h2] at h; cases h
      · rw [numF_step hd h2] at h; exact ih (by omega) h
theorem numP_le {base most : Nat} {l : List UInt8} {v : Nat} (h : numP base most l = some v) : v ≤ most := by
  unfold numP at h
  split at h
  · cases h
  · exact numF_le (Nat.zero_le _) h
theorem dig_lt {base : Nat} {x : UInt8} {d : Nat} (hb : 10 ≤ base) (h : dig base x = some d) : d < base := by
  unfold dig at h
  split at h
  · injection h with h; omega
  · split at h
    · injection h with h; omega
    · cases h
/-- Numbers of parts; all of them must be. -/
def numAll (base most : Nat) : List (List UInt8) → Option (List Nat)
  | [] => some []
  | p :: ps => match numP base most p with
    | none => none
    | some n => match numAll base most ps with
      | none => none
      | some ns => some (n :: ns)
theorem numAll_snoc {base most : Nat} {p : List UInt8} : ∀ {ps : List (List UInt8)} {ns : List Nat}, numAll base most ps = some ns → numAll base most (ps ++ [p]) = (numP base most p).map (fun n => ns ++ [n])
  | [], ns, h => by
    injection h with h
    subst h
    rw [List.nil_append, numAll]
    cases numP base most p <;> rfl
  | q :: ps, ns, h => by
    rw [numAll] at h
    rw [List.cons_append, numAll]
    cases hq : numP base most q with
    | none => rw [hq] at h; cases h
    | some m =>
      rw [hq] at h
      cases hr : numAll base most ps with
      | none => rw [hr] at h; cases h
      | some ms =>
        rw [hr] at h
        injection h with h
        subst h
        simp only
        rw [numAll_snoc hr]
        cases numP base most p <;> rfl
theorem numAll_none {base most : Nat} {p : List UInt8} {qs : List (List UInt8)} (h : numP base most p = none) : ∀ (ps : List (List UInt8)), numAll base most (ps ++ p :: qs) = none
  | [] => by rw [List.nil_append, numAll, h]
  | q :: ps => by
    rw [List.cons_append, numAll, numAll_none h ps]
    cases numP base most q <;> rfl
theorem numAll_le {base most : Nat} : ∀ {ps : List (List UInt8)} {ns : List Nat}, numAll base most ps = some ns → ns.length = ps.length ∧ ∀ n ∈ ns, n ≤ most
  | [], ns, h => by injection h with h; subst h; exact ⟨rfl, fun n hn => by cases hn⟩
  | p :: ps, ns, h => by
    rw [numAll] at h
    cases hp : numP base most p with
    | none => rw [hp] at h; cases h
    | some m =>
      rw [hp] at h
      cases hr : numAll base most ps with
      | none => rw [hr] at h; cases h
      | some ms =>
        rw [hr] at h
        injection h with h
        subst h
        obtain ⟨h1, h2⟩ := numAll_le hr
        refine ⟨by simp [h1], fun n hn => ?_⟩
        rcases List.mem_cons.1 hn with rfl | hn
        · exact numP_le hp
        · exact h2 n hn
end Go.Proofs.YthfdhggcnkgjfaaGreatDoor
/- Plain words on addresses and flows as texts. No program in sight. -/
namespace Go.Proofs.YthfdhggcnkgjfaaGreatDoor
set_option linter.unusedVariables false
structure Adr where
  six : Bool
  hi : Nat
  lo : Nat
def Adr.zero : Adr := ⟨false, 0, 0⟩
def val (b : Nat) (ns : List Nat) : Nat := ns.foldl (fun v n => v * b + n) 0
theorem val_snoc (b : Nat) (ns : List Nat) (n : Nat) : val b (ns ++ [n]) = val b ns * b + n := by simp [val]
def adr6 (ns : List Nat) : Adr := ⟨true, val 65536 ns / 18446744073709551616, val 65536 ns % 18446744073709551616⟩
def adr4 (ns : List Nat) : Adr := ⟨false, 0, val 256 ns⟩
def p6 (s : List UInt8) : Option Adr := if (parts 58 s).length = 8 then (numAll 16 65535 (parts 58 s)).map adr6 else none
def p4 (s : List UInt8) : Option Adr := if (parts 46 s).length = 4 then (numAll 10 255 (parts 46 s)).map adr4 else none
def addrP (s : List UInt8) : Option Adr := match p6 s with
  | some a => some a
  | none => p4 s
/-- As the document says it. -/
def addrR (s : List UInt8) : Option Adr := if (parts 46 s).length = 4 then (numAll 10 255 (parts 46 s)).map adr4 else p6 s
theorem numF_mem {base most : Nat} {c : UInt8} (hc : dig base c = none) {l : List UInt8} : ∀ {n v : Nat}, numF base most l n = some v → c ∉ l := by
  induction l with
  | nil => intro n v _; simp
  | cons x l ih =>
    intro n v h
    cases hd : dig base x with
    | none => rw [numF_none hd] at h; cases h
    | some d =>
      by_cases h2 : most < n * base + d
      · rw [numF_over hd h2] at h; cases h
      · rw [numF_step hd h2] at h
        simp only [List.mem_cons, not_or]
        exact ⟨fun e => (by rw [← e, hc] at hd; cases hd), ih h⟩
theorem numP_mem {base most : Nat} {c : UInt8} (hc : dig base c = none) {l : List UInt8} {v : Nat} (h : numP base most l = some v) : c ∉ l := by
  unfold numP at h
  split at h
  · cases h
  · exact numF_mem hc h
theorem numAll_mem {base most : Nat} {c : UInt8} (hc : dig base c = none) : ∀ {ps : List (List UInt8)} {ns : List Nat}, numAll base most ps = some ns → ∀ p ∈ ps, c ∉ p
  | [], ns, _ => fun p hp => by cases hp
  | q :: ps, ns, h => by
    rw [numAll] at h
    cases hq : numP base most q with
    | none => rw [hq] at h; cases h
    | some m =>
      rw [hq] at h
      cases hr : numAll base most ps with
      | none => rw [hr] at h; cases h
      | some ms =>
        intro p hp
        rcases List.mem_cons.1 hp with rfl | hp
        · exact numP_mem hc hq
        · exact numAll_mem hc hr p hp
theorem join_mem {c d : UInt8} (hcd : c ≠ d) : ∀ {ps : List (List UInt8)}, (∀ p ∈ ps, c ∉ p) → c ∉ joinC d ps
  | [], _ => by simp [joinC]
  | [p], h => by simpa [joinC] using h p (by simp)
  | p :: q :: ps, h => by
    rw [joinC_cons2]
    have := join_mem hcd (ps := q :: ps) fun x hx => h x (by simp [hx])
    have := h p (by simp)
    simp only [List.mem_append, List.mem_cons, not_or]
    exact ⟨this, hcd, by assumption⟩
theorem parts_free {base most : Nat} {c d : UInt8} (hc : dig base c = none) (hcd : c ≠ d) {s : List UInt8} {ns : List Nat} (h : numAll base most (parts d s) = some ns) : c ∉ s := by
  rw [← join_parts d s]
  exact join_mem hcd (numAll_mem hc h)
theorem p6_mem {s : List UInt8} {a : Adr} (h : p6 s = some a) {c : UInt8} (hc : dig 16 c = none) (hcd : c ≠ 58) : c ∉ s := by
  unfold p6 at h
  split at h
  · cases hn : numAll 16 65535 (parts 58 s) with
    | none => rw [hn] at h; cases h
    | some ns => exact parts_free hc hcd hn
  · cases h
theorem addrR_eq (s : List UInt8) : addrR s = addrP s := by
  unfold addrR addrP
  cases h6 : p6 s with
  | some a =>
    have h1 : 46 ∉ s := p6_mem h6 (by decide) (by decide)
    rw [parts_one h1, if_neg (by simp)]
  | none =>
    by_cases h4 : (parts 46 s).length = 4
    · rw [if_pos h4]; unfold p4; rw [if_pos h4]
    · rw [if_neg h4]; unfold p4; rw [if_neg h4]
/-! ### Flows -/
def tcpT : List UInt8 := [116, 99, 112]
def udpT : List UInt8 := [117, 100, 112]
def protoP (p : List UInt8) : Option Nat := if p = tcpT then some 6 else if p = udpT then some 17 else none
end Go.Proofs.YthfdhggcnkgjfaaGreatDoor
/- Numbers of groups, put together by bits and by bytes. No program in sight. -/
namespace Go.Proofs.YthfdhggcnkgjfaaGreatDoor
set_option linter.unusedVariables false
theorem or_join (i a n : Nat) (h : n < 2 ^ i) (hb : 2 ^ i * a + n < 18446744073709551616) : bits .or .u64 ((2 ^ i * a : Nat) : Int) (n : Int) = ((2 ^ i * a + n : Nat) : Int) := by
  rw [u64_or_nat _ _ (by omega) (by omega), ← Nat.two_pow_add_eq_or_of_lt h a]
theorem val_lt {b : Nat} : ∀ {ns : List Nat}, (∀ n ∈ ns, n < b) → val b ns < b ^ ns.length := by
  intro ns
  have key : ∀ (ns : List Nat) (v k : Nat), v < b ^ k → (∀ n ∈ ns, n < b) → ns.foldl (fun v n => v * b + n) v < b ^ (k + ns.length) := by
    intro ns
    induction ns with
    | nil => intro v k hv _; exact hv
    | cons n ns ih =>
      intro v k hv h
      have hn := h n (by simp)
      have := ih (v * b + n) (k + 1) (by
        rw [Nat.pow_succ]
        have : (v + 1) * b ≤ b ^ k * b := Nat.mul_le_mul_right b hv
        rw [Nat.add_mul] at this
        omega) fun x hx => h x (by simp [hx])
      rw [List.foldl_cons, List.length_cons, show k + (ns.length + 1) = k + 1 + ns.length by omega]
      exact this
  intro h
  have := key ns 0 0 (by simp) h
  rw [Nat.zero_add] at this
  exact this
theorem foldl_val (b : Nat) : ∀ (ns : List Nat) (v : Nat), ns.foldl (fun v n => v * b + n) v = v * b ^ ns.length + val b ns
  | [], v => by simp [val]
  | n :: ns, v => by
    rw [List.foldl_cons, foldl_val b ns, List.length_cons]
    unfold val
    rw [List.foldl_cons, foldl_val b ns (0 * b + n)]
    rw [Nat.pow_succ, Nat.add_mul, Nat.zero_mul, Nat.zero_add, Nat.mul_assoc, Nat.mul_comm b (b ^ ns.length), Nat.add_assoc]
    rfl
theorem val_append (b : Nat) (x y : List Nat) : val b (x ++ y) = val b x * b ^ y.length + val b y := by
  unfold val
  rw [List.foldl_append, foldl_val]
  rfl
/-- Bytes of numbers. -/
def byt (k : Nat) (ns : List Nat) : List UInt8 := (ns.map fun (n : Nat) => digs k (n : Int)).flatten
theorem byt_snoc (k : Nat) (ns : List Nat) (n : Nat) : byt k (ns ++ [n]) = byt k ns ++ digs k (n : Int) := by simp [byt]
theorem byt_append (k : Nat) (x y : List Nat) : byt k (x ++ y) = byt k x ++ byt k y := by simp [byt]
theorem byt_len (k : Nat) (ns : List Nat) : (byt k ns).length = k * ns.length := by
  induction ns with
  | nil => simp [byt]
  | cons n ns ih =>
    show (digs k (n : Int) ++ byt k ns).length = _
    rw [List.length_append, digs_length, ih, List.length_cons, Nat.mul_add]; omega
theorem num_append (l m : List UInt8) : num (l ++ m) = num l * 256 ^ m.length + num m := by
  have key : ∀ (m : List UInt8) (v : Int), m.foldl (fun n c => n * 256 + (c.toNat : Int)) v = v * 256 ^ m.length + num m := by
    intro m
    induction m with
    | nil => intro v; simp [num]
    | cons c m ih =>
      intro v
      rw [List.foldl_cons, ih]
      unfold num
      rw [List.foldl_cons, ih (0 * 256 + (c.toNat : Int)), List.length_cons, Int.pow_succ, Int.add_mul, Int.zero_mul, Int.zero_add, Int.mul_assoc, Int.mul_comm 256 (256 ^ m.length), Int.add_assoc]
      rfl
  show (l ++ m).foldl _ 0 = _
  rw [List.foldl_append, key]
  rfl
theorem num_digs1 (n : Nat) (h : n < 256) : num (digs 1 (n : Int)) = (n : Int) := by simp [digs, num, b8_val]; omega
theorem num_digs2 (n : Nat) (h : n < 65536) : num (digs 2 (n : Int)) = (n : Int) := by simp [digs, num, b8_val]; omega
theorem num_byt1 {ns : List Nat} (h : ∀ n ∈ ns, n ≤ 255) : num (byt 1 ns) = (val 256 ns : Int) := by
  have key : ∀ m (ns : List Nat), ns.length = m → (∀ n ∈ ns, n ≤ 255) → num (byt 1 ns) = (val 256 ns : Int) := by
    intro m
    induction m with
    | zero => intro ns hm _; rw [List.length_eq_zero_iff.1 hm]; rfl
    | succ m ih =>
      intro ns hm h
      have hne : ns ≠ [] := by rintro rfl; simp at hm
      rw [← List.dropLast_concat_getLast hne, byt_snoc, val_snoc, num_append, digs_length, ih _ (by simp [hm]) (fun x hx => h x (List.dropLast_subset _ hx)), num_digs1 _ (by have := h _ (List.getLast_mem hne); omega)]
      rw [show (256 : Int) ^ 1 = 256 from rfl]
      omega
  exact key _ ns rfl h
theorem num_byt2 {ns : List Nat} (h : ∀ n ∈ ns, n ≤ 65535) : num (byt 2 ns) = (val 65536 ns : Int) := by
  have key : ∀ m (ns : List Nat), ns.length = m → (∀ n ∈ ns, n ≤ 65535) → num (byt 2 ns) = (val 65536 ns : Int) := by
    intro m
    induction m with
    | zero => intro ns hm _; rw [List.length_eq_zero_iff.1 hm]; rfl
    | succ m ih =>
      intro ns hm h
      have hne : ns ≠ [] := by rintro rfl; simp at hm
      rw [← List.dropLast_concat_getLast hne, byt_snoc, val_snoc, num_append, digs_length, ih _ (by simp [hm]) (fun x hx => h x (List.dropLast_subset _ hx)), num_digs2 _ (by have := h _ (List.getLast_mem hne); omega)]
      rw [show (256 : Int) ^ 2 = 65536 from rfl]
      omega
  exact key _ ns rfl h
theorem of6 {ns : List Nat} (h8 : ns.length = 8) (h : ∀ n ∈ ns, n ≤ 65535) : num ((byt 2 ns).take 8) = (val 65536 ns / 18446744073709551616 : Nat) ∧ num ((byt 2 ns).drop 8) = (val 65536 ns % 18446744073709551616 : Nat) := by
  have e : ns = ns.take 4 ++ ns.drop 4 := (List.take_append_drop 4 ns).symm
  have l1 : (ns.take 4).length = 4 := by rw [List.length_take]; omega
  have l2 : (ns.drop 4).length = 4 := by rw [List.length_drop]; omega
  have b1 : (byt 2 (ns.take 4)).length = 8 := by rw [byt_len, l1]
  have hv := val_append 65536 (ns.take 4) (ns.drop 4)
  rw [← e, l2] at hv
  have h1 : ∀ n ∈ ns.take 4, n ≤ 65535 := fun n hn => h n (List.mem_of_mem_take hn)
  have h2 : ∀ n ∈ ns.drop 4, n ≤ 65535 := fun n hn => h n (List.mem_of_mem_drop hn)
  have hlt := val_lt (b := 65536) (ns := ns.drop 4) (fun n hn => by have := h2 n hn; omega)
  rw [l2] at hlt
  have hb : byt 2 ns = byt 2 (ns.take 4) ++ byt 2 (ns.drop 4) := by rw [← byt_append, ← e]
  rw [hb, List.take_append_of_le_length (by omega), List.take_of_length_le (by omega), List.drop_append_of_le_length (by omega), List.drop_of_length_le (by omega), List.nil_append, num_byt2 h1, num_byt2 h2, hv]
  have e2 : (65536 : Nat) ^ 4 = 18446744073709551616 := by decide
  rw [e2] at hlt ⊢
  constructor
  · congr 1; omega
  · congr 1; omega
end Go.Proofs.YthfdhggcnkgjfaaGreatDoor
/- Plain words: a line's words by a pattern's letters. No program in sight. -/
namespace Go.Proofs.YthfdhggcnkgjfaaGreatDoor
set_option linter.unusedVariables false
structure Fd where
  nums : List Nat
  a : Adr
  po : Nat
  p : Nat
  wy : Nat
  load : List UInt8
def Fd.zero : Fd := ⟨[], Adr.zero, 0, 0, 0, []⟩
def turnsT : List UInt8 := [116, 117, 114, 110, 115]
def weightsT : List UInt8 := [119, 101, 105, 103, 104, 116, 115]
def loadsT : List UInt8 := [108, 111, 97, 100, 115]
def drawsT : List UInt8 := [100, 114, 97, 119, 115]
def wayN (k : Nat) : List UInt8 := if k = 1 then turnsT else if k = 2 then weightsT else if k = 3 then loadsT else if k = 4 then drawsT else []
/-- The last way ahead of the k-th that has the name. -/
def wayU : Nat → List UInt8 → Option Nat
  | 0, _ => none
  | k + 1, w => if 1 ≤ k ∧ wayN k = w then some k else wayU k w
def wayP (w : List UInt8) : Option Nat := wayU 5 w
def limP (c : UInt8) : Nat := if c = 75 ∨ c = 70 then 255 else if c = 80 then 65535 else if c = 49 then 1 else if c = 57 then 99 else 1073741824
theorem limP_le (c : UInt8) : limP c ≤ 1073741824 := by
  unfold limP
  split <;> (try split) <;> (try split) <;> (try split) <;> omega
def fitStep (c : UInt8) (ws : List (List UInt8)) (f : Fd) : Option (List (List UInt8) × Fd) := match ws with
  | [] => none
  | w :: ws =>
    if c = 97 then (addrP w).map fun a => (ws, { f with a := a })
    else if c = 112 then (protoP w).map fun n => (ws, { f with p := n })
    else if c = 119 then (wayP w).map fun n => (ws, { f with wy := n })
    else if c = 84 then some ([], { f with load := joinC 32 (w :: ws) })
    else if c = 80 then (numP 10 65535 w).map fun n => (ws, { f with po := n })
    else (numP 10 (limP c) w).map fun n => (ws, { f with nums := f.nums ++ [n] })
def fitS : List UInt8 → List (List UInt8) → Fd → Option Fd
  | [], ws, f => if ws.isEmpty = true then some f else none
  | c :: p, ws, f => match fitStep c ws f with
    | none => none
    | some (ws', f') => fitS p ws' f'
theorem fitS_none {c : UInt8} {p : List UInt8} {ws : List (List UInt8)} {f : Fd} (h : fitStep c ws f = none) : fitS (c :: p) ws f = none := by rw [fitS, h]
theorem fitS_some {c : UInt8} {p : List UInt8} {ws ws' : List (List UInt8)} {f f' : Fd} (h : fitStep c ws f = some (ws', f')) : fitS (c :: p) ws f = fitS p ws' f' := by rw [fitS, h]
section
variable {c : UInt8} {w : List UInt8} {ws : List (List UInt8)} {f : Fd}
theorem fitStep_a : fitStep 97 (w :: ws) f = (addrP w).map fun a => (ws, { f with a := a }) := rfl
theorem fitStep_p : fitStep 112 (w :: ws) f = (protoP w).map fun n => (ws, { f with p := n }) := rfl
theorem fitStep_w : fitStep 119 (w :: ws) f = (wayP w).map fun n => (ws, { f with wy := n }) := rfl
theorem fitStep_T : fitStep 84 (w :: ws) f = some ([], { f with load := joinC 32 (w :: ws) }) := rfl
theorem fitStep_P : fitStep 80 (w :: ws) f = (numP 10 65535 w).map fun n => (ws, { f with po := n }) := rfl
theorem fitStep_n (h1 : c ≠ 97) (h2 : c ≠ 112) (h3 : c ≠ 119) (h4 : c ≠ 84) (h5 : c ≠ 80) : fitStep c (w :: ws) f = (numP 10 (limP c) w).map fun n => (ws, { f with nums := f.nums ++ [n] }) := by
  unfold fitStep
  simp only
  rw [if_neg h1, if_neg h2, if_neg h3, if_neg h4, if_neg h5]
end
theorem wayU_le : ∀ {k : Nat} {w : List UInt8} {n : Nat}, wayU k w = some n → 1 ≤ n ∧ n < k
  | 0, w, n, h => by cases h
  | k + 1, w, n, h => by
    unfold wayU at h
    split at h
    · injection h with h; omega
    · have := wayU_le h; omega
theorem joinC_snoc (c : UInt8) (q : List UInt8) : ∀ {ps : List (List UInt8)}, ps ≠ [] → joinC c (ps ++ [q]) = joinC c ps ++ c :: q
  | [], h => absurd rfl h
  | [p], _ => rfl
  | p :: r :: ps, _ => by
    rw [List.cons_append, joinC_cons c p (by simp), joinC_snoc c q (by simp), joinC_cons c p (by simp), List.append_assoc, List.cons_append]
theorem joinC_take_le (c : UInt8) : ∀ (ps : List (List UInt8)) (k : Nat), (joinC c (ps.take k)).length ≤ (joinC c ps).length
  | [], k => by simp
  | [p], k => by cases k <;> simp [joinC]
  | p :: q :: ps, 0 => by simp [joinC]
  | p :: q :: ps, 1 => by simp [joinC]
  | p :: q :: ps, k + 2 => by
    have := joinC_take_le c (q :: ps) (k + 1)
    rw [List.take_succ_cons] at this ⊢
    rw [joinC_cons c p (by simp), joinC_cons c p (by simp)]
    simp only [List.length_append, List.length_cons]
    rw [List.take_succ_cons]
    omega
theorem joinC_len_get (c : UInt8) : ∀ (ps : List (List UInt8)) (p : List UInt8), p ∈ ps → p.length ≤ (joinC c ps).length
  | [q], p, h => by simp at h; subst h; exact Nat.le_refl _
  | q :: r :: ps, p, h => by
    rw [joinC_cons c q (by simp), List.length_append, List.length_cons]
    rcases List.mem_cons.1 h with rfl | h
    · omega
    · have := joinC_len_get c (r :: ps) p h; omega
end Go.Proofs.YthfdhggcnkgjfaaGreatDoor
/- Plain words: steps; words eaten by a pattern's letters, as the program does it and as the document does. No program in sight. -/
namespace Go.Proofs.YthfdhggcnkgjfaaGreatDoor
set_option linter.unusedVariables false
/-! ### Words eaten one by one -/
def numV (m : Nat) (ws : List (List UInt8)) : Nat := (numP 10 m (ws.headD [])).getD 0
def numBad (m : Nat) (ws : List (List UInt8)) : Bool := ws.isEmpty || (numP 10 m (ws.headD [])).isNone
def adrA (ws : List (List UInt8)) : Adr := (addrP (ws.headD [])).getD Adr.zero
def adrBad (ws : List (List UInt8)) : Bool := ws.isEmpty || (addrP (ws.headD [])).isNone
def proV (ws : List (List UInt8)) : Nat := (protoP (ws.headD [])).getD 0
def proBad (ws : List (List UInt8)) : Bool := ws.isEmpty || (protoP (ws.headD [])).isNone
def wayV (ws : List (List UInt8)) : Nat := (wayP (ws.headD [])).getD 0
def wayBad (ws : List (List UInt8)) : Bool := ws.isEmpty || (wayP (ws.headD [])).isNone
structure Eat where
  ws : List (List UInt8)
  f : Fd
  bad : Bool
def eat1 (c : UInt8) (e : Eat) : Eat :=
  if c = 97 then ⟨e.ws.tail, { e.f with a := adrA e.ws }, e.bad || adrBad e.ws⟩
  else if c = 112 then ⟨e.ws.tail, { e.f with p := proV e.ws }, e.bad || proBad e.ws⟩
  else if c = 119 then ⟨e.ws.tail, { e.f with wy := wayV e.ws }, e.bad || wayBad e.ws⟩
  else if c = 84 then ⟨[], { e.f with load := joinC 32 e.ws }, e.bad || e.ws.isEmpty⟩
  else if c = 80 then ⟨e.ws.tail, { e.f with po := numV 65535 e.ws }, e.bad || numBad 65535 e.ws⟩
  else ⟨e.ws.tail, { e.f with nums := e.f.nums ++ [numV (limP c) e.ws] }, e.bad || numBad (limP c) e.ws⟩
def eat : List UInt8 → Eat → Eat
  | [], e => e
  | c :: p, e => eat p (eat1 c e)
/-- All was as it must be, and nothing is left. -/
def Eat.fin (e : Eat) : Option Fd := if (e.ws.isEmpty && !e.bad) = true then some e.f else none
theorem eat1_bad (c : UInt8) (e : Eat) (h : e.bad = true) : (eat1 c e).bad = true := by
  unfold eat1
  repeat' split
  all_goals simp [h]
/-- One letter: both ways. -/
theorem eat1_fit (c : UInt8) (ws : List (List UInt8)) (f : Fd) : fitStep c ws f = if (eat1 c ⟨ws, f, false⟩).bad = true then none else some ((eat1 c ⟨ws, f, false⟩).ws, (eat1 c ⟨ws, f, false⟩).f) := by
  cases ws with
  | nil =>
    have : (eat1 c ⟨[], f, false⟩).bad = true := by
      unfold eat1
      repeat' split
      all_goals simp [adrBad, proBad, wayBad, numBad]
    rw [if_pos this]; rfl
  | cons w ws =>
    unfold fitStep eat1
    simp only
    by_cases h1 : c = 97
    · simp only [if_pos h1, adrBad, adrA, List.headD_cons, List.tail_cons, List.isEmpty_cons, Bool.false_or]
      cases addrP w <;> rfl
    by_cases h2 : c = 112
    · simp only [if_neg h1, if_pos h2, proBad, proV, List.headD_cons, List.tail_cons, List.isEmpty_cons, Bool.false_or]
      cases protoP w <;> rfl
    by_cases h3 : c = 119
    · simp only [if_neg h1, if_neg h2, if_pos h3, wayBad, wayV, List.headD_cons, List.tail_cons, List.isEmpty_cons, Bool.false_or]
      cases wayP w <;> rfl
    by_cases h4 : c = 84
    · simp only [if_neg h1, if_neg h2, if_neg h3, if_pos h4, List.isEmpty_cons, Bool.false_or]
      rfl
    by_cases h5 : c = 80
    · simp only [if_neg h1, if_neg h2, if_neg h3, if_neg h4, if_pos h5, numBad, numV, List.headD_cons, List.tail_cons, List.isEmpty_cons, Bool.false_or]
      cases numP 10 65535 w <;> rfl
    simp only [if_neg h1, if_neg h2, if_neg h3, if_neg h4, if_neg h5, numBad, numV, List.headD_cons, List.tail_cons, List.isEmpty_cons, Bool.false_or]
    cases numP 10 (limP c) w <;> rfl
theorem eat_bad : ∀ (p : List UInt8) (e : Eat), e.bad = true → (eat p e).bad = true
  | [], e, h => h
  | c :: p, e, h => eat_bad p _ (eat1_bad c e h)
theorem eat_fit : ∀ (p : List UInt8) (ws : List (List UInt8)) (f : Fd), (eat p ⟨ws, f, false⟩).fin = fitS p ws f
  | [], ws, f => by
    unfold eat Eat.fin fitS
    cases ws <;> rfl
  | c :: p, ws, f => by
    unfold eat
    rw [fitS, eat1_fit]
    by_cases h : (eat1 c ⟨ws, f, false⟩).bad = true
    · rw [if_pos h]
      unfold Eat.fin
      rw [eat_bad p _ h]
      simp
    · rw [if_neg h]
      have e : eat1 c ⟨ws, f, false⟩ = ⟨(eat1 c ⟨ws, f, false⟩).ws, (eat1 c ⟨ws, f, false⟩).f, false⟩ := by
        cases hx : eat1 c ⟨ws, f, false⟩ with
        | mk a b d =>
          rw [hx] at h
          have : d = false := by simpa using h
          rw [this]
      rw [e]
      exact eat_fit p _ _
/-! ### Steps -/
structure Osp where
  kind : Int
  vip : Int
  backend : Int
  version : Int
  a : Adr
  port : Nat
  proto : Nat
  way : Int
  ms : List (Int × Int)
structure Sp where
  kind : Int
  op : Osp
  who : Int
  time : Int
  flags : Nat
  load : List UInt8
  n : Nat
  x : Nat
  y : Nat
  src : Adr
  port : Nat
def Osp.zero : Osp := ⟨0, 0, 0, 0, Adr.zero, 0, 0, 0, []⟩
def Sp.zero : Sp := ⟨0, Osp.zero, 0, 0, 0, [], 0, 0, 0, Adr.zero, 0⟩
/-- The letters' numbers, put down. -/
def fillN : List UInt8 → List Nat → Sp → Sp
  | [], _, s => s
  | c :: p, ns, s => if c = 97 ∨ c = 80 ∨ c = 84 then fillN p ns s else match ns with
    | [] => fillN p [] s
    | v :: ns => fillN p ns (if c = 87 then { s with who := v } else if c = 65 then { s with time := v } else if c = 70 ∨ c = 49 then { s with flags := v } else if c = 88 then { s with x := v } else if c = 89 then { s with y := v } else { s with n := v })
def fillP (k : Nat) (p : List UInt8) (f : Fd) : Sp := fillN p f.nums { Sp.zero with kind := k, load := f.load, src := f.a, port := f.po }
def issueT : List UInt8 := [105, 115, 115, 117, 101]
/-- The steps' names and patterns, by their kinds. -/
def cmds : List (Nat × List UInt8 × List UInt8) := [(1, [99, 111, 109, 109, 105, 116], []), (2, [99, 114, 97, 115, 104], [87, 70]), (3, [111, 102, 102, 101, 114], [87]), (4, [100, 101, 108, 105, 118, 101, 114], [87]), (5, [100, 114, 111, 112], [87]), (6, [116, 119, 105, 99, 101], [87]), (7, [114, 101, 115, 116, 97, 114, 116], [87]), (8, [114, 101, 112, 111, 114, 116], [87, 78, 49]), (9, [115, 101, 110, 100], [87, 65, 70, 88, 89, 84]), (10, [114, 101, 112, 108, 121], [87, 65, 70, 84]), (11, [116, 105, 99, 107], [78]), (12, [113, 117, 105, 99], [87, 65, 84]), (13, [103, 105, 118, 101], [87, 65]), (14, [109, 111, 118, 101], [87, 97, 80]), (15, [115, 101, 116, 116, 108, 101], [57])]
def cmdOf (nm : List UInt8) : Option (Nat × List UInt8 × List UInt8) := cmds.find? fun c => c.2.1 == nm
/-! ### Operations -/
def opPat (nm : List UInt8) : Option (Int × List UInt8) :=
  if nm = [98, 97, 99, 107, 101, 110, 100] then some (1, [75, 97]) else if nm = [118, 105, 112] then some (2, [97, 80, 112, 119])
  else if nm = [114, 101, 116, 105, 114, 101] then some (4, [75, 75]) else if nm = [114, 101, 108, 101, 97, 115, 101] then some (5, [75, 75])
  else if nm = [101, 118, 105, 99, 116] then some (6, [75]) else if nm = [97, 100, 109, 105, 116] then some (7, [75])
  else if nm = [114, 111, 116, 97, 116, 101] then some (8, []) else none
def fillO (k : Int) (f : Fd) : Osp :=
  if k = 1 then { Osp.zero with kind := 1, backend := (f.nums.getD 0 0 : Nat), a := f.a }
  else if k = 2 then { Osp.zero with kind := 2, a := f.a, port := f.po, proto := f.p, way := f.wy }
  else if k = 4 ∨ k = 5 then { Osp.zero with kind := k, vip := (f.nums.getD 0 0 : Nat), version := (f.nums.getD 1 0 : Nat) }
  else if k = 6 ∨ k = 7 then { Osp.zero with kind := k, backend := (f.nums.getD 0 0 : Nat) }
  else { Osp.zero with kind := 8 }
def membersT : List UInt8 := [109, 101, 109, 98, 101, 114, 115]
/-- One member's word. -/
def memP (w : List UInt8) : Option (Int × Int) := match parts 58 w with
  | p :: q :: r => match numP 10 255 p, numP 10 255 (joinC 58 (q :: r)) with
    | some a, some b => some (a, b)
    | _, _ => none
  | _ => none
def memsP : List (List UInt8) → Option (List (Int × Int))
  | [] => some []
  | w :: ws => match memP w, memsP ws with
    | some m, some l => some (m :: l)
    | _, _ => none
def opP (ws : List (List UInt8)) : Option Osp := match ws with
  | [] => none
  | nm :: r => if nm = membersT then (match r with
      | [] => none
      | v :: ms => match numP 10 255 v with
        | none => none
        | some n => if ms.length ≤ 64 then (memsP ms).map fun l => { Osp.zero with kind := 3, vip := (n : Nat), ms := l } else none)
    else match opPat nm with
      | none => none
      | some (k, p) => (fitS p r Fd.zero).map (fillO k)
/-- What a line's words say. -/
def wordsP (ws : List (List UInt8)) : Option Sp := match ws with
  | [] => none
  | nm :: r => if nm = issueT then (opP r).map fun o => { Sp.zero with op := o } else match cmdOf nm with
    | none => none
    | some (k, _, p) => (fitS p r Fd.zero).map (fillP k p)
def lineP (s : List UInt8) : Option Sp := if (10 : UInt8) ∈ s then none else wordsP (parts 32 s)
end Go.Proofs.YthfdhggcnkgjfaaGreatDoor
/- Plain words: what the program and the document write of a step; what is written of a step that was read is the line again. No program in sight. -/
namespace Go.Proofs.YthfdhggcnkgjfaaGreatDoor
set_option linter.unusedVariables false
/-! ### Digits -/
def hexc (d : Nat) : UInt8 := if d < 10 then UInt8.ofNat (48 + d) else UInt8.ofNat (87 + d)
def digB (b n : Nat) : List UInt8 := if h : n < b ∨ b < 2 then [hexc n] else digB b (n / b) ++ [hexc (n % b)]
termination_by n
decreasing_by exact Nat.div_lt_self (by omega) (by omega)
theorem digB_small {b n : Nat} (h : n < b) : digB b n = [hexc n] := by rw [digB, dif_pos (Or.inl h)]
theorem digB_big {b n : Nat} (hb : 2 ≤ b) (h : ¬ n < b) : digB b n = digB b (n / b) ++ [hexc (n % b)] := by rw [digB, dif_neg (by omega)]
theorem digB_ten (n : Nat) : digB 10 n = Lib.decDigits n := by
  induction n using Nat.strongRecOn with
  | _ n ih =>
    by_cases h : n < 10
    · rw [digB_small h, Lib.decDigits, dif_pos h, hexc, if_pos h]
    · rw [digB_big (by omega) h, Lib.decDigits, dif_neg h, ih (n / 10) (by omega), hexc, if_pos (Nat.mod_lt _ (by omega))]
theorem digB_len {b : Nat} (hb : 2 ≤ b) : ∀ (k n : Nat), n < b ^ (k + 1) → (digB b n).length ≤ k + 1
  | 0, n, h => by rw [digB_small (by simpa using h)]; simp
  | k + 1, n, h => by
    by_cases h2 : n < b
    · rw [digB_small h2]; simp
    · rw [digB_big hb h2, List.length_append]
      have h3 : n / b < b ^ (k + 1) := by
        rw [Nat.pow_succ] at h
        exact Nat.div_lt_of_lt_mul (by rw [Nat.mul_comm]; exact h)
      have := digB_len hb k (n / b) h3
      simp only [List.length_cons, List.length_nil]
      omega
theorem dig_back {base : Nat} {x : UInt8} {d : Nat} (h : dig base x = some d) : hexc d = x := by
  unfold dig at h
  split at h
  · injection h with h
    rename_i hx
    unfold hexc
    rw [if_pos (by omega)]
    apply UInt8.toNat_inj.1
    rw [UInt8.toNat_ofNat']
    omega
  · split at h
    · injection h with h
      rename_i hx
      unfold hexc
      rw [if_neg (by omega)]
      apply UInt8.toNat_inj.1
      rw [UInt8.toNat_ofNat']
      omega
    · cases h
theorem numF_back {base most : Nat} (hb : 10 ≤ base) {l : List UInt8} : ∀ {n v : Nat}, 0 < n → numF base most l n = some v → digB base v = digB base n ++ l := by
  induction l with
  | nil => intro n v _ h; injection h with h; rw [h, List.append_nil]
  | cons x l ih =>
    intro n v hn h
    cases hd : dig base x with
    | none => rw [numF_none hd] at h; cases h
    | some d =>
      by_cases h2 : most < n * base + d
      · rw [numF_over hd h2] at h; cases h
      · rw [numF_step hd h2] at h
        have hlt := dig_lt hb hd
        have hp : base ≤ n * base := Nat.le_mul_of_pos_left base hn
        rw [ih (by omega) h, digB_big (by omega) (show ¬ n * base + d < base by omega)]
        have h1 : (n * base + d) / base = n := by
          rw [Nat.add_comm, Nat.add_mul_div_right _ _ (by omega), Nat.div_eq_of_lt hlt]; omega
        have h3 : (n * base + d) % base = d := by
          rw [Nat.add_comm, Nat.add_mul_mod_self_right, Nat.mod_eq_of_lt hlt]
        rw [h1, h3, dig_back hd, List.append_assoc]
        rfl
theorem numP_back {base most : Nat} (hb : 10 ≤ base) {l : List UInt8} {v : Nat} (h : numP base most l = some v) : digB base v = l := by
  unfold numP at h
  split at h
  · cases h
  · rename_i hs
    cases l with
    | nil => exact absurd (by simp [shapeB]) hs
    | cons x l =>
      cases hd : dig base x with
      | none => rw [numF_none hd] at h; cases h
      | some d =>
        have hlt := dig_lt hb hd
        by_cases h2 : most < 0 * base + d
        · rw [numF_over hd h2] at h; cases h
        · rw [numF_step hd h2] at h
          rw [show 0 * base + d = d by omega] at h
          by_cases h0 : 0 < d
          · rw [numF_back hb h0 h, digB_small hlt, dig_back hd]; rfl
          · have hd0 : d = 0 := by omega
            subst hd0
            have hx : x = 48 := by
              have := dig_back hd
              rw [← this]; rfl
            subst hx
            cases l with
            | nil => injection h with h; subst h; rw [digB_small (by omega)]; rfl
            | cons y l => exact absurd (by simp [shapeB]) hs
/-! ### Addresses -/
def grp (h : Nat) : List Nat := [h / 281474976710656 % 65536, h / 4294967296 % 65536, h / 65536 % 65536, h % 65536]
def by4 (h : Nat) : List Nat := [h / 16777216 % 256, h / 65536 % 256, h / 256 % 256, h % 256]
def adrT (a : Adr) : List UInt8 := if a.six = true then joinC 58 ((grp a.hi ++ grp a.lo).map (digB 16)) else joinC 46 ((by4 a.lo).map (digB 10))
def rightA (a : Adr) : Bool := a.six || (a.hi == 0 && decide (a.lo < 4294967296))
def textA (a : Adr) : List UInt8 := if rightA a = true then adrT a else []
theorem numAll_back {base most : Nat} (hb : 10 ≤ base) : ∀ {ps : List (List UInt8)} {ns : List Nat}, numAll base most ps = some ns → ns.map (digB base) = ps
  | [], ns, h => by injection h with h; subst h; rfl
  | p :: ps, ns, h => by
    rw [numAll] at h
    cases hp : numP base most p with
    | none => rw [hp] at h; cases h
    | some m =>
      rw [hp] at h
      cases hr : numAll base most ps with
      | none => rw [hr] at h; cases h
      | some ms =>
        rw [hr] at h
        injection h with h
        subst h
        rw [List.map_cons, numP_back hb hp, numAll_back hb hr]
theorem by4_val {a b c d : Nat} (ha : a ≤ 255) (hb : b ≤ 255) (hc : c ≤ 255) (hd : d ≤ 255) : by4 (val 256 [a, b, c, d]) = [a, b, c, d] ∧ val 256 [a, b, c, d] < 4294967296 := by
  have e : val 256 [a, b, c, d] = ((a * 256 + b) * 256 + c) * 256 + d := by simp [val]
  rw [e]
  unfold by4
  refine ⟨?_, by omega⟩
  congr 1
  · omega
  · congr 1
    · omega
    · congr 1
      · omega
      · congr 1
        omega
theorem val8 {a b c d e f g h : Nat} : val 65536 [a, b, c, d, e, f, g, h] = (((a * 65536 + b) * 65536 + c) * 65536 + d) * 18446744073709551616 + (((e * 65536 + f) * 65536 + g) * 65536 + h) := by
  simp only [val, List.foldl_cons, List.foldl_nil]
  omega
theorem grp4 {a b c d : Nat} (ha : a ≤ 65535) (hb : b ≤ 65535) (hc : c ≤ 65535) (hd : d ≤ 65535) : grp (((a * 65536 + b) * 65536 + c) * 65536 + d) = [a, b, c, d] ∧ ((a * 65536 + b) * 65536 + c) * 65536 + d < 18446744073709551616 := by
  unfold grp
  refine ⟨?_, by omega⟩
  congr 1
  · omega
  · congr 1
    · omega
    · congr 1
      · omega
      · congr 1
        omega
theorem adr6_of {ns : List Nat} {x y : Nat} (h : val 65536 ns = x * 18446744073709551616 + y) (hy : y < 18446744073709551616) : adr6 ns = ⟨true, x, y⟩ := by
  unfold adr6
  rw [h]
  congr 1
  · omega
  · omega
theorem addr_back {s : List UInt8} {a : Adr} (h : addrP s = some a) : adrT a = s ∧ rightA a = true ∧ a.hi < 18446744073709551616 ∧ a.lo < 18446744073709551616 := by
  unfold addrP at h
  cases h6 : p6 s with
  | some b =>
    rw [h6] at h
    injection h with h
    subst h
    unfold p6 at h6
    split at h6
    · rename_i hl
      obtain ⟨ns, hn, rfl⟩ := Option.map_eq_some_iff.1 h6
      obtain ⟨hl2, hle⟩ := numAll_le hn
      rw [hl] at hl2
      have hb := numAll_back (by omega) hn
      match ns, hl2 with
      | [a, b, c, d, e, f, g, h], _ =>
        simp only [List.mem_cons, List.not_mem_nil, or_false, forall_eq_or_imp, forall_eq] at hle
        obtain ⟨h1, h2, h3, h4, h5, h6, h7, h8⟩ := hle
        obtain ⟨g1, g2⟩ := grp4 h1 h2 h3 h4
        obtain ⟨g3, g4⟩ := grp4 h5 h6 h7 h8
        rw [adr6_of val8 g4]
        refine ⟨?_, rfl, g2, g4⟩
        unfold adrT
        rw [if_pos rfl, g1, g3]
        rw [show ([a, b, c, d] ++ [e, f, g, h] : List Nat) = [a, b, c, d, e, f, g, h] from rfl, hb, join_parts]
    · cases h6
  | none =>
    rw [h6] at h
    simp only at h
    unfold p4 at h
    split at h
    · rename_i hl
      obtain ⟨ns, hn, rfl⟩ := Option.map_eq_some_iff.1 h
      obtain ⟨hl2, hle⟩ := numAll_le hn
      rw [hl] at hl2
      have hb := numAll_back (by omega) hn
      match ns, hl2 with
      | [a, b, c, d], _ =>
        simp only [List.mem_cons, List.not_mem_nil, or_false, forall_eq_or_imp, forall_eq] at hle
        obtain ⟨h1, h2, h3, h4⟩ := hle
        obtain ⟨g1, g2⟩ := by4_val h1 h2 h3 h4
        unfold adr4
        refine ⟨?_, ?_, show (0 : Nat) < 18446744073709551616 by decide, by simp only; omega⟩
        · unfold adrT
          rw [if_neg (by simp), g1, hb, join_parts]
        · unfold rightA
          simp only [Bool.false_or, decide_eq_true g2]
          rfl
    · cases h
theorem zeroA : rightA Adr.zero = true ∧ Adr.zero.hi < 18446744073709551616 ∧ Adr.zero.lo < 18446744073709551616 := ⟨rfl, by decide, by decide⟩
theorem textA_of {a : Adr} (h : rightA a = true) : textA a = adrT a := by unfold textA; rw [if_pos h]
/-! ### Words -/
def numT (n : Int) : List UInt8 := digB 10 n.toNat
theorem numT_nat (n : Nat) : numT (n : Int) = digB 10 n := by unfold numT; rw [Int.toNat_natCast]
def proT (n : Nat) : List UInt8 := if n = 6 then tcpT else if n = 17 then udpT else []
/-- The document's way of writing a protocol. -/
def proR (n : Nat) : List UInt8 := if n = 17 then udpT else tcpT
def wayT (k : Int) : List UInt8 := wayN k.toNat
def memT (m : Int × Int) : List UInt8 := numT m.1 ++ 58 :: numT m.2
theorem proto_back {w : List UInt8} {n : Nat} (h : protoP w = some n) : proT n = w ∧ (n = 6 ∨ n = 17) := by
  unfold protoP at h
  split at h
  · injection h with h
    subst h
    rename_i e
    exact ⟨e.symm, .inl rfl⟩
  · split at h
    · injection h with h
      subst h
      rename_i e
      exact ⟨e.symm, .inr rfl⟩
    · cases h
theorem wayU_back : ∀ {k : Nat} {w : List UInt8} {n : Nat}, wayU k w = some n → wayN n = w
  | 0, w, n, h => by cases h
  | k + 1, w, n, h => by
    unfold wayU at h
    split at h
    · injection h with h
      rename_i e
      rw [← h]
      exact e.2
    · exact wayU_back h
theorem way_back {w : List UInt8} {n : Nat} (h : wayP w = some n) : wayN n = w ∧ n ≤ 4 := ⟨wayU_back h, by have := wayU_le h; omega⟩
/-! ### How many numbers a pattern reads -/
def isNum (c : UInt8) : Bool := !(c == 97 || c == 112 || c == 119 || c == 84 || c == 80)
theorem fitStep_len {c : UInt8} {ws ws' : List (List UInt8)} {f g : Fd} (h : fitStep c ws f = some (ws', g)) : g.nums.length = f.nums.length + (if isNum c = true then 1 else 0) := by
  cases ws with
  | nil => cases h
  | cons w ws =>
    by_cases h1 : c = 97
    · subst h1
      rw [fitStep_a] at h
      obtain ⟨a, ha, h⟩ := Option.map_eq_some_iff.1 h
      injection h with h1 h2
      subst h2; rfl
    by_cases h2 : c = 112
    · subst h2
      rw [fitStep_p] at h
      obtain ⟨a, ha, h⟩ := Option.map_eq_some_iff.1 h
      injection h with h1 h2
      subst h2; rfl
    by_cases h3 : c = 119
    · subst h3
      rw [fitStep_w] at h
      obtain ⟨a, ha, h⟩ := Option.map_eq_some_iff.1 h
      injection h with h1 h2
      subst h2; rfl
    by_cases h4 : c = 84
    · subst h4
      rw [fitStep_T] at h
      injection h with h
      injection h with h1 h2
      subst h2; rfl
    by_cases h5 : c = 80
    · subst h5
      rw [fitStep_P] at h
      obtain ⟨a, ha, h⟩ := Option.map_eq_some_iff.1 h
      injection h with h1 h2
      subst h2; rfl
    rw [fitStep_n h1 h2 h3 h4 h5] at h
    obtain ⟨a, ha, h⟩ := Option.map_eq_some_iff.1 h
    injection h with h6 h7
    subst h7
    have : isNum c = true := by simp [isNum, h1, h2, h3, h4, h5]
    rw [this]
    simp
theorem fitS_lenF : ∀ {p : List UInt8} {ws : List (List UInt8)} {f g : Fd}, fitS p ws f = some g → g.nums.length = f.nums.length + (p.filter isNum).length
  | [], ws, f, g, h => by
    unfold fitS at h
    split at h
    · injection h with h; subst h; rfl
    · cases h
  | c :: p, ws, f, g, h => by
    unfold fitS at h
    cases hs : fitStep c ws f with
    | none => rw [hs] at h; cases h
    | some q =>
      obtain ⟨ws', f'⟩ := q
      rw [hs] at h
      rw [fitS_lenF h, fitStep_len hs, List.filter_cons]
      split <;> simp <;> omega
theorem fitS_len {p : List UInt8} {ws : List (List UInt8)} {g : Fd} (h : fitS p ws Fd.zero = some g) : g.nums.length = (p.filter isNum).length := by
  rw [fitS_lenF h]
  show 0 + _ = _
  omega
theorem len0 {l : List Nat} (h : l.length = 0) : l = [] := List.length_eq_zero_iff.1 h
theorem len1 {l : List Nat} (h : l.length = 1) : ∃ a, l = [a] := List.length_eq_one_iff.1 h
theorem len2 {l : List Nat} (h : l.length = 2) : ∃ a b, l = [a, b] := by
  match l, h with
  | [a, b], _ => exact ⟨a, b, rfl⟩
theorem len3 {l : List Nat} (h : l.length = 3) : ∃ a b c, l = [a, b, c] := by
  match l, h with
  | [a, b, c], _ => exact ⟨a, b, c, rfl⟩
theorem len5 {l : List Nat} (h : l.length = 5) : ∃ a b c d e, l = [a, b, c, d, e] := by
  match l, h with
  | [a, b, c, d, e], _ => exact ⟨a, b, c, d, e, rfl⟩
/-! ### What a pattern read, put back into words -/
def unfit : List UInt8 → List Nat → Fd → List (List UInt8)
  | [], _, _ => []
  | c :: p, ns, f =>
    if c = 97 then adrT f.a :: unfit p ns f
    else if c = 112 then proT f.p :: unfit p ns f
    else if c = 119 then wayN f.wy :: unfit p ns f
    else if c = 84 then f.load :: unfit p ns f
    else if c = 80 then digB 10 f.po :: unfit p ns f
    else digB 10 (ns.headD 0) :: unfit p ns.tail f
theorem unfit_ne {p : List UInt8} {ns : List Nat} {f : Fd} : unfit p ns f = [] ↔ p = [] := by
  cases p with
  | nil => exact ⟨fun _ => rfl, fun _ => rfl⟩
  | cons c p =>
    unfold unfit
    refine ⟨fun h => ?_, fun h => by cases h⟩
    repeat' split at h
    all_goals cases h
theorem joinC_same {w : List UInt8} {ws us : List (List UInt8)} (h : joinC 32 ws = joinC 32 us) (he : ws = [] ↔ us = []) : joinC 32 (w :: ws) = joinC 32 (w :: us) := by
  by_cases h0 : ws = []
  · rw [h0, he.1 h0]
  · rw [joinC_cons 32 w h0, joinC_cons 32 w (fun e => h0 (he.2 e)), h]
/-- No letter of these comes again; T ends the pattern. -/
def okP : List UInt8 → Bool
  | [] => true
  | c :: p => (isNum c || !p.contains c) && okP p
theorem okP_tail {c : UInt8} {p : List UInt8} (h : okP (c :: p) = true) : okP p = true := by
  unfold okP at h
  exact (Bool.and_eq_true_iff.1 h).2
theorem okP_head {c : UInt8} {p : List UInt8} (h : okP (c :: p) = true) (hc : isNum c = false) : c ∉ p := by
  unfold okP at h
  have := (Bool.and_eq_true_iff.1 h).1
  rw [hc, Bool.false_or] at this
  simpa using this
structure Keeps (p : List UInt8) (f g : Fd) : Prop where
  nums : ∃ ns, g.nums = f.nums ++ ns
  ka : (97 : UInt8) ∉ p → g.a = f.a
  kp : (112 : UInt8) ∉ p → g.p = f.p
  kw : (119 : UInt8) ∉ p → g.wy = f.wy
  ko : (80 : UInt8) ∉ p → g.po = f.po
theorem fitS_keeps : ∀ {p : List UInt8} {ws : List (List UInt8)} {f g : Fd}, fitS p ws f = some g → Keeps p f g
  | [], ws, f, g, h => by
    unfold fitS at h
    split at h
    · injection h with h
      subst h
      exact ⟨⟨[], (List.append_nil _).symm⟩, fun _ => rfl, fun _ => rfl, fun _ => rfl, fun _ => rfl⟩
    · cases h
  | c :: p, [], f, g, h => by cases h
  | c :: p, w :: ws, f, g, h => by
    have ne : ∀ {d : UInt8}, d ∉ c :: p → d ≠ c ∧ d ∉ p := fun hd => ⟨fun e => hd (by rw [e]; exact List.mem_cons_self), fun e => hd (List.mem_cons_of_mem _ e)⟩
    by_cases h1 : c = 97
    · subst h1
      rw [fitS, fitStep_a] at h
      cases ha : addrP w with
      | none => rw [ha] at h; cases h
      | some v =>
        rw [ha] at h
        have K := fitS_keeps h
        exact ⟨K.nums, fun hn => absurd rfl (ne hn).1, fun hn => K.kp (ne hn).2, fun hn => K.kw (ne hn).2, fun hn => K.ko (ne hn).2⟩
    by_cases h2 : c = 112
    · subst h2
      rw [fitS, fitStep_p] at h
      cases ha : protoP w with
      | none => rw [ha] at h; cases h
      | some v =>
        rw [ha] at h
        have K := fitS_keeps h
        exact ⟨K.nums, fun hn => K.ka (ne hn).2, fun hn => absurd rfl (ne hn).1, fun hn => K.kw (ne hn).2, fun hn => K.ko (ne hn).2⟩
    by_cases h3 : c = 119
    · subst h3
      rw [fitS, fitStep_w] at h
      cases ha : wayP w with
      | none => rw [ha] at h; cases h
      | some v =>
        rw [ha] at h
        have K := fitS_keeps h
        exact ⟨K.nums, fun hn => K.ka (ne hn).2, fun hn => K.kp (ne hn).2, fun hn => absurd rfl (ne hn).1, fun hn => K.ko (ne hn).2⟩
    by_cases h4 : c = 84
    · subst h4
      rw [fitS, fitStep_T] at h
      have K := fitS_keeps h
      exact ⟨K.nums, fun hn => K.ka (ne hn).2, fun hn => K.kp (ne hn).2, fun hn => K.kw (ne hn).2, fun hn => K.ko (ne hn).2⟩
    by_cases h5 : c = 80
    · subst h5
      rw [fitS, fitStep_P] at h
      cases ha : numP 10 65535 w with
      | none => rw [ha] at h; cases h
      | some v =>
        rw [ha] at h
        have K := fitS_keeps h
        exact ⟨K.nums, fun hn => K.ka (ne hn).2, fun hn => K.kp (ne hn).2, fun hn => K.kw (ne hn).2, fun hn => absurd rfl (ne hn).1⟩
    rw [fitS, fitStep_n h1 h2 h3 h4 h5] at h
    cases ha : numP 10 (limP c) w with
    | none => rw [ha] at h; cases h
    | some v =>
      rw [ha] at h
      have K := fitS_keeps h
      refine ⟨?_, fun hn => K.ka (ne hn).2, fun hn => K.kp (ne hn).2, fun hn => K.kw (ne hn).2, fun hn => K.ko (ne hn).2⟩
      obtain ⟨ns, hns⟩ := K.nums
      exact ⟨v :: ns, by rw [hns, List.append_assoc]; rfl⟩
theorem drop_len {α : Type} {l m : List α} : (l ++ m).drop l.length = m := by simp
theorem fit_back : ∀ {p : List UInt8} {ws : List (List UInt8)} {f g : Fd}, okP p = true → fitS p ws f = some g → joinC 32 ws = joinC 32 (unfit p (g.nums.drop f.nums.length) g) ∧ (ws = [] ↔ p = [])
  | [], ws, f, g, ho, h => by
    unfold fitS at h
    split at h
    · rename_i he
      have he : ws = [] := by simpa using he
      subst he
      exact ⟨rfl, fun _ => rfl, fun _ => rfl⟩
    · cases h
  | c :: p, [], f, g, ho, h => by cases h
  | c :: p, w :: ws, f, g, ho, h => by
    refine ⟨?_, ⟨(fun h => by cases h), (fun h => by cases h)⟩⟩
    have hot := okP_tail ho
    by_cases h1 : c = 97
    · subst h1
      rw [fitS, fitStep_a] at h
      cases ha : addrP w with
      | none => rw [ha] at h; cases h
      | some v =>
        rw [ha] at h
        have h : fitS p ws { f with a := v } = some g := h
        obtain ⟨i1, i2⟩ := fit_back hot h
        have e := (fitS_keeps h).ka (okP_head ho rfl)
        show _ = joinC 32 (adrT g.a :: unfit p _ g)
        rw [e, (addr_back ha).1]
        exact joinC_same i1 (i2.trans unfit_ne.symm)
    by_cases h2 : c = 112
    · subst h2
      rw [fitS, fitStep_p] at h
      cases ha : protoP w with
      | none => rw [ha] at h; cases h
      | some v =>
        rw [ha] at h
        have h : fitS p ws { f with p := v } = some g := h
        obtain ⟨i1, i2⟩ := fit_back hot h
        have e := (fitS_keeps h).kp (okP_head ho rfl)
        show _ = joinC 32 (proT g.p :: unfit p _ g)
        rw [e, (proto_back ha).1]
        exact joinC_same i1 (i2.trans unfit_ne.symm)
    by_cases h3 : c = 119
    · subst h3
      rw [fitS, fitStep_w] at h
      cases ha : wayP w with
      | none => rw [ha] at h; cases h
      | some v =>
        rw [ha] at h
        have h : fitS p ws { f with wy := v } = some g := h
        obtain ⟨i1, i2⟩ := fit_back hot h
        have e := (fitS_keeps h).kw (okP_head ho rfl)
        show _ = joinC 32 (wayN g.wy :: unfit p _ g)
        rw [e, (way_back ha).1]
        exact joinC_same i1 (i2.trans unfit_ne.symm)
    by_cases h4 : c = 84
    · subst h4
      rw [fitS, fitStep_T] at h
      have h : fitS p [] { f with load := joinC 32 (w :: ws) } = some g := h
      have hp : p = [] := (fit_back hot h).2.1 rfl
      subst hp
      unfold fitS at h
      injection h with h
      subst h
      rfl
    by_cases h5 : c = 80
    · subst h5
      rw [fitS, fitStep_P] at h
      cases ha : numP 10 65535 w with
      | none => rw [ha] at h; cases h
      | some v =>
        rw [ha] at h
        have h : fitS p ws { f with po := v } = some g := h
        obtain ⟨i1, i2⟩ := fit_back hot h
        have e := (fitS_keeps h).ko (okP_head ho rfl)
        show _ = joinC 32 (digB 10 g.po :: unfit p _ g)
        rw [e, numP_back (by omega) ha]
        exact joinC_same i1 (i2.trans unfit_ne.symm)
    rw [fitS, fitStep_n h1 h2 h3 h4 h5] at h
    cases ha : numP 10 (limP c) w with
    | none => rw [ha] at h; cases h
    | some v =>
      rw [ha] at h
      have h : fitS p ws { f with nums := f.nums ++ [v] } = some g := h
      obtain ⟨i1, i2⟩ := fit_back hot h
      obtain ⟨ns, hns⟩ := (fitS_keeps h).nums
      have hns : g.nums = (f.nums ++ [v]) ++ ns := hns
      have e1 : g.nums.drop f.nums.length = v :: ns := by rw [hns, List.append_assoc, drop_len]; rfl
      have e2 : g.nums.drop (f.nums ++ [v]).length = ns := by rw [hns, drop_len]
      have i1 : joinC 32 ws = joinC 32 (unfit p (g.nums.drop (f.nums ++ [v]).length) g) := i1
      rw [e2] at i1
      rw [e1]
      have e3 : unfit (c :: p) (v :: ns) g = w :: unfit p ns g := by
        rw [unfit, if_neg h1, if_neg h2, if_neg h3, if_neg h4, if_neg h5, List.headD_cons, List.tail_cons, numP_back (by omega) ha]
      rw [e3]
      exact joinC_same i1 (i2.trans unfit_ne.symm)
theorem fit_back0 {p : List UInt8} {ws : List (List UInt8)} {g : Fd} (ho : okP p = true) (h : fitS p ws Fd.zero = some g) (w : List UInt8) : joinC 32 (w :: ws) = joinC 32 (w :: unfit p g.nums g) := by
  obtain ⟨i1, i2⟩ := fit_back ho h
  exact joinC_same i1 (i2.trans unfit_ne.symm)
/-- What a pattern read may be. -/
structure FdOk (f : Fd) : Prop where
  a : rightA f.a = true ∧ f.a.hi < 18446744073709551616 ∧ f.a.lo < 18446744073709551616
  p : f.p ≤ 255
  wy : f.wy ≤ 4
  po : f.po ≤ 65535
  nums : ∀ n ∈ f.nums, n ≤ 1073741824
theorem FdOk.zero : FdOk Fd.zero := ⟨zeroA, by decide, by decide, by decide, fun n h => by cases h⟩
theorem fitS_cons {c : UInt8} {p : List UInt8} {w : List UInt8} {ws : List (List UInt8)} {f g : Fd} (h : fitS (c :: p) (w :: ws) f = some g) :
    (c = 97 ∧ ∃ v, addrP w = some v ∧ fitS p ws { f with a := v } = some g) ∨ (c = 112 ∧ ∃ v, protoP w = some v ∧ fitS p ws { f with p := v } = some g) ∨
    (c = 119 ∧ ∃ v, wayP w = some v ∧ fitS p ws { f with wy := v } = some g) ∨ (c = 84 ∧ fitS p [] { f with load := joinC 32 (w :: ws) } = some g) ∨
    (c = 80 ∧ ∃ v, numP 10 65535 w = some v ∧ fitS p ws { f with po := v } = some g) ∨ (c ≠ 112 ∧ ∃ v, numP 10 (limP c) w = some v ∧ fitS p ws { f with nums := f.nums ++ [v] } = some g) := by
  by_cases h1 : c = 97
  · subst h1
    rw [fitS, fitStep_a] at h
    cases ha : addrP w with
    | none => rw [ha] at h; cases h
    | some v => rw [ha] at h; exact .inl ⟨rfl, v, rfl, h⟩
  by_cases h2 : c = 112
  · subst h2
    rw [fitS, fitStep_p] at h
    cases ha : protoP w with
    | none => rw [ha] at h; cases h
    | some v => rw [ha] at h; exact .inr (.inl ⟨rfl, v, rfl, h⟩)
  by_cases h3 : c = 119
  · subst h3
    rw [fitS, fitStep_w] at h
    cases ha : wayP w with
    | none => rw [ha] at h; cases h
    | some v => rw [ha] at h; exact .inr (.inr (.inl ⟨rfl, v, rfl, h⟩))
  by_cases h4 : c = 84
  · subst h4
    rw [fitS, fitStep_T] at h
    exact .inr (.inr (.inr (.inl ⟨rfl, h⟩)))
  by_cases h5 : c = 80
  · subst h5
    rw [fitS, fitStep_P] at h
    cases ha : numP 10 65535 w with
    | none => rw [ha] at h; cases h
    | some v => rw [ha] at h; exact .inr (.inr (.inr (.inr (.inl ⟨rfl, v, rfl, h⟩))))
  rw [fitS, fitStep_n h1 h2 h3 h4 h5] at h
  cases ha : numP 10 (limP c) w with
  | none => rw [ha] at h; cases h
  | some v => rw [ha] at h; exact .inr (.inr (.inr (.inr (.inr ⟨h2, v, rfl, h⟩))))
theorem fitS_ok : ∀ {p : List UInt8} {ws : List (List UInt8)} {f g : Fd}, FdOk f → fitS p ws f = some g → FdOk g
  | [], ws, f, g, hf, h => by
    unfold fitS at h
    split at h
    · injection h with h
      subst h
      exact hf
    · cases h
  | c :: p, [], f, g, hf, h => by cases h
  | c :: p, w :: ws, f, g, hf, h => by
    rcases fitS_cons h with ⟨_, v, hv, h2⟩ | ⟨_, v, hv, h2⟩ | ⟨_, v, hv, h2⟩ | ⟨_, h2⟩ | ⟨_, v, hv, h2⟩ | ⟨_, v, hv, h2⟩
    · exact fitS_ok (f := { f with a := v }) ⟨(addr_back hv).2, hf.p, hf.wy, hf.po, hf.nums⟩ h2
    · exact fitS_ok (f := { f with p := v }) ⟨hf.a, (by have := (proto_back hv).2; show v ≤ 255; omega), hf.wy, hf.po, hf.nums⟩ h2
    · exact fitS_ok (f := { f with wy := v }) ⟨hf.a, hf.p, (way_back hv).2, hf.po, hf.nums⟩ h2
    · exact fitS_ok (f := { f with load := joinC 32 (w :: ws) }) ⟨hf.a, hf.p, hf.wy, hf.po, hf.nums⟩ h2
    · exact fitS_ok (f := { f with po := v }) ⟨hf.a, hf.p, hf.wy, numP_le hv, hf.nums⟩ h2
    · refine fitS_ok (f := { f with nums := f.nums ++ [v] }) ⟨hf.a, hf.p, hf.wy, hf.po, fun n hn => ?_⟩ h2
      rcases List.mem_append.1 hn with hn | hn
      · exact hf.nums n hn
      · rw [List.mem_singleton.1 hn]
        exact Nat.le_trans (numP_le hv) (limP_le c)
theorem fitS_pro : ∀ {p : List UInt8} {ws : List (List UInt8)} {f g : Fd}, okP p = true → (112 : UInt8) ∈ p → fitS p ws f = some g → g.p = 6 ∨ g.p = 17
  | [], ws, f, g, ho, hm, h => by cases hm
  | c :: p, [], f, g, ho, hm, h => by cases h
  | c :: p, w :: ws, f, g, ho, hm, h => by
    have hot := okP_tail ho
    have tl : c ≠ 112 → (112 : UInt8) ∈ p := fun hc => by
      rcases List.mem_cons.1 hm with e | e
      · exact absurd e.symm hc
      · exact e
    rcases fitS_cons h with ⟨e, v, hv, h2⟩ | ⟨e, v, hv, h2⟩ | ⟨e, v, hv, h2⟩ | ⟨e, h2⟩ | ⟨e, v, hv, h2⟩ | ⟨e, v, hv, h2⟩
    · exact fitS_pro hot (tl (by rw [e]; decide)) h2
    · subst e
      rw [(fitS_keeps h2).kp (okP_head ho rfl)]
      exact (proto_back hv).2
    · exact fitS_pro hot (tl (by rw [e]; decide)) h2
    · exact fitS_pro hot (tl (by rw [e]; decide)) h2
    · exact fitS_pro hot (tl (by rw [e]; decide)) h2
    · exact fitS_pro hot (tl e) h2
/-! ### Lines -/
def backendT : List UInt8 := [98, 97, 99, 107, 101, 110, 100]
def vipT : List UInt8 := [118, 105, 112]
def retireT : List UInt8 := [114, 101, 116, 105, 114, 101]
def releaseT : List UInt8 := [114, 101, 108, 101, 97, 115, 101]
def evictT : List UInt8 := [101, 118, 105, 99, 116]
def admitT : List UInt8 := [97, 100, 109, 105, 116]
def rotateT : List UInt8 := [114, 111, 116, 97, 116, 101]
/-- An operation's words behind issue. -/
def opG (ta : Adr → List UInt8) (pt : Nat → List UInt8) (o : Osp) : List (List UInt8) :=
  if o.kind = 1 then [backendT, numT o.backend, ta o.a]
  else if o.kind = 2 then [vipT, ta o.a, numT o.port, pt o.proto, wayT o.way]
  else if o.kind = 3 then [membersT, numT o.vip] ++ o.ms.map memT
  else if o.kind = 4 then [retireT, numT o.vip, numT o.version]
  else if o.kind = 5 then [releaseT, numT o.vip, numT o.version]
  else if o.kind = 6 then [evictT, numT o.backend]
  else if o.kind = 7 then [admitT, numT o.backend]
  else [rotateT]
/-- A letter's word. -/
def wordL (ta : Adr → List UInt8) (s : Sp) (c : UInt8) : List UInt8 :=
  if c = 87 then numT s.who else if c = 65 then numT s.time else if c = 70 ∨ c = 49 then numT s.flags
  else if c = 88 then numT s.x else if c = 89 then numT s.y else if c = 84 then s.load
  else if c = 97 then ta s.src else if c = 80 then numT s.port else numT s.n
def cmdK (k : Int) : Option (Nat × List UInt8 × List UInt8) := cmds.find? fun c => (c.1 : Int) == k
def stepG (ta : Adr → List UInt8) (s : Sp) : List UInt8 := match cmdK s.kind with
  | none => []
  | some (_, nm, p) => joinC 32 (nm :: p.map (wordL ta s))
def writeP (s : Sp) : List UInt8 := if s.kind = 0 then (if 1 ≤ s.op.kind ∧ s.op.kind ≤ 8 then joinC 32 (issueT :: opG textA proT s.op) else []) else stepG textA s
def writeR (s : Sp) : List UInt8 := if s.kind = 0 then joinC 32 (issueT :: opG adrT proR s.op) else stepG adrT s
/-- What a step that was read may be. -/
structure OspOk (o : Osp) : Prop where
  kind : 1 ≤ o.kind ∧ o.kind ≤ 8
  vip : 0 ≤ o.vip
  backend : 0 ≤ o.backend
  version : 0 ≤ o.version
  a : rightA o.a = true ∧ o.a.hi < 18446744073709551616 ∧ o.a.lo < 18446744073709551616
  way : 0 ≤ o.way ∧ o.way ≤ 4
  proto : o.kind = 2 → o.proto = 6 ∨ o.proto = 17
  ms : ∀ m ∈ o.ms, 0 ≤ m.1 ∧ 0 ≤ m.2
structure SpOk (s : Sp) : Prop where
  kind : 0 ≤ s.kind ∧ s.kind ≤ 15
  op : s.kind = 0 → OspOk s.op
  op0 : s.kind ≠ 0 → s.op = Osp.zero
  who : 0 ≤ s.who
  time : 0 ≤ s.time
  src : rightA s.src = true ∧ s.src.hi < 18446744073709551616 ∧ s.src.lo < 18446744073709551616
theorem mem_back {w : List UInt8} {m : Int × Int} (h : memP w = some m) : memT m = w ∧ 0 ≤ m.1 ∧ 0 ≤ m.2 := by
  unfold memP at h
  split at h
  · rename_i p q r hp
    split at h
    · rename_i a b ha hb
      injection h with h
      subst h
      refine ⟨?_, Int.natCast_nonneg _, Int.natCast_nonneg _⟩
      unfold memT
      simp only [numT_nat]
      rw [numP_back (by omega) ha, numP_back (by omega) hb, ← joinC_cons 58 p (by simp), ← hp, join_parts]
    · cases h
  · cases h
theorem mems_back : ∀ {ws : List (List UInt8)} {l : List (Int × Int)}, memsP ws = some l → l.map memT = ws ∧ ∀ m ∈ l, 0 ≤ m.1 ∧ 0 ≤ m.2
  | [], l, h => by injection h with h; subst h; exact ⟨rfl, fun m h => by cases h⟩
  | w :: ws, l, h => by
    unfold memsP at h
    cases hm : memP w with
    | none => rw [hm] at h; cases h
    | some m =>
      cases hr : memsP ws with
      | none => rw [hm, hr] at h; cases h
      | some r =>
        rw [hm, hr] at h
        injection h with h
        subst h
        obtain ⟨a, b⟩ := mem_back hm
        obtain ⟨c, d⟩ := mems_back hr
        refine ⟨by rw [List.map_cons, a, c], fun x hx => ?_⟩
        rcases List.mem_cons.1 hx with rfl | hx
        · exact b
        · exact d x hx
theorem opG_same {o : Osp} (h : OspOk o) : opG adrT proR o = opG textA proT o := by
  unfold opG
  rw [textA_of h.a.1]
  by_cases h2 : o.kind = 2
  · have : proR o.proto = proT o.proto := by
      rcases h.proto h2 with e | e <;> rw [e] <;> rfl
    rw [this]
  · simp only [if_neg h2]
theorem op_k1 {f : Fd} (hl : f.nums.length = 1) (ho : FdOk f) : opG textA proT (fillO 1 f) = backendT :: unfit [75, 97] f.nums f ∧ OspOk (fillO 1 f) := by
  obtain ⟨⟨ha, ha1, ha2⟩, _, hw, _, _⟩ := ho
  obtain ⟨ns, a, po, p, wy, ld⟩ := f
  simp only at hl ha ha1 ha2 hw
  obtain ⟨x1, rfl⟩ := len1 hl
  constructor
  · show [backendT, numT (x1 : Int), textA a] = [backendT, digB 10 x1, adrT a]
    rw [textA_of ha]
    simp only [numT_nat]
    skip
  · exact ⟨⟨by show (1 : Int) ≤ 1; decide, by show (1 : Int) ≤ 8; decide⟩, Int.le_refl 0, Int.natCast_nonneg _, Int.le_refl 0, ⟨ha, ha1, ha2⟩, ⟨Int.le_refl 0, by show (0 : Int) ≤ 4; decide⟩, (fun h => by cases h), (fun m h => by cases h)⟩
theorem op_k2 {f : Fd} (hl : f.nums.length = 0) (ho : FdOk f) (hp : f.p = 6 ∨ f.p = 17) : opG textA proT (fillO 2 f) = vipT :: unfit [97, 80, 112, 119] f.nums f ∧ OspOk (fillO 2 f) := by
  obtain ⟨⟨ha, ha1, ha2⟩, _, hw, _, _⟩ := ho
  obtain ⟨ns, a, po, p, wy, ld⟩ := f
  simp only at hl ha ha1 ha2 hw hp
  obtain rfl := len0 hl
  constructor
  · show [vipT, textA a, numT (po : Int), proT p, wayT (wy : Int)] = [vipT, adrT a, digB 10 po, proT p, wayN wy]
    rw [textA_of ha]
    simp only [numT_nat]
    rfl
  · exact ⟨⟨by show (1 : Int) ≤ 2; decide, by show (2 : Int) ≤ 8; decide⟩, Int.le_refl 0, Int.le_refl 0, Int.le_refl 0, ⟨ha, ha1, ha2⟩, ⟨Int.natCast_nonneg _, by show (wy : Int) ≤ 4; omega⟩, (fun _ => hp), (fun m h => by cases h)⟩
theorem op_k4 {f : Fd} (hl : f.nums.length = 2) (ho : FdOk f) : opG textA proT (fillO 4 f) = retireT :: unfit [75, 75] f.nums f ∧ OspOk (fillO 4 f) := by
  obtain ⟨⟨ha, ha1, ha2⟩, _, hw, _, _⟩ := ho
  obtain ⟨ns, a, po, p, wy, ld⟩ := f
  simp only at hl ha ha1 ha2 hw
  obtain ⟨x1, x2, rfl⟩ := len2 hl
  constructor
  · show [retireT, numT (x1 : Int), numT (x2 : Int)] = [retireT, digB 10 x1, digB 10 x2]
    skip
    simp only [numT_nat]
    skip
  · exact ⟨⟨by show (1 : Int) ≤ 4; decide, by show (4 : Int) ≤ 8; decide⟩, Int.natCast_nonneg _, Int.le_refl 0, Int.natCast_nonneg _, zeroA, ⟨Int.le_refl 0, by show (0 : Int) ≤ 4; decide⟩, ((fun h => by cases h)), (fun m h => by cases h)⟩
theorem op_k5 {f : Fd} (hl : f.nums.length = 2) (ho : FdOk f) : opG textA proT (fillO 5 f) = releaseT :: unfit [75, 75] f.nums f ∧ OspOk (fillO 5 f) := by
  obtain ⟨⟨ha, ha1, ha2⟩, _, hw, _, _⟩ := ho
  obtain ⟨ns, a, po, p, wy, ld⟩ := f
  simp only at hl ha ha1 ha2 hw
  obtain ⟨x1, x2, rfl⟩ := len2 hl
  constructor
  · show [releaseT, numT (x1 : Int), numT (x2 : Int)] = [releaseT, digB 10 x1, digB 10 x2]
    skip
    simp only [numT_nat]
    skip
  · exact ⟨⟨by show (1 : Int) ≤ 5; decide, by show (5 : Int) ≤ 8; decide⟩, Int.natCast_nonneg _, Int.le_refl 0, Int.natCast_nonneg _, zeroA, ⟨Int.le_refl 0, by show (0 : Int) ≤ 4; decide⟩, ((fun h => by cases h)), (fun m h => by cases h)⟩
theorem op_k6 {f : Fd} (hl : f.nums.length = 1) (ho : FdOk f) : opG textA proT (fillO 6 f) = evictT :: unfit [75] f.nums f ∧ OspOk (fillO 6 f) := by
  obtain ⟨⟨ha, ha1, ha2⟩, _, hw, _, _⟩ := ho
  obtain ⟨ns, a, po, p, wy, ld⟩ := f
  simp only at hl ha ha1 ha2 hw
  obtain ⟨x1, rfl⟩ := len1 hl
  constructor
  · show [evictT, numT (x1 : Int)] = [evictT, digB 10 x1]
    skip
    simp only [numT_nat]
    skip
  · exact ⟨⟨by show (1 : Int) ≤ 6; decide, by show (6 : Int) ≤ 8; decide⟩, Int.le_refl 0, Int.natCast_nonneg _, Int.le_refl 0, zeroA, ⟨Int.le_refl 0, by show (0 : Int) ≤ 4; decide⟩, ((fun h => by cases h)), (fun m h => by cases h)⟩
theorem op_k7 {f : Fd} (hl : f.nums.length = 1) (ho : FdOk f) : opG textA proT (fillO 7 f) = admitT :: unfit [75] f.nums f ∧ OspOk (fillO 7 f) := by
  obtain ⟨⟨ha, ha1, ha2⟩, _, hw, _, _⟩ := ho
  obtain ⟨ns, a, po, p, wy, ld⟩ := f
  simp only at hl ha ha1 ha2 hw
  obtain ⟨x1, rfl⟩ := len1 hl
  constructor
  · show [admitT, numT (x1 : Int)] = [admitT, digB 10 x1]
    skip
    simp only [numT_nat]
    skip
  · exact ⟨⟨by show (1 : Int) ≤ 7; decide, by show (7 : Int) ≤ 8; decide⟩, Int.le_refl 0, Int.natCast_nonneg _, Int.le_refl 0, zeroA, ⟨Int.le_refl 0, by show (0 : Int) ≤ 4; decide⟩, ((fun h => by cases h)), (fun m h => by cases h)⟩
theorem op_k8 {f : Fd} (hl : f.nums.length = 0) (ho : FdOk f) : opG textA proT (fillO 8 f) = rotateT :: unfit [] f.nums f ∧ OspOk (fillO 8 f) := by
  obtain ⟨⟨ha, ha1, ha2⟩, _, hw, _, _⟩ := ho
  obtain ⟨ns, a, po, p, wy, ld⟩ := f
  simp only at hl ha ha1 ha2 hw
  obtain rfl := len0 hl
  constructor
  · show [rotateT] = [rotateT]
    skip
    skip
    rfl
  · exact ⟨⟨by show (1 : Int) ≤ 8; decide, by show (8 : Int) ≤ 8; decide⟩, Int.le_refl 0, Int.le_refl 0, Int.le_refl 0, zeroA, ⟨Int.le_refl 0, by show (0 : Int) ≤ 4; decide⟩, ((fun h => by cases h)), (fun m h => by cases h)⟩
theorem cmd_k1 {f : Fd} (hl : f.nums.length = 0) (ho : FdOk f) : writeP (fillP 1 [] f) = joinC 32 ([99, 111, 109, 109, 105, 116] :: unfit [] f.nums f) ∧ SpOk (fillP 1 [] f) := by
  obtain ⟨⟨ha, ha1, ha2⟩, _, _, _, _⟩ := ho
  obtain ⟨ns, a, po, p, wy, ld⟩ := f
  simp only at hl ha ha1 ha2
  obtain rfl := len0 hl
  constructor
  · show joinC 32 [[99, 111, 109, 109, 105, 116]] = joinC 32 [[99, 111, 109, 109, 105, 116]]
    skip
    rfl
  · exact ⟨⟨by show (0 : Int) ≤ (1 : Nat); decide, by show ((1 : Nat) : Int) ≤ 15; decide⟩, fun h => absurd (show (((1 : Nat) : Int) = 0) from h) (by decide), fun _ => rfl, Int.le_refl 0, Int.le_refl 0, ⟨ha, ha1, ha2⟩⟩
theorem cmd_k2 {f : Fd} (hl : f.nums.length = 2) (ho : FdOk f) : writeP (fillP 2 [87, 70] f) = joinC 32 ([99, 114, 97, 115, 104] :: unfit [87, 70] f.nums f) ∧ SpOk (fillP 2 [87, 70] f) := by
  obtain ⟨⟨ha, ha1, ha2⟩, _, _, _, _⟩ := ho
  obtain ⟨ns, a, po, p, wy, ld⟩ := f
  simp only at hl ha ha1 ha2
  obtain ⟨x1, x2, rfl⟩ := len2 hl
  constructor
  · show joinC 32 [[99, 114, 97, 115, 104], numT (x1 : Int), numT (x2 : Int)] = joinC 32 [[99, 114, 97, 115, 104], digB 10 x1, digB 10 x2]
    skip
    simp only [numT_nat]
  · exact ⟨⟨by show (0 : Int) ≤ (2 : Nat); decide, by show ((2 : Nat) : Int) ≤ 15; decide⟩, fun h => absurd (show (((2 : Nat) : Int) = 0) from h) (by decide), fun _ => rfl, Int.natCast_nonneg _, Int.le_refl 0, ⟨ha, ha1, ha2⟩⟩
theorem cmd_k3 {f : Fd} (hl : f.nums.length = 1) (ho : FdOk f) : writeP (fillP 3 [87] f) = joinC 32 ([111, 102, 102, 101, 114] :: unfit [87] f.nums f) ∧ SpOk (fillP 3 [87] f) := by
  obtain ⟨⟨ha, ha1, ha2⟩, _, _, _, _⟩ := ho
  obtain ⟨ns, a, po, p, wy, ld⟩ := f
  simp only at hl ha ha1 ha2
  obtain ⟨x1, rfl⟩ := len1 hl
  constructor
  · show joinC 32 [[111, 102, 102, 101, 114], numT (x1 : Int)] = joinC 32 [[111, 102, 102, 101, 114], digB 10 x1]
    skip
    simp only [numT_nat]
  · exact ⟨⟨by show (0 : Int) ≤ (3 : Nat); decide, by show ((3 : Nat) : Int) ≤ 15; decide⟩, fun h => absurd (show (((3 : Nat) : Int) = 0) from h) (by decide), fun _ => rfl, Int.natCast_nonneg _, Int.le_refl 0, ⟨ha, ha1, ha2⟩⟩
theorem cmd_k4 {f : Fd} (hl : f.nums.length = 1) (ho : FdOk f) : writeP (fillP 4 [87] f) = joinC 32 ([100, 101, 108, 105, 118, 101, 114] :: unfit [87] f.nums f) ∧ SpOk (fillP 4 [87] f) := by
  obtain ⟨⟨ha, ha1, ha2⟩, _, _, _, _⟩ := ho
  obtain ⟨ns, a, po, p, wy, ld⟩ := f
  simp only at hl ha ha1 ha2
  obtain ⟨x1, rfl⟩ := len1 hl
  constructor
  · show joinC 32 [[100, 101, 108, 105, 118, 101, 114], numT (x1 : Int)] = joinC 32 [[100, 101, 108, 105, 118, 101, 114], digB 10 x1]
    skip
    simp only [numT_nat]
  · exact ⟨⟨by show (0 : Int) ≤ (4 : Nat); decide, by show ((4 : Nat) : Int) ≤ 15; decide⟩, fun h => absurd (show (((4 : Nat) : Int) = 0) from h) (by decide), fun _ => rfl, Int.natCast_nonneg _, Int.le_refl 0, ⟨ha, ha1, ha2⟩⟩
theorem cmd_k5 {f : Fd} (hl : f.nums.length = 1) (ho : FdOk f) : writeP (fillP 5 [87] f) = joinC 32 ([100, 114, 111, 112] :: unfit [87] f.nums f) ∧ SpOk (fillP 5 [87] f) := by
  obtain ⟨⟨ha, ha1, ha2⟩, _, _, _, _⟩ := ho
  obtain ⟨ns, a, po, p, wy, ld⟩ := f
  simp only at hl ha ha1 ha2
  obtain ⟨x1, rfl⟩ := len1 hl
  constructor
  · show joinC 32 [[100, 114, 111, 112], numT (x1 : Int)] = joinC 32 [[100, 114, 111, 112], digB 10 x1]
    skip
    simp only [numT_nat]
  · exact ⟨⟨by show (0 : Int) ≤ (5 : Nat); decide, by show ((5 : Nat) : Int) ≤ 15; decide⟩, fun h => absurd (show (((5 : Nat) : Int) = 0) from h) (by decide), fun _ => rfl, Int.natCast_nonneg _, Int.le_refl 0, ⟨ha, ha1, ha2⟩⟩
theorem cmd_k6 {f : Fd} (hl : f.nums.length = 1) (ho : FdOk f) : writeP (fillP 6 [87] f) = joinC 32 ([116, 119, 105, 99, 101] :: unfit [87] f.nums f) ∧ SpOk (fillP 6 [87] f) := by
  obtain ⟨⟨ha, ha1, ha2⟩, _, _, _, _⟩ := ho
  obtain ⟨ns, a, po, p, wy, ld⟩ := f
  simp only at hl ha ha1 ha2
  obtain ⟨x1, rfl⟩ := len1 hl
  constructor
  · show joinC 32 [[116, 119, 105, 99, 101], numT (x1 : Int)] = joinC 32 [[116, 119, 105, 99, 101], digB 10 x1]
    skip
    simp only [numT_nat]
  · exact ⟨⟨by show (0 : Int) ≤ (6 : Nat); decide, by show ((6 : Nat) : Int) ≤ 15; decide⟩, fun h => absurd (show (((6 : Nat) : Int) = 0) from h) (by decide), fun _ => rfl, Int.natCast_nonneg _, Int.le_refl 0, ⟨ha, ha1, ha2⟩⟩
theorem cmd_k7 {f : Fd} (hl : f.nums.length = 1) (ho : FdOk f) : writeP (fillP 7 [87] f) = joinC 32 ([114, 101, 115, 116, 97, 114, 116] :: unfit [87] f.nums f) ∧ SpOk (fillP 7 [87] f) := by
  obtain ⟨⟨ha, ha1, ha2⟩, _, _, _, _⟩ := ho
  obtain ⟨ns, a, po, p, wy, ld⟩ := f
  simp only at hl ha ha1 ha2
  obtain ⟨x1, rfl⟩ := len1 hl
  constructor
  · show joinC 32 [[114, 101, 115, 116, 97, 114, 116], numT (x1 : Int)] = joinC 32 [[114, 101, 115, 116, 97, 114, 116], digB 10 x1]
    skip
    simp only [numT_nat]
  · exact ⟨⟨by show (0 : Int) ≤ (7 : Nat); decide, by show ((7 : Nat) : Int) ≤ 15; decide⟩, fun h => absurd (show (((7 : Nat) : Int) = 0) from h) (by decide), fun _ => rfl, Int.natCast_nonneg _, Int.le_refl 0, ⟨ha, ha1, ha2⟩⟩
theorem cmd_k8 {f : Fd} (hl : f.nums.length = 3) (ho : FdOk f) : writeP (fillP 8 [87, 78, 49] f) = joinC 32 ([114, 101, 112, 111, 114, 116] :: unfit [87, 78, 49] f.nums f) ∧ SpOk (fillP 8 [87, 78, 49] f) := by
  obtain ⟨⟨ha, ha1, ha2⟩, _, _, _, _⟩ := ho
  obtain ⟨ns, a, po, p, wy, ld⟩ := f
  simp only at hl ha ha1 ha2
  obtain ⟨x1, x2, x3, rfl⟩ := len3 hl
  constructor
  · show joinC 32 [[114, 101, 112, 111, 114, 116], numT (x1 : Int), numT (x2 : Int), numT (x3 : Int)] = joinC 32 [[114, 101, 112, 111, 114, 116], digB 10 x1, digB 10 x2, digB 10 x3]
    skip
    simp only [numT_nat]
  · exact ⟨⟨by show (0 : Int) ≤ (8 : Nat); decide, by show ((8 : Nat) : Int) ≤ 15; decide⟩, fun h => absurd (show (((8 : Nat) : Int) = 0) from h) (by decide), fun _ => rfl, Int.natCast_nonneg _, Int.le_refl 0, ⟨ha, ha1, ha2⟩⟩
theorem cmd_k9 {f : Fd} (hl : f.nums.length = 5) (ho : FdOk f) : writeP (fillP 9 [87, 65, 70, 88, 89, 84] f) = joinC 32 ([115, 101, 110, 100] :: unfit [87, 65, 70, 88, 89, 84] f.nums f) ∧ SpOk (fillP 9 [87, 65, 70, 88, 89, 84] f) := by
  obtain ⟨⟨ha, ha1, ha2⟩, _, _, _, _⟩ := ho
  obtain ⟨ns, a, po, p, wy, ld⟩ := f
  simp only at hl ha ha1 ha2
  obtain ⟨x1, x2, x3, x4, x5, rfl⟩ := len5 hl
  constructor
  · show joinC 32 [[115, 101, 110, 100], numT (x1 : Int), numT (x2 : Int), numT (x3 : Int), numT (x4 : Int), numT (x5 : Int), ld] = joinC 32 [[115, 101, 110, 100], digB 10 x1, digB 10 x2, digB 10 x3, digB 10 x4, digB 10 x5, ld]
    skip
    simp only [numT_nat]
  · exact ⟨⟨by show (0 : Int) ≤ (9 : Nat); decide, by show ((9 : Nat) : Int) ≤ 15; decide⟩, fun h => absurd (show (((9 : Nat) : Int) = 0) from h) (by decide), fun _ => rfl, Int.natCast_nonneg _, Int.natCast_nonneg _, ⟨ha, ha1, ha2⟩⟩
theorem cmd_k10 {f : Fd} (hl : f.nums.length = 3) (ho : FdOk f) : writeP (fillP 10 [87, 65, 70, 84] f) = joinC 32 ([114, 101, 112, 108, 121] :: unfit [87, 65, 70, 84] f.nums f) ∧ SpOk (fillP 10 [87, 65, 70, 84] f) := by
  obtain ⟨⟨ha, ha1, ha2⟩, _, _, _, _⟩ := ho
  obtain ⟨ns, a, po, p, wy, ld⟩ := f
  simp only at hl ha ha1 ha2
  obtain ⟨x1, x2, x3, rfl⟩ := len3 hl
  constructor
  · show joinC 32 [[114, 101, 112, 108, 121], numT (x1 : Int), numT (x2 : Int), numT (x3 : Int), ld] = joinC 32 [[114, 101, 112, 108, 121], digB 10 x1, digB 10 x2, digB 10 x3, ld]
    skip
    simp only [numT_nat]
  · exact ⟨⟨by show (0 : Int) ≤ (10 : Nat); decide, by show ((10 : Nat) : Int) ≤ 15; decide⟩, fun h => absurd (show (((10 : Nat) : Int) = 0) from h) (by decide), fun _ => rfl, Int.natCast_nonneg _, Int.natCast_nonneg _, ⟨ha, ha1, ha2⟩⟩
theorem cmd_k11 {f : Fd} (hl : f.nums.length = 1) (ho : FdOk f) : writeP (fillP 11 [78] f) = joinC 32 ([116, 105, 99, 107] :: unfit [78] f.nums f) ∧ SpOk (fillP 11 [78] f) := by
  obtain ⟨⟨ha, ha1, ha2⟩, _, _, _, _⟩ := ho
  obtain ⟨ns, a, po, p, wy, ld⟩ := f
  simp only at hl ha ha1 ha2
  obtain ⟨x1, rfl⟩ := len1 hl
  constructor
  · show joinC 32 [[116, 105, 99, 107], numT (x1 : Int)] = joinC 32 [[116, 105, 99, 107], digB 10 x1]
    skip
    simp only [numT_nat]
  · exact ⟨⟨by show (0 : Int) ≤ (11 : Nat); decide, by show ((11 : Nat) : Int) ≤ 15; decide⟩, fun h => absurd (show (((11 : Nat) : Int) = 0) from h) (by decide), fun _ => rfl, Int.le_refl 0, Int.le_refl 0, ⟨ha, ha1, ha2⟩⟩
theorem cmd_k12 {f : Fd} (hl : f.nums.length = 2) (ho : FdOk f) : writeP (fillP 12 [87, 65, 84] f) = joinC 32 ([113, 117, 105, 99] :: unfit [87, 65, 84] f.nums f) ∧ SpOk (fillP 12 [87, 65, 84] f) := by
  obtain ⟨⟨ha, ha1, ha2⟩, _, _, _, _⟩ := ho
  obtain ⟨ns, a, po, p, wy, ld⟩ := f
  simp only at hl ha ha1 ha2
  obtain ⟨x1, x2, rfl⟩ := len2 hl
  constructor
  · show joinC 32 [[113, 117, 105, 99], numT (x1 : Int), numT (x2 : Int), ld] = joinC 32 [[113, 117, 105, 99], digB 10 x1, digB 10 x2, ld]
    skip
    simp only [numT_nat]
  · exact ⟨⟨by show (0 : Int) ≤ (12 : Nat); decide, by show ((12 : Nat) : Int) ≤ 15; decide⟩, fun h => absurd (show (((12 : Nat) : Int) = 0) from h) (by decide), fun _ => rfl, Int.natCast_nonneg _, Int.natCast_nonneg _, ⟨ha, ha1, ha2⟩⟩
theorem cmd_k13 {f : Fd} (hl : f.nums.length = 2) (ho : FdOk f) : writeP (fillP 13 [87, 65] f) = joinC 32 ([103, 105, 118, 101] :: unfit [87, 65] f.nums f) ∧ SpOk (fillP 13 [87, 65] f) := by
  obtain ⟨⟨ha, ha1, ha2⟩, _, _, _, _⟩ := ho
  obtain ⟨ns, a, po, p, wy, ld⟩ := f
  simp only at hl ha ha1 ha2
  obtain ⟨x1, x2, rfl⟩ := len2 hl
  constructor
  · show joinC 32 [[103, 105, 118, 101], numT (x1 : Int), numT (x2 : Int)] = joinC 32 [[103, 105, 118, 101], digB 10 x1, digB 10 x2]
    skip
    simp only [numT_nat]
  · exact ⟨⟨by show (0 : Int) ≤ (13 : Nat); decide, by show ((13 : Nat) : Int) ≤ 15; decide⟩, fun h => absurd (show (((13 : Nat) : Int) = 0) from h) (by decide), fun _ => rfl, Int.natCast_nonneg _, Int.natCast_nonneg _, ⟨ha, ha1, ha2⟩⟩
theorem cmd_k14 {f : Fd} (hl : f.nums.length = 1) (ho : FdOk f) : writeP (fillP 14 [87, 97, 80] f) = joinC 32 ([109, 111, 118, 101] :: unfit [87, 97, 80] f.nums f) ∧ SpOk (fillP 14 [87, 97, 80] f) := by
  obtain ⟨⟨ha, ha1, ha2⟩, _, _, _, _⟩ := ho
  obtain ⟨ns, a, po, p, wy, ld⟩ := f
  simp only at hl ha ha1 ha2
  obtain ⟨x1, rfl⟩ := len1 hl
  constructor
  · show joinC 32 [[109, 111, 118, 101], numT (x1 : Int), textA a, numT (po : Int)] = joinC 32 [[109, 111, 118, 101], digB 10 x1, adrT a, digB 10 po]
    rw [textA_of ha]
    simp only [numT_nat]
  · exact ⟨⟨by show (0 : Int) ≤ (14 : Nat); decide, by show ((14 : Nat) : Int) ≤ 15; decide⟩, fun h => absurd (show (((14 : Nat) : Int) = 0) from h) (by decide), fun _ => rfl, Int.natCast_nonneg _, Int.le_refl 0, ⟨ha, ha1, ha2⟩⟩
theorem cmd_k15 {f : Fd} (hl : f.nums.length = 1) (ho : FdOk f) : writeP (fillP 15 [57] f) = joinC 32 ([115, 101, 116, 116, 108, 101] :: unfit [57] f.nums f) ∧ SpOk (fillP 15 [57] f) := by
  obtain ⟨⟨ha, ha1, ha2⟩, _, _, _, _⟩ := ho
  obtain ⟨ns, a, po, p, wy, ld⟩ := f
  simp only at hl ha ha1 ha2
  obtain ⟨x1, rfl⟩ := len1 hl
  constructor
  · show joinC 32 [[115, 101, 116, 116, 108, 101], numT (x1 : Int)] = joinC 32 [[115, 101, 116, 116, 108, 101], digB 10 x1]
    skip
    simp only [numT_nat]
  · exact ⟨⟨by show (0 : Int) ≤ (15 : Nat); decide, by show ((15 : Nat) : Int) ≤ 15; decide⟩, fun h => absurd (show (((15 : Nat) : Int) = 0) from h) (by decide), fun _ => rfl, Int.le_refl 0, Int.le_refl 0, ⟨ha, ha1, ha2⟩⟩
theorem op_back1 {nm : List UInt8} {r : List (List UInt8)} {o : Osp} (h : opP (nm :: r) = some o) : joinC 32 (nm :: r) = joinC 32 (opG textA proT o) ∧ OspOk o := by
  unfold opP at h
  simp only at h
  by_cases hm : nm = membersT
  · rw [if_pos hm] at h
    cases r with
    | nil => cases h
    | cons v ms =>
      simp only at h
      cases hn : numP 10 255 v with
      | none => rw [hn] at h; cases h
      | some n =>
        rw [hn] at h
        simp only at h
        split at h
        · obtain ⟨l, hl, rfl⟩ := Option.map_eq_some_iff.1 h
          obtain ⟨m1, m2⟩ := mems_back hl
          refine ⟨?_, ⟨⟨show (1 : Int) ≤ 3 by decide, show (3 : Int) ≤ 8 by decide⟩, Int.natCast_nonneg _, Int.le_refl 0, Int.le_refl 0, zeroA, ⟨Int.le_refl 0, show (0 : Int) ≤ 4 by decide⟩, (fun h => by cases h), m2⟩⟩
          show _ = joinC 32 (membersT :: numT (n : Int) :: l.map memT)
          rw [m1, numT_nat, numP_back (by omega) hn, hm]
        · cases h
  · rw [if_neg hm] at h
    unfold opPat at h
    by_cases hq1 : nm = [98, 97, 99, 107, 101, 110, 100]
    · rw [if_pos hq1] at h
      obtain ⟨f, hf, rfl⟩ := Option.map_eq_some_iff.1 h
      have hlen := fitS_len hf
      have ok := fitS_ok FdOk.zero hf
      refine ⟨?_, (op_k1 hlen ok).2⟩
      rw [(op_k1 hlen ok).1, fit_back0 rfl hf nm, hq1]
      rfl
    rw [if_neg hq1] at h
    by_cases hq2 : nm = [118, 105, 112]
    · rw [if_pos hq2] at h
      obtain ⟨f, hf, rfl⟩ := Option.map_eq_some_iff.1 h
      have hlen := fitS_len hf
      have ok := fitS_ok FdOk.zero hf
      refine ⟨?_, (op_k2 hlen ok (fitS_pro rfl (by decide) hf)).2⟩
      rw [(op_k2 hlen ok (fitS_pro rfl (by decide) hf)).1, fit_back0 rfl hf nm, hq2]
      rfl
    rw [if_neg hq2] at h
    by_cases hq4 : nm = [114, 101, 116, 105, 114, 101]
    · rw [if_pos hq4] at h
      obtain ⟨f, hf, rfl⟩ := Option.map_eq_some_iff.1 h
      have hlen := fitS_len hf
      have ok := fitS_ok FdOk.zero hf
      refine ⟨?_, (op_k4 hlen ok).2⟩
      rw [(op_k4 hlen ok).1, fit_back0 rfl hf nm, hq4]
      rfl
    rw [if_neg hq4] at h
    by_cases hq5 : nm = [114, 101, 108, 101, 97, 115, 101]
    · rw [if_pos hq5] at h
      obtain ⟨f, hf, rfl⟩ := Option.map_eq_some_iff.1 h
      have hlen := fitS_len hf
      have ok := fitS_ok FdOk.zero hf
      refine ⟨?_, (op_k5 hlen ok).2⟩
      rw [(op_k5 hlen ok).1, fit_back0 rfl hf nm, hq5]
      rfl
    rw [if_neg hq5] at h
    by_cases hq6 : nm = [101, 118, 105, 99, 116]
    · rw [if_pos hq6] at h
      obtain ⟨f, hf, rfl⟩ := Option.map_eq_some_iff.1 h
      have hlen := fitS_len hf
      have ok := fitS_ok FdOk.zero hf
      refine ⟨?_, (op_k6 hlen ok).2⟩
      rw [(op_k6 hlen ok).1, fit_back0 rfl hf nm, hq6]
      rfl
    rw [if_neg hq6] at h
    by_cases hq7 : nm = [97, 100, 109, 105, 116]
    · rw [if_pos hq7] at h
      obtain ⟨f, hf, rfl⟩ := Option.map_eq_some_iff.1 h
      have hlen := fitS_len hf
      have ok := fitS_ok FdOk.zero hf
      refine ⟨?_, (op_k7 hlen ok).2⟩
      rw [(op_k7 hlen ok).1, fit_back0 rfl hf nm, hq7]
      rfl
    rw [if_neg hq7] at h
    by_cases hq8 : nm = [114, 111, 116, 97, 116, 101]
    · rw [if_pos hq8] at h
      obtain ⟨f, hf, rfl⟩ := Option.map_eq_some_iff.1 h
      have hlen := fitS_len hf
      have ok := fitS_ok FdOk.zero hf
      refine ⟨?_, (op_k8 hlen ok).2⟩
      rw [(op_k8 hlen ok).1, fit_back0 rfl hf nm, hq8]
      rfl
    rw [if_neg hq8] at h
    cases h
theorem op_back {ws : List (List UInt8)} {o : Osp} (h : opP ws = some o) : joinC 32 ws = joinC 32 (opG textA proT o) ∧ (ws = [] ↔ opG textA proT o = []) ∧ OspOk o := by
  cases ws with
  | nil => cases h
  | cons nm r =>
    have gne : opG textA proT o ≠ [] := by
      unfold opG
      repeat' split
      all_goals simp
    obtain ⟨h1, h2⟩ := op_back1 h
    exact ⟨h1, ⟨(fun h => by cases h), fun h => absurd h gne⟩, h2⟩
theorem words_back {ws : List (List UInt8)} {x : Sp} (h : wordsP ws = some x) : joinC 32 ws = writeP x ∧ SpOk x := by
  cases ws with
  | nil => cases h
  | cons nm r =>
    unfold wordsP at h
    simp only at h
    split at h
    · rename_i hi
      obtain ⟨o, ho, rfl⟩ := Option.map_eq_some_iff.1 h
      obtain ⟨i1, i2, i3⟩ := op_back ho
      refine ⟨?_, ⟨⟨Int.le_refl 0, show (0 : Int) ≤ 15 by decide⟩, fun _ => i3, fun h => absurd rfl h, Int.le_refl 0, Int.le_refl 0, zeroA⟩⟩
      unfold writeP
      rw [if_pos (show ({ Sp.zero with op := o } : Sp).kind = 0 from rfl), if_pos (show 1 ≤ ({ Sp.zero with op := o } : Sp).op.kind ∧ ({ Sp.zero with op := o } : Sp).op.kind ≤ 8 from i3.kind), hi]
      exact joinC_same i1 i2
    · cases hc : cmdOf nm with
      | none => rw [hc] at h; cases h
      | some q =>
        obtain ⟨k, nm', p⟩ := q
        rw [hc] at h
        simp only at h
        obtain ⟨f, hf, rfl⟩ := Option.map_eq_some_iff.1 h
        have hnm : nm' = nm := by
          have := List.find?_some hc
          simpa using this
        have hin := List.mem_of_find?_eq_some hc
        have ok := fitS_ok FdOk.zero hf
        have hlen := fitS_len hf
        subst hnm
        unfold cmds at hin
        simp only [List.mem_cons, List.not_mem_nil, or_false] at hin
        rcases hin with h | h | h | h | h | h | h | h | h | h | h | h | h | h | h
        all_goals (injection h with h1 h2; injection h2 with h2 h3; subst h1; subst h2; subst h3)
        · rw [(cmd_k1 hlen ok).1, fit_back0 rfl hf _]; exact ⟨rfl, (cmd_k1 hlen ok).2⟩
        · rw [(cmd_k2 hlen ok).1, fit_back0 rfl hf _]; exact ⟨rfl, (cmd_k2 hlen ok).2⟩
        · rw [(cmd_k3 hlen ok).1, fit_back0 rfl hf _]; exact ⟨rfl, (cmd_k3 hlen ok).2⟩
        · rw [(cmd_k4 hlen ok).1, fit_back0 rfl hf _]; exact ⟨rfl, (cmd_k4 hlen ok).2⟩
        · rw [(cmd_k5 hlen ok).1, fit_back0 rfl hf _]; exact ⟨rfl, (cmd_k5 hlen ok).2⟩
        · rw [(cmd_k6 hlen ok).1, fit_back0 rfl hf _]; exact ⟨rfl, (cmd_k6 hlen ok).2⟩
        · rw [(cmd_k7 hlen ok).1, fit_back0 rfl hf _]; exact ⟨rfl, (cmd_k7 hlen ok).2⟩
        · rw [(cmd_k8 hlen ok).1, fit_back0 rfl hf _]; exact ⟨rfl, (cmd_k8 hlen ok).2⟩
        · rw [(cmd_k9 hlen ok).1, fit_back0 rfl hf _]; exact ⟨rfl, (cmd_k9 hlen ok).2⟩
        · rw [(cmd_k10 hlen ok).1, fit_back0 rfl hf _]; exact ⟨rfl, (cmd_k10 hlen ok).2⟩
        · rw [(cmd_k11 hlen ok).1, fit_back0 rfl hf _]; exact ⟨rfl, (cmd_k11 hlen ok).2⟩
        · rw [(cmd_k12 hlen ok).1, fit_back0 rfl hf _]; exact ⟨rfl, (cmd_k12 hlen ok).2⟩
        · rw [(cmd_k13 hlen ok).1, fit_back0 rfl hf _]; exact ⟨rfl, (cmd_k13 hlen ok).2⟩
        · rw [(cmd_k14 hlen ok).1, fit_back0 rfl hf _]; exact ⟨rfl, (cmd_k14 hlen ok).2⟩
        · rw [(cmd_k15 hlen ok).1, fit_back0 rfl hf _]; exact ⟨rfl, (cmd_k15 hlen ok).2⟩
theorem line_back {t : List UInt8} {x : Sp} (h : lineP t = some x) : writeP x = t ∧ SpOk x := by
  unfold lineP at h
  split at h
  · cases h
  · obtain ⟨a, b⟩ := words_back h
    rw [join_parts] at a
    exact ⟨a.symm, b⟩
theorem writeR_eq {x : Sp} (h : SpOk x) : writeR x = writeP x := by
  unfold writeR writeP
  by_cases hk : x.kind = 0
  · have ho := h.op hk
    rw [if_pos hk, if_pos hk, if_pos ho.kind, opG_same ho]
  · rw [if_neg hk, if_neg hk]
    unfold stepG
    cases cmdK x.kind with
    | none => rfl
    | some q =>
      obtain ⟨a, b, c⟩ := q
      simp only
      congr 2
      refine List.map_congr_left fun d _ => ?_
      unfold wordL
      rw [textA_of h.src.1]
theorem lineR_back {t : List UInt8} {x : Sp} (h : lineP t = some x) : writeR x = t := by
  obtain ⟨a, b⟩ := line_back h
  rw [writeR_eq b, a]
/-- A step has a line by the program's way of writing just if it has one by the document's. -/
theorem fits_iff (x : Sp) : lineP (writeP x) = some x ↔ lineP (writeR x) = some x := by
  refine ⟨fun h => ?_, fun h => ?_⟩
  · rw [lineR_back h]; exact h
  · rw [(line_back h).1]; exact h
end Go.Proofs.YthfdhggcnkgjfaaGreatDoor
/- Plain words: commands by their numbers; a pattern's numbers, one by one. No program in sight. -/
namespace Go.Proofs.YthfdhggcnkgjfaaGreatDoor
set_option linter.unusedVariables false
def nmB (k : Nat) : ByteArray := if k = 1 then ⟨#[99, 111, 109, 109, 105, 116]⟩ else if k = 2 then ⟨#[99, 114, 97, 115, 104]⟩ else if k = 3 then ⟨#[111, 102, 102, 101, 114]⟩ else if k = 4 then ⟨#[100, 101, 108, 105, 118, 101, 114]⟩ else if k = 5 then ⟨#[100, 114, 111, 112]⟩ else if k = 6 then ⟨#[116, 119, 105, 99, 101]⟩ else if k = 7 then ⟨#[114, 101, 115, 116, 97, 114, 116]⟩ else if k = 8 then ⟨#[114, 101, 112, 111, 114, 116]⟩ else if k = 9 then ⟨#[115, 101, 110, 100]⟩ else if k = 10 then ⟨#[114, 101, 112, 108, 121]⟩ else if k = 11 then ⟨#[116, 105, 99, 107]⟩ else if k = 12 then ⟨#[113, 117, 105, 99]⟩ else if k = 13 then ⟨#[103, 105, 118, 101]⟩ else if k = 14 then ⟨#[109, 111, 118, 101]⟩ else if k = 15 then ⟨#[115, 101, 116, 116, 108, 101]⟩ else ⟨#[]⟩
def ptB (k : Nat) : ByteArray := if k = 1 then ⟨#[]⟩ else if k = 2 then ⟨#[87, 70]⟩ else if k = 3 then ⟨#[87]⟩ else if k = 4 then ⟨#[87]⟩ else if k = 5 then ⟨#[87]⟩ else if k = 6 then ⟨#[87]⟩ else if k = 7 then ⟨#[87]⟩ else if k = 8 then ⟨#[87, 78, 49]⟩ else if k = 9 then ⟨#[87, 65, 70, 88, 89, 84]⟩ else if k = 10 then ⟨#[87, 65, 70, 84]⟩ else if k = 11 then ⟨#[78]⟩ else if k = 12 then ⟨#[87, 65, 84]⟩ else if k = 13 then ⟨#[87, 65]⟩ else if k = 14 then ⟨#[87, 97, 80]⟩ else if k = 15 then ⟨#[57]⟩ else ⟨#[]⟩
theorem cases15 {P : Nat → Prop} (h1 : P 1) (h2 : P 2) (h3 : P 3) (h4 : P 4) (h5 : P 5) (h6 : P 6) (h7 : P 7) (h8 : P 8) (h9 : P 9) (h10 : P 10) (h11 : P 11) (h12 : P 12) (h13 : P 13) (h14 : P 14) (h15 : P 15) : ∀ k, 1 ≤ k → k ≤ 15 → P k := by
  intro k h1 h15
  obtain rfl | rfl | rfl | rfl | rfl | rfl | rfl | rfl | rfl | rfl | rfl | rfl | rfl | rfl | rfl : k = 1 ∨ k = 2 ∨ k = 3 ∨ k = 4 ∨ k = 5 ∨ k = 6 ∨ k = 7 ∨ k = 8 ∨ k = 9 ∨ k = 10 ∨ k = 11 ∨ k = 12 ∨ k = 13 ∨ k = 14 ∨ k = 15 := by omega
  all_goals assumption
theorem cmd_at : ∀ k, 1 ≤ k → k ≤ 15 → cmdOf (nmB k).data.toList = some (k, (nmB k).data.toList, (ptB k).data.toList) ∧ (nmB k).data.toList ≠ issueT ∧ (ptB k).size ≤ 6 :=
  cases15 ⟨rfl, by decide, by decide⟩ ⟨rfl, by decide, by decide⟩ ⟨rfl, by decide, by decide⟩ ⟨rfl, by decide, by decide⟩ ⟨rfl, by decide, by decide⟩ ⟨rfl, by decide, by decide⟩ ⟨rfl, by decide, by decide⟩ ⟨rfl, by decide, by decide⟩ ⟨rfl, by decide, by decide⟩ ⟨rfl, by decide, by decide⟩ ⟨rfl, by decide, by decide⟩ ⟨rfl, by decide, by decide⟩ ⟨rfl, by decide, by decide⟩ ⟨rfl, by decide, by decide⟩ ⟨rfl, by decide, by decide⟩
theorem cmd_none {nm : List UInt8} (h : ∀ k, 1 ≤ k → k ≤ 15 → (nmB k).data.toList ≠ nm) : cmdOf nm = none := by
  unfold cmdOf cmds
  rw [List.find?_eq_none]
  intro c hc
  simp only [List.mem_cons, List.not_mem_nil, or_false] at hc
  rcases hc with rfl | rfl | rfl | rfl | rfl | rfl | rfl | rfl | rfl | rfl | rfl | rfl | rfl | rfl | rfl
  · exact fun e => h 1 (by omega) (by omega) ((show (nmB 1).data.toList = _ from rfl).trans (eq_of_beq e))
  · exact fun e => h 2 (by omega) (by omega) ((show (nmB 2).data.toList = _ from rfl).trans (eq_of_beq e))
  · exact fun e => h 3 (by omega) (by omega) ((show (nmB 3).data.toList = _ from rfl).trans (eq_of_beq e))
  · exact fun e => h 4 (by omega) (by omega) ((show (nmB 4).data.toList = _ from rfl).trans (eq_of_beq e))
  · exact fun e => h 5 (by omega) (by omega) ((show (nmB 5).data.toList = _ from rfl).trans (eq_of_beq e))
  · exact fun e => h 6 (by omega) (by omega) ((show (nmB 6).data.toList = _ from rfl).trans (eq_of_beq e))
  · exact fun e => h 7 (by omega) (by omega) ((show (nmB 7).data.toList = _ from rfl).trans (eq_of_beq e))
  · exact fun e => h 8 (by omega) (by omega) ((show (nmB 8).data.toList = _ from rfl).trans (eq_of_beq e))
  · exact fun e => h 9 (by omega) (by omega) ((show (nmB 9).data.toList = _ from rfl).trans (eq_of_beq e))
  · exact fun e => h 10 (by omega) (by omega) ((show (nmB 10).data.toList = _ from rfl).trans (eq_of_beq e))
  · exact fun e => h 11 (by omega) (by omega) ((show (nmB 11).data.toList = _ from rfl).trans (eq_of_beq e))
  · exact fun e => h 12 (by omega) (by omega) ((show (nmB 12).data.toList = _ from rfl).trans (eq_of_beq e))
  · exact fun e => h 13 (by omega) (by omega) ((show (nmB 13).data.toList = _ from rfl).trans (eq_of_beq e))
  · exact fun e => h 14 (by omega) (by omega) ((show (nmB 14).data.toList = _ from rfl).trans (eq_of_beq e))
  · exact fun e => h 15 (by omega) (by omega) ((show (nmB 15).data.toList = _ from rfl).trans (eq_of_beq e))
/-- A letter that a step's pattern has. -/
def stepL (c : UInt8) : Bool := c != 112 && c != 119
theorem pt_letters : ∀ k, 1 ≤ k → k ≤ 15 → (ptB k).data.toList.all stepL = true :=
  cases15 (by decide) (by decide) (by decide) (by decide) (by decide) (by decide) (by decide) (by decide) (by decide) (by decide) (by decide) (by decide) (by decide) (by decide) (by decide)
/-- The numbers are as the letters ask. -/
def okN : List UInt8 → List Nat → Prop
  | [], ns => ns = []
  | c :: p, ns => if c = 97 ∨ c = 80 ∨ c = 84 then okN p ns else match ns with
    | [] => False
    | v :: ns => v ≤ limP c ∧ okN p ns
theorem fitS_okN : ∀ {p : List UInt8} {ws : List (List UInt8)} {f g : Fd}, p.all stepL = true → fitS p ws f = some g → okN p (g.nums.drop f.nums.length)
  | [], ws, f, g, ho, h => by
    unfold fitS at h
    split at h
    · injection h with h
      subst h
      show List.drop _ _ = []
      exact List.drop_length
    · cases h
  | c :: p, [], f, g, ho, h => by cases h
  | c :: p, w :: ws, f, g, ho, h => by
    simp only [List.all_cons, Bool.and_eq_true] at ho
    rcases fitS_cons h with ⟨e, v, hv, h2⟩ | ⟨e, v, hv, h2⟩ | ⟨e, v, hv, h2⟩ | ⟨e, h2⟩ | ⟨e, v, hv, h2⟩ | ⟨e, v, hv, h2⟩
    · unfold okN; rw [if_pos (.inl e)]; exact fitS_okN (f := { f with a := v }) ho.2 h2
    · subst e; exact absurd ho.1 (by decide)
    · subst e; exact absurd ho.1 (by decide)
    · unfold okN; rw [if_pos (.inr (.inr e))]; exact fitS_okN (f := { f with load := joinC 32 (w :: ws) }) ho.2 h2
    · unfold okN; rw [if_pos (.inr (.inl e))]; exact fitS_okN (f := { f with po := v }) ho.2 h2
    · have hk := (fitS_keeps h2).nums
      obtain ⟨ns, hns⟩ := hk
      have hns : g.nums = (f.nums ++ [v]) ++ ns := hns
      have e1 : g.nums.drop f.nums.length = v :: ns := by rw [hns, List.append_assoc, drop_len]; rfl
      have e2 : g.nums.drop (f.nums ++ [v]).length = ns := by rw [hns, drop_len]
      have i1 := fitS_okN ho.2 h2
      have i1 : okN p (g.nums.drop (f.nums ++ [v]).length) := i1
      rw [e2] at i1
      rw [e1]
      unfold okN
      by_cases hc : c = 97 ∨ c = 80 ∨ c = 84
      · exfalso
        rcases hc with rfl | rfl | rfl
        · rw [fitS, fitStep_a] at h
          have := fitS_lenF h2
          cases ha : addrP w with
          | none => rw [ha] at h; cases h
          | some a =>
            rw [ha] at h
            have h3 := fitS_lenF (f := { f with a := a }) h
            simp only [List.length_append, List.length_cons, List.length_nil] at this h3
            omega
        · rw [fitS, fitStep_P] at h
          have := fitS_lenF h2
          cases ha : numP 10 65535 w with
          | none => rw [ha] at h; cases h
          | some a =>
            rw [ha] at h
            have h3 := fitS_lenF (f := { f with po := a }) h
            simp only [List.length_append, List.length_cons, List.length_nil] at this h3
            omega
        · rw [fitS, fitStep_T] at h
          have := fitS_lenF h2
          have h3 := fitS_lenF (f := { f with load := joinC 32 (w :: ws) }) h
          simp only [List.length_append, List.length_cons, List.length_nil] at this h3
          omega
      · rw [if_neg hc]
        exact ⟨numP_le hv, i1⟩
theorem fitS_load : ∀ {p : List UInt8} {ws : List (List UInt8)} {f g : Fd}, fitS p ws f = some g → g.load.length ≤ max f.load.length (joinC 32 ws).length
  | [], ws, f, g, h => by
    unfold fitS at h
    split at h
    · injection h with h
      subst h
      exact Nat.le_max_left _ _
    · cases h
  | c :: p, [], f, g, h => by cases h
  | c :: p, w :: ws, f, g, h => by
    have hj : (joinC 32 ws).length ≤ (joinC 32 (w :: ws)).length := by
      cases ws with
      | nil => simp [joinC]
      | cons q qs => rw [joinC_cons2, List.length_append, List.length_cons]; omega
    rcases fitS_cons h with ⟨e, v, hv, h2⟩ | ⟨e, v, hv, h2⟩ | ⟨e, v, hv, h2⟩ | ⟨e, h2⟩ | ⟨e, v, hv, h2⟩ | ⟨e, v, hv, h2⟩
    · have h3 : g.load.length ≤ max f.load.length (joinC 32 ws).length := fitS_load (f := { f with a := v }) h2
      omega
    · have h3 : g.load.length ≤ max f.load.length (joinC 32 ws).length := fitS_load (f := { f with p := v }) h2
      omega
    · have h3 : g.load.length ≤ max f.load.length (joinC 32 ws).length := fitS_load (f := { f with wy := v }) h2
      omega
    · have h3 : g.load.length ≤ max (joinC 32 (w :: ws)).length (joinC 32 []).length := fitS_load (f := { f with load := joinC 32 (w :: ws) }) h2
      have h4 : (joinC 32 []).length = 0 := rfl
      omega
    · have h3 : g.load.length ≤ max f.load.length (joinC 32 ws).length := fitS_load (f := { f with po := v }) h2
      omega
    · have h3 : g.load.length ≤ max f.load.length (joinC 32 ws).length := fitS_load (f := { f with nums := f.nums ++ [v] }) h2
      omega
/-- One letter's number, put down. -/
def fill1 (c : UInt8) (v : Nat) (s : Sp) : Sp := if c = 87 then { s with who := v } else if c = 65 then { s with time := v } else if c = 70 ∨ c = 49 then { s with flags := v } else if c = 88 then { s with x := v } else if c = 89 then { s with y := v } else { s with n := v }
theorem fillN_skip {c : UInt8} {p : List UInt8} {ns : List Nat} {s : Sp} (h : c = 97 ∨ c = 80 ∨ c = 84) : fillN (c :: p) ns s = fillN p ns s := by cases ns <;> rw [fillN, if_pos h]
theorem fillN_num {c : UInt8} {p : List UInt8} {v : Nat} {ns : List Nat} {s : Sp} (h : ¬ (c = 97 ∨ c = 80 ∨ c = 84)) : fillN (c :: p) (v :: ns) s = fillN p ns (fill1 c v s) := by rw [fillN, if_neg h]; rfl
end Go.Proofs.YthfdhggcnkgjfaaGreatDoor
/- Plain words: a step that was read has at most 64 members. No program in sight. -/
namespace Go.Proofs.YthfdhggcnkgjfaaGreatDoor
set_option linter.unusedVariables false
theorem fillO_ms (k : Int) (f : Fd) : (fillO k f).ms = [] := by
  unfold fillO
  repeat' split
  all_goals rfl
theorem op_len {ws : List (List UInt8)} {o : Osp} (h : opP ws = some o) : o.ms.length ≤ 64 := by
  cases ws with
  | nil => cases h
  | cons nm r =>
    unfold opP at h
    simp only at h
    by_cases hm : nm = membersT
    · rw [if_pos hm] at h
      cases r with
      | nil => cases h
      | cons v ms =>
        simp only at h
        cases hn : numP 10 255 v with
        | none => rw [hn] at h; cases h
        | some n =>
          rw [hn] at h
          simp only at h
          split at h
          · rename_i hl
            obtain ⟨l, hl2, rfl⟩ := Option.map_eq_some_iff.1 h
            have h1 := congrArg List.length (mems_back hl2).1
            rw [List.length_map] at h1
            show l.length ≤ 64
            omega
          · cases h
    · rw [if_neg hm] at h
      cases hp : opPat nm with
      | none => rw [hp] at h; cases h
      | some q =>
        obtain ⟨k, p⟩ := q
        rw [hp] at h
        obtain ⟨f, hf, rfl⟩ := Option.map_eq_some_iff.1 h
        rw [fillO_ms]
        exact Nat.zero_le _
theorem fillN_op : ∀ (p : List UInt8) (ns : List Nat) (s : Sp), (fillN p ns s).op = s.op
  | [], ns, s => by cases ns <;> rfl
  | c :: p, ns, s => by
    by_cases h : c = 97 ∨ c = 80 ∨ c = 84
    · rw [fillN_skip h]; exact fillN_op p ns s
    · cases ns with
      | nil => rw [fillN, if_neg h]; exact fillN_op p [] s
      | cons v ns =>
        rw [fillN_num h, fillN_op p ns]
        unfold fill1
        repeat' split
        all_goals rfl
theorem fillP_op (k : Nat) (p : List UInt8) (f : Fd) : (fillP k p f).op = Osp.zero := by
  unfold fillP
  rw [fillN_op]
  rfl
theorem line_len {t : List UInt8} {x : Sp} (h : lineP t = some x) : x.op.ms.length ≤ 64 := by
  by_cases hk : x.kind = 0
  · unfold lineP at h
    split at h
    · cases h
    · generalize parts 32 t = ws at h
      cases ws with
      | nil => cases h
      | cons nm r =>
        unfold wordsP at h
        simp only at h
        split at h
        · obtain ⟨o, ho, rfl⟩ := Option.map_eq_some_iff.1 h
          exact op_len ho
        · rename_i hi
          have ok := (words_back (ws := nm :: r) (x := x) (by unfold wordsP; simp only; rw [if_neg hi]; exact h)).2
          cases hc : cmdOf nm with
          | none => rw [hc] at h; cases h
          | some q =>
            obtain ⟨k, nm', p⟩ := q
            rw [hc] at h
            obtain ⟨f, hf, rfl⟩ := Option.map_eq_some_iff.1 h
            rw [fillP_op]
            exact Nat.zero_le _
  · have := (line_back h).2.op0 hk
    rw [this]
    exact Nat.zero_le _
end Go.Proofs.YthfdhggcnkgjfaaGreatDoor
