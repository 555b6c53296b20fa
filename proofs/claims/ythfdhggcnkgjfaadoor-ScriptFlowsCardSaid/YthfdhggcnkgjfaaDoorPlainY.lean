/- Numbers of groups, put together by bits and by bytes. No program in sight. -/
import Derived.Test.YthfdhggcnkgjfaaDoorPlainX
import Derived.Test.YthfdhggcnkgjfaaDoorOctPlain
namespace Go.Proofs.YthfdhggcnkgjfaaDoor
set_option linter.unusedVariables false
theorem or_join (i a n : Nat) (h : n < 2 ^ i) (hb : 2 ^ i * a + n < 18446744073709551616) : bits .or .u64 ((2 ^ i * a : Nat) : Int) (n : Int) = ((2 ^ i * a + n : Nat) : Int) := by
  rw [u64_or_nat _ _ (by omega) (by omega), ← Nat.two_pow_add_eq_or_of_lt h a]
theorem val_lt {b : Nat} : ∀ {ns : List Nat}, (∀ n ∈ ns, n < b) → val b ns < b ^ ns.length := by
  intro ns
  have key : ∀ (ns : List Nat) (v k : Nat), v < b ^ k → (∀ n ∈ ns, n < b) → ns.foldl (fun v n => v * b + n) v < b ^ (k + ns.length) := by
    intro ns
    induction ns with
    | nil => intro v k hv _; exact hv
    | cons n ns ih =>
      intro v k hv h
      have hn := h n (by simp)
      have := ih (v * b + n) (k + 1) (by
        rw [Nat.pow_succ]
        have : (v + 1) * b ≤ b ^ k * b := Nat.mul_le_mul_right b hv
        rw [Nat.add_mul] at this
        omega) fun x hx => h x (by simp [hx])
      rw [List.foldl_cons, List.length_cons, show k + (ns.length + 1) = k + 1 + ns.length by omega]
      exact this
  intro h
  have := key ns 0 0 (by simp) h
  rw [Nat.zero_add] at this
  exact this
theorem foldl_val (b : Nat) : ∀ (ns : List Nat) (v : Nat), ns.foldl (fun v n => v * b + n) v = v * b ^ ns.length + val b ns
  | [], v => by simp [val]
  | n :: ns, v => by
    rw [List.foldl_cons, foldl_val b ns, List.length_cons]
    unfold val
    rw [List.foldl_cons, foldl_val b ns (0 * b + n)]
    rw [Nat.pow_succ, Nat.add_mul, Nat.zero_mul, Nat.zero_add, Nat.mul_assoc, Nat.mul_comm b (b ^ ns.length), Nat.add_assoc]
    rfl
theorem val_append (b : Nat) (x y : List Nat) : val b (x ++ y) = val b x * b ^ y.length + val b y := by
  unfold val
  rw [List.foldl_append, foldl_val]
  rfl
/-- Bytes of numbers. -/
def byt (k : Nat) (ns : List Nat) : List UInt8 := (ns.map fun (n : Nat) => digs k (n : Int)).flatten
theorem byt_snoc (k : Nat) (ns : List Nat) (n : Nat) : byt k (ns ++ [n]) = byt k ns ++ digs k (n : Int) := by simp [byt]
theorem byt_append (k : Nat) (x y : List Nat) : byt k (x ++ y) = byt k x ++ byt k y := by simp [byt]
theorem byt_len (k : Nat) (ns : List Nat) : (byt k ns).length = k * ns.length := by
  induction ns with
  | nil => simp [byt]
  | cons n ns ih =>
    show (digs k (n : Int) ++ byt k ns).length = _
    rw [List.length_append, digs_length, ih, List.length_cons, Nat.mul_add]; omega
theorem num_append (l m : List UInt8) : num (l ++ m) = num l * 256 ^ m.length + num m := by
  have key : ∀ (m : List UInt8) (v : Int), m.foldl (fun n c => n * 256 + (c.toNat : Int)) v = v * 256 ^ m.length + num m := by
    intro m
    induction m with
    | nil => intro v; simp [num]
    | cons c m ih =>
      intro v
      rw [List.foldl_cons, ih]
      unfold num
      rw [List.foldl_cons, ih (0 * 256 + (c.toNat : Int)), List.length_cons, Int.pow_succ, Int.add_mul, Int.zero_mul, Int.zero_add, Int.mul_assoc, Int.mul_comm 256 (256 ^ m.length), Int.add_assoc]
      rfl
  show (l ++ m).foldl _ 0 = _
  rw [List.foldl_append, key]
  rfl
theorem num_digs1 (n : Nat) (h : n < 256) : num (digs 1 (n : Int)) = (n : Int) := by simp [digs, num, b8_val]; omega
theorem num_digs2 (n : Nat) (h : n < 65536) : num (digs 2 (n : Int)) = (n : Int) := by simp [digs, num, b8_val]; omega
theorem num_byt1 {ns : List Nat} (h : ∀ n ∈ ns, n ≤ 255) : num (byt 1 ns) = (val 256 ns : Int) := by
  have key : ∀ m (ns : List Nat), ns.length = m → (∀ n ∈ ns, n ≤ 255) → num (byt 1 ns) = (val 256 ns : Int) := by
    intro m
    induction m with
    | zero => intro ns hm _; rw [List.length_eq_zero_iff.1 hm]; rfl
    | succ m ih =>
      intro ns hm h
      have hne : ns ≠ [] := by rintro rfl; simp at hm
      rw [← List.dropLast_concat_getLast hne, byt_snoc, val_snoc, num_append, digs_length, ih _ (by simp [hm]) (fun x hx => h x (List.dropLast_subset _ hx)), num_digs1 _ (by have := h _ (List.getLast_mem hne); omega)]
      rw [show (256 : Int) ^ 1 = 256 from rfl]
      omega
  exact key _ ns rfl h
theorem num_byt2 {ns : List Nat} (h : ∀ n ∈ ns, n ≤ 65535) : num (byt 2 ns) = (val 65536 ns : Int) := by
  have key : ∀ m (ns : List Nat), ns.length = m → (∀ n ∈ ns, n ≤ 65535) → num (byt 2 ns) = (val 65536 ns : Int) := by
    intro m
    induction m with
    | zero => intro ns hm _; rw [List.length_eq_zero_iff.1 hm]; rfl
    | succ m ih =>
      intro ns hm h
      have hne : ns ≠ [] := by rintro rfl; simp at hm
      rw [← List.dropLast_concat_getLast hne, byt_snoc, val_snoc, num_append, digs_length, ih _ (by simp [hm]) (fun x hx => h x (List.dropLast_subset _ hx)), num_digs2 _ (by have := h _ (List.getLast_mem hne); omega)]
      rw [show (256 : Int) ^ 2 = 65536 from rfl]
      omega
  exact key _ ns rfl h
theorem of6 {ns : List Nat} (h8 : ns.length = 8) (h : ∀ n ∈ ns, n ≤ 65535) : num ((byt 2 ns).take 8) = (val 65536 ns / 18446744073709551616 : Nat) ∧ num ((byt 2 ns).drop 8) = (val 65536 ns % 18446744073709551616 : Nat) := by
  have e : ns = ns.take 4 ++ ns.drop 4 := (List.take_append_drop 4 ns).symm
  have l1 : (ns.take 4).length = 4 := by rw [List.length_take]; omega
  have l2 : (ns.drop 4).length = 4 := by rw [List.length_drop]; omega
  have b1 : (byt 2 (ns.take 4)).length = 8 := by rw [byt_len, l1]
  have hv := val_append 65536 (ns.take 4) (ns.drop 4)
  rw [← e, l2] at hv
  have h1 : ∀ n ∈ ns.take 4, n ≤ 65535 := fun n hn => h n (List.mem_of_mem_take hn)
  have h2 : ∀ n ∈ ns.drop 4, n ≤ 65535 := fun n hn => h n (List.mem_of_mem_drop hn)
  have hlt := val_lt (b := 65536) (ns := ns.drop 4) (fun n hn => by have := h2 n hn; omega)
  rw [l2] at hlt
  have hb : byt 2 ns = byt 2 (ns.take 4) ++ byt 2 (ns.drop 4) := by rw [← byt_append, ← e]
  rw [hb, List.take_append_of_le_length (by omega), List.take_of_length_le (by omega), List.drop_append_of_le_length (by omega), List.drop_of_length_le (by omega), List.nil_append, num_byt2 h1, num_byt2 h2, hv]
  have e2 : (65536 : Nat) ^ 4 = 18446744073709551616 := by decide
  rw [e2] at hlt ⊢
  constructor
  · congr 1; omega
  · congr 1; omega
end Go.Proofs.YthfdhggcnkgjfaaDoor
