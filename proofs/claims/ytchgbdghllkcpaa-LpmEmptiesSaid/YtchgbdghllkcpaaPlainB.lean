/- Plain words on the bytes of addresses. No program in sight. -/
import Derived.Test.YtchgbdghllkcpaaPlain
namespace Go.Proofs.Ytchgbdghllkcpaa
theorem numB_snoc (l : List Nat) (b : Nat) : numB (l ++ [b]) = numB l * 256 + b := by unfold numB; rw [List.foldl_append]; rfl
theorem num_numB (l : List UInt8) : num l = (numB (l.map (·.toNat)) : Int) := by
  have key : ∀ (l : List UInt8) (n : Nat), l.foldl (fun (n : Int) c => n * 256 + (c.toNat : Int)) (n : Int) = (((l.map (·.toNat)).foldl (fun n b => n * 256 + b) n : Nat) : Int) := by
    intro l
    induction l with
    | nil => intro n; rfl
    | cons c l ih =>
      intro n
      rw [List.foldl_cons, List.map_cons, List.foldl_cons, ← ih]
      simp
  exact key l 0
theorem b8_nat (M : Nat) : (b8 (M : Int)).toNat = M % 256 := by
  have := b8_val (M : Int)
  omega
theorem digs_num (k M : Nat) : numB ((digs k (M : Int)).map (·.toNat)) = M % 256 ^ k := by
  induction k generalizing M with
  | zero => simp [digs, numB, Nat.mod_one]
  | succ k ih =>
    have e : (M : Int) / 256 = ((M / 256 : Nat) : Int) := by simp
    rw [digs, List.map_append, List.map_cons, List.map_nil, numB_snoc, e, ih, b8_nat, Nat.pow_succ, Nat.mul_comm (256 ^ k), Nat.mod_mul]
    omega
def Ad.bytes (a : Ad) : List UInt8 := if a.six then digs 8 a.hi ++ digs 8 a.lo else digs 4 a.lo
theorem Ad.bytes_len (a : Ad) : a.bytes.length = if a.six then 16 else 4 := by unfold Ad.bytes; split <;> simp [digs_length]
/-- What byte j is, when those ahead of byte i are done, and of byte i the bits ahead of k. -/
def stF (bs : List Nat) (m i k j : Nat) : Nat := if j < i then clr (bs.getD j 0) (8 - (m - 8 * j)) else if j = i then byteTo (bs.getD j 0) (min 8 (m - 8 * j)) k else bs.getD j 0
structure CutS (bs : List Nat) (m i k : Nat) (L : List UInt8) : Prop where
  len : L.length = bs.length
  val : ∀ j (h : j < L.length), (L[j]).toNat = stF bs m i k j
theorem cutS_start (l : List UInt8) (m : Nat) : CutS (l.map (·.toNat)) m 0 0 l := by
  refine ⟨by simp, fun j hj => ?_⟩
  simp only [stF, Nat.not_lt_zero, if_false]
  have e : (l.map (·.toNat)).getD j 0 = l[j].toNat := by simp [List.getD_eq_getElem?_getD, hj]
  rw [e]
  split
  · rw [byteTo_zero]
  · rfl
theorem CutS.next {bs : List Nat} {m i : Nat} {L : List UInt8} (h : CutS bs m i 8 L) : CutS bs m (i + 1) 0 L := by
  refine ⟨h.len, fun j hj => ?_⟩
  rw [h.val j hj]
  unfold stF
  by_cases h1 : j < i
  · simp [h1, Nat.lt_succ_of_lt h1]
  · by_cases h2 : j = i
    · subst h2
      simp only [Nat.lt_irrefl, if_false, if_true, Nat.lt_succ_self]
      rw [byteTo_end]
      congr 1
      omega
    · have h3 : ¬ j < i + 1 := by omega
      simp only [h1, h2, h3, if_false]
      split
      · rw [byteTo_zero]
      · rfl
theorem CutS.byte {bs : List Nat} {m i k : Nat} {L : List UInt8} (h : CutS bs m i k L) (hi : i < L.length) : (L[i]).toNat = byteTo (bs.getD i 0) (min 8 (m - 8 * i)) k := by
  rw [h.val i hi]; simp [stF]
theorem CutS.off {bs : List Nat} {m i k : Nat} {L : List UInt8} (h : CutS bs m i k L) (hb : ∀ b ∈ bs, b < 256) (hi : i < L.length) (hk : k < 8) (hc : ¬ (m ≤ 8 * i + k ∧ (L[i]).toNat / 2 ^ (7 - k) % 2 = 1)) : CutS bs m i (k + 1) L := by
  refine ⟨h.len, fun j hj => ?_⟩
  rw [h.val j hj]
  unfold stF
  split
  · rfl
  · split
    · rename_i e
      subst e
      have hx : bs.getD j 0 < 256 := by
        rw [List.getD_eq_getElem?_getD, List.getElem?_eq_getElem (by have := h.len; omega)]
        exact hb _ (List.getElem_mem _)
      rw [h.byte hi] at hc
      refine (byteTo_off _ hx _ (by omega) k hk ?_).symm
      by_cases h1 : k < min 8 (m - 8 * j)
      · exact .inl h1
      · exact .inr fun h2 => hc ⟨by omega, h2⟩
    · rfl
theorem CutS.on {bs : List Nat} {m i k : Nat} {L : List UInt8} (h : CutS bs m i k L) (hb : ∀ b ∈ bs, b < 256) (hi : i < L.length) (hk : k < 8) (hm : m ≤ 8 * i + k) (hc : (L[i]).toNat / 2 ^ (7 - k) % 2 = 1) (x : UInt8) (hx : x.toNat = (L[i]).toNat - 2 ^ (7 - k)) :
    CutS bs m i (k + 1) (over L i [x]) := by
  have e : over L i [x] = L.set i x := by
    unfold over
    rw [List.set_eq_take_append_cons_drop, if_pos hi]; simp
  rw [e]
  refine ⟨by simpa using h.len, fun j hj => ?_⟩
  have hj' : j < L.length := by simpa using hj
  rw [List.getElem_set]
  split
  · rename_i e
    subst e
    have hx' : bs.getD i 0 < 256 := by
      rw [List.getD_eq_getElem?_getD, List.getElem?_eq_getElem (by have := h.len; omega)]
      exact hb _ (List.getElem_mem _)
    rw [hx, h.byte hi]
    rw [h.byte hi] at hc
    have := byteTo_on _ hx' (min 8 (m - 8 * i)) (by omega) k hk ⟨by omega, hc⟩
    unfold stF
    rw [if_neg (Nat.lt_irrefl i), if_pos rfl, this.2]
  · rename_i hne
    rw [h.val j hj']
    unfold stF
    split
    · rfl
    · split
      · omega
      · rfl
theorem CutS.sub {bs : List Nat} {m i k : Nat} {L : List UInt8} (h : CutS bs m i k L) (hb : ∀ b ∈ bs, b < 256) (hi : i < L.length) (hk : k < 8) (hm : m ≤ 8 * i + k) (hc : (L[i]).toNat / 2 ^ (7 - k) % 2 = 1) : 2 ^ (7 - k) ≤ (L[i]).toNat := by
  have hx' : bs.getD i 0 < 256 := by
    rw [List.getD_eq_getElem?_getD, List.getElem?_eq_getElem (by have := h.len; omega)]
    exact hb _ (List.getElem_mem _)
  rw [h.byte hi] at hc ⊢
  exact (byteTo_on _ hx' (min 8 (m - 8 * i)) (by omega) k hk ⟨by omega, hc⟩).1
theorem cutL_get (l : List Nat) (n j : Nat) : (cutL l n)[j]? = (l[j]?).map fun b => clr b (8 - (n - 8 * j)) := by
  induction l generalizing n j with
  | nil => simp [cutL]
  | cons b l ih =>
    cases j with
    | zero => simp [cutL]
    | succ j =>
      simp only [cutL, List.getElem?_cons_succ]
      rw [ih, show n - 8 - 8 * j = n - 8 * (j + 1) by omega]
theorem CutS.fin {bs : List Nat} {m i : Nat} {L : List UInt8} (h : CutS bs m i 0 L) (hi : bs.length ≤ i) : L.map (·.toNat) = cutL bs m := by
  apply List.ext_getElem?
  intro j
  rw [cutL_get, List.getElem?_map]
  by_cases hj : j < L.length
  · rw [List.getElem?_eq_getElem hj, List.getElem?_eq_getElem (by rw [← h.len]; exact hj)]
    simp only [Option.map_some]
    rw [h.val j hj]
    have := h.len
    simp [stF, show j < i by omega, List.getD_eq_getElem?_getD, show j < bs.length by omega]
  · have := h.len
    rw [List.getElem?_eq_none (by omega), List.getElem?_eq_none (by omega)]
    rfl
theorem bytes_lt (l : List UInt8) : ∀ b ∈ l.map (·.toNat), b < 256 := by
  intro b hb
  obtain ⟨x, _, rfl⟩ := List.mem_map.1 hb
  exact x.toNat_lt
/-- Four bytes as an address. -/
theorem cut4 (lo m : Nat) (L : List UInt8) (hlo : lo < 4294967296) (h : L.map (·.toNat) = cutL ((digs 4 lo).map (·.toNat)) m) : num L = ((clr lo (32 - m) : Nat) : Int) := by
  rw [num_numB, h, numB_cut _ _ (bytes_lt _), digs_num, List.length_map, digs_length, Nat.mod_eq_of_lt (by omega)]
theorem cut16 (hi lo m : Nat) (L : List UInt8) (hhi : hi < 18446744073709551616) (hlo : lo < 18446744073709551616) (h : L.map (·.toNat) = cutL ((digs 8 hi ++ digs 8 lo).map (·.toNat)) m) :
    num (L.take 8) = ((clr hi (64 - m) : Nat) : Int) ∧ num (L.drop 8) = ((clr lo (64 - (m - 64)) : Nat) : Int) := by
  rw [List.map_append, cutL_append, List.length_map, digs_length] at h
  have h1 : (L.take 8).map (·.toNat) = cutL ((digs 8 hi).map (·.toNat)) m := by
    rw [List.map_take, h, List.take_left' (by rw [cutL_len]; simp [digs_length])]
  have h2 : (L.drop 8).map (·.toNat) = cutL ((digs 8 lo).map (·.toNat)) (m - 64) := by
    rw [List.map_drop, h, List.drop_left' (by rw [cutL_len]; simp [digs_length])]
  constructor
  · rw [num_numB, h1, numB_cut _ _ (bytes_lt _), digs_num, List.length_map, digs_length, Nat.mod_eq_of_lt (by omega)]
  · rw [num_numB, h2, numB_cut _ _ (bytes_lt _), digs_num, List.length_map, digs_length, Nat.mod_eq_of_lt (by omega)]
theorem cut_four (a : Ad) (n : Int) (m : Nat) (h6 : a.six = false) (hr : a.right) (hm : n.toNat = m) : a.cut n = ⟨false, 0, clr a.lo (32 - m)⟩ := by
  have h0 : a.hi = 0 := by
    rcases hr with h | h
    · rw [h6] at h; cases h
    · exact h.1
  have hc : a.cl n = min m 32 := by unfold Ad.cl Ad.bits; rw [h6]; simp; omega
  unfold Ad.cut Ad.cutN
  rw [hc, h6, h0]
  simp
  congr 1
  omega
theorem cut_six (a : Ad) (n : Int) (m : Nat) (h6 : a.six = true) (hm : n.toNat = m) : a.cut n = ⟨true, clr a.hi (64 - m), clr a.lo (64 - (m - 64))⟩ := by
  have hc : a.cl n = min m 128 := by unfold Ad.cl Ad.bits; rw [h6]; simp; omega
  unfold Ad.cut Ad.cutN
  rw [hc, h6]
  simp
  constructor <;> congr 1 <;> omega
end Go.Proofs.Ytchgbdghllkcpaa
