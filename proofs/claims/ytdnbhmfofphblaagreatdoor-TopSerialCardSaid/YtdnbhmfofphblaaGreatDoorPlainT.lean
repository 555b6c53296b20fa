/- Plain arithmetic of the Internet checksum: folded sums are sums modulo 65535, with 65535 for 0 where the sum is not 0. -/
import Derived.WalkKit
import Derived.Laws.BitsAllLaws
import Derived.Test.YtdnbhmfofphblaaGreatDoorBase
namespace Go.Proofs.YtdnbhmfofphblaaGreatDoor
set_option maxRecDepth 100000

/-- n folded. -/
def norm (n : Int) : Int := if n = 0 then 0 else (n - 1) % 65535 + 1
theorem norm_range (n : Int) : 0 ≤ norm n ∧ norm n ≤ 65535 := by unfold norm; split <;> omega
theorem norm_small (n : Int) (h0 : 0 ≤ n) (h : n ≤ 65535) : norm n = n := by unfold norm; split <;> omega
theorem norm_step (n : Int) (h : 65535 < n) : norm (n % 65536 + n / 65536) = norm n := by
  unfold norm
  rw [if_neg (by omega), if_neg (by omega)]
  omega
theorem norm_zero (n : Int) : norm n = 0 ↔ n = 0 := by unfold norm; split <;> omega

/-- Two words, folded. -/
def plus (a b : Int) : Int := if 65535 < a + b then a + b - 65535 else a + b
theorem plus_range (a b : Int) (a0 : 0 ≤ a) (a1 : a ≤ 65535) (b0 : 0 ≤ b) (b1 : b ≤ 65535) : 0 ≤ plus a b ∧ plus a b ≤ 65535 := by unfold plus; split <;> omega
theorem plus_norm (n b : Int) (n0 : 0 ≤ n) (b0 : 0 ≤ b) (b1 : b ≤ 65535) : plus (norm n) b = norm (n + b) := by
  have := norm_range n
  unfold plus norm at *
  split <;> split <;> split <;> omega
theorem plus_plus (x y z : Int) (x0 : 0 ≤ x) (x1 : x ≤ 65535) (y0 : 0 ≤ y) (y1 : y ≤ 65535) (z0 : 0 ≤ z) (z1 : z ≤ 65535) : plus (plus x y) z = norm (x + y + z) := by
  rw [← plus_norm (x + y) z (by omega) z0 z1, ← plus_norm x y x0 y0 y1, norm_small x x0 x1]

/-- The checksum with one word replaced. -/
def updI (s was now : Int) : Int := 65535 - norm (65535 - s + (65535 - was) + now)
theorem updI_range (s was now : Int) : 0 ≤ updI s was now ∧ updI s was now ≤ 65535 := by
  have := norm_range (65535 - s + (65535 - was) + now)
  unfold updI; omega

/-- The sum of bytes, every other one times 256; 'hi': is the first one? -/
def total : Bool → List UInt8 → Int
  | _, [] => 0
  | true, x :: r => (x.toNat : Int) * 256 + total false r
  | false, x :: r => (x.toNat : Int) + total true r
theorem total_nonneg (b : Bool) (l : List UInt8) : 0 ≤ total b l := by
  induction l generalizing b with
  | nil => simp [total]
  | cons x r ih => cases b <;> simp only [total] <;> have := ih true <;> have := ih false <;> omega
theorem total_le (b : Bool) (l : List UInt8) : total b l ≤ 65280 * l.length := by
  induction l generalizing b with
  | nil => simp [total]
  | cons x r ih =>
    have hx := x.toNat_lt
    cases b <;> simp only [total, List.length_cons] <;> have := ih true <;> have := ih false <;> omega
/-- Which byte of a word a place holds. -/
def par : Bool → Nat → Bool
  | b, 0 => b
  | b, k + 1 => par (!b) k
theorem par_even (b : Bool) (k : Nat) : par b (2 * k) = b := by
  induction k with
  | zero => rfl
  | succ k ih => rw [show 2 * (k + 1) = 2 * k + 1 + 1 by omega]; simp [par, ih]
theorem par_succ (b : Bool) (k : Nat) : par b (k + 1) = !par b k := by
  induction k generalizing b with
  | zero => rfl
  | succ k ih => rw [par, ih, ← par]
theorem total_take (b : Bool) (l : List UInt8) (k : Nat) (h : k < l.length) : total b (l.take (k + 1)) = total b (l.take k) + (if par b k then (l[k].toNat : Int) * 256 else (l[k].toNat : Int)) := by
  induction l generalizing b k with
  | nil => simp at h
  | cons x r ih =>
    cases k with
    | zero => cases b <;> simp [total, par]
    | succ k =>
      have h' : k < r.length := by simpa using h
      have := ih (!b) k h'
      cases b <;> simp only [List.take_succ_cons, total, par, List.getElem_cons_succ, Bool.not_true, Bool.not_false] at * <;> rw [this] <;> omega
theorem total_set (b : Bool) (l : List UInt8) (k : Nat) (v : UInt8) (h : k < l.length) :
    total b (l.set k v) = total b l + (if par b k then ((v.toNat : Int) - (l[k].toNat : Int)) * 256 else ((v.toNat : Int) - (l[k].toNat : Int))) := by
  induction l generalizing b k with
  | nil => simp at h
  | cons x r ih =>
    cases k with
    | zero => cases b <;> simp only [List.set_cons_zero, total, par, List.getElem_cons_zero] <;> simp <;> omega
    | succ k =>
      have h' : k < r.length := by simpa using h
      have := ih (!b) k h'
      cases b <;> simp only [List.set_cons_succ, total, par, List.getElem_cons_succ, Bool.not_true, Bool.not_false] at * <;> rw [this] <;> omega
end Go.Proofs.YtdnbhmfofphblaaGreatDoor
/- Plain words on the headers of packets: what their bytes say, and the bytes of one. No program in sight. -/
namespace Go.Proofs.YtdnbhmfofphblaaGreatDoor
set_option maxRecDepth 100000
/-- The number of n bytes from k on. -/
def fld (b : List UInt8) (k n : Nat) : Int := num ((b.drop k).take n)
theorem fld_range (b : List UInt8) (k n : Nat) (h : k + n ≤ b.length) : 0 ≤ fld b k n ∧ fld b k n < 256 ^ n := num_range (b.drop k) n (by rw [List.length_drop]; omega)
theorem fld_take (b : List UInt8) (k n m : Nat) (h : k + n ≤ m) : fld (b.take m) k n = fld b k n := by
  unfold fld; rw [List.drop_take, List.take_take, Nat.min_eq_left (by omega)]
theorem fld_one (b : List UInt8) (k : Nat) (h : k < b.length) : (b[k].toNat : Int) = fld b k 1 := by
  have e : (b.drop k).take 1 = [b[k]] := by rw [List.drop_eq_getElem_cons h]; rfl
  unfold fld
  rw [e]
  simp [num]
structure Hd where
  tos : Int
  len : Int
  id : Int
  stay : Bool
  more : Bool
  off : Int
  ttl : Int
  proto : Int
  sum : Int
  src : Int
  dst : Int
  opts : List UInt8
structure Hd.wf (h : Hd) : Prop where
  tos0 : 0 ≤ h.tos
  tos1 : h.tos ≤ 255
  id0 : 0 ≤ h.id
  id1 : h.id ≤ 65535
  off0 : 0 ≤ h.off
  off1 : h.off ≤ 1000000
  ttl0 : 0 ≤ h.ttl
  ttl1 : h.ttl ≤ 255
  pr0 : 0 ≤ h.proto
  pr1 : h.proto ≤ 255
  sum0 : 0 ≤ h.sum
  sum1 : h.sum ≤ 65535
  src0 : 0 ≤ h.src
  src1 : h.src ≤ 4294967295
  dst0 : 0 ≤ h.dst
  dst1 : h.dst ≤ 4294967295
  len0 : 0 ≤ h.len
  len1 : h.len ≤ 1000000
  o40 : h.opts.length ≤ 40
  o4 : h.opts.length % 4 = 0
def Hd.size (h : Hd) : Nat := 20 + h.opts.length
/-- The bits ahead of the offset, and the offset. -/
def Hd.place (h : Hd) : Int := h.off + (if h.stay = true then 16384 else 0) + (if h.more = true then 8192 else 0)
/-- The header's bytes with no checksum, in their parts. -/
def Hd.parts (h : Hd) : List (List UInt8) := [digs 1 (64 + (h.size : Int) / 4), digs 1 h.tos, digs 2 h.len, digs 2 h.id, digs 2 h.place, digs 1 h.ttl, digs 1 h.proto, digs 2 0, digs 4 h.src, digs 4 h.dst, h.opts]
def Hd.pre (h : Hd) : List UInt8 := h.parts.flatten
theorem Hd.pre_len (h : Hd) : h.pre.length = h.size := by simp [Hd.pre, Hd.parts, digs_length, Hd.size]; omega
def Hd.ck (h : Hd) : Int := 65535 - norm (total true h.pre)
theorem Hd.ck_range (h : Hd) : 0 ≤ h.ck ∧ h.ck ≤ 65535 := by
  have := norm_range (total true h.pre)
  unfold Hd.ck; omega
def Hd.bytes (h : Hd) : List UInt8 := fin h.pre 10 2 h.ck
theorem Hd.bytes_len (h : Hd) : h.bytes.length = h.size := by
  unfold Hd.bytes
  rw [fin_length _ _ _ _ (by rw [h.pre_len]; unfold Hd.size; omega), h.pre_len]
/-- The packet of a header and a load. -/
def Hd.pkt (h : Hd) (x : List UInt8) : List UInt8 := { h with len := (h.size : Int) + x.length }.bytes ++ x
theorem Hd.pkt_len (h : Hd) (x : List UInt8) : (h.pkt x).length = h.size + x.length := by
  unfold Hd.pkt
  rw [List.length_append, Hd.bytes_len]
  rfl
/-! ### What bytes say -/
def hsz (b : List UInt8) : Nat := 4 * (fld b 0 1 % 16).toNat
def badForm (b : List UInt8) : Prop := fld b 0 1 / 16 ≠ 4 ∨ hsz b < 20 ∨ 32768 ≤ fld b 6 2 ∨ fld b 2 2 < hsz b
instance (b : List UInt8) : Decidable (badForm b) := by unfold badForm; exact inferInstance
def perr (b : List UInt8) : Int :=
  if b.length < 20 then 20 else if badForm b then 21 else if (b.length : Int) < fld b 2 2 then 20 else if 65535 - norm (total true (b.take (hsz b))) ≠ 0 then 22 else 0
def phd (b : List UInt8) : Hd where
  tos := fld b 1 1
  len := fld b 2 2
  id := fld b 4 2
  stay := decide (fld b 6 2 / 16384 % 2 = 1)
  more := decide (fld b 6 2 / 8192 % 2 = 1)
  off := fld b 6 2 % 8192
  ttl := fld b 8 1
  proto := fld b 9 1
  sum := fld b 10 2
  src := fld b 12 4
  dst := fld b 16 4
  opts := (b.drop 20).take (hsz b - 20)
def pld (b : List UInt8) : List UInt8 := (b.drop (hsz b)).take ((fld b 2 2).toNat - hsz b)
theorem hsz_le (b : List UInt8) : hsz b ≤ 60 ∧ hsz b % 4 = 0 := by unfold hsz; omega
/-- What is known where the bytes are a packet. -/
structure Pk (b : List UInt8) : Prop where
  l20 : 20 ≤ b.length
  h20 : 20 ≤ hsz b
  hl : (hsz b : Int) ≤ fld b 2 2
  lb : fld b 2 2 ≤ b.length
  four : fld b 0 1 / 16 = 4
  spare : fld b 6 2 < 32768
  sum : 65535 - norm (total true (b.take (hsz b))) = 0
theorem pk_of {b : List UInt8} (h : perr b = 0) : Pk b := by
  unfold perr at h
  by_cases h1 : b.length < 20
  · rw [if_pos h1] at h; cases h
  rw [if_neg h1] at h
  by_cases h2 : badForm b
  · rw [if_pos h2] at h; cases h
  rw [if_neg h2] at h
  by_cases h3 : (b.length : Int) < fld b 2 2
  · rw [if_pos h3] at h; cases h
  rw [if_neg h3] at h
  by_cases h4 : 65535 - norm (total true (b.take (hsz b))) ≠ 0
  · rw [if_pos h4] at h; cases h
  unfold badForm at h2
  exact ⟨by omega, by omega, by omega, by omega, by omega, by omega, by omega⟩
theorem of_pk {b : List UInt8} (h : Pk b) : perr b = 0 := by
  obtain ⟨h1, h2, h3, h4, h5, h6, h7⟩ := h
  have hb : ¬ badForm b := by unfold badForm; omega
  unfold perr
  rw [if_neg (by omega), if_neg hb, if_neg (by omega), if_neg (by omega)]
theorem Pk.opts {b : List UInt8} (h : Pk b) : (phd b).opts.length = hsz b - 20 := by
  have := h.hl; have := h.lb; have := h.h20
  show ((b.drop 20).take (hsz b - 20)).length = _
  rw [List.length_take, List.length_drop]; omega
theorem Pk.size {b : List UInt8} (h : Pk b) : (phd b).size = hsz b := by
  have := h.h20
  unfold Hd.size; rw [h.opts]; omega
theorem Pk.load {b : List UInt8} (h : Pk b) : (pld b).length = (fld b 2 2).toNat - hsz b := by
  have := h.hl; have := h.lb; have := h.h20
  show ((b.drop (hsz b)).take ((fld b 2 2).toNat - hsz b)).length = _
  rw [List.length_take, List.length_drop]; omega
theorem Pk.wf {b : List UInt8} (h : Pk b) : (phd b).wf := by
  have hl := h.l20
  have f1 := fld_range b 1 1 (by omega)
  have f2 := fld_range b 2 2 (by omega)
  have f4 := fld_range b 4 2 (by omega)
  have f6 := fld_range b 6 2 (by omega)
  have f8 := fld_range b 8 1 (by omega)
  have f9 := fld_range b 9 1 (by omega)
  have f10 := fld_range b 10 2 (by omega)
  have f12 := fld_range b 12 4 (by omega)
  have f16 := fld_range b 16 4 (by omega)
  have ho := h.opts
  have hz := hsz_le b
  have h20 := h.h20
  simp only [show (256 : Int) ^ 1 = 256 from rfl, show (256 : Int) ^ 2 = 65536 from rfl, show (256 : Int) ^ 4 = 4294967296 from rfl] at *
  constructor <;> first | (show _ ≤ fld _ _ _ % _; omega) | (show fld _ _ _ % _ ≤ _; omega) | (show _ ≤ fld _ _ _; omega) | (show fld _ _ _ ≤ _; omega) | (rw [ho]; omega)
/-! ### Bits -/
theorem or_bit (n : Nat) (_m : Nat) (k : Nat) (h : n < 2 ^ k) : 2 ^ k ||| n = 2 ^ k + n := by
  have := Nat.two_pow_add_eq_or_of_lt (b := n) (i := k) h 1
  simpa using this.symm
theorem or14 (n : Int) (h0 : 0 ≤ n) (h1 : n < 16384) : bits .or .u64 n 16384 = n + 16384 := by
  obtain ⟨n, rfl⟩ := Int.eq_ofNat_of_zero_le h0
  rw [show (16384 : Int) = ((16384 : Nat) : Int) from rfl, u64_or_nat _ _ (by omega) (by omega), Nat.or_comm, show (16384 : Nat) = 2 ^ 14 from rfl, or_bit n 0 14 (by omega)]
  omega
theorem or13 (n : Int) (h0 : 0 ≤ n) (h1 : n < 8192) : bits .or .u64 n 8192 = n + 8192 := by
  obtain ⟨n, rfl⟩ := Int.eq_ofNat_of_zero_le h0
  rw [show (8192 : Int) = ((8192 : Nat) : Int) from rfl, u64_or_nat _ _ (by omega) (by omega), Nat.or_comm, show (8192 : Nat) = 2 ^ 13 from rfl, or_bit n 0 13 (by omega)]
  omega
theorem or1413 (n : Int) (h0 : 0 ≤ n) (h1 : n < 8192) : bits .or .u64 (n + 16384) 8192 = n + 16384 + 8192 := by
  obtain ⟨n, rfl⟩ := Int.eq_ofNat_of_zero_le h0
  have e : ((n : Int) + 16384) = ((2 ^ 14 ||| n : Nat) : Int) := by rw [or_bit n 0 14 (by omega)]; omega
  have e2 : (2 ^ 13 ||| n) = 8192 + n := or_bit n 0 13 (by omega)
  have hlt : 8192 + n < 2 ^ 14 := by omega
  have hb : 2 ^ 14 ||| n < 18446744073709551616 := by rw [or_bit n 0 14 (by omega)]; omega
  rw [e, show (8192 : Int) = ((8192 : Nat) : Int) from rfl, u64_or_nat _ _ (by omega) (by omega), Nat.or_assoc, Nat.or_comm n, show (8192 : Nat) = 2 ^ 13 from rfl, e2, or_bit (8192 + n) 0 14 hlt, or_bit n 0 14 (by omega)]
  omega
end Go.Proofs.YtdnbhmfofphblaaGreatDoor
/- The bytes of a packet say what the packet is. Plain Lean. -/
namespace Go.Proofs.YtdnbhmfofphblaaGreatDoor
set_option maxRecDepth 100000
set_option linter.unusedVariables false
set_option linter.unusedSimpArgs false
def head20 (g : Hd) : List UInt8 := [b8 (64 + (g.size : Int) / 4), b8 g.tos, b8 (g.len / 256), b8 g.len, b8 (g.id / 256), b8 g.id, b8 (g.place / 256), b8 g.place, b8 g.ttl, b8 g.proto, b8 (g.ck / 256), b8 g.ck, b8 (g.src / 256 / 256 / 256), b8 (g.src / 256 / 256), b8 (g.src / 256), b8 g.src, b8 (g.dst / 256 / 256 / 256), b8 (g.dst / 256 / 256), b8 (g.dst / 256), b8 g.dst]
theorem bytes_eq (g : Hd) : g.bytes = head20 g ++ g.opts := by
  simp [Hd.bytes, Hd.pre, Hd.parts, fin, digs, head20]
theorem total_cons2 (a b : UInt8) (l : List UInt8) : total true (a :: b :: l) = (a.toNat : Int) * 256 + (b.toNat : Int) + total true l := by simp only [total]; omega
theorem total_bytes (g : Hd) : total true g.bytes = total true g.pre + g.ck := by
  have hck := g.ck_range
  rw [bytes_eq]
  unfold head20 Hd.pre Hd.parts
  simp only [digs, List.nil_append, List.cons_append, List.flatten_cons, List.flatten_nil, List.append_nil, total_cons2, b8_val]
  omega
theorem norm_sum (T : Int) (h : 0 < T) : norm (T + (65535 - norm T)) = 65535 := by
  unfold norm
  rw [if_neg (by omega)]
  split
  · omega
  · omega
theorem pre_pos (g : Hd) (hw : g.wf) : 0 < total true g.pre := by
  have h40 := hw.o40
  have : 0 ≤ total true (g.pre.drop 2) := total_nonneg _ _
  unfold Hd.pre Hd.parts at this ⊢
  simp only [digs, List.nil_append, List.cons_append, List.flatten_cons, List.flatten_nil, List.append_nil, List.drop_succ_cons, List.drop_zero] at this ⊢
  rw [total_cons2, b8_val, b8_val]
  have hs : (g.size : Int) ≤ 60 := by unfold Hd.size; omega
  have := hw.tos0
  omega
theorem num1 (a : UInt8) : num [a] = (a.toNat : Int) := by simp [num]
theorem num2 (a b : UInt8) : num [a, b] = (a.toNat : Int) * 256 + (b.toNat : Int) := by simp [num]
theorem num4 (a b c d : UInt8) : num [a, b, c, d] = (((a.toNat : Int) * 256 + (b.toNat : Int)) * 256 + (c.toNat : Int)) * 256 + (d.toNat : Int) := by simp [num]
section
variable {g : Hd} {X : List UInt8}
theorem fl0 : fld (g.bytes ++ X) 0 1 = (64 + (g.size : Int) / 4) % 256 := by rw [bytes_eq]; unfold fld head20; simp only [List.cons_append, List.nil_append, List.drop_zero, List.take_succ_cons, List.take_zero, num1, b8_val]
theorem fl1 : fld (g.bytes ++ X) 1 1 = g.tos % 256 := by rw [bytes_eq]; unfold fld head20; simp only [List.cons_append, List.nil_append, List.drop_succ_cons, List.drop_zero, List.take_succ_cons, List.take_zero, num1, b8_val]
theorem fl2 (h0 : 0 ≤ g.len) (h1 : g.len ≤ 65535) : fld (g.bytes ++ X) 2 2 = g.len := by rw [bytes_eq]; unfold fld head20; simp only [List.cons_append, List.nil_append, List.drop_succ_cons, List.drop_zero, List.take_succ_cons, List.take_zero, num2, b8_val]; omega
theorem fl4 (h0 : 0 ≤ g.id) (h1 : g.id ≤ 65535) : fld (g.bytes ++ X) 4 2 = g.id := by rw [bytes_eq]; unfold fld head20; simp only [List.cons_append, List.nil_append, List.drop_succ_cons, List.drop_zero, List.take_succ_cons, List.take_zero, num2, b8_val]; omega
theorem fl6 (h0 : 0 ≤ g.place) (h1 : g.place ≤ 65535) : fld (g.bytes ++ X) 6 2 = g.place := by rw [bytes_eq]; unfold fld head20; simp only [List.cons_append, List.nil_append, List.drop_succ_cons, List.drop_zero, List.take_succ_cons, List.take_zero, num2, b8_val]; omega
theorem fl8 : fld (g.bytes ++ X) 8 1 = g.ttl % 256 := by rw [bytes_eq]; unfold fld head20; simp only [List.cons_append, List.nil_append, List.drop_succ_cons, List.drop_zero, List.take_succ_cons, List.take_zero, num1, b8_val]
theorem fl9 : fld (g.bytes ++ X) 9 1 = g.proto % 256 := by rw [bytes_eq]; unfold fld head20; simp only [List.cons_append, List.nil_append, List.drop_succ_cons, List.drop_zero, List.take_succ_cons, List.take_zero, num1, b8_val]
theorem fl10 (h0 : 0 ≤ g.ck) (h1 : g.ck ≤ 65535) : fld (g.bytes ++ X) 10 2 = g.ck := by rw [bytes_eq]; unfold fld head20; simp only [List.cons_append, List.nil_append, List.drop_succ_cons, List.drop_zero, List.take_succ_cons, List.take_zero, num2, b8_val]; omega
theorem fl12 (h0 : 0 ≤ g.src) (h1 : g.src ≤ 4294967295) : fld (g.bytes ++ X) 12 4 = g.src := by rw [bytes_eq]; unfold fld head20; simp only [List.cons_append, List.nil_append, List.drop_succ_cons, List.drop_zero, List.take_succ_cons, List.take_zero, num4, b8_val]; omega
theorem fl16 (h0 : 0 ≤ g.dst) (h1 : g.dst ≤ 4294967295) : fld (g.bytes ++ X) 16 4 = g.dst := by rw [bytes_eq]; unfold fld head20; simp only [List.cons_append, List.nil_append, List.drop_succ_cons, List.drop_zero, List.take_succ_cons, List.take_zero, num4, b8_val]; omega
theorem drop20 : (g.bytes ++ X).drop 20 = g.opts ++ X := by rw [bytes_eq]; unfold head20; simp only [List.cons_append, List.nil_append, List.drop_succ_cons, List.drop_zero, List.append_assoc]
end
/-- The bytes of a packet are one, and say what it is. -/
theorem pk_bytes (g : Hd) (X : List UInt8) (hw : g.wf) (ho : g.off ≤ 8191) (hl : g.len = (g.size : Int) + X.length) (hL : g.len ≤ 65535) :
    Pk (g.bytes ++ X) ∧ phd (g.bytes ++ X) = { g with sum := g.ck } ∧ pld (g.bytes ++ X) = X := by
  obtain ⟨t0, t1, i0, i1, o0, o1, x0, x1, p0, p1, q0, q1, s0, s1, d0, d1, n0, n1, n40, n4⟩ := hw
  have hck := g.ck_range
  have hs : g.size = 20 + g.opts.length := rfl
  have hpl0 : 0 ≤ g.place ∧ g.place < 32768 ∧ g.place % 8192 = g.off ∧ (g.place / 16384 % 2 = 1 ↔ g.stay = true) ∧ (g.place / 8192 % 2 = 1 ↔ g.more = true) := by
    unfold Hd.place
    cases g.stay <;> cases g.more <;> simp <;> omega
  obtain ⟨pl0, pl1, pl2, pl3, pl4⟩ := hpl0
  have e0 := fl0 (g := g) (X := X)
  have e1 := fl1 (g := g) (X := X)
  have e2 := fl2 (g := g) (X := X) n0 hL
  have e4 := fl4 (g := g) (X := X) i0 i1
  have e6 := fl6 (g := g) (X := X) pl0 (by omega)
  have e8 := fl8 (g := g) (X := X)
  have e9 := fl9 (g := g) (X := X)
  have e10 := fl10 (g := g) (X := X) hck.1 hck.2
  have e12 := fl12 (g := g) (X := X) s0 s1
  have e16 := fl16 (g := g) (X := X) d0 d1
  have ehs : hsz (g.bytes ++ X) = g.size := by unfold hsz; rw [e0]; omega
  have hbl := g.bytes_len
  have hlen : (g.bytes ++ X).length = g.size + X.length := by rw [List.length_append, hbl]
  have hto : total true ((g.bytes ++ X).take g.size) = total true g.pre + g.ck := by
    rw [List.take_append_of_le_length (by omega), List.take_of_length_le (by omega), total_bytes]
  refine ⟨⟨by omega, by omega, by rw [ehs, e2]; omega, by rw [e2, hlen]; omega, by rw [e0]; omega, by rw [e6]; exact pl1, ?_⟩, ?_, ?_⟩
  · rw [ehs, hto]
    have := norm_sum _ (pre_pos g ⟨t0, t1, i0, i1, o0, o1, x0, x1, p0, p1, q0, q1, s0, s1, d0, d1, n0, n1, n40, n4⟩)
    unfold Hd.ck
    omega
  · unfold phd
    rw [e1, e2, e4, e6, e8, e9, e10, e12, e16, ehs, drop20, pl2, List.take_append_of_le_length (by omega), List.take_of_length_le (by omega), Int.emod_eq_of_lt t0 (by omega), Int.emod_eq_of_lt x0 (by omega), Int.emod_eq_of_lt p0 (by omega)]
    have b1 : decide (g.place / 16384 % 2 = 1) = g.stay := by cases h : g.stay <;> simp [pl3, h]
    have b2 : decide (g.place / 8192 % 2 = 1) = g.more := by cases h : g.more <;> simp [pl4, h]
    rw [b1, b2]
  · unfold pld
    rw [e2, ehs, List.drop_append_of_le_length (by omega), List.drop_of_length_le (by omega), List.nil_append, List.take_of_length_le (by omega)]
/-- What a packet of a header and load says. -/
theorem perr_pkt {h : Hd} {X : List UInt8} (hw : h.wf) (ho : h.off ≤ 8191) (hL : h.size + X.length ≤ 65535) : perr (h.pkt X) = 0 ∧ pld (h.pkt X) = X ∧ ∃ s, phd (h.pkt X) = { h with len := (h.size : Int) + X.length, sum := s } := by
  have hw' : ({ h with len := (h.size : Int) + X.length } : Hd).wf := by
    obtain ⟨t0, t1, i0, i1, o0, o1, x0, x1, p0, p1, q0, q1, s0, s1, d0, d1, n0, n1, n40, n4⟩ := hw
    exact ⟨t0, t1, i0, i1, o0, o1, x0, x1, p0, p1, q0, q1, s0, s1, d0, d1, by show 0 ≤ (h.size : Int) + X.length; omega, by show (h.size : Int) + X.length ≤ 1000000; omega, n40, n4⟩
  obtain ⟨h1, h2, h3⟩ := pk_bytes { h with len := (h.size : Int) + X.length } X hw' ho rfl (by show (h.size : Int) + X.length ≤ 65535; omega)
  exact ⟨of_pk h1, h3, ({ h with len := (h.size : Int) + X.length } : Hd).ck, h2⟩
end Go.Proofs.YtdnbhmfofphblaaGreatDoor
/- Plain words on segments: their bytes, their sums, their stamps. No program in sight. -/
namespace Go.Proofs.YtdnbhmfofphblaaGreatDoor
set_option maxRecDepth 100000
set_option linter.unusedVariables false
set_option linter.unusedSimpArgs false
structure Sg where
  sp : Int
  dp : Int
  seq : Int
  ack : Int
  flags : Int
  window : Int
  sum : Int
  urgent : Int
  opts : List UInt8
  load : List UInt8
structure Sg.wf (s : Sg) : Prop where
  sp0 : 0 ≤ s.sp
  sp1 : s.sp ≤ 65535
  dp0 : 0 ≤ s.dp
  dp1 : s.dp ≤ 65535
  seq0 : 0 ≤ s.seq
  seq1 : s.seq ≤ 4294967295
  ack0 : 0 ≤ s.ack
  ack1 : s.ack ≤ 4294967295
  fl0 : 0 ≤ s.flags
  fl1 : s.flags ≤ 255
  wi0 : 0 ≤ s.window
  wi1 : s.window ≤ 65535
  sum0 : 0 ≤ s.sum
  sum1 : s.sum ≤ 65535
  ur0 : 0 ≤ s.urgent
  ur1 : s.urgent ≤ 65535
  o40 : s.opts.length ≤ 40
  o4 : s.opts.length % 4 = 0
  l1 : s.load.length ≤ 9000
def Sg.size (s : Sg) : Nat := 20 + s.opts.length + s.load.length
/-- What stands ahead of the sum, and behind it. -/
def Sg.head (s : Sg) : List UInt8 := digs 2 s.sp ++ digs 2 s.dp ++ digs 4 s.seq ++ digs 4 s.ack ++ digs 1 ((20 + (s.opts.length : Int)) / 4 * 16) ++ digs 1 s.flags ++ digs 2 s.window
def Sg.tail (s : Sg) : List UInt8 := digs 2 s.urgent ++ s.opts ++ s.load
def Sg.bytes (s : Sg) : List UInt8 := s.head ++ (digs 2 s.sum ++ s.tail)
theorem Sg.head_len (s : Sg) : s.head.length = 16 := by simp [Sg.head, digs_length]
theorem Sg.bytes_len (s : Sg) : s.bytes.length = s.size := by simp [Sg.bytes, Sg.tail, Sg.head_len, digs_length, Sg.size]; omega
theorem total_app (b : Bool) (l m : List UInt8) : total b (l ++ m) = total b l + total (par b l.length) m := by
  induction l generalizing b with
  | nil => simp [total, par]
  | cons x r ih => cases b <;> simp only [List.cons_append, total, ih, List.length_cons, par, Bool.not_true, Bool.not_false] <;> omega
theorem total_app_even (l m : List UInt8) (k : Nat) (h : l.length = 2 * k) : total true (l ++ m) = total true l + total true m := by rw [total_app, h, par_even]
theorem digs2 (n : Int) : digs 2 n = [b8 (n / 256), b8 n] := rfl
theorem total_digs2 (n : Int) (h0 : 0 ≤ n) (h1 : n ≤ 65535) (l : List UInt8) : total true (digs 2 n ++ l) = n + total true l := by
  rw [digs2]
  simp only [List.cons_append, List.nil_append, total_cons2, b8_val]
  omega
/-- The header that is summed besides. -/
def pseudo (src dst proto size : Int) : List UInt8 := digs 4 src ++ digs 4 dst ++ digs 2 proto ++ digs 2 size
theorem pseudo_len (src dst proto size : Int) : (pseudo src dst proto size).length = 12 := by simp [pseudo, digs_length]
theorem total_pseudo (src dst proto size : Int) (h0 : 0 < proto) (h1 : proto ≤ 65535) (X : List UInt8) : 0 < total true (pseudo src dst proto size ++ X) := by
  unfold pseudo
  rw [List.append_assoc, List.append_assoc, List.append_assoc]
  rw [total_app_even _ _ 2 (by rw [digs_length]), total_app_even _ _ 2 (by rw [digs_length]), total_digs2 _ (by omega) h1]
  have := total_nonneg true (digs 4 src)
  have := total_nonneg true (digs 4 dst)
  have := total_nonneg true (digs 2 size ++ X)
  omega
/-- A segment's correct sum. -/
def Sg.ck (s : Sg) (src dst : Int) : Int := 65535 - norm (total true (pseudo src dst 6 s.size ++ { s with sum := 0 }.bytes))
theorem Sg.ck_range (s : Sg) (src dst : Int) : 0 ≤ s.ck src dst ∧ s.ck src dst ≤ 65535 := by
  have := norm_range (total true (pseudo src dst 6 s.size ++ { s with sum := 0 }.bytes))
  unfold Sg.ck
  omega
def Sg.summed (s : Sg) (src dst : Int) : Sg := { s with sum := s.ck src dst }
theorem Sg.wf_sum {s : Sg} (h : s.wf) {k : Int} (h0 : 0 ≤ k) (h1 : k ≤ 65535) : ({ s with sum := k } : Sg).wf :=
  ⟨h.sp0, h.sp1, h.dp0, h.dp1, h.seq0, h.seq1, h.ack0, h.ack1, h.fl0, h.fl1, h.wi0, h.wi1, h0, h1, h.ur0, h.ur1, h.o40, h.o4, h.l1⟩
theorem Sg.summed_wf {s : Sg} (h : s.wf) (src dst : Int) : (s.summed src dst).wf := by
  have hk := s.ck_range src dst
  unfold Sg.summed
  generalize s.ck src dst = k at hk ⊢
  exact Sg.wf_sum h hk.1 hk.2
theorem total_sum (s : Sg) (P : List UInt8) (hP : P.length = 12) (k : Int) (h0 : 0 ≤ k) (h1 : k ≤ 65535) :
    total true (P ++ { s with sum := k }.bytes) = total true (P ++ { s with sum := 0 }.bytes) + k := by
  show total true (P ++ (s.head ++ (digs 2 k ++ s.tail))) = total true (P ++ (s.head ++ (digs 2 0 ++ s.tail))) + k
  have hl : (P ++ s.head).length = 2 * 14 := by rw [List.length_append, hP, Sg.head_len]
  rw [← List.append_assoc P, ← List.append_assoc P, total_app_even _ _ 14 hl, total_app_even _ _ 14 hl, total_digs2 _ h0 h1, total_digs2 0 (by omega) (by omega)]
  omega
/-- The bytes of a summed segment are right. -/
theorem Sg.fine (s : Sg) (src dst : Int) : 65535 - norm (total true (pseudo src dst 6 s.size ++ (s.summed src dst).bytes)) = 0 := by
  have hk := s.ck_range src dst
  have e : s.ck src dst = 65535 - norm (total true (pseudo src dst 6 s.size ++ { s with sum := 0 }.bytes)) := rfl
  have h := total_pseudo src dst 6 s.size (by omega) (by omega) { s with sum := 0 }.bytes
  unfold Sg.summed
  generalize s.ck src dst = k at hk e ⊢
  rw [total_sum s _ (pseudo_len _ _ _ _) k hk.1 hk.2, e, norm_sum _ h]
  omega
/-! ### What the bytes say -/
def Sg.h20 (s : Sg) : List UInt8 := [b8 (s.sp / 256), b8 s.sp, b8 (s.dp / 256), b8 s.dp, b8 (s.seq / 256 / 256 / 256), b8 (s.seq / 256 / 256), b8 (s.seq / 256), b8 s.seq, b8 (s.ack / 256 / 256 / 256), b8 (s.ack / 256 / 256), b8 (s.ack / 256), b8 s.ack, b8 ((20 + (s.opts.length : Int)) / 4 * 16), b8 s.flags, b8 (s.window / 256), b8 s.window, b8 (s.sum / 256), b8 s.sum, b8 (s.urgent / 256), b8 s.urgent]
theorem Sg.bytes_eq (s : Sg) : s.bytes = s.h20 ++ (s.opts ++ s.load) := by
  simp [Sg.bytes, Sg.head, Sg.tail, Sg.h20, digs]
theorem Sg.f_sp {s : Sg} (h : s.wf) : fld s.bytes 0 2 = s.sp := by have h0 := h.sp0; have h1 := h.sp1; rw [Sg.bytes_eq]; unfold fld Sg.h20; simp only [List.cons_append, List.nil_append, List.drop_succ_cons, List.drop_zero, List.take_succ_cons, List.take_zero, num2, b8_val]; omega
theorem Sg.f_dp {s : Sg} (h : s.wf) : fld s.bytes 2 2 = s.dp := by have h0 := h.dp0; have h1 := h.dp1; rw [Sg.bytes_eq]; unfold fld Sg.h20; simp only [List.cons_append, List.nil_append, List.drop_succ_cons, List.drop_zero, List.take_succ_cons, List.take_zero, num2, b8_val]; omega
theorem Sg.f_seq {s : Sg} (h : s.wf) : fld s.bytes 4 4 = s.seq := by have h0 := h.seq0; have h1 := h.seq1; rw [Sg.bytes_eq]; unfold fld Sg.h20; simp only [List.cons_append, List.nil_append, List.drop_succ_cons, List.drop_zero, List.take_succ_cons, List.take_zero, num4, b8_val]; omega
theorem Sg.f_ack {s : Sg} (h : s.wf) : fld s.bytes 8 4 = s.ack := by have h0 := h.ack0; have h1 := h.ack1; rw [Sg.bytes_eq]; unfold fld Sg.h20; simp only [List.cons_append, List.nil_append, List.drop_succ_cons, List.drop_zero, List.take_succ_cons, List.take_zero, num4, b8_val]; omega
theorem Sg.f_flags {s : Sg} (h : s.wf) : fld s.bytes 13 1 = s.flags := by have h0 := h.fl0; have h1 := h.fl1; rw [Sg.bytes_eq]; unfold fld Sg.h20; simp only [List.cons_append, List.nil_append, List.drop_succ_cons, List.drop_zero, List.take_succ_cons, List.take_zero, num1, b8_val]; omega
theorem Sg.f_window {s : Sg} (h : s.wf) : fld s.bytes 14 2 = s.window := by have h0 := h.wi0; have h1 := h.wi1; rw [Sg.bytes_eq]; unfold fld Sg.h20; simp only [List.cons_append, List.nil_append, List.drop_succ_cons, List.drop_zero, List.take_succ_cons, List.take_zero, num2, b8_val]; omega
theorem Sg.f_sum {s : Sg} (h : s.wf) : fld s.bytes 16 2 = s.sum := by have h0 := h.sum0; have h1 := h.sum1; rw [Sg.bytes_eq]; unfold fld Sg.h20; simp only [List.cons_append, List.nil_append, List.drop_succ_cons, List.drop_zero, List.take_succ_cons, List.take_zero, num2, b8_val]; omega
theorem Sg.f_urgent {s : Sg} (h : s.wf) : fld s.bytes 18 2 = s.urgent := by have h0 := h.ur0; have h1 := h.ur1; rw [Sg.bytes_eq]; unfold fld Sg.h20; simp only [List.cons_append, List.nil_append, List.drop_succ_cons, List.drop_zero, List.take_succ_cons, List.take_zero, num2, b8_val]; omega
theorem Sg.f_off {s : Sg} (h : s.wf) : fld s.bytes 12 1 = (20 + (s.opts.length : Int)) / 4 * 16 := by have h0 := h.o40; rw [Sg.bytes_eq]; unfold fld Sg.h20; simp only [List.cons_append, List.nil_append, List.drop_succ_cons, List.drop_zero, List.take_succ_cons, List.take_zero, num1, b8_val]; omega
theorem Sg.drop20 (s : Sg) : s.bytes.drop 20 = s.opts ++ s.load := by rw [Sg.bytes_eq]; unfold Sg.h20; simp only [List.cons_append, List.nil_append, List.drop_succ_cons, List.drop_zero]
end Go.Proofs.YtdnbhmfofphblaaGreatDoor
