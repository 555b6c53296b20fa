/- Plain words on the headers of packets: what their bytes say, and the bytes of one. No program in sight. -/
import Derived.Test.YtidooohgbiiikaaPlain
import Derived.Test.YtidooohgbiiikaaOctPlain
import Derived.Laws.BitsAllLaws
namespace Go.Proofs.Ytidooohgbiiikaa
/-- The number of n bytes from k on. -/
def fld (b : List UInt8) (k n : Nat) : Int := num ((b.drop k).take n)
theorem fld_range (b : List UInt8) (k n : Nat) (h : k + n ≤ b.length) : 0 ≤ fld b k n ∧ fld b k n < 256 ^ n := num_range (b.drop k) n (by rw [List.length_drop]; omega)
theorem fld_take (b : List UInt8) (k n m : Nat) (h : k + n ≤ m) : fld (b.take m) k n = fld b k n := by
  unfold fld; rw [List.drop_take, List.take_take, Nat.min_eq_left (by omega)]
theorem fld_one (b : List UInt8) (k : Nat) (h : k < b.length) : (b[k].toNat : Int) = fld b k 1 := by
  have e : (b.drop k).take 1 = [b[k]] := by rw [List.drop_eq_getElem_cons h]; rfl
  unfold fld
  rw [e]
  simp [num]
structure Hd where
  tos : Int
  len : Int
  id : Int
  stay : Bool
  more : Bool
  off : Int
  ttl : Int
  proto : Int
  sum : Int
  src : Int
  dst : Int
  opts : List UInt8
structure Hd.wf (h : Hd) : Prop where
  tos0 : 0 ≤ h.tos
  tos1 : h.tos ≤ 255
  id0 : 0 ≤ h.id
  id1 : h.id ≤ 65535
  off0 : 0 ≤ h.off
  off1 : h.off ≤ 1000000
  ttl0 : 0 ≤ h.ttl
  ttl1 : h.ttl ≤ 255
  pr0 : 0 ≤ h.proto
  pr1 : h.proto ≤ 255
  sum0 : 0 ≤ h.sum
  sum1 : h.sum ≤ 65535
  src0 : 0 ≤ h.src
  src1 : h.src ≤ 4294967295
  dst0 : 0 ≤ h.dst
  dst1 : h.dst ≤ 4294967295
  len0 : 0 ≤ h.len
  len1 : h.len ≤ 1000000
  o40 : h.opts.length ≤ 40
  o4 : h.opts.length % 4 = 0
def Hd.size (h : Hd) : Nat := 20 + h.opts.length
/-- The bits ahead of the offset, and the offset. -/
def Hd.place (h : Hd) : Int := h.off + (if h.stay = true then 16384 else 0) + (if h.more = true then 8192 else 0)
/-- The header's bytes with no checksum, in their parts. -/
def Hd.parts (h : Hd) : List (List UInt8) := [digs 1 (64 + (h.size : Int) / 4), digs 1 h.tos, digs 2 h.len, digs 2 h.id, digs 2 h.place, digs 1 h.ttl, digs 1 h.proto, digs 2 0, digs 4 h.src, digs 4 h.dst, h.opts]
def Hd.pre (h : Hd) : List UInt8 := h.parts.flatten
theorem Hd.pre_len (h : Hd) : h.pre.length = h.size := by simp [Hd.pre, Hd.parts, digs_length, Hd.size]; omega
def Hd.ck (h : Hd) : Int := 65535 - norm (total true h.pre)
theorem Hd.ck_range (h : Hd) : 0 ≤ h.ck ∧ h.ck ≤ 65535 := by
  have := norm_range (total true h.pre)
  unfold Hd.ck; omega
def Hd.bytes (h : Hd) : List UInt8 := fin h.pre 10 2 h.ck
theorem Hd.bytes_len (h : Hd) : h.bytes.length = h.size := by
  unfold Hd.bytes
  rw [fin_length _ _ _ _ (by rw [h.pre_len]; unfold Hd.size; omega), h.pre_len]
/-- The packet of a header and a load. -/
def Hd.pkt (h : Hd) (x : List UInt8) : List UInt8 := { h with len := (h.size : Int) + x.length }.bytes ++ x
theorem Hd.pkt_len (h : Hd) (x : List UInt8) : (h.pkt x).length = h.size + x.length := by
  unfold Hd.pkt
  rw [List.length_append, Hd.bytes_len]
  rfl
/-! ### What bytes say -/
def hsz (b : List UInt8) : Nat := 4 * (fld b 0 1 % 16).toNat
def badForm (b : List UInt8) : Prop := fld b 0 1 / 16 ≠ 4 ∨ hsz b < 20 ∨ 32768 ≤ fld b 6 2 ∨ fld b 2 2 < hsz b
instance (b : List UInt8) : Decidable (badForm b) := by unfold badForm; exact inferInstance
def perr (b : List UInt8) : Int :=
  if b.length < 20 then 20 else if badForm b then 21 else if (b.length : Int) < fld b 2 2 then 20 else if 65535 - norm (total true (b.take (hsz b))) ≠ 0 then 22 else 0
def phd (b : List UInt8) : Hd where
  tos := fld b 1 1
  len := fld b 2 2
  id := fld b 4 2
  stay := decide (fld b 6 2 / 16384 % 2 = 1)
  more := decide (fld b 6 2 / 8192 % 2 = 1)
  off := fld b 6 2 % 8192
  ttl := fld b 8 1
  proto := fld b 9 1
  sum := fld b 10 2
  src := fld b 12 4
  dst := fld b 16 4
  opts := (b.drop 20).take (hsz b - 20)
def pld (b : List UInt8) : List UInt8 := (b.drop (hsz b)).take ((fld b 2 2).toNat - hsz b)
theorem hsz_le (b : List UInt8) : hsz b ≤ 60 ∧ hsz b % 4 = 0 := by unfold hsz; omega
/-- What is known where the bytes are a packet. -/
structure Pk (b : List UInt8) : Prop where
  l20 : 20 ≤ b.length
  h20 : 20 ≤ hsz b
  hl : (hsz b : Int) ≤ fld b 2 2
  lb : fld b 2 2 ≤ b.length
  four : fld b 0 1 / 16 = 4
  spare : fld b 6 2 < 32768
  sum : 65535 - norm (total true (b.take (hsz b))) = 0
theorem pk_of {b : List UInt8} (h : perr b = 0) : Pk b := by
  unfold perr at h
  by_cases h1 : b.length < 20
  · rw [if_pos h1] at h; cases h
  rw [if_neg h1] at h
  by_cases h2 : badForm b
  · rw [if_pos h2] at h; cases h
  rw [if_neg h2] at h
  by_cases h3 : (b.length : Int) < fld b 2 2
  · rw [if_pos h3] at h; cases h
  rw [if_neg h3] at h
  by_cases h4 : 65535 - norm (total true (b.take (hsz b))) ≠ 0
  · rw [if_pos h4] at h; cases h
  unfold badForm at h2
  exact ⟨by omega, by omega, by omega, by omega, by omega, by omega, by omega⟩
theorem of_pk {b : List UInt8} (h : Pk b) : perr b = 0 := by
  obtain ⟨h1, h2, h3, h4, h5, h6, h7⟩ := h
  have hb : ¬ badForm b := by unfold badForm; omega
  unfold perr
  rw [if_neg (by omega), if_neg hb, if_neg (by omega), if_neg (by omega)]
theorem Pk.opts {b : List UInt8} (h : Pk b) : (phd b).opts.length = hsz b - 20 := by
  have := h.hl; have := h.lb; have := h.h20
  show ((b.drop 20).take (hsz b - 20)).length = _
  rw [List.length_take, List.length_drop]; omega
theorem Pk.size {b : List UInt8} (h : Pk b) : (phd b).size = hsz b := by
  have := h.h20
  unfold Hd.size; rw [h.opts]; omega
theorem Pk.load {b : List UInt8} (h : Pk b) : (pld b).length = (fld b 2 2).toNat - hsz b := by
  have := h.hl; have := h.lb; have := h.h20
  show ((b.drop (hsz b)).take ((fld b 2 2).toNat - hsz b)).length = _
  rw [List.length_take, List.length_drop]; omega
theorem Pk.wf {b : List UInt8} (h : Pk b) : (phd b).wf := by
  have hl := h.l20
  have f1 := fld_range b 1 1 (by omega)
  have f2 := fld_range b 2 2 (by omega)
  have f4 := fld_range b 4 2 (by omega)
  have f6 := fld_range b 6 2 (by omega)
  have f8 := fld_range b 8 1 (by omega)
  have f9 := fld_range b 9 1 (by omega)
  have f10 := fld_range b 10 2 (by omega)
  have f12 := fld_range b 12 4 (by omega)
  have f16 := fld_range b 16 4 (by omega)
  have ho := h.opts
  have hz := hsz_le b
  have h20 := h.h20
  simp only [show (256 : Int) ^ 1 = 256 from rfl, show (256 : Int) ^ 2 = 65536 from rfl, show (256 : Int) ^ 4 = 4294967296 from rfl] at *
  constructor <;> first | (show _ ≤ fld _ _ _ % _; omega) | (show fld _ _ _ % _ ≤ _; omega) | (show _ ≤ fld _ _ _; omega) | (show fld _ _ _ ≤ _; omega) | (rw [ho]; omega)
/-! ### Bits -/
theorem or_bit (n : Nat) (_m : Nat) (k : Nat) (h : n < 2 ^ k) : 2 ^ k ||| n = 2 ^ k + n := by
  have := Nat.two_pow_add_eq_or_of_lt (b := n) (i := k) h 1
  simpa using this.symm
theorem or14 (n : Int) (h0 : 0 ≤ n) (h1 : n < 16384) : bits .or .u64 n 16384 = n + 16384 := by
  obtain ⟨n, rfl⟩ := Int.eq_ofNat_of_zero_le h0
  rw [show (16384 : Int) = ((16384 : Nat) : Int) from rfl, u64_or_nat _ _ (by omega) (by omega), Nat.or_comm, show (16384 : Nat) = 2 ^ 14 from rfl, or_bit n 0 14 (by omega)]
  omega
theorem or13 (n : Int) (h0 : 0 ≤ n) (h1 : n < 8192) : bits .or .u64 n 8192 = n + 8192 := by
  obtain ⟨n, rfl⟩ := Int.eq_ofNat_of_zero_le h0
  rw [show (8192 : Int) = ((8192 : Nat) : Int) from rfl, u64_or_nat _ _ (by omega) (by omega), Nat.or_comm, show (8192 : Nat) = 2 ^ 13 from rfl, or_bit n 0 13 (by omega)]
  omega
theorem or1413 (n : Int) (h0 : 0 ≤ n) (h1 : n < 8192) : bits .or .u64 (n + 16384) 8192 = n + 16384 + 8192 := by
  obtain ⟨n, rfl⟩ := Int.eq_ofNat_of_zero_le h0
  have e : ((n : Int) + 16384) = ((2 ^ 14 ||| n : Nat) : Int) := by rw [or_bit n 0 14 (by omega)]; omega
  have e2 : (2 ^ 13 ||| n) = 8192 + n := or_bit n 0 13 (by omega)
  have hlt : 8192 + n < 2 ^ 14 := by omega
  have hb : 2 ^ 14 ||| n < 18446744073709551616 := by rw [or_bit n 0 14 (by omega)]; omega
  rw [e, show (8192 : Int) = ((8192 : Nat) : Int) from rfl, u64_or_nat _ _ (by omega) (by omega), Nat.or_assoc, Nat.or_comm n, show (8192 : Nat) = 2 ^ 13 from rfl, e2, or_bit (8192 + n) 0 14 hlt, or_bit n 0 14 (by omega)]
  omega
end Go.Proofs.Ytidooohgbiiikaa
