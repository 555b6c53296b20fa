/- Plain words on the fragments of a packet. No program in sight. -/
import Derived.Test.YtidooohgbiiikaaPlainF
namespace Go.Proofs.Ytidooohgbiiikaa
def pieceH (h : Hd) (m R k : Nat) : Hd := { h with off := h.off + ((k * R / 8 : Nat) : Int), more := h.more || decide ((k + 1) * R < m) }
def piece (h : Hd) (X : List UInt8) (R k : Nat) : List UInt8 := (pieceH h X.length R k).pkt ((X.drop (k * R)).take R)
def pieces (h : Hd) (X : List UInt8) (R n : Nat) : List (List UInt8) := (List.range n).map (piece h X R)
theorem pieces_len (h : Hd) (X : List UInt8) (R n : Nat) : (pieces h X R n).length = n := by simp [pieces]
theorem pieces_succ (h : Hd) (X : List UInt8) (R n : Nat) : pieces h X R (n + 1) = pieces h X R n ++ [piece h X R n] := by simp [pieces, List.range_succ]
def cnt (m R : Nat) : Nat := (m + R - 1) / R
theorem cnt_lt (m R k : Nat) (hR : 0 < R) : k < cnt m R ↔ k * R < m := by
  unfold cnt
  rw [Nat.lt_iff_add_one_le, Nat.le_div_iff_mul_le hR, Nat.add_mul, Nat.one_mul]
  omega
theorem cnt_le (m R : Nat) (hR : 0 < R) : cnt m R ≤ m := by
  rcases Nat.lt_or_ge m (cnt m R) with h | h
  · have := (cnt_lt m R m hR).1 h
    have : m * 1 ≤ m * R := Nat.mul_le_mul_left m hR
    omega
  · exact h
theorem cnt_at (m R k : Nat) (hR : 0 < R) (hk : k ≤ cnt m R) (h : ¬ k * R < m) : k = cnt m R := by
  have := cnt_lt m R k hR
  omega
def fits (h : Hd) (R k : Nat) : Prop := h.off + ((k * R / 8 : Nat) : Int) ≤ 8191
instance (h : Hd) (R k : Nat) : Decidable (fits h R k) := by unfold fits; exact inferInstance
def room (most : Int) (z : Nat) : Nat := ((most - z) / 8 * 8).toNat
/-- What Split returns. -/
def splitR (b : List UInt8) (most : Int) : Int × List (List UInt8) :=
  if perr b ≠ 0 then (perr b, [])
  else if fld b 2 2 ≤ most then (0, [b.take (fld b 2 2).toNat])
  else if (phd b).stay = true then (30, [])
  else if most < (hsz b : Int) + 8 then (1, [])
  else if ∀ k, k < cnt (pld b).length (room most (hsz b)) → fits (phd b) (room most (hsz b)) k then (0, pieces (phd b) (pld b) (room most (hsz b)) (cnt (pld b).length (room most (hsz b))))
  else (1, [])
theorem splitR_err (b : List UInt8) (most : Int) (h : perr b ≠ 0) : splitR b most = (perr b, []) := by unfold splitR; rw [if_pos h]
theorem splitR_whole (b : List UInt8) (most : Int) (h : perr b = 0) (h1 : fld b 2 2 ≤ most) : splitR b most = (0, [b.take (fld b 2 2).toNat]) := by
  unfold splitR; rw [if_neg (by rw [h]; decide), if_pos h1]
theorem splitR_stay (b : List UInt8) (most : Int) (h : perr b = 0) (h1 : ¬ fld b 2 2 ≤ most) (h2 : (phd b).stay = true) : splitR b most = (30, []) := by
  unfold splitR; rw [if_neg (by rw [h]; decide), if_neg h1, if_pos h2]
theorem splitR_short (b : List UInt8) (most : Int) (h : perr b = 0) (h1 : ¬ fld b 2 2 ≤ most) (h2 : ¬ (phd b).stay = true) (h3 : most < (hsz b : Int) + 8) : splitR b most = (1, []) := by
  unfold splitR; rw [if_neg (by rw [h]; decide), if_neg h1, if_neg h2, if_pos h3]
theorem splitR_all (b : List UInt8) (most : Int) (h : perr b = 0) (h1 : ¬ fld b 2 2 ≤ most) (h2 : ¬ (phd b).stay = true) (h3 : ¬ most < (hsz b : Int) + 8) (hd : Hd) (X : List UInt8) (R : Nat) (e1 : phd b = hd) (e2 : pld b = X) (e3 : room most (hsz b) = R)
    (h4 : ∀ k, k < cnt X.length R → fits hd R k) : splitR b most = (0, pieces hd X R (cnt X.length R)) := by
  subst e1 e2 e3
  unfold splitR; rw [if_neg (by rw [h]; decide), if_neg h1, if_neg h2, if_neg h3, if_pos h4]
theorem splitR_far (b : List UInt8) (most : Int) (h : perr b = 0) (h1 : ¬ fld b 2 2 ≤ most) (h2 : ¬ (phd b).stay = true) (h3 : ¬ most < (hsz b : Int) + 8) (hd : Hd) (X : List UInt8) (R : Nat) (e1 : phd b = hd) (e2 : pld b = X) (e3 : room most (hsz b) = R)
    (k : Nat) (hk : k < cnt X.length R) (h4 : ¬ fits hd R k) : splitR b most = (1, []) := by
  subst e1 e2 e3
  unfold splitR; rw [if_neg (by rw [h]; decide), if_neg h1, if_neg h2, if_neg h3, if_neg (fun hh => h4 (hh k hk))]
theorem room_of (most : Int) (z : Nat) (h : ¬ most < (z : Int) + 8) : (room most z : Int) = (most - z) / 8 * 8 ∧ 8 ≤ room most z ∧ room most z % 8 = 0 ∧ (z : Int) + room most z ≤ most := by
  unfold room
  omega
/-- No fragment is longer than asked. -/
theorem splitR_le (b : List UInt8) (most : Int) : ∀ x ∈ (splitR b most).2, (x.length : Int) ≤ most := by
  intro x hx
  by_cases h0 : perr b = 0
  · by_cases h1 : fld b 2 2 ≤ most
    · rw [splitR_whole b most h0 h1] at hx
      have hp := pk_of h0
      have := hp.hl
      simp only [List.mem_singleton] at hx
      subst hx
      rw [List.length_take]
      omega
    · by_cases h2 : (phd b).stay = true
      · rw [splitR_stay b most h0 h1 h2] at hx; cases hx
      · by_cases h3 : most < (hsz b : Int) + 8
        · rw [splitR_short b most h0 h1 h2 h3] at hx; cases hx
        · by_cases h4 : ∀ k, k < cnt (pld b).length (room most (hsz b)) → fits (phd b) (room most (hsz b)) k
          · rw [splitR_all b most h0 h1 h2 h3 _ _ _ rfl rfl rfl h4] at hx
            obtain ⟨k, _, rfl⟩ := List.mem_map.1 hx
            have hr := room_of most (hsz b) h3
            have hs := (pk_of h0).size
            unfold piece
            rw [Hd.pkt_len]
            have e : (pieceH (phd b) (pld b).length (room most (hsz b)) k).size = (phd b).size := rfl
            rw [e, hs, List.length_take]
            omega
          · have : ∃ k, ¬ (k < cnt (pld b).length (room most (hsz b)) → fits (phd b) (room most (hsz b)) k) := Classical.byContradiction fun hh => h4 (fun k => Classical.byContradiction fun h5 => hh ⟨k, h5⟩)
            obtain ⟨k, hk⟩ := this
            rw [Classical.not_imp] at hk
            rw [splitR_far b most h0 h1 h2 h3 _ _ _ rfl rfl rfl k hk.1 hk.2] at hx; cases hx
  · rw [splitR_err b most h0] at hx; cases hx
theorem splitR_len (b : List UInt8) (most : Int) : (splitR b most).2.length ≤ b.length + 1 := by
  have hX : (pld b).length ≤ b.length := by unfold pld; rw [List.length_take, List.length_drop]; omega
  unfold splitR
  split
  · simp
  · split
    · simp
    · split
      · simp
      · split
        · simp
        · rename_i h3
          split
          · rw [pieces_len]
            have hr := room_of most (hsz b) h3
            have := cnt_le (pld b).length (room most (hsz b)) (by omega)
            omega
          · simp
end Go.Proofs.Ytidooohgbiiikaa
