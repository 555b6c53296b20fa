/- The symmetric merge, the blocks of the stable sort: plain Lean. -/
import Derived.Test.YtidooohgbiiikaaPlainQ
namespace Go.Proofs.Ytidooohgbiiikaa
section
variable {α : Type} {key : α → Int}
theorem srt_sub {f : Nat → α} {a b a' b' : Nat} (h : Srt key (seg f a b)) (h1 : a ≤ a') (h2 : b' ≤ b) : Srt key (seg f a' b') := by
  rw [srt_seg] at h ⊢
  exact fun i j p q r => h i j (by omega) q (by omega)
theorem merged_none {f : Nat → α} {a m b : Nat} (h1 : a ≤ m) (h2 : m ≤ b) (hs : Srt key (seg f a m)) (ht : Srt key (seg f m b)) (h : ¬ (a < m ∧ m < b)) : Merged key f f a m b := by
  refine ⟨?_, fun _ _ => rfl⟩
  by_cases ha : a = m
  · subst ha
    rw [seg_nil f (Nat.le_refl a), mrg_srt ht]
  · have : m = b := by omega
    subst this
    rw [seg_nil f (Nat.le_refl m)]; rfl
theorem rot_none {f : Nat → α} {a m b : Nat} (h1 : a ≤ m) (h2 : m ≤ b) (h : ¬ (a < m ∧ m < b)) : rot f a m b = f := by
  funext k; unfold rot; repeat' split
  all_goals first | (exfalso; omega) | rfl | (congr 1; omega)
/-- What the search has found: where the two rows part. -/
structure Parts (key : α → Int) (f : Nat → α) (a m b s e : Nat) : Prop where
  sa : a ≤ s
  sm : s ≤ m
  em : m ≤ e
  eb : e ≤ b
  le : s = a ∨ e = b ∨ key (f (s - 1)) ≤ key (f e)
  lt : s = m ∨ e = m ∨ key (f (e - 1)) < key (f s)
theorem Parts.segs {f : Nat → α} {a m b s e mid : Nat} (h : Parts key f a m b s e) (hm : mid = s + (e - m)) :
    seg (rot f s m e) a s = seg f a s ∧ seg (rot f s m e) s mid = seg f m e ∧ seg (rot f s m e) mid e = seg f s m ∧ seg (rot f s m e) e b = seg f e b := by
  obtain ⟨h1, h2, h3, h4, -, -⟩ := h
  subst hm
  refine ⟨seg_congr fun k p q => ?_, seg_eq (by omega) fun k p => ?_, seg_eq (by omega) fun k p => ?_, seg_congr fun k p q => ?_⟩
  all_goals (unfold rot; repeat' split)
  all_goals first | (exfalso; omega) | rfl | (congr 1; omega)
/-- Both halves, merged, are the whole. -/
theorem Parts.join {f g1 g2 : Nat → α} {a m b s e mid : Nat} (h : Parts key f a m b s e) (hm : mid = s + (e - m)) (hU : Srt key (seg f a m)) (hV : Srt key (seg f m b))
    (hA : Merged key (rot f s m e) g1 a s mid) (hB : Merged key g1 g2 mid e b) : Merged key f g2 a m b := by
  obtain ⟨e1, e2, e3, e4⟩ := h.segs hm
  obtain ⟨h1, h2, h3, h4, h5, h6⟩ := h
  obtain ⟨a1, a2⟩ := hA
  obtain ⟨b1, b2⟩ := hB
  rw [srt_seg] at hU hV
  refine ⟨?_, fun k hk => ?_⟩
  · rw [seg_append g2 (by omega : a ≤ mid) (by omega : mid ≤ b), b1, seg_congr (f := g2) (g := g1) (fun k p q => b2 k (by omega)), a1,
      seg_congr (f := g1) (g := rot f s m e) (a := mid) (b := e) (fun k p q => a2 k (by omega)), seg_congr (f := g1) (g := rot f s m e) (a := e) (b := b) (fun k p q => a2 k (by omega)), e1, e2, e3, e4,
      seg_append f h1 h2, seg_append f h3 h4]
    refine (mrg_split _ _ _ _ ?_ ?_ ?_).symm
    · intro u hu v hv
      obtain ⟨i, i1, i2, rfl⟩ := mem_seg.1 hu
      obtain ⟨j, j1, j2, rfl⟩ := mem_seg.1 hv
      rcases h5 with h | h | h
      · omega
      · omega
      · have x : key (f i) ≤ key (f (s - 1)) := by
          by_cases hi : i = s - 1
          · rw [hi]; exact Int.le_refl _
          · exact hU i (s - 1) i1 (by omega) (by omega)
        have y : key (f e) ≤ key (f j) := by
          by_cases hj : j = e
          · rw [hj]; exact Int.le_refl _
          · exact hV e j (by omega) (by omega) (by omega)
        omega
    · intro v hv u hu
      obtain ⟨i, i1, i2, rfl⟩ := mem_seg.1 hu
      obtain ⟨j, j1, j2, rfl⟩ := mem_seg.1 hv
      rcases h6 with h | h | h
      · omega
      · omega
      · have x : key (f j) ≤ key (f (e - 1)) := by
          by_cases hi : j = e - 1
          · rw [hi]; exact Int.le_refl _
          · exact hV j (e - 1) j1 (by omega) (by omega)
        have y : key (f s) ≤ key (f i) := by
          by_cases hj : i = s
          · rw [hj]; exact Int.le_refl _
          · exact hU s i (by omega) (by omega) (by omega)
        omega
    · intro x hx y hy
      obtain ⟨i, i1, i2, rfl⟩ := mem_seg.1 hx
      obtain ⟨j, j1, j2, rfl⟩ := mem_seg.1 hy
      exact hV i j i1 (by omega) j2
  · rw [b2 k (by omega), a2 k (by omega)]
    unfold rot; repeat' split
    all_goals first | (exfalso; omega) | rfl | (congr 1; omega)
/-! ### Blocks -/
/-- This part of the row is sorted, and holds what it held. -/
def Bl (key : α → Int) (f0 f : Nat → α) (a b : Nat) : Prop := seg f a b = isort key (seg f0 a b)
theorem Bl.srt {f0 f : Nat → α} {a b : Nat} (h : Bl key f0 f a b) : Srt key (seg f a b) := by rw [h]; exact srt_isort _
theorem Bl.merge {f0 f g : Nat → α} {a m b : Nat} (h1 : a ≤ m) (h2 : m ≤ b) (ha : Bl key f0 f a m) (hb : Bl key f0 f m b) (hm : Merged key f g a m b) : Bl key f0 g a b := by
  unfold Bl at *
  rw [hm.1, ha, hb, seg_append f0 h1 h2, isort_append]
theorem Bl.kept {f0 f g : Nat → α} {a b : Nat} (h : Bl key f0 f a b) (hg : ∀ k, a ≤ k → k < b → g k = f k) : Bl key f0 g a b := by
  unfold Bl at *
  rw [seg_congr hg, h]
theorem Bl.nil (f0 f : Nat → α) {a b : Nat} (h : b ≤ a) : Bl key f0 f a b := by
  unfold Bl; rw [seg_nil f h, seg_nil f0 h]; rfl
/-- The first loop: j blocks are sorted. -/
def St1 (key : α → Int) (f0 f : Nat → α) (j : Nat) : Prop := (∀ k, k < j → Bl key f0 f (k * 20) (k * 20 + 20)) ∧ ∀ k, j * 20 ≤ k → f k = f0 k
/-- An insertion sort of [a, b). -/
def Isd (key : α → Int) (f g : Nat → α) (a b : Nat) : Prop := seg g a b = isort key (seg f a b) ∧ ∀ k, ¬ (a ≤ k ∧ k < b) → g k = f k
theorem St1.zero (f0 : Nat → α) : St1 key f0 f0 0 := ⟨fun k hk => by omega, fun _ _ => rfl⟩
theorem St1.step {f0 f g : Nat → α} {j : Nat} (h : St1 key f0 f j) (hi : Isd key f g (j * 20) (j * 20 + 20)) : St1 key f0 g (j + 1) := by
  refine ⟨fun k hk => ?_, fun k hk => ?_⟩
  · by_cases hkj : k < j
    · exact (h.1 k hkj).kept fun i p q => hi.2 i (by omega)
    · obtain rfl : k = j := by omega
      unfold Bl
      rw [hi.1, seg_congr fun i p q => h.2 i (by omega)]
  · rw [hi.2 k (by omega), h.2 k (by omega)]
/-- All blocks of s are sorted. -/
def Sbl (key : α → Int) (f0 f : Nat → α) (s n : Nat) : Prop := ∀ k, Bl key f0 f (k * s) (min (k * s + s) n)
theorem St1.last {f0 f g : Nat → α} {j n : Nat} (h : St1 key f0 f j) (h1 : j * 20 ≤ n) (h2 : n < j * 20 + 20) (hi : Isd key f g (j * 20) n) : Sbl key f0 g 20 n := by
  intro k
  by_cases hkj : k < j
  · rw [show min (k * 20 + 20) n = k * 20 + 20 by omega]
    exact (h.1 k hkj).kept fun i p q => hi.2 i (by omega)
  · by_cases hk : k = j
    · subst hk
      rw [show min (k * 20 + 20) n = n by omega]
      unfold Bl
      rw [hi.1, seg_congr fun i p q => h.2 i (by omega)]
    · exact Bl.nil _ _ (by omega)
theorem Sbl.done {f0 f : Nat → α} {s n : Nat} (h : Sbl key f0 f s n) (hs : n ≤ s) : seg f 0 n = isort key (seg f0 0 n) := by
  have := h 0
  rw [show min (0 * s + s) n = n by omega, Nat.zero_mul] at this
  exact this
/-- The merging loop: j pairs of blocks are merged. -/
def St2 (key : α → Int) (f0 f : Nat → α) (s n j : Nat) : Prop := (∀ k, k < j → Bl key f0 f (k * (2 * s)) (k * (2 * s) + 2 * s)) ∧ ∀ k, 2 * j ≤ k → Bl key f0 f (k * s) (min (k * s + s) n)
theorem St2.zero {f0 f : Nat → α} {s n : Nat} (h : Sbl key f0 f s n) : St2 key f0 f s n 0 := ⟨fun k hk => by omega, fun k _ => h k⟩
theorem St2.srt {f0 f : Nat → α} {s n j a : Nat} (h : St2 key f0 f s n j) (ha : j * (2 * s) = a) : Srt key (seg f a (min (a + s) n)) ∧ Srt key (seg f (a + s) (min (a + 2 * s) n)) := by
  have e1 : 2 * j * s = a := by rw [← ha, Nat.mul_comm 2 j, Nat.mul_assoc]
  have e2 : (2 * j + 1) * s = a + s := by rw [Nat.add_mul, e1, Nat.one_mul]
  have h1 := h.2 (2 * j) (Nat.le_refl _)
  have h2 := h.2 (2 * j + 1) (by omega)
  rw [e1] at h1
  rw [e2, show a + s + s = a + 2 * s by omega] at h2
  exact ⟨h1.srt, h2.srt⟩
theorem St2.step {f0 f g : Nat → α} {s n j a : Nat} (h : St2 key f0 f s n j) (ha : j * (2 * s) = a) (hn : a + 2 * s ≤ n) (hm : Merged key f g a (a + s) (a + 2 * s)) : St2 key f0 g s n (j + 1) := by
  have e1 : 2 * j * s = a := by rw [← ha, Nat.mul_comm 2 j, Nat.mul_assoc]
  have e2 : (2 * j + 1) * s = a + s := by rw [Nat.add_mul, e1, Nat.one_mul]
  have h1 := h.2 (2 * j) (Nat.le_refl _)
  have h2 := h.2 (2 * j + 1) (by omega)
  rw [e1, show min (a + s) n = a + s by omega] at h1
  rw [e2, show min (a + s + s) n = a + 2 * s by omega] at h2
  refine ⟨fun k hk => ?_, fun k hk => ?_⟩
  · by_cases hkj : k < j
    · have : k * (2 * s) + 2 * s ≤ a := by
        rw [← ha]
        calc k * (2 * s) + 2 * s = (k + 1) * (2 * s) := by rw [Nat.add_mul, Nat.one_mul]
          _ ≤ j * (2 * s) := Nat.mul_le_mul_right _ hkj
      exact (h.1 k hkj).kept fun i p q => hm.2 i (by omega)
    · obtain rfl : k = j := by omega
      rw [ha]
      exact Bl.merge (by omega) (by omega) h1 h2 hm
  · have : a + 2 * s ≤ k * s := by
      rw [← e1]
      calc 2 * j * s + 2 * s = (2 * j + 2) * s := by rw [Nat.add_mul]
        _ ≤ k * s := Nat.mul_le_mul_right _ (by omega)
    exact (h.2 k (by omega)).kept fun i p q => hm.2 i (by omega)
theorem St2.last {f0 f g : Nat → α} {s n j a : Nat} (h : St2 key f0 f s n j) (ha : j * (2 * s) = a) (han : a ≤ n) (hn : n < a + 2 * s) (hm : (a + s < n ∧ Merged key f g a (a + s) n) ∨ (n ≤ a + s ∧ g = f)) : Sbl key f0 g (2 * s) n := by
  have e1 : 2 * j * s = a := by rw [← ha, Nat.mul_comm 2 j, Nat.mul_assoc]
  have e2 : (2 * j + 1) * s = a + s := by rw [Nat.add_mul, e1, Nat.one_mul]
  have h1 := h.2 (2 * j) (Nat.le_refl _)
  have h2 := h.2 (2 * j + 1) (by omega)
  rw [e1] at h1
  rw [e2] at h2
  intro k
  by_cases hkj : k < j
  · have : k * (2 * s) + 2 * s ≤ a := by
      rw [← ha]
      calc k * (2 * s) + 2 * s = (k + 1) * (2 * s) := by rw [Nat.add_mul, Nat.one_mul]
        _ ≤ j * (2 * s) := Nat.mul_le_mul_right _ hkj
    rw [Nat.min_eq_left (by omega)]
    rcases hm with ⟨_, hm⟩ | ⟨_, rfl⟩
    · exact (h.1 k hkj).kept fun i p q => hm.2 i (by omega)
    · exact h.1 k hkj
  · by_cases hk : k = j
    · subst hk
      rw [ha, Nat.min_eq_right (by omega)]
      rcases hm with ⟨hl, hm⟩ | ⟨hl, rfl⟩
      · rw [Nat.min_eq_left (by omega)] at h1
        rw [Nat.min_eq_right (by omega)] at h2
        exact Bl.merge (by omega) (by omega) h1 h2 hm
      · rw [Nat.min_eq_right (by omega)] at h1
        exact h1
    · have : a + 2 * s ≤ k * (2 * s) := by
        rw [← ha]
        calc j * (2 * s) + 2 * s = (j + 1) * (2 * s) := by rw [Nat.add_mul, Nat.one_mul]
          _ ≤ k * (2 * s) := Nat.mul_le_mul_right _ (by omega)
      exact Bl.nil _ _ (by omega)
end
end Go.Proofs.Ytidooohgbiiikaa
