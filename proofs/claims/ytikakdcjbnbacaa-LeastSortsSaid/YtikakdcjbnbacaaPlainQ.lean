/- Heaps, in plain words: what up, down, Fix and Remove leave. No program in sight. -/
import Derived.Test.YtikakdcjbnbacaaF
namespace Go.Proofs.Ytikakdcjbnbacaa
set_option linter.unusedVariables false
theorem lt_asymm {a b : It} (h : ltI a b) : ¬ ltI b a := by unfold ltI at *; omega
theorem le_trans {a b c : It} (h : ¬ ltI b a) (k : ¬ ltI c b) : ¬ ltI c a := by unfold ltI at *; omega
theorem lt_irr (a : It) : ¬ ltI a a := by unfold ltI; omega
theorem le_antisymm {a b : It} (h : ¬ ltI b a) (k : ¬ ltI a b) : a = b := by
  obtain ⟨aw, ai⟩ := a
  obtain ⟨bw, bi⟩ := b
  unfold ltI at *
  simp only at h k
  have h1 : aw = bw := by omega
  have h2 : ai = bi := by omega
  rw [h1, h2]
theorem ltB_iff (a b : It) : ltB a b = true ↔ ltI a b := by unfold ltB; exact decide_eq_true_iff
theorem ix_out (H : List It) (k : Nat) (h : H.length ≤ k) : ix H k = ⟨0, 0⟩ := by unfold ix; rw [List.getD_eq_getElem?_getD, List.getElem?_eq_none h]; rfl
theorem ix_set (H : List It) (i k : Nat) (x : It) (hi : i < H.length) : ix (H.set i x) k = if k = i then x else ix H k := by
  by_cases hk : k < H.length
  · rw [ix_eq _ k (by simpa using hk), List.getElem_set, ix_eq H k hk]
    by_cases e : i = k
    · rw [if_pos e, if_pos e.symm]
    · rw [if_neg e, if_neg (Ne.symm e)]
  · rw [ix_out _ k (by simp; omega), ix_out _ k (by omega), if_neg (by omega)]
theorem ix_swap (H : List It) (i j k : Nat) (hi : i < H.length) (hj : j < H.length) : ix (swapL H i j) k = if k = j then ix H i else if k = i then ix H j else ix H k := by
  rw [swapL_eq H i j hi hj, ix_set _ _ _ _ (by simpa using hj), ix_set _ _ _ _ hi, ix_eq H i hi, ix_eq H j hj]
theorem swapL_perm (H : List It) (i j : Nat) : (swapL H i j).Perm H := by
  by_cases hi : i < H.length
  · by_cases hj : j < H.length
    · rw [swapL_eq H i j hi hj]; exact List.set_set_perm hi hj
    · unfold swapL; rw [List.getElem?_eq_none (by omega : H.length ≤ j)]; split <;> simp_all
  · unfold swapL; rw [List.getElem?_eq_none (by omega : H.length ≤ i)]
def IsHp (H : List It) (m : Nat) : Prop := ∀ k, 0 < k → k < m → ¬ ltI (ix H k) (ix H ((k - 1) / 2))
theorem hp_min (H : List It) (m : Nat) (h : IsHp H m) : ∀ k, k < m → ¬ ltI (ix H k) (ix H 0) := by
  intro k
  induction k using Nat.strongRecOn with
  | _ k ih =>
    intro hk
    by_cases h0 : k = 0
    · subst h0; exact lt_irr _
    · exact le_trans (ih ((k - 1) / 2) (by omega) (by omega)) (h k (by omega) hk)
/-! ### up -/
structure UpI (H : List It) (j m : Nat) : Prop where
  a : ∀ k, 0 < k → k < m → k ≠ j → ¬ ltI (ix H k) (ix H ((k - 1) / 2))
  b : ∀ k, 0 < k → k < m → (k - 1) / 2 = j → 0 < j → ¬ ltI (ix H k) (ix H ((j - 1) / 2))
theorem up_hp (m : Nat) : ∀ (j : Nat) (H : List It), j < m → m ≤ H.length → UpI H j m → IsHp (upL H j) m := by
  intro j
  induction j using Nat.strongRecOn with
  | _ j ih =>
    intro H hj hm hU
    unfold upL
    by_cases h0 : j = 0
    · rw [dif_pos h0]
      exact fun k hk hkm => hU.a k hk hkm (by omega)
    · rw [dif_neg h0]
      by_cases hl : ltB (ix H j) (ix H ((j - 1) / 2)) = true
      · rw [if_pos hl]
        have hlt := (ltB_iff _ _).1 hl
        obtain ⟨p, hp⟩ : ∃ p, (j - 1) / 2 = p := ⟨_, rfl⟩
        have hpj : p < j := by omega
        rw [hp] at hlt ⊢
        have sw := fun k => ix_swap H p j k (by omega) (by omega)
        refine ih p hpj (swapL H p j) (by omega) (by rw [swapL_len]; exact hm) ⟨?_, ?_⟩
        · intro k hk hkm hkp
          rw [sw k, sw ((k - 1) / 2)]
          by_cases e : k = j
          · subst e
            rw [if_pos rfl, hp, if_neg (by omega), if_pos rfl]
            exact lt_asymm hlt
          · rw [if_neg e, if_neg hkp]
            by_cases e1 : (k - 1) / 2 = j
            · rw [if_pos e1]
              have := hU.b k hk hkm e1 (by omega)
              rwa [hp] at this
            · rw [if_neg e1]
              by_cases e2 : (k - 1) / 2 = p
              · rw [if_pos e2]
                have := hU.a k hk hkm e
                rw [e2] at this
                exact le_trans (lt_asymm hlt) this
              · rw [if_neg e2]
                exact hU.a k hk hkm e
        · intro k hk hkm e hp0
          rw [sw k, sw ((p - 1) / 2), if_neg (by omega : ¬ (p - 1) / 2 = j), if_neg (by omega : ¬ (p - 1) / 2 = p)]
          have hpp := hU.a p hp0 (by omega) (by omega)
          by_cases e1 : k = j
          · rw [if_pos e1]; exact hpp
          · rw [if_neg e1, if_neg (by omega)]
            have := hU.a k hk hkm e1
            rw [e] at this
            exact le_trans hpp this
      · rw [if_neg hl]
        intro k hk hkm
        by_cases e : k = j
        · subst e; exact fun h => hl ((ltB_iff _ _).2 h)
        · exact hU.a k hk hkm e
theorem up_perm (j : Nat) : ∀ H : List It, (upL H j).Perm H := by
  induction j using Nat.strongRecOn with
  | _ j ih =>
    intro H
    unfold upL
    split
    · exact List.Perm.refl _
    · split
      · exact (ih _ (by omega) _).trans (swapL_perm _ _ _)
      · exact List.Perm.refl _
theorem up_above (j : Nat) : ∀ (H : List It) (q : Nat), j < H.length → j < q → ix (upL H j) q = ix H q := by
  induction j using Nat.strongRecOn with
  | _ j ih =>
    intro H q hj hq
    unfold upL
    split
    · rfl
    · split
      · rw [ih _ (by omega) _ q (by rw [swapL_len]; omega) (by omega), ix_swap H _ _ q (by omega) hj, if_neg (by omega), if_neg (by omega)]
      · rfl
/-! ### down -/
structure DnI (H : List It) (i m : Nat) : Prop where
  a : ∀ k, 0 < k → k < m → (k - 1) / 2 ≠ i → ¬ ltI (ix H k) (ix H ((k - 1) / 2))
  b : ∀ k, 0 < k → k < m → (k - 1) / 2 = i → 0 < i → ¬ ltI (ix H k) (ix H ((i - 1) / 2))
theorem kid_is (H : List It) (i m : Nat) (h : 2 * i + 1 < m) : i < kid H i m ∧ kid H i m < m ∧ (kid H i m - 1) / 2 = i ∧ ∀ k, 0 < k → k < m → (k - 1) / 2 = i → ¬ ltI (ix H k) (ix H (kid H i m)) := by
  unfold kid
  by_cases hc : 2 * i + 2 < m ∧ ltB (ix H (2 * i + 2)) (ix H (2 * i + 1)) = true
  · rw [if_pos hc]
    refine ⟨by omega, hc.1, by omega, fun k hk hkm e => ?_⟩
    rcases (show k = 2 * i + 1 ∨ k = 2 * i + 2 by omega) with rfl | rfl
    · exact lt_asymm ((ltB_iff _ _).1 hc.2)
    · exact lt_irr _
  · rw [if_neg hc]
    refine ⟨by omega, h, by omega, fun k hk hkm e => ?_⟩
    rcases (show k = 2 * i + 1 ∨ k = 2 * i + 2 by omega) with rfl | rfl
    · exact lt_irr _
    · exact fun hl => hc ⟨hkm, (ltB_iff _ _).2 hl⟩
/-- Behind a swap with the least child. -/
theorem dn_step (H : List It) (i m : Nat) (hm : m ≤ H.length) (h : 2 * i + 1 < m) (hlt : ltI (ix H (kid H i m)) (ix H i)) (ha : ∀ k, 0 < k → k < m → k ≠ i → (k - 1) / 2 ≠ i → ¬ ltI (ix H k) (ix H ((k - 1) / 2)))
    (hb : ∀ k, 0 < k → k < m → (k - 1) / 2 = i → 0 < i → ¬ ltI (ix H k) (ix H ((i - 1) / 2))) : DnI (swapL H i (kid H i m)) (kid H i m) m := by
  obtain ⟨h1, h2, h3, h4⟩ := kid_is H i m h
  obtain ⟨c, hc⟩ : ∃ c, kid H i m = c := ⟨_, rfl⟩
  rw [hc] at h1 h2 h3 h4 hlt ⊢
  have sw := fun k => ix_swap H i c k (by omega) (by omega)
  constructor
  · intro k hk hkm e
    rw [sw k, sw ((k - 1) / 2), if_neg e]
    by_cases e1 : (k - 1) / 2 = i
    · rw [if_pos e1]
      by_cases e2 : k = c
      · rw [if_pos e2]; exact lt_asymm hlt
      · rw [if_neg e2, if_neg (by omega)]; exact h4 k hk hkm e1
    · rw [if_neg e1, if_neg (by rintro rfl; exact e1 h3)]
      by_cases e2 : k = i
      · subst e2; rw [if_pos rfl]; exact hb c (by omega) h2 h3 hk
      · rw [if_neg e2]; exact ha k hk hkm e2 e1
  · intro k hk hkm e hc0
    rw [sw k, sw ((c - 1) / 2), h3, if_neg (by omega : ¬ k = c), if_neg (by omega : ¬ k = i), if_neg (by omega : ¬ i = c), if_pos rfl]
    have := ha k hk hkm (by omega) (by omega)
    rwa [e] at this
theorem dn_hp (m : Nat) : ∀ (d i : Nat) (H : List It), m - i = d → m ≤ H.length → DnI H i m → IsHp (downL H i m).1 m := by
  intro d
  induction d using Nat.strongRecOn with
  | _ d ih =>
    intro i H hd hm hD
    unfold downL
    by_cases ho : m ≤ 2 * i + 1
    · rw [dif_pos ho]
      exact fun k hk hkm => hD.a k hk hkm (by omega)
    · rw [dif_neg ho]
      have hk := kid_is H i m (by omega)
      by_cases hl : ltB (ix H (kid H i m)) (ix H i) = true
      · rw [if_pos hl]
        exact ih (m - kid H i m) (by omega) _ _ rfl (by rw [swapL_len]; exact hm) (dn_step H i m hm (by omega) ((ltB_iff _ _).1 hl) (fun k h1 h2 h3 h4 => hD.a k h1 h2 h4) hD.b)
      · rw [if_neg hl]
        intro k hk0 hkm
        by_cases e : (k - 1) / 2 = i
        · rw [e]; exact le_trans (fun h => hl ((ltB_iff _ _).2 h)) (hk.2.2.2 k hk0 hkm e)
        · exact hD.a k hk0 hkm e
theorem dn_pos (m : Nat) : ∀ (d i : Nat) (H : List It), m - i = d → i ≤ (downL H i m).2 := by
  intro d
  induction d using Nat.strongRecOn with
  | _ d ih =>
    intro i H hd
    unfold downL
    by_cases ho : m ≤ 2 * i + 1
    · rw [dif_pos ho]; exact Nat.le_refl _
    · rw [dif_neg ho]
      have hk := kid_is H i m (by omega)
      split
      · have := ih (m - kid H i m) (by omega) (kid H i m) (swapL H i (kid H i m)) rfl
        omega
      · exact Nat.le_refl _
theorem dn_perm (m : Nat) : ∀ (d i : Nat) (H : List It), m - i = d → (downL H i m).1.Perm H := by
  intro d
  induction d using Nat.strongRecOn with
  | _ d ih =>
    intro i H hd
    unfold downL
    by_cases ho : m ≤ 2 * i + 1
    · rw [dif_pos ho]
    · rw [dif_neg ho]
      have hk := kid_is H i m (by omega)
      split
      · exact (ih (m - kid H i m) (by omega) _ _ rfl).trans (swapL_perm _ _ _)
      · exact List.Perm.refl _
theorem dn_above (m : Nat) : ∀ (d i : Nat) (H : List It) (q : Nat), m - i = d → m ≤ H.length → i < m → m ≤ q → ix (downL H i m).1 q = ix H q := by
  intro d
  induction d using Nat.strongRecOn with
  | _ d ih =>
    intro i H q hd hm hi hq
    unfold downL
    by_cases ho : m ≤ 2 * i + 1
    · rw [dif_pos ho]
    · rw [dif_neg ho]
      have hk := kid_is H i m (by omega)
      split
      · rw [ih (m - kid H i m) (by omega) _ _ q rfl (by rw [swapL_len]; exact hm) hk.2.1 hq, ix_swap H _ _ q (by omega) (by omega), if_neg (by omega), if_neg (by omega)]
      · rfl
/-! ### Fix -/
structure FixI (H : List It) (i m : Nat) : Prop where
  a : ∀ k, 0 < k → k < m → k ≠ i → (k - 1) / 2 ≠ i → ¬ ltI (ix H k) (ix H ((k - 1) / 2))
  b : ∀ k, 0 < k → k < m → (k - 1) / 2 = i → 0 < i → ¬ ltI (ix H k) (ix H ((i - 1) / 2))
theorem fix_hp (H : List It) (i m : Nat) (hi : i < m) (hm : m ≤ H.length) (hF : FixI H i m) : IsHp (fixL H i m) m := by
  unfold fixL
  by_cases hstay : m ≤ 2 * i + 1 ∨ ¬ ltB (ix H (kid H i m)) (ix H i) = true
  · have hd : downL H i m = (H, i) := by
      unfold downL
      by_cases ho : m ≤ 2 * i + 1
      · rw [dif_pos ho]
      · rw [dif_neg ho, if_neg (hstay.resolve_left ho)]
    rw [hd, if_neg (Nat.lt_irrefl _)]
    refine up_hp m i H hi hm ⟨fun k hk hkm e => ?_, hF.b⟩
    by_cases e1 : (k - 1) / 2 = i
    · rw [e1]
      rcases hstay with ho | hs
      · omega
      · exact le_trans (fun h => hs ((ltB_iff _ _).2 h)) ((kid_is H i m (by omega)).2.2.2 k hk hkm e1)
    · exact hF.a k hk hkm e e1
  · obtain ⟨ho, hl⟩ := not_or.1 hstay
    have hl := Classical.not_not.1 hl
    have hk := kid_is H i m (by omega)
    have hd : downL H i m = downL (swapL H i (kid H i m)) (kid H i m) m := by
      conv => lhs; unfold downL
      rw [dif_neg ho, if_pos hl]
    have hp := dn_pos m _ (kid H i m) (swapL H i (kid H i m)) rfl
    rw [hd, if_pos (by omega)]
    exact dn_hp m _ _ _ rfl (by rw [swapL_len]; exact hm) (dn_step H i m hm (by omega) ((ltB_iff _ _).1 hl) hF.a hF.b)
theorem fix_perm (H : List It) (i m : Nat) : (fixL H i m).Perm H := by
  unfold fixL
  split
  · exact dn_perm m _ _ _ rfl
  · exact (up_perm i _).trans (dn_perm m _ _ _ rfl)
theorem fix_above (H : List It) (i m q : Nat) (hi : i < m) (hm : m ≤ H.length) (hq : m ≤ q) : ix (fixL H i m) q = ix H q := by
  unfold fixL
  split
  · exact dn_above m _ _ _ q rfl hm hi hq
  · rw [up_above i _ q (by rw [downL_len m _ _ _ rfl]; omega) (by omega)]; exact dn_above m _ _ _ q rfl hm hi hq
theorem fix_of_hp (H : List It) (i : Nat) (y : It) (hi : i < H.length) (h : IsHp H H.length) : FixI (H.set i y) i H.length := by
  constructor
  · intro k hk hkm e e1
    rw [ix_set _ _ _ _ hi, ix_set _ _ _ _ hi, if_neg e, if_neg e1]
    exact h k hk hkm
  · intro k hk hkm e hi0
    rw [ix_set _ _ _ _ hi, ix_set _ _ _ _ hi, if_neg (by omega), if_neg (by omega)]
    have h1 := h k hk hkm
    rw [e] at h1
    exact le_trans (h i hi0 hi) h1
theorem hp_take (K : List It) (n : Nat) (h : IsHp K n) (hn : n ≤ K.length) : IsHp (K.take n) (K.take n).length := by
  intro k hk hkm
  simp at hkm
  have e : ∀ q, q < n → ix (K.take n) q = ix K q := fun q hq => by
    rw [ix_eq _ q (by simp; omega), ix_eq K q (by omega), List.getElem_take]
  rw [e k (by omega), e _ (by omega)]
  exact h k hk (by omega)
/-! ### What the calls leave -/
theorem push_hp (H : List It) (x : It) (h : IsHp H H.length) : IsHp (upL (H ++ [x]) H.length) (upL (H ++ [x]) H.length).length := by
  rw [upL_len]
  refine up_hp _ _ _ (by simp) (Nat.le_refl _) ⟨?_, ?_⟩
  · intro k hk hkm e
    have e1 : ∀ q, q < H.length → ix (H ++ [x]) q = ix H q := fun q hq => by
      rw [ix_eq _ q (by simp; omega), ix_eq H q hq, List.getElem_append_left hq]
    simp at hkm
    rw [e1 k (by omega), e1 _ (by omega)]
    exact h k hk (by omega)
  · intro k hk hkm e h0
    simp at hkm
    omega
theorem push_perm (H : List It) (x : It) : (upL (H ++ [x]) H.length).Perm (x :: H) := (up_perm _ _).trans (List.perm_append_singleton x H)
theorem pop_hp (H : List It) (n : Nat) (hn : H.length = n + 1) (h : IsHp H H.length) : IsHp ((popK H n).take n) ((popK H n).take n).length := by
  refine hp_take _ _ ?_ (by rw [popK_len]; omega)
  unfold popK
  refine dn_hp n _ _ _ rfl (by rw [swapL_len]; omega) ⟨?_, fun k _ _ _ h0 => absurd h0 (by omega)⟩
  intro k hk hkm e
  rw [ix_swap H _ _ _ (by omega) (by omega), ix_swap H _ _ _ (by omega) (by omega), if_neg (by omega), if_neg (by omega), if_neg (by omega), if_neg e]
  exact h k hk (by omega)
theorem pop_last (H : List It) (n : Nat) (hn : H.length = n + 1) : ix (popK H n) n = ix H 0 := by
  unfold popK
  by_cases h0 : n = 0
  · subst h0
    have : downL (swapL H 0 0) 0 0 = (swapL H 0 0, 0) := by unfold downL; rw [dif_pos (by omega)]
    rw [this, ix_swap H _ _ _ (by omega) (by omega), if_pos rfl]
  · rw [dn_above n _ _ _ n rfl (by rw [swapL_len]; omega) (by omega) (Nat.le_refl _), ix_swap H _ _ _ (by omega) (by omega), if_pos rfl]
theorem pop_perm (H : List It) (n : Nat) (hn : H.length = n + 1) : (ix H 0 :: (popK H n).take n).Perm H := by
  have h1 : (popK H n).Perm H := by unfold popK; exact (dn_perm n _ _ _ rfl).trans (swapL_perm _ _ _)
  rw [snoc_eq (popK H n) n (by rw [popK_len, hn]), pop_last H n hn] at h1
  exact (List.perm_append_singleton _ _).symm.trans h1
theorem rem_hp (H : List It) (i n : Nat) (hn : H.length = n + 1) (hi : i ≤ n) (h : IsHp H H.length) : IsHp ((remL H i n).take n) ((remL H i n).take n).length := by
  refine hp_take _ _ ?_ (by rw [remL_len]; omega)
  unfold remL
  by_cases e : n = i
  · rw [if_pos e]; exact fun k hk hkm => h k hk (by omega)
  · rw [if_neg e]
    refine fix_hp _ _ _ (by omega) (by rw [swapL_len]; omega) ⟨?_, ?_⟩
    · intro k hk hkm e1 e2
      rw [ix_swap H _ _ _ (by omega) (by omega), ix_swap H _ _ _ (by omega) (by omega), if_neg (by omega), if_neg e1, if_neg (by omega), if_neg e2]
      exact h k hk (by omega)
    · intro k hk hkm e1 hi0
      rw [ix_swap H _ _ _ (by omega) (by omega), ix_swap H _ _ _ (by omega) (by omega), if_neg (by omega), if_neg (by omega), if_neg (by omega), if_neg (by omega)]
      have h1 := h k hk (by omega)
      rw [e1] at h1
      exact le_trans (h i hi0 (by omega)) h1
theorem rem_last (H : List It) (i n : Nat) (hn : H.length = n + 1) (hi : i ≤ n) : ix (remL H i n) n = ix H i := by
  unfold remL
  by_cases e : n = i
  · rw [if_pos e, e]
  · rw [if_neg e, fix_above _ _ _ _ (by omega) (by rw [swapL_len]; omega) (Nat.le_refl _), ix_swap H _ _ _ (by omega) (by omega), if_pos rfl]
theorem rem_perm (H : List It) (i n : Nat) (hn : H.length = n + 1) (hi : i ≤ n) : (ix H i :: (remL H i n).take n).Perm H := by
  have h1 : (remL H i n).Perm H := by
    unfold remL
    split
    · exact List.Perm.refl _
    · exact (fix_perm _ _ _).trans (swapL_perm _ _ _)
  rw [snoc_eq (remL H i n) n (by rw [remL_len, hn]), rem_last H i n hn hi] at h1
  exact (List.perm_append_singleton _ _).symm.trans h1
end Go.Proofs.Ytikakdcjbnbacaa
