/- Lists in order, and the heaps that hold the same. No program in sight. -/
import Derived.Test.YtikakdcjbnbacaaK
namespace Go.Proofs.Ytikakdcjbnbacaa
open Go.RowKit
def SrtI (R : List It) : Prop := R.Pairwise (fun a b => ¬ ltI b a)
theorem insL_perm (x : It) (l : List It) : (insL x l).Perm (x :: l) := by
  induction l with
  | nil => exact List.Perm.refl _
  | cons y l ih =>
    unfold insL
    split
    · exact List.Perm.refl _
    · exact (List.Perm.cons y ih).trans (List.Perm.swap x y l)
theorem insL_srt (x : It) (l : List It) (h : SrtI l) : SrtI (insL x l) := by
  induction l with
  | nil => exact List.pairwise_singleton _ _
  | cons y l ih =>
    unfold insL
    have h' := List.pairwise_cons.1 h
    split
    · rename_i hlt
      have hxy := (ltB_iff x y).1 hlt
      refine List.pairwise_cons.2 ⟨fun z hz => ?_, h⟩
      rcases List.mem_cons.1 hz with rfl | hz
      · exact lt_asymm hxy
      · exact le_trans (lt_asymm hxy) (h'.1 z hz)
    · rename_i hlt
      refine List.pairwise_cons.2 ⟨fun z hz => ?_, ih h'.2⟩
      rcases List.mem_cons.1 ((insL_perm x l).mem_iff.1 hz) with rfl | hz
      · intro hk
        exact hlt ((ltB_iff _ _).2 hk)
      · exact h'.1 z hz
theorem srt_erase {R : List It} (h : SrtI R) (k : Nat) : SrtI (R.eraseIdx k) := h.sublist (List.eraseIdx_sublist _ _)
theorem srt_tail {x : It} {R : List It} (h : SrtI (x :: R)) : SrtI R := (List.pairwise_cons.1 h).2
/-- A heap and a list in order that hold the same. -/
structure Twin (H R : List It) : Prop where
  hp : IsHp H H.length
  pm : R.Perm H
  st : SrtI R
theorem Twin.nil : Twin [] [] := ⟨hp_nil, List.Perm.refl _, List.Pairwise.nil⟩
theorem Twin.len {H R : List It} (h : Twin H R) : R.length = H.length := h.pm.length_eq
theorem Twin.first {H : List It} {x : It} {R : List It} (h : Twin H (x :: R)) : ix H 0 = x := by
  refine hp_first H x h.hp (h.pm.mem_iff.1 (by simp)) fun y hy => ?_
  rcases List.mem_cons.1 (h.pm.mem_iff.2 hy) with rfl | hy
  · exact lt_irr _
  · exact (List.pairwise_cons.1 h.st).1 y hy
theorem Twin.push {H R : List It} (h : Twin H R) (x : It) : Twin (upL (H ++ [x]) H.length) (insL x R) :=
  ⟨push_hp H x h.hp, (insL_perm x R).trans ((h.pm.cons x).trans (push_perm H x).symm), insL_srt x R h.st⟩
theorem Twin.pop {H : List It} {x : It} {R : List It} (h : Twin H (x :: R)) (n : Nat) (hn : H.length = n + 1) : ix (popK H n) n = x ∧ Twin ((popK H n).take n) R := by
  refine ⟨by rw [pop_last H n hn, h.first], pop_hp H n hn h.hp, ?_, srt_tail h.st⟩
  have h1 := pop_perm H n hn
  rw [h.first] at h1
  exact List.Perm.cons_inv (h.pm.trans h1.symm)
/-- Numbers that are one's own. -/
def Uniq (R : List It) : Prop := (R.map (·.id)).Nodup
theorem Uniq.perm {H R : List It} (h : Uniq R) (p : R.Perm H) : Uniq H := (p.map _).nodup_iff.1 h
theorem Uniq.same {R : List It} (h : Uniq R) {x y : It} (hx : x ∈ R) (hy : y ∈ R) (e : x.id = y.id) : x = y := by
  induction R with
  | nil => cases hx
  | cons z R ih =>
    have h' := List.nodup_cons.1 (show (z.id :: R.map (·.id)).Nodup from h)
    rcases List.mem_cons.1 hx with rfl | hx' <;> rcases List.mem_cons.1 hy with rfl | hy'
    · rfl
    · exact absurd (List.mem_map.2 ⟨y, hy', e.symm⟩) h'.1
    · exact absurd (List.mem_map.2 ⟨x, hx', e⟩) h'.1
    · exact ih h'.2 hx' hy'
theorem Uniq.cons {R : List It} (h : Uniq R) {x : It} (hx : ∀ y ∈ R, y.id ≠ x.id) : Uniq (x :: R) :=
  List.nodup_cons.2 ⟨fun hm => by obtain ⟨y, hy, e⟩ := List.mem_map.1 hm; exact hx y hy e, h⟩
theorem Uniq.ins {R : List It} (h : Uniq R) {x : It} (hx : ∀ y ∈ R, y.id ≠ x.id) : Uniq (insL x R) := (h.cons hx).perm (insL_perm x R).symm
theorem Uniq.erase {R : List It} (h : Uniq R) (k : Nat) : Uniq (R.eraseIdx k) := by
  unfold Uniq
  exact List.Nodup.sublist ((List.eraseIdx_sublist R k).map _) h
theorem perm_at {α : Type} (l : List α) (k : Nat) (h : k < l.length) : (l[k] :: l.eraseIdx k).Perm l := by
  have e : l = l.take k ++ l[k] :: l.drop (k + 1) := by rw [← List.drop_eq_getElem_cons h, List.take_append_drop]
  rw [List.eraseIdx_eq_take_drop_succ]
  refine List.Perm.trans ?_ (List.Perm.of_eq e.symm)
  exact List.perm_middle.symm
theorem perm_set {α : Type} (l : List α) (k : Nat) (h : k < l.length) (x : α) : (l.set k x).Perm (x :: l.eraseIdx k) := by
  have h1 := perm_at (l.set k x) k (by simpa using h)
  rw [List.getElem_set_self] at h1
  have e : (l.set k x).eraseIdx k = l.eraseIdx k := by
    simp only [List.eraseIdx_eq_take_drop_succ, List.take_set, List.drop_set]
    rw [if_pos (by omega), List.set_eq_of_length_le (by simp; omega)]
  rw [e] at h1
  exact h1.symm
theorem first_at (id : Int) : ∀ (H : List It), (∃ x ∈ H, x.id = id) → ∃ (j : Nat) (hj : j < H.length), H[j].id = id ∧ ∀ i (hi : i < H.length), i < j → H[i].id ≠ id
  | [], h => by obtain ⟨x, hx, _⟩ := h; cases hx
  | y :: H, h => by
    by_cases e : y.id = id
    · exact ⟨0, by simp, e, fun i _ h => by omega⟩
    · obtain ⟨x, hx, ex⟩ := h
      obtain ⟨j, hj, e1, e2⟩ := first_at id H ⟨x, by
        rcases List.mem_cons.1 hx with rfl | hx
        · exact absurd ex e
        · exact hx, ex⟩
      refine ⟨j + 1, by simpa using hj, by simpa using e1, fun i hi hlt => ?_⟩
      cases i with
      | zero => simpa using e
      | succ i => simpa using e2 i (by simpa using hi) (by omega)
theorem Uniq.off {R : List It} (h : Uniq R) (k : Nat) (hk : k < R.length) : ∀ y ∈ R.eraseIdx k, y.id ≠ R[k].id := by
  intro y hy e
  have h' := List.nodup_cons.1 (show ((R[k] :: R.eraseIdx k).map (·.id)).Nodup from h.perm (perm_at R k hk).symm)
  exact h'.1 (List.mem_map.2 ⟨y, hy, e⟩)
/-- What an ID is told to be at in two lists that hold the same. -/
theorem ixp_two {H R : List It} {id z : Int} (h : IxP R id z) (p : R.Perm H) : (z = -1 ∧ (∀ x ∈ R, x.id ≠ id) ∧ ∀ x ∈ H, x.id ≠ id) ∨ ∃ (k : Nat) (hk : k < R.length) (j : Nat) (hj : j < H.length), z = (k : Int) ∧ R[k].id = id ∧ H[j].id = id ∧ ∀ i (hi : i < H.length), i < j → H[i].id ≠ id := by
  rcases h with ⟨rfl, h⟩ | ⟨k, hk, rfl, e, -⟩
  · exact .inl ⟨rfl, h, fun x hx => h x (p.mem_iff.2 hx)⟩
  · refine .inr ⟨k, hk, ?_⟩
    have hm : R[k] ∈ H := p.mem_iff.1 (List.getElem_mem hk)
    obtain ⟨j, hj, e1, e2⟩ := first_at id H ⟨R[k], hm, e⟩
    exact ⟨j, hj, rfl, e, e1, e2⟩
theorem Twin.drop {H R : List It} (h : Twin H R) (hu : Uniq R) {k j n : Nat} (hk : k < R.length) (hj : j < H.length) (hn : H.length = n + 1) (e : R[k].id = H[j].id) : Twin ((remL H j n).take n) (R.eraseIdx k) := by
  have hx : R[k] = H[j] := hu.same (List.getElem_mem hk) (h.pm.mem_iff.2 (List.getElem_mem hj)) e
  refine ⟨rem_hp H j n hn (by omega) h.hp, ?_, srt_erase h.st k⟩
  have h1 := rem_perm H j n hn (by omega)
  rw [ix_eq H j hj, ← hx] at h1
  exact List.Perm.cons_inv ((perm_at R k hk).trans (h.pm.trans h1.symm))
theorem Twin.fix {H R : List It} (h : Twin H R) (hu : Uniq R) {k j : Nat} (hk : k < R.length) (hj : j < H.length) (e : R[k].id = H[j].id) (x : It) : Twin (fixL (H.set j x) j H.length) (insL x (R.eraseIdx k)) := by
  have hx : R[k] = H[j] := hu.same (List.getElem_mem hk) (h.pm.mem_iff.2 (List.getElem_mem hj)) e
  have hl : (H.set j x).length = H.length := List.length_set ..
  have hf : (fixL (H.set j x) j H.length).length = H.length := (fix_perm _ _ _).length_eq.trans hl
  refine ⟨?_, ?_, insL_srt x _ (srt_erase h.st k)⟩
  · rw [hf]
    exact fix_hp (H.set j x) j H.length hj (by omega) (fix_of_hp H j x hj h.hp)
  · have h1 : (H.set j x).Perm (x :: H.eraseIdx j) := perm_set H j hj x
    have h2 : (R.eraseIdx k).Perm (H.eraseIdx j) := by
      have := (perm_at R k hk).trans (h.pm.trans (perm_at H j hj).symm)
      rw [hx] at this
      exact List.Perm.cons_inv this
    exact (insL_perm x _).trans ((h2.cons x).trans (h1.symm.trans (fix_perm _ _ _).symm))
end Go.Proofs.Ytikakdcjbnbacaa
