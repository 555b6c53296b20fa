/- Plain words: how long what is written of a step is. No program in sight. -/
import Derived.Test.YthfdhggcnkgjfaaGreatDoorUE
import Derived.Test.YthfdhggcnkgjfaaGreatDoorUG
import Derived.Test.YthfdhggcnkgjfaaGreatDoorUI
namespace Go.Proofs.YthfdhggcnkgjfaaGreatDoor
set_option linter.unusedVariables false
theorem adrT_len40 (a : Adr) : (adrT a).length ≤ 40 := by
  unfold adrT
  split
  · refine Nat.le_trans (joinC_len_le 58 4 _ (digs_lenB (M := 65536) (by omega) (k := 3) (by decide) _ ?_)) (by simp [grp])
    intro n hn
    exact grp_lt hn
  · refine Nat.le_trans (joinC_len_le 46 3 _ (digs_lenB (M := 256) (by omega) (k := 2) (by decide) _ ?_)) (by simp [by4])
    intro n hn
    unfold by4 at hn
    simp only [List.mem_cons, List.not_mem_nil, or_false] at hn
    omega
theorem textA_len40 (a : Adr) : (textA a).length ≤ 40 := by
  unfold textA
  split
  · exact adrT_len40 a
  · simp
theorem proT_len40 (n : Nat) : (proT n).length ≤ 40 := by
  unfold proT
  repeat' split
  all_goals decide
theorem proR_len40 (n : Nat) : (proR n).length ≤ 40 := by
  unfold proR
  split
  all_goals decide
theorem wayT_len40 (k : Int) : (wayT k).length ≤ 40 := by
  unfold wayT wayN
  repeat' split
  all_goals decide
theorem opG_bound {ta : Adr → List UInt8} {pt : Nat → List UInt8} (hta : ∀ a, (ta a).length ≤ 40) (hpt : ∀ n, (pt n).length ≤ 40) {o : Osp} (hI : OspI o) (hl : o.ms.length ≤ 70) :
    (opG ta pt o).length ≤ 72 ∧ ∀ p ∈ opG ta pt o, p.length ≤ 41 := by
  have h1 := numT_len hI.vip
  have h2 := numT_len hI.backend
  have h3 := numT_len hI.version
  have h4 := numT_lenN (n := o.port) (by have := hI.port; omega)
  have h5 := hta o.a
  have h6 := hpt o.proto
  have h7 := wayT_len40 o.way
  have c1 : backendT.length ≤ 41 := by decide
  have c2 : vipT.length ≤ 41 := by decide
  have c3 : membersT.length ≤ 41 := by decide
  have c4 : retireT.length ≤ 41 := by decide
  have c5 : releaseT.length ≤ 41 := by decide
  have c6 : evictT.length ≤ 41 := by decide
  have c7 : admitT.length ≤ 41 := by decide
  have c8 : rotateT.length ≤ 41 := by decide
  unfold opG
  repeat' split
  all_goals constructor
  all_goals first
    | (simp; done)
    | (simp; omega)
    | (simp only [List.mem_cons, List.mem_append, List.mem_map, List.not_mem_nil, or_false]
       intro p hp
       first
         | (rcases hp with (rfl | rfl) | ⟨q, hq, rfl⟩
            · exact c3
            · omega
            · exact memT_len (hI.ms q hq))
         | (rcases hp with rfl | rfl | rfl | rfl | rfl <;> omega)
         | (rcases hp with rfl | rfl | rfl <;> omega)
         | (rcases hp with rfl | rfl <;> omega)
         | (subst hp; omega))
theorem cmds_small : ∀ c ∈ cmds, c.2.1.length ≤ 300 ∧ c.2.2.length ≤ 6 := by decide
theorem stepG_bound {ta : Adr → List UInt8} (hta : ∀ a, (ta a).length ≤ 40) {s : Sp} (hI : SpI s) (hl : s.load.length ≤ 300) : (stepG ta s).length ≤ 4000 := by
  have h1 := numT_len hI.who
  have h2 := numT_len hI.time
  have h3 := numT_lenN (n := s.flags) (by have := hI.flags; omega)
  have h4 := numT_lenN hI.n
  have h5 := numT_lenN hI.x
  have h6 := numT_lenN hI.y
  have h7 := numT_lenN (n := s.port) (by have := hI.port; omega)
  have h8 := hta s.src
  unfold stepG
  cases hc : cmdK s.kind with
  | none => simp
  | some c =>
    obtain ⟨k, nm, p⟩ := c
    have hm := cmds_small _ (List.mem_of_find?_eq_some hc)
    simp only at hm ⊢
    refine Nat.le_trans (joinC_len_le 32 300 _ ?_) (by simp; omega)
    intro q hq
    rcases List.mem_cons.1 hq with rfl | hq
    · exact hm.1
    · obtain ⟨c, -, rfl⟩ := List.mem_map.1 hq
      unfold wordL
      repeat' split
      all_goals omega
theorem joinC_opG {ta : Adr → List UInt8} {pt : Nat → List UInt8} (hta : ∀ a, (ta a).length ≤ 40) (hpt : ∀ n, (pt n).length ≤ 40) {o : Osp} (hI : OspI o) (hl : o.ms.length ≤ 70) :
    (joinC 32 (opG ta pt o)).length ≤ 100000 ∧ (joinC 32 (issueT :: opG ta pt o)).length ≤ 4000 := by
  have h := opG_bound hta hpt hI hl
  refine ⟨Nat.le_trans (joinC_len_le 32 41 _ h.2) (by omega), Nat.le_trans (joinC_len_le 32 41 _ ?_) (by rw [List.length_cons]; omega)⟩
  intro p hp
  rcases List.mem_cons.1 hp with rfl | hp
  · decide
  · exact h.2 p hp
theorem writeP_len {s : Sp} (hI : SpI s) (hl : s.load.length ≤ 300) (hm : s.op.ms.length ≤ 70) : (writeP s).length ≤ 4000 := by
  unfold writeP
  repeat' split
  · exact (joinC_opG textA_len40 proT_len40 hI.op hm).2
  · simp
  · exact stepG_bound textA_len40 hI hl
theorem writeR_len {s : Sp} (hI : SpI s) (hl : s.load.length ≤ 300) (hm : s.op.ms.length ≤ 70) : (writeR s).length ≤ 4000 := by
  unfold writeR
  split
  · exact (joinC_opG adrT_len40 proR_len40 hI.op hm).2
  · exact stepG_bound adrT_len40 hI hl
/-- A line is not empty. -/
theorem lineP_ne {s : Sp} (h : lineP (writeP s) = some s) : writeP s ≠ [] := by
  intro e
  rw [e] at h
  exact absurd h (by rw [show lineP [] = none by kernel_rfl]; simp)
/-- Nothing is written of a step just if the document does not fit it. -/
theorem writeW_nil {s : Sp} (h : writeW s = []) : fitsB s = false := by
  cases hf : fitsB s with
  | false => rfl
  | true =>
    unfold fitsB at hf
    have h2 := (sameO_iff _ _).1 (Bool.and_eq_true_iff.1 hf).2
    have h3 := (fits_iff s).2 h2
    unfold writeW at h
    rw [h3, if_pos ((sameO_iff _ _).2 rfl)] at h
    exact absurd h (lineP_ne h3)
/-- What is written of a step is a line that says it. -/
theorem writeW_some {s : Sp} (h : writeW s ≠ []) : lineP (writeP s) = some s ∧ writeW s = writeP s := by
  unfold writeW at h ⊢
  by_cases hs : sameO (lineP (writeP s)) s = true
  · rw [if_pos hs]
    exact ⟨(sameO_iff _ _).1 hs, rfl⟩
  · rw [if_neg hs] at h
    exact absurd rfl h
theorem writeW_fits {s : Sp} (h : lineP (writeP s) = some s) : fitsB s = true ∧ writeR s = writeP s := by
  have hb := (line_back h).2
  have h2 := (fits_iff s).1 h
  have hr : rangeB s = true := by
    unfold rangeB
    rw [decide_eq_true_iff]
    have ho : 0 ≤ s.op.vip ∧ 0 ≤ s.op.backend ∧ 0 ≤ s.op.version ∧ 0 ≤ s.op.way ∧ s.op.way ≤ 4 := by
      by_cases hk : s.kind = 0
      · have q := hb.op hk
        exact ⟨q.vip, q.backend, q.version, q.way.1, q.way.2⟩
      · rw [hb.op0 hk]; decide
    exact ⟨hb.kind.1, hb.kind.2, hb.who, hb.time, ho.1, ho.2.1, ho.2.2.1, ho.2.2.2.1, ho.2.2.2.2⟩
  have hm : memB s = true := by
    unfold memB
    rw [List.all_eq_true]
    intro m hm
    rw [decide_eq_true_iff]
    by_cases hk : s.kind = 0
    · exact (hb.op hk).ms m hm
    · rw [hb.op0 hk] at hm; cases hm
  refine ⟨?_, writeR_eq hb⟩
  unfold fitsB
  rw [hr, hm, (sameO_iff _ _).2 h2]
  rfl
end Go.Proofs.YthfdhggcnkgjfaaGreatDoor
