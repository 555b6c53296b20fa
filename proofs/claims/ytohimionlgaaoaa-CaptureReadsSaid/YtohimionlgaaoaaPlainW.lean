/- What is written is read back: plain Lean, no program in sight. -/
import Derived.Test.YtohimionlgaaoaaN
import Derived.Test.YtohimionlgaaoaaD
namespace Go.Proofs.Ytohimionlgaaoaa
set_option linter.unusedVariables false
theorem num_digs : ∀ (k : Nat) (n : Int), 0 ≤ n → n < 256 ^ k → num (digs k n) = n
  | 0, n, h0, h1 => by
    have : n = 0 := by simp at h1; omega
    subst this; rfl
  | k + 1, n, h0, h1 => by
    show num (digs k (n / 256) ++ [b8 n]) = n
    rw [num_snoc, b8_val, num_digs k (n / 256) (by omega) (by rw [Int.pow_succ] at h1; omega)]
    omega
theorem ofL_numL (sm : Bool) (n : Int) (h0 : 0 ≤ n) (h1 : n ≤ 4294967295) : ofL sm (numL sm 4 n) = n := by
  have h := num_digs 4 n h0 (by simpa using (show n < 4294967296 by omega))
  unfold ofL numL
  cases sm
  · simpa using h
  · simpa using h
/-- Four bytes at a place of joined parts. -/
theorem part_at (a x c : List UInt8) (k m : Nat) (ha : a.length = k) (hx : x.length = m) : ((a ++ (x ++ c)).drop k).take m = x := by
  subst ha hx
  simp
theorem headL_parts (sm na : Bool) (mo li : Int) (t : List UInt8) (hmo : 0 ≤ mo ∧ mo ≤ 4294967295) (hli : 0 ≤ li ∧ li ≤ 4294967295) :
    ofL sm (((headL sm na mo li ++ t).drop 16).take 4) = mo ∧ ofL sm (((headL sm na mo li ++ t).drop 20).take 4) = li ∧ (headL sm na mo li ++ t).take 24 = headL sm na mo li ∧ (headL sm na mo li ++ t).drop 24 = t ∧ (headL sm na mo li).length = 24 := by
  have hl : (headL sm na mo li).length = 24 := headLs_len _ _ _ _
  have e1 : headL sm na mo li ++ t = (numL sm 4 (markI na) ++ (numL sm 2 2 ++ (numL sm 2 4 ++ (numL sm 4 0 ++ numL sm 4 0)))) ++ (numL sm 4 mo ++ (numL sm 4 li ++ t)) := by
    simp [headL, headLs]
  have e2 : headL sm na mo li ++ t = (numL sm 4 (markI na) ++ (numL sm 2 2 ++ (numL sm 2 4 ++ (numL sm 4 0 ++ (numL sm 4 0 ++ numL sm 4 mo))))) ++ (numL sm 4 li ++ t) := by
    simp [headL, headLs]
  refine ⟨?_, ?_, by rw [← hl]; simp, by rw [← hl]; simp, hl⟩
  · rw [e1, part_at _ _ _ 16 4 (by simp [numL_len]) (numL_len _ _ _), ofL_numL sm mo hmo.1 hmo.2]
  · rw [e2, part_at _ _ _ 20 4 (by simp [numL_len]) (numL_len _ _ _), ofL_numL sm li hli.1 hli.2]
theorem mark_inj : ∀ sm na sm' na', numL sm 4 (markI na) = numL sm' 4 (markI na') → sm = sm' ∧ na = na' := by decide +kernel
theorem okF_one (sm na sm' na' : Bool) (b : List UInt8) (h : okF sm na b) (h' : okF sm' na' b) : sm = sm' ∧ na = na' := by
  unfold okF at h h'
  have e : ∀ (s n : Bool) (m l : Int), (headL s n m l).take 4 = numL s 4 (markI n) := fun s n m l => by
    have : headL s n m l = numL s 4 (markI n) ++ (numL s 2 2 ++ (numL s 2 4 ++ (numL s 4 0 ++ (numL s 4 0 ++ (numL s 4 m ++ numL s 4 l))))) := by simp [headL, headLs]
    rw [this, List.take_left' (numL_len _ _ _)]
  have h1 := congrArg (List.take 4) (h.trans h'.symm)
  rw [e, e] at h1
  exact mark_inj _ _ _ _ h1
def Pk.wf (x : Pk) : Prop := (0 ≤ x.se ∧ x.se ≤ 4294967295) ∧ (0 ≤ x.pa ∧ x.pa ≤ 4294967295) ∧ (0 ≤ x.pl ∧ x.pl ≤ 4294967295)
def wrL (sm : Bool) (x : Pk) : List UInt8 := (writeLs sm x.se x.pa x.dl x.pl).flatten
def okB (na : Bool) (mo : Int) (x : Pk) : Bool := rightB na mo x.pa x.pl x.dl.length
theorem wrL_len (sm : Bool) (x : Pk) : (wrL sm x).length = 16 + x.dl.length := by simp [wrL, writeLs, numL_len]; omega
theorem wrL_back (sm na : Bool) (mo : Int) (x : Pk) (t : List UInt8) (hx : x.wf) (h2 : x.dl.length ≤ 2000) (hok : okB na mo x = true) :
    pkOk sm na mo (wrL sm x ++ t) ∧ pkOf sm (wrL sm x ++ t) = x ∧ (wrL sm x ++ t).drop (16 + szP sm (wrL sm x ++ t)) = t := by
  have e0 : wrL sm x ++ t = numL sm 4 x.se ++ (numL sm 4 x.pa ++ (numL sm 4 (x.dl.length : Int) ++ (numL sm 4 x.pl ++ (x.dl ++ t)))) := by simp [wrL, writeLs]
  have d0 : (wrL sm x ++ t).take 4 = numL sm 4 x.se := by rw [e0, List.take_left' (numL_len _ _ _)]
  have d1 : ((wrL sm x ++ t).drop 4).take 4 = numL sm 4 x.pa := by rw [e0, part_at _ _ _ 4 4 (numL_len _ _ _) (numL_len _ _ _)]
  have d2 : ((wrL sm x ++ t).drop 8).take 4 = numL sm 4 (x.dl.length : Int) := by
    rw [e0, show numL sm 4 x.se ++ (numL sm 4 x.pa ++ (numL sm 4 (x.dl.length : Int) ++ (numL sm 4 x.pl ++ (x.dl ++ t)))) = (numL sm 4 x.se ++ numL sm 4 x.pa) ++ (numL sm 4 (x.dl.length : Int) ++ (numL sm 4 x.pl ++ (x.dl ++ t))) by simp, part_at _ _ _ 8 4 (by simp [numL_len]) (numL_len _ _ _)]
  have d3 : ((wrL sm x ++ t).drop 12).take 4 = numL sm 4 x.pl := by
    rw [e0, show numL sm 4 x.se ++ (numL sm 4 x.pa ++ (numL sm 4 (x.dl.length : Int) ++ (numL sm 4 x.pl ++ (x.dl ++ t)))) = (numL sm 4 x.se ++ (numL sm 4 x.pa ++ numL sm 4 (x.dl.length : Int))) ++ (numL sm 4 x.pl ++ (x.dl ++ t)) by simp, part_at _ _ _ 12 4 (by simp [numL_len]) (numL_len _ _ _)]
  have hsz : szP sm (wrL sm x ++ t) = x.dl.length := by
    unfold szP
    rw [d2, ofL_numL sm _ (by omega) (by omega)]
    omega
  have d4 : ((wrL sm x ++ t).drop 16).take (szP sm (wrL sm x ++ t)) = x.dl := by
    rw [hsz, e0, show numL sm 4 x.se ++ (numL sm 4 x.pa ++ (numL sm 4 (x.dl.length : Int) ++ (numL sm 4 x.pl ++ (x.dl ++ t)))) = (numL sm 4 x.se ++ (numL sm 4 x.pa ++ (numL sm 4 (x.dl.length : Int) ++ numL sm 4 x.pl))) ++ (x.dl ++ t) by simp, part_at _ _ _ 16 _ (by simp [numL_len]) rfl]
  have hpk : pkOf sm (wrL sm x ++ t) = x := by
    unfold pkOf
    rw [d0, d1, d3, d4, ofL_numL sm _ hx.1.1 hx.1.2, ofL_numL sm _ hx.2.1.1 hx.2.1.2, ofL_numL sm _ hx.2.2.1 hx.2.2.2]
  refine ⟨⟨?_, ?_, ?_⟩, hpk, ?_⟩
  · rw [List.length_append, wrL_len]; omega
  · rw [List.length_append, wrL_len, hsz]; omega
  · rw [hpk, hsz]; exact hok
  · rw [hsz, ← wrL_len sm x, List.drop_left]
theorem not_pkOk_nil (sm na : Bool) (mo : Int) : ¬ pkOk sm na mo [] := fun h => by have := h.1; simp at this
theorem alls_back (sm na : Bool) (mo : Int) : ∀ K : List Pk, (∀ x ∈ K, x.wf ∧ x.dl.length ≤ 2000 ∧ okB na mo x = true) → alls sm na mo (K.map (wrL sm)).flatten = (K, (K.map (wrL sm)).flatten.length)
  | [], _ => by
    rw [List.map_nil, List.flatten_nil, alls_no _ _ _ _ (not_pkOk_nil _ _ _)]; rfl
  | x :: K, h => by
    obtain ⟨h1, h2, h3⟩ := h x (by simp)
    obtain ⟨a1, a2, a3⟩ := wrL_back sm na mo x (K.map (wrL sm)).flatten h1 h2 h3
    have hsz : szP sm (wrL sm x ++ (K.map (wrL sm)).flatten) = x.dl.length := by
      have := congrArg (fun l => l.length) a3
      simp only [List.length_drop, List.length_append, wrL_len] at this
      have hb := a1.2.1
      simp only [List.length_append, wrL_len] at hb
      omega
    rw [List.map_cons, List.flatten_cons, alls_yes _ _ _ _ a1, a2, a3, alls_back sm na mo K (fun y hy => h y (by simp [hy])), hsz, List.length_append, wrL_len]
end Go.Proofs.Ytohimionlgaaoaa
