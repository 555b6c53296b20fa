/- Plain words: candidates that weigh something, and what they are owed. -/
import Derived.Test.YtikakdcjbnbacaaCdCs
import Derived.Test.YtikakdcjbnbacaaRowN
import Derived.Deep.OwnRows
namespace Go.Proofs.Ytikakdcjbnbacaa
open Go.RowKit
set_option linter.unusedVariables false

structure Sh where
  backend : Int
  weight : Int
  credit : Int
def Sh.cs (s : Sh) : List Value := [.int .i64 s.backend, .int .i64 s.weight, .int .i64 s.credit]
theorem Sh.cs_len (s : Sh) : s.cs.length = 3 := rfl
theorem Cd.cs_len (c : Cd) : c.cs.length = 4 := rfl
def heavy (l : List Cd) : List Cd := l.filter fun c => decide (0 < c.weight)
theorem heavy_snoc (l : List Cd) (k : Nat) (h : k < l.length) : heavy (l.take (k + 1)) = heavy (l.take k) ++ (if 0 < l[k].weight then [l[k]] else []) := by
  unfold heavy
  rw [List.take_succ_eq_append_getElem h, List.filter_append]
  congr 1
  by_cases hw : 0 < l[k].weight <;> simp [hw]
theorem heavy_len (l : List Cd) : (heavy l).length ≤ l.length := List.length_filter_le _ _
theorem heavy_pos (l : List Cd) (c : Cd) (h : c ∈ heavy l) : c ∈ l ∧ 0 < c.weight := by
  unfold heavy at h; rw [List.mem_filter] at h; simpa using h
def freshS (h : List Cd) : List Sh := h.map fun c => ⟨c.backend, c.weight, 0⟩
def knowsB (S : List Sh) (h : List Cd) : Bool := decide (S.map (fun s => (s.backend, s.weight)) = h.map (fun c => (c.backend, c.weight)))
theorem knows_len (S : List Sh) (h : List Cd) (hl : S.length ≠ h.length) : knowsB S h = false := by
  unfold knowsB; rw [decide_eq_false_iff_not]; intro e; have := congrArg List.length e; simp at this; exact hl this
theorem knows_not (S : List Sh) (h : List Cd) (k : Nat) (h1 : k < S.length) (h2 : k < h.length) (hne : S[k].backend ≠ h[k].backend ∨ S[k].weight ≠ h[k].weight) : knowsB S h = false := by
  unfold knowsB; rw [decide_eq_false_iff_not]; intro e
  have : (S.map (fun s => (s.backend, s.weight)))[k]? = (h.map (fun c => (c.backend, c.weight)))[k]? := by rw [e]
  simp [h1, h2] at this
  rcases hne with hne | hne
  · exact hne this.1
  · exact hne this.2
theorem knows_all (S : List Sh) (h : List Cd) (hl : S.length = h.length) (ha : ∀ k (h1 : k < S.length) (h2 : k < h.length), S[k].backend = h[k].backend ∧ S[k].weight = h[k].weight) : knowsB S h = true := by
  unfold knowsB; rw [decide_eq_true_eq]
  apply List.ext_getElem
  · simpa using hl
  · intro k h1 h2
    have := ha k (by simpa using h1) (by simpa using h2)
    simp [this.1, this.2]
theorem knows_at {S : List Sh} {h : List Cd} (hk : knowsB S h = true) : S.length = h.length ∧ ∀ k (h1 : k < S.length) (h2 : k < h.length), S[k].backend = h[k].backend ∧ S[k].weight = h[k].weight := by
  unfold knowsB at hk; rw [decide_eq_true_eq] at hk
  refine ⟨by simpa using congrArg List.length hk, fun k h1 h2 => ?_⟩
  have : (S.map (fun s => (s.backend, s.weight)))[k]? = (h.map (fun c => (c.backend, c.weight)))[k]? := by rw [hk]
  simpa [h1, h2] using this
def baseS (S : List Sh) (h : List Cd) : List Sh := if knowsB S h = true then S else freshS h
theorem baseS_len (S : List Sh) (h : List Cd) : (baseS S h).length = h.length := by
  unfold baseS; split
  · rename_i hk; exact (knows_at hk).1
  · simp [freshS]
theorem baseS_at (S : List Sh) (h : List Cd) (k : Nat) (hk : k < (baseS S h).length) (hk' : k < h.length) : (baseS S h)[k].weight = h[k].weight ∧ (baseS S h)[k].backend = h[k].backend := by
  by_cases hb : knowsB S h = true
  · have hl := (knows_at hb).1
    have := (knows_at hb).2 k (by omega) hk'
    have e : baseS S h = S := by unfold baseS; rw [if_pos hb]
    simp only [e]
    exact ⟨this.2, this.1⟩
  · have e : baseS S h = freshS h := by unfold baseS; rw [if_neg hb]
    simp only [e]
    simp [freshS]
theorem baseS_credit (S : List Sh) (h : List Cd) (B : Int) (hB : ∀ s ∈ S, -B ≤ s.credit ∧ s.credit ≤ B) (b0 : 0 ≤ B) : ∀ s ∈ baseS S h, -B ≤ s.credit ∧ s.credit ≤ B := by
  unfold baseS; split
  · exact hB
  · intro s hs
    obtain ⟨c, _, rfl⟩ := List.mem_map.1 hs
    simp; omega
def addS (s : Sh) : Sh := ⟨s.backend, s.weight, s.credit + s.weight⟩
def crd (S : List Sh) (i : Nat) : Int := (S.getD i ⟨0, 0, 0⟩).credit
theorem crd_at (S : List Sh) (i : Nat) (h : i < S.length) : crd S i = S[i].credit := by unfold crd; simp [List.getD_eq_getElem?_getD, h]
def bestTo (f : Nat → Int) : Nat → Nat
  | 0 => 0
  | k + 1 => if f (bestTo f k) < f k then k else bestTo f k
theorem bestTo_lt (f : Nat → Int) (k : Nat) (h : 0 < k) : bestTo f k < k := by
  induction k with
  | zero => omega
  | succ k ih =>
    rw [bestTo]; split
    · omega
    · rcases Nat.eq_zero_or_pos k with rfl | hp
      · simp [bestTo]
      · have := ih hp; omega
theorem bestTo_le (f : Nat → Int) (k : Nat) : bestTo f k ≤ k := by
  rcases Nat.eq_zero_or_pos k with rfl | hp
  · simp [bestTo]
  · exact Nat.le_of_lt (bestTo_lt f k hp)
theorem bestTo_max (f : Nat → Int) (k : Nat) : ∀ i, i < k → f i ≤ f (bestTo f k) := by
  induction k with
  | zero => intro i hi; omega
  | succ k ih =>
    intro i hi
    rw [bestTo]
    rcases Nat.lt_succ_iff_lt_or_eq.1 hi with h | rfl
    · have := ih i h; split <;> omega
    · split <;> omega
theorem bestTo_congr (f g : Nat → Int) (k : Nat) (h : ∀ i, i < k → f i = g i) : bestTo f k = bestTo g k := by
  induction k with
  | zero => rfl
  | succ k ih =>
    have ih' := ih (fun i hi => h i (by omega))
    rw [bestTo, bestTo, ih', h k (by omega)]
    rcases Nat.eq_zero_or_pos k with rfl | hp
    · simp only [bestTo]; exact (ite_self _).trans (ite_self _).symm
    · rw [h (bestTo g k) (by have := bestTo_lt g k hp; omega)]
def totTo (S : List Sh) (k : Nat) : Int := ((S.take k).map (·.weight)).sum
theorem totTo_succ (S : List Sh) (k : Nat) (h : k < S.length) : totTo S (k + 1) = totTo S k + S[k].weight := by
  unfold totTo; rw [List.take_succ_eq_append_getElem h]; simp only [List.map_append, List.sum_append, List.map_cons, List.map_nil, List.sum_cons, List.sum_nil]; omega
theorem totTo_range (S : List Sh) (k : Nat) (h : ∀ s ∈ S, 0 ≤ s.weight ∧ s.weight ≤ 100) (hk : k ≤ S.length) : 0 ≤ totTo S k ∧ totTo S k ≤ 100 * k := by
  induction k with
  | zero => simp [totTo]
  | succ k ih =>
    rw [totTo_succ S k (by omega)]
    have := ih (by omega)
    have := h S[k] (List.getElem_mem _)
    omega
/-- The shares, those before k with what they weigh added. -/
def midS (S : List Sh) (k : Nat) : List Sh := (S.map addS).take k ++ S.drop k
theorem midS_len (S : List Sh) (k : Nat) : (midS S k).length = S.length := by simp [midS]; omega
theorem midS_zero (S : List Sh) : midS S 0 = S := by simp [midS]
theorem midS_end (S : List Sh) : midS S S.length = S.map addS := by simp [midS, List.take_of_length_le]
theorem midS_at (S : List Sh) (k i : Nat) (h : i < S.length) : (midS S k)[i]'(by rw [midS_len]; exact h) = if i < k then addS S[i] else S[i] := by
  unfold midS
  by_cases hi : i < k
  · rw [List.getElem_append_left (by simp; omega), if_pos hi]; simp
  · rw [List.getElem_append_right (by simp; omega), if_neg hi]
    simp only [List.length_take, List.length_map, List.getElem_drop]
    congr 1
    omega
theorem midS_step (S : List Sh) (k : Nat) (h : k < S.length) : (midS S k).set k (addS S[k]) = midS S (k + 1) := by
  apply List.ext_getElem
  · simp [midS_len]
  · intro i h1 h2
    have hi : i < S.length := by simpa [midS_len] using h2
    rw [midS_at S (k + 1) i hi, List.getElem_set]
    by_cases e : k = i
    · subst e; rw [if_pos rfl, if_pos (by omega)]
    · rw [if_neg e, midS_at S k i hi]
      by_cases hik : i < k
      · rw [if_pos hik, if_pos (by omega)]
      · rw [if_neg hik, if_neg (by omega)]
theorem midS_crd (S : List Sh) (k i : Nat) (h : i < S.length) (hk : i < k) : crd (midS S k) i = crd (S.map addS) i := by
  rw [crd_at _ _ (by rw [midS_len]; exact h), midS_at S k i h, if_pos hk, crd_at _ _ (by simpa using h)]; simp
def stepB (S : List Sh) : Nat := bestTo (crd (S.map addS)) S.length
def subS (s : Sh) (t : Int) : Sh := ⟨s.backend, s.weight, s.credit - t⟩
def stepS (S : List Sh) : List Sh := (S.map addS).set (stepB S) (subS ((S.map addS).getD (stepB S) ⟨0, 0, 0⟩) (totTo S S.length))
theorem stepB_lt (S : List Sh) (h : 0 < S.length) : stepB S < S.length := bestTo_lt _ _ h
theorem stepS_len (S : List Sh) : (stepS S).length = S.length := by simp [stepS]
theorem sh_set {S : List Sh} (k : Nat) (hk : k < S.length) (x : Int) : (S.map Sh.cs).set k (((S.map Sh.cs)[k]'(by simpa using hk)).set 2 (.int .i64 x)) = (S.set k ⟨S[k].backend, S[k].weight, x⟩).map Sh.cs := by
  rw [List.map_set]; simp [Sh.cs]
theorem sh_set0 {S : List Sh} (k : Nat) (hk : k < S.length) (a b c : Int) : (((S.map Sh.cs).set k (((S.map Sh.cs)[k]'(by simpa using hk)).set 0 (.int .i64 a))).set k (((((S.map Sh.cs)[k]'(by simpa using hk)).set 0 (.int .i64 a)).set 1 (.int .i64 b)))).set k ((((((S.map Sh.cs)[k]'(by simpa using hk)).set 0 (.int .i64 a)).set 1 (.int .i64 b)).set 2 (.int .i64 c))) = (S.set k ⟨a, b, c⟩).map Sh.cs := by
  rw [List.map_set, List.set_set, List.set_set]; simp [Sh.cs]
theorem stepS_is (S : List Sh) (B : Nat) (hB : stepB S = B) (hlt : B < S.length) : stepS S = (S.map addS).set B ⟨((S.map addS)[B]'(by simpa using hlt)).backend, ((S.map addS)[B]'(by simpa using hlt)).weight, crd (S.map addS) B - totTo S S.length⟩ := by
  unfold stepS
  rw [hB, crd_at _ _ (by simpa using hlt)]
  congr 1
  simp [subS, List.getD_eq_getElem?_getD, hlt]
theorem stepS_credit (S : List Sh) (B : Int) (hB : ∀ s ∈ S, -B ≤ s.credit ∧ s.credit ≤ B) (hw : ∀ s ∈ S, 0 ≤ s.weight ∧ s.weight ≤ 100) (hl : S.length ≤ 30) (b0 : 0 ≤ B) : ∀ s ∈ stepS S, -(B + 3100) ≤ s.credit ∧ s.credit ≤ B + 3100 := by
  have ht := totTo_range S S.length hw (Nat.le_refl _)
  have h1 : ∀ s ∈ S.map addS, -(B + 100) ≤ s.credit ∧ s.credit ≤ B + 100 := by
    intro s hs
    obtain ⟨x, hx, rfl⟩ := List.mem_map.1 hs
    have := hB x hx; have := hw x hx
    simp [addS]; omega
  intro s hs
  unfold stepS at hs
  rcases List.mem_or_eq_of_mem_set hs with hs | rfl
  · have := h1 s hs; omega
  · simp only [subS]
    have : -(B + 100) ≤ ((S.map addS).getD (stepB S) ⟨0, 0, 0⟩).credit ∧ ((S.map addS).getD (stepB S) ⟨0, 0, 0⟩).credit ≤ B + 100 := by
      rw [List.getD_eq_getElem?_getD]
      cases hg : (S.map addS)[stepB S]? with
      | none => simp; omega
      | some y => simp only [Option.getD_some]; exact h1 y (List.mem_of_getElem? hg)
    omega
/-- The cells of an element. -/
theorem cd_cells {w : World} {b off k : Nat} {l : List Cd} (h : ElAt w b off 4 (l.map Cd.cs)) (hk : k < l.length) :
    w.cell? ⟨b, off + k * 4, none⟩ = some (.int .i64 l[k].slot) ∧ w.cell? ⟨b, off + k * 4 + 1, none⟩ = some (.int .i64 l[k].backend) ∧ w.cell? ⟨b, off + k * 4 + 2, none⟩ = some (.int .i64 l[k].weight) ∧ w.cell? ⟨b, off + k * 4 + 3, none⟩ = some (.int .u32 l[k].load) := by
  have hk' : k < (l.map Cd.cs).length := by simpa using hk
  have a0 := h.get0 hk' (by omega)
  have a1 := h.get hk' 1 (by omega)
  have a2 := h.get hk' 2 (by omega)
  have a3 := h.get hk' 3 (by omega)
  simp only [List.getElem_map, Cd.cs] at a0 a1 a2 a3
  exact ⟨a0, a1, a2, a3⟩
theorem sh_cells {w : World} {b off k : Nat} {S : List Sh} (h : ElAt w b off 3 (S.map Sh.cs)) (hk : k < S.length) :
    w.cell? ⟨b, off + k * 3, none⟩ = some (.int .i64 S[k].backend) ∧ w.cell? ⟨b, off + k * 3 + 1, none⟩ = some (.int .i64 S[k].weight) ∧ w.cell? ⟨b, off + k * 3 + 2, none⟩ = some (.int .i64 S[k].credit) := by
  have hk' : k < (S.map Sh.cs).length := by simpa using hk
  have a0 := h.get0 hk' (by omega)
  have a1 := h.get hk' 1 (by omega)
  have a2 := h.get hk' 2 (by omega)
  simp only [List.getElem_map, Sh.cs] at a0 a1 a2
  exact ⟨a0, a1, a2⟩
theorem cd_one (c : Cd) : ∀ u ∈ [c.cs].flatten, u.oneCell' = true := by intro u hu; simp [Cd.cs] at hu; rcases hu with rfl | rfl | rfl | rfl <;> rfl
theorem made_rows {zs : Array Value} {n sz : Nat} (hz : zs.size = sz) (h0 : 0 < sz) : (madeCells zs (n * sz)).toList = (List.replicate n zs.toList).flatten := by
  have hL : ∀ x ∈ List.replicate n zs.toList, x.length = sz := fun x hx => by rw [List.eq_of_mem_replicate hx]; simpa using hz
  apply List.ext_getElem?
  intro i
  rcases Nat.lt_or_ge i (n * sz) with hi | hi
  · have hd : i / sz < n := by rw [Nat.div_lt_iff_lt_mul h0]; exact hi
    have hm := Nat.mod_lt i h0
    have e := flat_get hL (i / sz) (by simpa using hd) (i % sz) hm
    rw [Nat.mul_comm, Nat.div_add_mod] at e
    rw [e]
    simp [madeCells, hi, hz, hm]
  · rw [List.getElem?_eq_none (by simp [size_madeCells]; exact hi), List.getElem?_eq_none (by rw [flat_len hL]; simpa using hi)]
theorem run_make_rowN {P : Program} (t e : TypeId) (z : Value) (sz bytes : Nat) (ht : P.underlying t = some (.slice e)) (hinfo : (P.info? e).map (fun i => (i.zero, i.size, i.bytes)) = some (some z, sz, bytes))
    (kl kc : IntKind) (n : Nat) (hbytes : bytes * n ≤ 281474976710656) (h63 : n ≤ 9223372036854775807) (w : World) :
    (Instr.makeSlice t (.int kl (n : Int)) (.int kc (n : Int))).run P w = .ok (.slice (some ⟨w.heap.size, 0, none⟩) n n) (w.alloc (.cells (madeCells z.cells (n * sz)) e)) := by
  obtain ⟨i, hi, hzz⟩ := Option.map_eq_some_iff.1 hinfo
  injection hzz with hz hzz
  injection hzz with hz1 hz2
  subst hz1 hz2
  have hb' : (i.bytes : Int) * (n : Int) ≤ 281474976710656 := by
    have h : ((i.bytes * n : Nat) : Int) ≤ 281474976710656 := by omega
    rwa [Int.natCast_mul] at h
  have hr := run_make (P := P) w t e i z ht hi hz kl kc n n (by omega) (Int.le_refl _) hb' (by omega)
  simp only [Int.toNat_natCast] at hr
  exact hr
end Go.Proofs.Ytikakdcjbnbacaa
