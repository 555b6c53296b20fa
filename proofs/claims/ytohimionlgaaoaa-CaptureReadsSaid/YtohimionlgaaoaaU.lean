/- What the law CaptureReads calls, in the words that its walk wants. -/
import Derived.Test.YtohimionlgaaoaaS
import Derived.Test.YtohimionlgaaoaaT
import Derived.Lib.MinMax
namespace Go.Proofs.Ytohimionlgaaoaa
open Go.RowKit
set_option linter.unusedVariables false
/-- Packets in a row of the call's own, with bytes somewhere. -/
def PksW (w : World) (base : Nat) (v : Value) (ps : List Pk) : Prop := ∃ L : List PkV, L.map (·.pk) = ps ∧ RowN w base 27 4 v (L.map PkV.cs) ∧ ∀ p ∈ L, BS w w.heap.size p.DA p.pk.dl
theorem PksW.on {w w' : World} {base : Nat} {v : Value} {ps : List Pk} (h : PksW w base v ps) (hk : Kept (fun _ => False) w w') : PksW w' base v ps := by
  obtain ⟨L, h1, h2, h3⟩ := h
  exact ⟨L, h1, h2.kept hk (fun _ _ h => h), fun p hp => (h3 p hp).on hk (fun _ _ h => h)⟩
theorem PksW.more {w : World} {base base' : Nat} {v : Value} {ps : List Pk} (h : PksW w base v ps) (hb : base' ≤ base) : PksW w base' v ps := by
  obtain ⟨L, h1, h2, h3⟩ := h
  exact ⟨L, h1, h2.more hb, h3⟩
theorem PksW.shape {w : World} {base : Nat} {v : Value} {ps : List Pk} (h : PksW w base v ps) : ∃ A c, v = .slice A ps.length c ∧ ps.length ≤ c ∧ c ≤ maxLen := by
  obtain ⟨L, rfl, h2, -⟩ := h
  obtain ⟨A, c, e, h3, h4⟩ := h2.shape
  rw [List.length_map] at e h3
  exact ⟨A, c, by rw [e, List.length_map], by rw [List.length_map]; exact h3, h4⟩
theorem PksO.on {w w' : World} {base : Nat} {v : Value} {ps : List Pk} (h : PksO w base v ps) (hk : Kept (fun _ => False) w w') : PksO w' base v ps := h.kept hk (fun _ h => h.elim)
theorem PksO.more {w : World} {base base' : Nat} {v : Value} {ps : List Pk} (h : PksO w base v ps) (hb : base' ≤ base) : PksO w base' v ps := by
  obtain ⟨L, h1, h2, h3⟩ := h
  exact ⟨L, h1, h2.more hb, fun p hp => (h3 p hp).more hb⟩
theorem PksO.shape {w : World} {base : Nat} {v : Value} {ps : List Pk} (h : PksO w base v ps) : ∃ A c, v = .slice A ps.length c ∧ ps.length ≤ c ∧ c ≤ maxLen := by
  obtain ⟨L, rfl, h2, -⟩ := h
  obtain ⟨A, c, e, h3, h4⟩ := h2.shape
  rw [List.length_map] at e h3
  exact ⟨A, c, by rw [e, List.length_map], by rw [List.length_map]; exact h3, h4⟩
theorem alls_len (sm na : Bool) (mo : Int) (b : List UInt8) : (alls sm na mo b).1.length * 16 ≤ b.length := by
  have := sumP_len (alls sm na mo b).1
  have := (alls_sum sm na mo b).1
  have := (alls_sum sm na mo b).2
  omega
theorem refAllW (sm na : Bool) (mo li : Int) (A : Option Addr) (c : Nat) (b : List UInt8) (w : World) (hmo : 0 ≤ mo ∧ mo ≤ 4294967295) (hli : 0 ≤ li ∧ li ≤ 4294967295) (hl : b.length ≤ 100000) (hc : b.length ≤ c) (hcm : c ≤ maxLen) (hB : BS w w.heap.size A b) :
    Calls Try.prog 17 #[.agg #[.bool sm, .bool na, .int .u32 mo, .int .u32 li], .slice A b.length c] w fun e w' => ∃ v, e = .returned (.tuple #[v, .int .i64 ((alls sm na mo b).2 : Int)]) ∧ PksW w' w.heap.size v (alls sm na mo b).1 ∧ Below w.heap.size w w' := by
  refine (refAll_any sm na mo li A c b w hmo hli hl hc hcm hB).mono ?_
  rintro e w' ⟨⟨v, rfl, L, h1, h2, h3⟩, hb⟩
  exact ⟨v, rfl, ⟨L, h1, h2, fun p hp => (h3 p hp).2.2.more hb.size⟩, hb⟩
theorem same_rt {w : World} {base base' j n c : Nat} {v : Value} {C : Option Addr} {ps qs : List Pk} (hP : PksO w base v ps) (hQ : PksW w base' (.slice C n c) qs) (hj : j ≤ qs.length) (l1 : ps.length ≤ 100000) (l2 : qs.length ≤ 100000) :
    Calls Try.prog 18 #[v, .slice C j c] w fun e w' => e = .returned (.bool (decide (ps = qs.take j))) ∧ Kept (fun _ => False) w w' := by
  obtain ⟨L, rfl, h2, h3⟩ := hP
  obtain ⟨M, rfl, h5, h6⟩ := hQ
  obtain ⟨A, a, e1, -, -, hE⟩ := h2.es
  obtain ⟨C', c', e2, -, -, hF⟩ := h5.es
  injection e2 with e3 e4 e5
  subst e3 e1
  rw [List.length_map] at hj l1 l2 ⊢
  have hF' : ES w w.heap.size C 4 ((M.take j).map PkV.cs) := by
    rcases hF with h | ⟨b, off, hb, h1, h4⟩
    · have : M = [] := by simpa using h
      subst this
      exact .inl (by simp)
    · exact .inr ⟨b, off, hb, h1, by rw [List.map_take]; exact h4.take j⟩
  have hz := samePk_any A C a c L (M.take j) w l1 (by rw [List.length_take]; omega) hE hF' (fun p hp => by
    obtain ⟨A', c', e, -, -, h⟩ := (h3 p hp).byt
    cases e; exact h) (fun p hp => h6 p (List.mem_of_mem_take hp))
  rw [List.length_take, Nat.min_eq_left hj] at hz
  rw [List.map_take] at hz
  exact hz
theorem okF_len {sm na : Bool} {b : List UInt8} (h : okF sm na b) : 24 ≤ b.length := by
  have := congrArg List.length h
  rw [show (headL sm na (ofL sm ((b.drop 16).take 4)) (ofL sm ((b.drop 20).take 4))).length = 24 from headLs_len _ _ _ _, List.length_take] at this
  omega
/-- The error of bytes that begin with no head. -/
def errOf (b : List UInt8) : Int := if b.length < 24 then 20 else 21
def noF (b : List UInt8) : Prop := ∀ sm na, ¬ okF sm na b
section
variable (A : Option Addr) (c : Nat) (b : List UInt8) (w : World) (hl : b.length ≤ 100000) (hc : b.length ≤ c) (hcm : c ≤ maxLen) (hB : BS w w.heap.size A b)
include hl hc hcm hB
theorem open_no (hno : noF b) : Calls Try.prog 15 #[.slice A b.length c] w fun e w' => e = .returned (.tuple #[.agg #[.bool false, .bool false, .int .u32 0, .int .u32 0], .slice none 0 0, .int .i64 (errOf b)]) ∧ Below w.heap.size w w' := by
  refine (openC_any A c b w hl hc hcm hB).mono ?_
  rintro e w' ⟨h, hb⟩
  refine ⟨?_, hb⟩
  rcases h with ⟨h1, rfl⟩ | ⟨sm, na, h, -⟩ | ⟨h1, -, rfl⟩
  · rw [errOf, if_pos h1]
  · exact (hno _ _ h).elim
  · rw [errOf, if_neg (by omega)]
theorem refOpen_no (hno : noF b) : Calls Try.prog 16 #[.slice A b.length c] w fun e w' => e = .returned (.tuple #[.agg #[.bool false, .bool false, .int .u32 0, .int .u32 0], .int .i64 (errOf b)]) ∧ Below w.heap.size w w' := by
  refine (refOpen_any A c b w hl hc hcm hB).mono ?_
  rintro e w' ⟨h, hb⟩
  refine ⟨?_, hb⟩
  rcases h with ⟨h1, rfl⟩ | ⟨sm, na, h, -⟩ | ⟨h1, -, rfl⟩
  · rw [errOf, if_pos h1]
  · exact (hno _ _ h).elim
  · rw [errOf, if_neg (by omega)]
theorem read_no (hno : noF b) : Calls Try.prog 20 #[.slice A b.length c] w fun e w' => e = .returned (.tuple #[.agg #[.bool false, .bool false, .int .u32 0, .int .u32 0], .slice none 0 0, .int .i64 (errOf b)]) ∧ Below w.heap.size w w' := by
  refine (readC_any A c b w hl hc hcm hB).mono ?_
  rintro e w' ⟨h, hb⟩
  refine ⟨?_, hb⟩
  rcases h with ⟨er, rfl, h⟩ | ⟨sm, na, h, -⟩
  · rcases h with ⟨h1, rfl⟩ | ⟨h1, -, rfl⟩ | ⟨sm, na, h, -⟩
    · rw [errOf, if_pos h1]
    · rw [errOf, if_neg (by omega)]
    · exact (hno _ _ h).elim
  · exact (hno _ _ h).elim
variable {sm na : Bool} {mo li : Int} (hok : okF sm na b) (hmo : ofL sm ((b.drop 16).take 4) = mo) (hli : ofL sm ((b.drop 20).take 4) = li)
include hok hmo hli
theorem open_yes : Calls Try.prog 15 #[.slice A b.length c] w fun e w' => ∃ v, e = .returned (.tuple #[.agg #[.bool sm, .bool na, .int .u32 mo, .int .u32 li], v, .int .i64 0]) ∧ Row w' w.heap.size 5 v (bcs (b.drop 24)) ∧ Below w.heap.size w w' := by
  have h24 := okF_len hok
  refine (openC_any A c b w hl hc hcm hB).mono ?_
  rintro e w' ⟨h, hb⟩
  rcases h with ⟨h1, rfl⟩ | ⟨sm', na', h, v, rfl, hv⟩ | ⟨h1, h, rfl⟩
  · omega
  · obtain ⟨rfl, rfl⟩ := okF_one _ _ _ _ _ hok h
    rw [hmo, hli]
    exact ⟨v, rfl, hv, hb⟩
  · exact (h _ _ hok).elim
theorem refOpen_yes : Calls Try.prog 16 #[.slice A b.length c] w fun e w' => e = .returned (.tuple #[.agg #[.bool sm, .bool na, .int .u32 mo, .int .u32 li], .int .i64 0]) ∧ Below w.heap.size w w' := by
  have h24 := okF_len hok
  refine (refOpen_any A c b w hl hc hcm hB).mono ?_
  rintro e w' ⟨h, hb⟩
  rcases h with ⟨h1, rfl⟩ | ⟨sm', na', h, rfl⟩ | ⟨h1, h, rfl⟩
  · omega
  · obtain ⟨rfl, rfl⟩ := okF_one _ _ _ _ _ hok h
    rw [hmo, hli]
    exact ⟨rfl, hb⟩
  · exact (h _ _ hok).elim
theorem read_all (hq : (alls sm na mo (b.drop 24)).2 = b.length - 24) : Calls Try.prog 20 #[.slice A b.length c] w fun e w' => ∃ v, e = .returned (.tuple #[.agg #[.bool sm, .bool na, .int .u32 mo, .int .u32 li], v, .int .i64 0]) ∧ PksO w' w.heap.size v (alls sm na mo (b.drop 24)).1 ∧ Below w.heap.size w w' := by
  have h24 := okF_len hok
  refine (readC_any A c b w hl hc hcm hB).mono ?_
  rintro e w' ⟨h, hb⟩
  rcases h with ⟨er, rfl, h⟩ | ⟨sm', na', h, hq', v, rfl, hv⟩
  · exfalso
    rcases h with ⟨h1, rfl⟩ | ⟨h1, h, rfl⟩ | ⟨sm', na', h, hq', -⟩
    · omega
    · exact h _ _ hok
    · obtain ⟨rfl, rfl⟩ := okF_one _ _ _ _ _ hok h
      rw [hmo] at hq'
      exact hq' hq
  · obtain ⟨rfl, rfl⟩ := okF_one _ _ _ _ _ hok h
    rw [hmo] at hv
    rw [hmo, hli]
    exact ⟨v, rfl, hv, hb⟩
theorem read_part (hq : (alls sm na mo (b.drop 24)).2 ≠ b.length - 24) : Calls Try.prog 20 #[.slice A b.length c] w fun e w' => e = .returned (.tuple #[.agg #[.bool false, .bool false, .int .u32 0, .int .u32 0], .slice none 0 0, .int .i64 21]) ∧ Below w.heap.size w w' := by
  have h24 := okF_len hok
  have _ := hli
  refine (readC_any A c b w hl hc hcm hB).mono ?_
  rintro e w' ⟨h, hb⟩
  refine ⟨?_, hb⟩
  rcases h with ⟨er, rfl, h⟩ | ⟨sm', na', h, hq', v, rfl, hv⟩
  · rcases h with ⟨h1, rfl⟩ | ⟨h1, h, rfl⟩ | ⟨sm', na', h, hq', rfl⟩
    · omega
    · exact (h _ _ hok).elim
    · rfl
  · obtain ⟨rfl, rfl⟩ := okF_one _ _ _ _ _ hok h
    rw [hmo] at hq'
    exact (hq hq').elim
end
end Go.Proofs.Ytohimionlgaaoaa
