/- The reference's list beside the queue. -/
import Derived.Test.YtikakdcjbnbacaaL
namespace Go.Proofs.Ytikakdcjbnbacaa
open Go.RowKit
set_option linter.unusedVariables false
/-- The reference's list: a slice of items somewhere. -/
def RS (w : World) (v : Value) (R : List It) : Prop := ∃ A c, v = .slice A R.length c ∧ R.length ≤ c ∧ c ≤ maxLen ∧ (R = [] ∨ ∃ b off cs, A = some ⟨b, off, none⟩ ∧ Blk w b 44 cs ∧ ElAt w b off 2 (R.map It.cs))
theorem RS.nil (w : World) : RS w (.slice none 0 0) [] := ⟨none, 0, rfl, Nat.le_refl _, by unfold maxLen; omega, .inl rfl⟩
theorem RS.of_row {w : World} {base : Nat} {v : Value} {R : List It} (h : RowN w base 44 2 v (R.map It.cs)) : RS w v R := by
  obtain ⟨A, c, hv, h1, h2⟩ := h.shape
  rw [List.length_map] at hv h1
  refine ⟨A, c, hv, h1, h2, ?_⟩
  by_cases h0 : R = []
  · exact .inl h0
  · obtain ⟨g, c', hv', _, _, hel⟩ := h.at (i := 0) (by simpa using List.length_pos_iff.2 h0)
    obtain ⟨cs, hb⟩ := h.blk (g := g) (by rw [hv']; rfl)
    rw [hv] at hv'
    injection hv' with e1 _ _
    exact .inr ⟨g, 0, cs, e1, hb, hel⟩
theorem RS.onB {w w' : World} {v : Value} {R : List It} (h : RS w v R) (hk : Below w.heap.size w w') : RS w' v R := by
  obtain ⟨A, c, hv, h1, h2, h3⟩ := h
  refine ⟨A, c, hv, h1, h2, ?_⟩
  rcases h3 with h3 | ⟨b, off, cs, e, hb, hel⟩
  · exact .inl h3
  · exact .inr ⟨b, off, cs, e, (hk.block b hb.lt).trans hb, hel.keep fun o => hk.cell (p := ⟨b, o, none⟩) hb.lt⟩
theorem RS.queue {w w' : World} {v q : Value} {R H : List It} {qb base : Nat} (h : RS w v R) (hq : QuS qb base q H w) (hk : Kept (QOwn qb q) w w') : RS w' v R := by
  obtain ⟨A, c, hv, h1, h2, h3⟩ := h
  refine ⟨A, c, hv, h1, h2, ?_⟩
  rcases h3 with h3 | ⟨b, off, cs, e, hb, hel⟩
  · exact .inl h3
  · have hn : ¬ QOwn qb q b := by
      rintro (rfl | h)
      · exact Blk.ne_ hb hq.blk (by decide) rfl
      · exact hq.row.ne hb (by decide) h
    exact .inr ⟨b, off, cs, e, hb.kept hk hn, hel.keep fun o => hk.cell hb.lt hn o⟩
theorem RS.get {w : World} {v : Value} {R : List It} (h : RS w v R) : ∃ A c, v = .slice A R.length c ∧ R.length ≤ c ∧ c ≤ maxLen ∧ ES w w.heap.size A 2 (R.map It.cs) := by
  obtain ⟨A, c, hv, h1, h2, h3⟩ := h
  refine ⟨A, c, hv, h1, h2, ?_⟩
  rcases h3 with rfl | ⟨b, off, cs, e, hb, hel⟩
  · exact .inl rfl
  · exact .inr ⟨b, off, hb.lt, e, hel⟩
theorem RS.head {w : World} {v : Value} {x : It} {R : List It} (h : RS w v (x :: R)) : ∃ b off c, v = .slice (some ⟨b, off, none⟩) (R.length + 1) c ∧ R.length + 1 ≤ c ∧ c ≤ maxLen ∧ b < w.heap.size ∧ w.cell? ⟨b, off, none⟩ = some (.int .u64 x.w) ∧ w.cell? ⟨b, off + 1, none⟩ = some (.int .i64 x.id) ∧
    RS w (.slice (some ⟨b, off + 2, none⟩) R.length (c - 1)) R ∧ (R = [] → RS w (.slice (some ⟨b, off, none⟩) 0 0) R) := by
  obtain ⟨A, c, hv, h1, h2, h3⟩ := h
  rcases h3 with h3 | ⟨b, off, cs, rfl, hb, hel⟩
  · cases h3
  · obtain ⟨c0, c1⟩ := it_cells hel (k := 0) (by simp)
    simp at c0 c1 h1
    refine ⟨b, off, c, by simpa using hv, h1, h2, hb.lt, c0, c1, ⟨_, _, rfl, by omega, by omega, .inr ⟨b, off + 2, cs, rfl, hb, ?_⟩⟩, fun h => ?_⟩
    · have := hel.drop 1 (by simp)
      simpa using this
    · subst h
      exact ⟨_, _, rfl, by simp, by omega, .inl rfl⟩
/-- A queue and the reference's list that hold the same. -/
structure Two (qb base : Nat) (q r : Value) (H R : List It) (w : World) : Prop where
  qu : QuS qb base q H w
  rs : RS w r R
  tw : Twin H R
theorem Two.onB {qb base : Nat} {q r : Value} {H R : List It} {w w' : World} (h : Two qb base q r H R w) (hk : Below w.heap.size w w') : Two qb base q r H R w' := ⟨h.qu.onB hk, h.rs.onB hk, h.tw⟩
theorem lfirst_two (qb base : Nat) (q r : Value) (H R : List It) (w : World) (h : Two qb base q r H R w) (hl : H.length ≤ 10000) :
    Calls Try.prog 20 #[.pointer (some ⟨qb, 0, none⟩), r] w fun e w' => e = .returned (.bool true) ∧ Below w.heap.size w w' := by
  obtain ⟨A, c, rfl, -, -, hE⟩ := h.rs.get
  cases R with
  | nil =>
    obtain rfl : H = [] := List.eq_nil_of_length_eq_zero h.tw.len.symm
    exact lfirst_nil qb base q A c w h.qu
  | cons x R =>
    have hf := h.tw.first
    have hlen := h.tw.len
    cases H with
    | nil => cases hlen
    | cons y T =>
      obtain rfl : y = x := by simpa [ix] using hf
      exact lfirst_any qb base q (y :: T) T R _ y.w y.id A c w rfl hlen.symm hl rfl h.qu hE
theorem Two.popped {qb base : Nat} {q r r' : Value} {H R : List It} {x : It} {n : Nat} {w w' : World} (h : Two qb base q r H (x :: R) w) (hn : H.length = n + 1) (hp : QuP qb base q ((popK H n).take n) w w') (hr : RS w r' R) : ∃ q', Two qb base q' r' ((popK H n).take n) R w' := by
  obtain ⟨q', h1, h2, _⟩ := hp
  exact ⟨q', h1, hr.queue h.qu h2, (h.tw.pop n hn).2⟩
end Go.Proofs.Ytikakdcjbnbacaa
