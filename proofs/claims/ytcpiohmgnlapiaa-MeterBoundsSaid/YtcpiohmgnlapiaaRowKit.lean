/- The rows' common part for layer 43: an argument of acts, opened. -/
import Derived.Test.YtcpiohmgnlapiaaRows
import Derived.Test.YtcpiohmgnlapiaaOpen
import Derived.Test.YtcpiohmgnlapiaaC
namespace Go.Proofs.Ytcpiohmgnlapiaa
open Go.ChangeShapes Go.WideShapes Go.ChangeAt Go.RowKit
section
variable {H : Type} {enc : TypeId × Value → H} {w : World} {base : Nat} {spare : Nat → Bool} {held : Bool}
/-- An argument of type []Act. -/
theorem open_acts {fuel : Nat} {A : Option Addr} {len cap : Nat} {x : DataW H × List MemPlace} (h : DataW.trod enc Try.prog w base spare held fuel 23 [.slice A len cap] = some x) :
    ∃ l : List Act, len = l.length ∧ l.length ≤ maxLen ∧ Acts w w.heap.size A l := by
  rcases field_cells Try.underlying23 Try.underlying32 (by kernel_rfl) (by kernel_rfl) h with ⟨rfl, rfl⟩ | ⟨a, rfl, hl, hm, hf⟩
  · exact ⟨[], rfl, by simp, .inl rfl⟩
  · have hcell : ∀ i, i < len → ∃ c : Act, w.cell? (a.add (i * 3)) = some (.int .i64 c.kind) ∧ w.cell? (a.add (i * 3 + 1)) = some (.int .u64 c.n) ∧ w.cell? (a.add (i * 3 + 2)) = some (.int .u64 c.now) ∧ 0 ≤ c.n ∧ c.n < 18446744073709551616 ∧ 0 ≤ c.now ∧ c.now < 18446744073709551616 := by
      intro i hil
      obtain ⟨v0, y0, n0, c0, t0⟩ := hf i 0 _ hil rfl
      obtain ⟨v1, y1, n1, c1, t1⟩ := hf i 1 _ hil rfl
      obtain ⟨v2, y2, n2, c2, t2⟩ := hf i 2 _ hil rfl
      obtain ⟨kd, e0, _, w0⟩ := DataW.trod_int Try.underlying3 t0
      obtain ⟨n, e1, _, w1⟩ := DataW.trod_int Try.underlying29 t1
      obtain ⟨now, e2, _, w2⟩ := DataW.trod_int Try.underlying29 t2
      simp at e0 e1 e2
      subst e0 e1 e2
      have b1 : 0 ≤ n ∧ n ≤ 18446744073709551615 := by simpa [Lit.wf, IntKind.min, IntKind.max, IntKind.signed, IntKind.bits] using w1
      have b2 : 0 ≤ now ∧ now ≤ 18446744073709551615 := by simpa [Lit.wf, IntKind.min, IntKind.max, IntKind.signed, IntKind.bits] using w2
      exact ⟨⟨kd, n, now⟩, c0, c1, c2, b1.1, (by omega : n < _), b2.1, (by omega : now < _)⟩
    by_cases h0 : len = 0
    · exact ⟨[], h0, by simp, .inl rfl⟩
    obtain ⟨f, hf⟩ : ∃ f : Nat → Act, ∀ i, i < len → w.cell? (a.add (i * 3)) = some (.int .i64 (f i).kind) ∧ w.cell? (a.add (i * 3 + 1)) = some (.int .u64 (f i).n) ∧ w.cell? (a.add (i * 3 + 2)) = some (.int .u64 (f i).now) ∧ 0 ≤ (f i).n ∧ (f i).n < 18446744073709551616 ∧ 0 ≤ (f i).now ∧ (f i).now < 18446744073709551616 :=
      ⟨fun i => if hi : i < len then (hcell i hi).choose else ⟨0, 0, 0⟩, fun i hi => by simp only [hi, dif_pos]; exact (hcell i hi).choose_spec⟩
    obtain ⟨b, off, spot⟩ := a
    have hc0 := (hf 0 (by omega)).1
    have hspot : spot = none := by simpa [Addr.add] using World.cell?_spot hc0
    subst hspot
    simp only [Addr.add_lit] at hf hc0
    refine ⟨(List.range len).map f, by simp, by simp; omega, .inr ⟨b, off, World.block_lt_of_cell? w _ hc0, rfl, ?_⟩⟩
    intro k hk
    have hk' : k < len := by simpa using hk
    simpa [Nat.add_assoc] using hf k hk'
end
theorem buckets_l (r s : Int) (A : Option Addr) (cap : Nat) (l : List Act) (w : World) (r0 : 0 ≤ r) (hl : l.length ≤ maxLen) (hc : Acts w w.heap.size A l) :
    Calls Try.prog 4 #[.int .u64 r, .int .u64 s, .slice A l.length cap] w fun e w' => e = .returned (.bool true) ∧ Below w.heap.size w w' := by
  unfold maxLen at hl
  by_cases h : 2147483648 < r ∨ (r ≤ 2147483648 ∧ s < 1) ∨ (r ≤ 2147483648 ∧ 1 ≤ s ∧ 2147483648 < s)
  · exact buckets_no r s A _ cap w h
  · exact buckets_any r s A cap l w r0 (by omega) (by omega) (by omega) hl hc
end Go.Proofs.Ytcpiohmgnlapiaa
