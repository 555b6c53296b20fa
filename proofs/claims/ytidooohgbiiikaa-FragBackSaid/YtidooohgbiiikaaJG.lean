import Derived.Test.YtidooohgbiiikaaJ
import Derived.Test.YtidooohgbiiikaaK
import Derived.Test.YtidooohgbiiikaaJB
import Derived.Test.YtidooohgbiiikaaOpenN
import Derived.Test.YtidooohgbiiikaaOpen
/- The law's awake, walked; slices of slices, read. -/
namespace Go.Proofs.Ytidooohgbiiikaa
open Go.RowKit
set_option linter.unusedVariables false
def X0 : List UInt8 := List.replicate 20 0
def B0 : List UInt8 := (⟨0, 0, 0, false, false, 0, 9, 0, 0, 0, 0, []⟩ : Hd).pkt X0
theorem b0_len : B0.length = 40 := by unfold B0; rw [Hd.pkt_len]; rfl
theorem b0_split : (splitR B0 28).1 = 0 ∧ (splitR B0 28).2.length = 3 := by decide +kernel
theorem FragsV.shape {w : World} {base : Nat} {v : Value} {ls : List (List UInt8)} (h : FragsV w base v ls) : ∃ A c, v = .slice A ls.length c := by
  obtain ⟨vs, h1, h2, _⟩ := h
  obtain ⟨A, c, e, _⟩ := h1.shape
  exact ⟨A, c, by rw [e, h2]⟩
/-- A slice of slices of bytes, read. -/
def Lst (w : World) (A : Option Addr) (ls : List (List UInt8)) : Prop := ls = [] ∨ ∃ b off, b < w.heap.size ∧ A = some ⟨b, off, none⟩ ∧ ∀ k (h : k < ls.length), ∃ C c, w.cell? ⟨b, off + k, none⟩ = some (.slice C ls[k].length c) ∧ BS w w.heap.size C ls[k]
theorem Lst.on {w w' : World} {A : Option Addr} {ls : List (List UInt8)} (h : Lst w A ls) (hk : Kept (fun _ => False) w w') : Lst w' A ls := by
  rcases h with h | ⟨b, off, hb, rfl, h⟩
  · exact .inl h
  · refine .inr ⟨b, off, Nat.lt_of_lt_of_le hb hk.size, rfl, fun k hk' => ?_⟩
    obtain ⟨C, c, h1, h2⟩ := h k hk'
    exact ⟨C, c, (hk.cell hb (fun h => h) _).trans h1, h2.on hk (fun _ _ h => h)⟩
theorem FragsV.lst {w : World} {base n c : Nat} {A : Option Addr} {ls : List (List UInt8)} (h : FragsV w base (.slice A n c) ls) : Lst w A ls := by
  obtain ⟨vs, h1, h2, h3⟩ := h
  by_cases h0 : ls.length = 0
  · exact .inl (List.eq_nil_of_length_eq_zero h0)
  · obtain ⟨g, c', e, hb, hlt, hc⟩ := h1.at (i := 0) (by omega)
    injection e with e1 e2 e3
    subst e1
    refine .inr ⟨g, 0, hlt, rfl, fun k hk => ?_⟩
    have hk' : k < vs.length := by omega
    obtain ⟨C, cc, e, h4, h5, h6⟩ := h3 k hk' hk
    exact ⟨C, cc, by rw [Nat.zero_add, hc k hk', e], h6⟩
set_option maxRecDepth 100000 in
set_option maxHeartbeats 4000000 in
theorem awake_any (w : World) : Calls Try.prog 6 #[] w fun e w' => e = .returned (.bool true) ∧ Below w.heap.size w w' := by
  have hmk : ∀ W : World, (Instr.makeSlice 22 (.int .i64 20) (.int .i64 20)).run Try.prog W = .ok (.slice (some ⟨W.heap.size, 0, none⟩) 20 20) (W.alloc (.cells (madeCells #[.int .u8 0] 20) 5)) := fun W => make_row1 20 W (by omega)
  have HS := Lib.hid b0_split
  go_enter Try.func6, Try.ntmps6
  go_wp2_with fail
  obtain ⟨w1, hw1⟩ : ∃ w1 : World, w1 = w.alloc (.cells (madeCells #[.int .u8 0] 20) 5) := ⟨_, rfl⟩
  have HB1 := Lib.hid (show Blk w1 w.heap.size 5 (bcs X0).toArray by rw [hw1, madeCells_bytes]; exact Blk.new _ _ _)
  have HW1 := Lib.hid (show Below w.heap.size w w1 by rw [hw1]; exact (Below.refl _ _).alloc (Nat.le_refl _) _)
  rw [← hw1]
  clear hw1
  have HO := Lib.hid (Own.of_blk HB1.out (by unfold maxLen X0; simp))
  refine (packet_yes 0 0 0 false false 0 9 0 0 0 0 none 0 0 [] rfl (by omega) (by omega) (by omega) (by omega) (by omega) (by omega) (by omega) (by omega) (by omega) (by omega) (by omega) (by omega) (by omega) (by omega) (by omega) X0 _ 20 20 rfl (by omega) (by omega) w1 .nil HO.out.bs).mono ?_
  rintro e w2 ⟨v, rfl, hr, hb⟩
  have HR := Lib.hid (show Row w2 w1.heap.size 5 v (bcs B0) from hr)
  have HW2 := Lib.hid (HW1.out.trans (hb.mono HW1.out.size))
  clear hr hb
  obtain ⟨A, c, hve, hc1, hc2⟩ := HR.out.shape
  rw [bcs_length, b0_len] at hve hc1
  subst hve
  go_wp2_with fail
  have HY := Lib.hid (show BS w2 w2.heap.size A B0 from (HR.out.byt).bs_of)
  have hz := split_any A c B0 28 w2 (by rw [b0_len]; omega) ⟨by rw [b0_len]; omega, hc2⟩ (by omega) (by omega) HY.out
  rw [b0_len] at hz
  refine hz.mono ?_
  clear hz
  rintro e w3 ⟨hb, v3, rfl, hf⟩
  rw [HS.out.1]
  obtain ⟨A3, c3, hve⟩ := hf.shape
  rw [HS.out.2] at hve
  subst hve
  have HW3 := Lib.hid (HW2.out.trans (hb.mono HW2.out.size))
  clear hb hf
  go_wp2_with fail
  go_ret
  exact ⟨rfl, HW3.out⟩
end Go.Proofs.Ytidooohgbiiikaa
/- Slices of slices of bytes that came in; sums of lengths. -/
namespace Go.Proofs.Ytidooohgbiiikaa
open Go.ChangeShapes Go.WideShapes Go.ChangeAt Go.RowKit Go.Deep
set_option linter.unusedVariables false
theorem open_bvs {H : Type} {enc : TypeId × Value → H} {w : World} {base : Nat} {spare : Nat → Bool} {held : Bool} {fuel len cap : Nat} {A : Option Addr} {x : DataW H × List MemPlace} (h : DataW.trod enc Try.prog w base spare held fuel 24 [.slice A len cap] = some x) :
    ∃ L : List BV, len = L.length ∧ L.length ≤ cap ∧ cap ≤ maxLen ∧ ES w w.heap.size A 1 (L.map fun b => [b.val]) ∧ ∀ y ∈ L, y.ok w :=
  open_elems (fun b : BV => [b.val]) (fun b => b.ok w) ⟨none, 0, []⟩ Try.underlying24 (by kernel_rfl) (by omega) (fun _ => rfl) (fun fuel l x h hl => by
    obtain ⟨v, rfl⟩ := List.length_eq_one_iff.1 hl
    obtain ⟨b, rfl, hb⟩ := trod_bytes Try.underlying22 Try.underlying5 (by kernel_rfl) h
    exact ⟨b, rfl, hb⟩) h
theorem ins_of {w : World} {A : Option Addr} {L : List BV} (h : ES w w.heap.size A 1 (L.map fun b => [b.val])) (hok : ∀ y ∈ L, y.ok w) : Ins w w.heap.size A (L.map (·.l)) := by
  rcases h with h | ⟨b, off, hb, hA, hel⟩
  · exact .inl (by rw [List.map_eq_nil_iff.1 h]; rfl)
  · refine .inr ⟨b, off, hb, hA, fun k hk => ?_⟩
    have hk' : k < L.length := by simpa using hk
    have := hel.get (k := k) (by simpa using hk') 0 (by omega)
    simp only [List.getElem_map, Nat.mul_one, Nat.add_zero] at this ⊢
    obtain ⟨h1, h2, h3⟩ := hok _ (List.getElem_mem hk')
    exact ⟨L[k].A, L[k].c, this, h1, h2, h3⟩
theorem ins_max {L : List BV} {w : World} (hok : ∀ y ∈ L, y.ok w) : ∀ x ∈ L.map (·.l), x.length ≤ maxLen := by
  intro x hx
  obtain ⟨y, hy, rfl⟩ := List.mem_map.1 hx
  obtain ⟨h1, h2, h3⟩ := hok _ hy
  exact Nat.le_trans h1 h2
theorem Ins.onB {w w' : World} {A : Option Addr} {l : List (List UInt8)} (h : Ins w w.heap.size A l) (hb : Below w.heap.size w w') : Ins w' w'.heap.size A l := by
  rcases h with h | ⟨b, off, hlt, hA, hc⟩
  · exact .inl h
  · refine .inr ⟨b, off, Nat.lt_of_lt_of_le hlt hb.size, hA, fun k hk => ?_⟩
    obtain ⟨C, c, h1, h2, h3, h4⟩ := hc k hk
    exact ⟨C, c, (hb.cell (p := ⟨b, off + k, none⟩) hlt).trans h1, h2, h3, h4.onB hb (Nat.le_refl _)⟩
def msum (l : List (List UInt8)) (k : Nat) : Nat := ((l.take k).map fun b => min b.length 5000).sum
theorem msum_zero (l : List (List UInt8)) : msum l 0 = 0 := rfl
theorem msum_succ {l : List (List UInt8)} {k : Nat} (h : k < l.length) : msum l (k + 1) = msum l k + min l[k].length 5000 := by
  unfold msum
  rw [List.take_succ_eq_append_getElem h, List.map_append, List.sum_append, List.map_cons, List.map_nil, List.sum_cons, List.sum_nil, Nat.add_zero]
theorem msum_le (l : List (List UInt8)) (k : Nat) : msum l k ≤ 5000 * k := by
  unfold msum
  have : ∀ (l : List (List UInt8)), (l.map fun b => min b.length 5000).sum ≤ 5000 * l.length := by
    intro l
    induction l with
    | nil => simp
    | cons b l ih => rw [List.map_cons, List.sum_cons, List.length_cons]; omega
  have h1 := this (l.take k)
  have h2 : (l.take k).length ≤ k := List.length_take_le _ _
  omega
theorem msum_all {l : List (List UInt8)} (h : msum l l.length ≤ 4000) : (l.map List.length).sum ≤ 4000 := by
  unfold msum at h
  rw [List.take_length] at h
  have : ∀ (l : List (List UInt8)), (l.map fun b => min b.length 5000).sum ≤ 4000 → (l.map List.length).sum ≤ 4000 ∧ (l.map List.length).sum = (l.map fun b => min b.length 5000).sum := by
    intro l
    induction l with
    | nil => simp
    | cons b l ih =>
      intro h
      simp only [List.map_cons, List.sum_cons] at h ⊢
      have := ih (by omega)
      omega
  exact (this l h).1
end Go.Proofs.Ytidooohgbiiikaa
