/- The law's awake, walked; slices of slices, read. -/
import Derived.Test.YtidooohgbiiikaaJ
import Derived.Test.YtidooohgbiiikaaK
namespace Go.Proofs.Ytidooohgbiiikaa
open Go.RowKit
set_option linter.unusedVariables false
def X0 : List UInt8 := List.replicate 20 0
def B0 : List UInt8 := (⟨0, 0, 0, false, false, 0, 9, 0, 0, 0, 0, []⟩ : Hd).pkt X0
theorem b0_len : B0.length = 40 := by unfold B0; rw [Hd.pkt_len]; rfl
theorem b0_split : (splitR B0 28).1 = 0 ∧ (splitR B0 28).2.length = 3 := by decide +kernel
theorem FragsV.shape {w : World} {base : Nat} {v : Value} {ls : List (List UInt8)} (h : FragsV w base v ls) : ∃ A c, v = .slice A ls.length c := by
  obtain ⟨vs, h1, h2, _⟩ := h
  obtain ⟨A, c, e, _⟩ := h1.shape
  exact ⟨A, c, by rw [e, h2]⟩
/-- A slice of slices of bytes, read. -/
def Lst (w : World) (A : Option Addr) (ls : List (List UInt8)) : Prop := ls = [] ∨ ∃ b off, b < w.heap.size ∧ A = some ⟨b, off, none⟩ ∧ ∀ k (h : k < ls.length), ∃ C c, w.cell? ⟨b, off + k, none⟩ = some (.slice C ls[k].length c) ∧ BS w w.heap.size C ls[k]
theorem Lst.on {w w' : World} {A : Option Addr} {ls : List (List UInt8)} (h : Lst w A ls) (hk : Kept (fun _ => False) w w') : Lst w' A ls := by
  rcases h with h | ⟨b, off, hb, rfl, h⟩
  · exact .inl h
  · refine .inr ⟨b, off, Nat.lt_of_lt_of_le hb hk.size, rfl, fun k hk' => ?_⟩
    obtain ⟨C, c, h1, h2⟩ := h k hk'
    exact ⟨C, c, (hk.cell hb (fun h => h) _).trans h1, h2.on hk (fun _ _ h => h)⟩
theorem FragsV.lst {w : World} {base n c : Nat} {A : Option Addr} {ls : List (List UInt8)} (h : FragsV w base (.slice A n c) ls) : Lst w A ls := by
  obtain ⟨vs, h1, h2, h3⟩ := h
  by_cases h0 : ls.length = 0
  · exact .inl (List.eq_nil_of_length_eq_zero h0)
  · obtain ⟨g, c', e, hb, hlt, hc⟩ := h1.at (i := 0) (by omega)
    injection e with e1 e2 e3
    subst e1
    refine .inr ⟨g, 0, hlt, rfl, fun k hk => ?_⟩
    have hk' : k < vs.length := by omega
    obtain ⟨C, cc, e, h4, h5, h6⟩ := h3 k hk' hk
    exact ⟨C, cc, by rw [Nat.zero_add, hc k hk', e], h6⟩
set_option maxRecDepth 100000 in
set_option maxHeartbeats 4000000 in
theorem awake_any (w : World) : Calls Try.prog 6 #[] w fun e w' => e = .returned (.bool true) ∧ Below w.heap.size w w' := by
  have hmk : ∀ W : World, (Instr.makeSlice 22 (.int .i64 20) (.int .i64 20)).run Try.prog W = .ok (.slice (some ⟨W.heap.size, 0, none⟩) 20 20) (W.alloc (.cells (madeCells #[.int .u8 0] 20) 5)) := fun W => make_row1 20 W (by omega)
  have HS := Lib.hid b0_split
  go_enter Try.func6, Try.ntmps6
  go_wp2_with fail
  obtain ⟨w1, hw1⟩ : ∃ w1 : World, w1 = w.alloc (.cells (madeCells #[.int .u8 0] 20) 5) := ⟨_, rfl⟩
  have HB1 := Lib.hid (show Blk w1 w.heap.size 5 (bcs X0).toArray by rw [hw1, madeCells_bytes]; exact Blk.new _ _ _)
  have HW1 := Lib.hid (show Below w.heap.size w w1 by rw [hw1]; exact (Below.refl _ _).alloc (Nat.le_refl _) _)
  rw [← hw1]
  clear hw1
  have HO := Lib.hid (Own.of_blk HB1.out (by unfold maxLen X0; simp))
  refine (packet_yes 0 0 0 false false 0 9 0 0 0 0 none 0 0 [] rfl (by omega) (by omega) (by omega) (by omega) (by omega) (by omega) (by omega) (by omega) (by omega) (by omega) (by omega) (by omega) (by omega) (by omega) (by omega) X0 _ 20 20 rfl (by omega) (by omega) w1 .nil HO.out.bs).mono ?_
  rintro e w2 ⟨v, rfl, hr, hb⟩
  have HR := Lib.hid (show Row w2 w1.heap.size 5 v (bcs B0) from hr)
  have HW2 := Lib.hid (HW1.out.trans (hb.mono HW1.out.size))
  clear hr hb
  obtain ⟨A, c, hve, hc1, hc2⟩ := HR.out.shape
  rw [bcs_length, b0_len] at hve hc1
  subst hve
  go_wp2_with fail
  have HY := Lib.hid (show BS w2 w2.heap.size A B0 from (HR.out.byt).bs_of)
  have hz := split_any A c B0 28 w2 (by rw [b0_len]; omega) ⟨by rw [b0_len]; omega, hc2⟩ (by omega) (by omega) HY.out
  rw [b0_len] at hz
  refine hz.mono ?_
  clear hz
  rintro e w3 ⟨hb, v3, rfl, hf⟩
  rw [HS.out.1]
  obtain ⟨A3, c3, hve⟩ := hf.shape
  rw [HS.out.2] at hve
  subst hve
  have HW3 := Lib.hid (HW2.out.trans (hb.mono HW2.out.size))
  clear hb hf
  go_wp2_with fail
  go_ret
  exact ⟨rfl, HW3.out⟩
end Go.Proofs.Ytidooohgbiiikaa
