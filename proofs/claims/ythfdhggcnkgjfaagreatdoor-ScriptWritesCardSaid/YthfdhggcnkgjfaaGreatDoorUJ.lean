/- The parses in one form; the law ScriptReads. -/
import Derived.Test.YthfdhggcnkgjfaaGreatDoorUI
import Derived.Test.YthfdhggcnkgjfaaGreatDoorPlainR
namespace Go.Proofs.YthfdhggcnkgjfaaGreatDoor
open Go.RowKit
set_option linter.unusedVariables false
set_option linter.unusedSimpArgs false
/-- A step in memory: its members, its load. -/
structure StM (w : World) (s : Sp) (MA : Option Addr) (mc : Nat) (LA : Option Addr) (lc : Nat) : Prop where
  m1 : s.op.ms.length ≤ mc
  m2 : mc ≤ maxLen
  ms : ES w w.heap.size MA 2 (mcs s.op.ms)
  l1 : s.load.length ≤ lc
  l2 : lc ≤ maxLen
  ld : BS w w.heap.size LA s.load
theorem StM.on {w w' : World} {s : Sp} {MA LA : Option Addr} {mc lc : Nat} (h : StM w s MA mc LA lc) (hk : Kept (fun _ => False) w w') : StM w' s MA mc LA lc := ⟨h.m1, h.m2, h.ms.on hk (fun _ _ h => h), h.l1, h.l2, h.ld.on hk (fun _ _ h => h)⟩
theorem StM.zero (w : World) : StM w Sp.zero none 0 none 0 := ⟨Nat.le_refl _, by decide, .nil, Nat.le_refl _, by decide, .nil⟩
theorem parse_gen (y : ByteArray) (hz : y.size ≤ 4000) (w : World) : Calls Tryz.prog 6 #[.string y] w fun e w' => ∃ MA mc LA lc, e = .returned (.tuple #[.agg (SpC (.slice MA ((lineP y.data.toList).getD Sp.zero).op.ms.length mc) (.slice LA ((lineP y.data.toList).getD Sp.zero).load.length lc) ((lineP y.data.toList).getD Sp.zero)), .int .i64 (if (lineP y.data.toList).isSome = true then 0 else 21)]) ∧ StM w' ((lineP y.data.toList).getD Sp.zero) MA mc LA lc ∧ Kept (fun _ => False) w w' := by
  refine (parse_any y hz w).mono ?_
  rintro e w' ⟨hb, hm⟩
  generalize lineP y.data.toList = o at hm ⊢
  cases o with
  | none =>
    obtain rfl : e = _ := hm
    exact ⟨none, 0, none, 0, rfl, StM.zero _, Kept.ofB hb⟩
  | some s =>
    obtain ⟨mv, lv, rfl, hmem, hld⟩ := hm
    obtain ⟨MA, mc, rfl, h1, h2, h3⟩ := RowN.es hmem
    obtain ⟨LA, lc, rfl, h4, h5, h6⟩ := hld.byt
    rw [mcs_len] at h1 ⊢
    exact ⟨MA, mc, LA, lc, rfl, ⟨h1, h2, h3, h4, h5, h6⟩, Kept.ofB hb⟩
theorem kbel {w w' : World} (h : Kept (fun _ => False) w w') : Below w.heap.size w w' := h.below (Nat.le_refl _) (fun i h => h.elim)
end Go.Proofs.YthfdhggcnkgjfaaGreatDoor
