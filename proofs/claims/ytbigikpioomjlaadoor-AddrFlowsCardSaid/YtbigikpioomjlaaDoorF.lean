/- Text of the address that awake meets; awake. -/
import Derived.Test.YtbigikpioomjlaaDoorE
import Derived.Test.YtbigikpioomjlaaDoorAddr
namespace Go.Proofs.YtbigikpioomjlaaDoor
open Go.RowKit
set_option linter.unusedVariables false
def xsA : List ByteArray := [⟨#[49, 48]⟩, ⟨#[48]⟩, ⟨#[48]⟩, ⟨#[49]⟩]
theorem info9s : (Tryd.prog.info? 9).map (fun i => (i.zero, i.size, i.bytes)) = some (some (.string ByteArray.empty), 1, 16) := by kernel_rfl
theorem stepA (k : Nat) (hk : k < 4) : ∃ (x : Nat) (y : ByteArray), x < 100 ∧ (bcs (digs 4 167772161))[k]? = some (.int .u8 (x : Int)) ∧ ⟨(Lib.decDigits x).toArray⟩ = y ∧ (xsA.map Value.string).take (k + 1) = (xsA.map Value.string).take k ++ [.string y] := by
  obtain rfl | rfl | rfl | rfl : k = 0 ∨ k = 1 ∨ k = 2 ∨ k = 3 := by omega
  · exact ⟨10, _, by omega, by kernel_rfl, rfl, by kernel_rfl⟩
  · exact ⟨0, _, by omega, by kernel_rfl, rfl, by kernel_rfl⟩
  · exact ⟨0, _, by omega, by kernel_rfl, rfl, by kernel_rfl⟩
  · exact ⟨1, _, by omega, by kernel_rfl, rfl, by kernel_rfl⟩
set_option maxRecDepth 4000 in
set_option maxHeartbeats 4000000 in
theorem text_any (w : World) : Calls Tryd.prog 13 #[.agg #[.bool false, .int .u64 0, .int .u64 167772161]] w fun e w' => e = .returned (.string ⟨#[49, 48, 46, 48, 46, 48, 46, 49]⟩) ∧ Below w.heap.size w w' := by
  have h9 := info9s
  go_enter Tryd.func13, Tryd.ntmps13
  go_wp2_with fail
  refine (adBytes_any ⟨false, 0, 167772161⟩ _ ⟨by decide, by decide, by decide, by decide⟩).mono ?_
  rintro e w2 ⟨v, rfl, hrow, hb⟩
  have hrow' : Row w2 (w.alloc (.cells #[.bool false, .int .u64 0, .int .u64 167772161] 24)).heap.size 5 v (bcs (digs 4 167772161)) := hrow
  obtain ⟨g, c, rfl, hg0, hg1, hcs⟩ := hrow'.at (i := 0) (by rw [bcs_length, digs_length]; omega)
  have HB0 := Lib.hid (((Below.refl w.heap.size w).alloc (Nat.le_refl _) (.cells #[.bool false, .int .u64 0, .int .u64 167772161] 24)).trans (hb.mono (by simp)))
  have hle := HB0.out.size
  have hl4 : (bcs (digs 4 167772161)).length = 4 := by rw [bcs_length, digs_length]
  have HC := Lib.hid hcs
  rw [hl4]
  clear hrow hrow' hb hcs hg0 hl4
  go_wp2_with fail
  go_loopw [3, 37] (fun v i wr => ∃ k : Nat, k ≤ 4 ∧ i = .int .i64 (k : Int) ∧ Hid (Row wr w2.heap.size 9 v ((xsA.map Value.string).take k)) ∧ Hid (Below w2.heap.size w2 wr)) (fun _ i _ => 4 - (intOf i).toNat)
  case atStart => exact ⟨0, by omega, rfl, Lib.hid (Row.nil _ _ _), Lib.hid (Below.refl _ _)⟩
  case round =>
    obtain ⟨k, hk, rfl, HW, HBW⟩ := hrel
    obtain ⟨vA, vc, hve, hvl, hvm⟩ := HW.out.shape
    have hlk : ((xsA.map Value.string).take k).length = k := by rw [List.length_take]; simp [xsA]; omega
    rw [hlk] at hve
    subst hve
    by_cases hlt : k < 4
    · obtain ⟨x, y, hx, hcx, hy, htk⟩ := stepA k hlt
      have hk' : k < (bcs (digs 4 167772161)).length := by rw [bcs_length, digs_length]; exact hlt
      have c0 : w2.cell? ⟨g, k, none⟩ = some (.int .u8 (x : Int)) := by
        rw [HC.out k hk', ← hcx, List.getElem?_eq_getElem hk']
      have c1 := (HBW.out.cell (p := ⟨g, k, none⟩) hg1).trans c0
      have kI : (k : Int) < 4 := by omega
      have k0 : (0 : Int) ≤ (k : Int) := by omega
      have x0 : (0 : Int) ≤ (x : Int) := by omega
      have x1 : (x : Int) < 100 := by omega
      have hsw := HBW.out.size
      have HT := Lib.hid htk
      have HY := Lib.hid hy
      clear htk hy hcx c0 hvl hvm hlk hk'
      go_wp2_with fail
      refine (digit_small _ x hx).mono ?_
      rintro e w3 ⟨rfl, rfl⟩
      rw [HY.out]
      go_wp2_with (at_builtin; refine wpList_append_row rfl (.tmp 41) (.tmp 45) 51 rfl w2.heap.size 9 (.string ByteArray.empty) 16 Tryd.underlying51 h9 rfl _ ((xsA.map Value.string).take k) rfl (some ⟨_, 0, none⟩) 1 1 [.string y] rfl rfl (HW.out.alloc _) (Src.new _ _ _ rfl) ?one ?a3 ?a4 ?a5 ?_)
      case one => simp [Value.oneCell']
      case a3 => simp [xsA]; unfold maxLen; omega
      case a4 => simp [xsA]; omega
      case a5 => simp; omega
      intro v1 w1 hrow hgr _
      have HR1 := Lib.hid (show Row w1 w2.heap.size 9 v1 ((xsA.map Value.string).take (k + 1)) by rw [HT.out]; exact hrow)
      have HB1 := Lib.hid ((HBW.out.alloc hsw _).trans (below_grown hgr (fun i e => (HW.out.lt i e).1) (by simp; omega)))
      clear hrow hgr
      go_wp2_with fail
      go_roundw
      case rel => exact ⟨k + 1, by omega, by go_num, HR1, HB1⟩
      case measure => simp [intOf]; omega
    · obtain rfl : k = 4 := by omega
      obtain ⟨g2, c2, e2, hg2, hg3, hcs2⟩ := HW.out.at (i := 0) (by simp [xsA])
      injection e2 with e21 e22 e23
      subst e21 e23
      clear e22
      have hjoin := Tryd.strings_Join g2 0 vc xsA ⟨#[46]⟩ wr (fun j x hj => by
        have hj4 : j < 4 := by
          rcases Nat.lt_or_ge j 4 with h | h
          · exact h
          · rw [List.getElem?_eq_none (by simpa [xsA] using h)] at hj; cases hj
        rw [Nat.zero_add, hcs2 j (by simp [xsA]; omega)]
        congr 1
        rw [List.getElem_take, List.getElem_map]
        rw [List.getElem?_eq_getElem (by simpa [xsA] using hj4)] at hj
        injection hj with hj
        rw [hj]) hg3 (by simp [xsA]) (by simpa [xsA] using hvl) (by decide)
      have ej : (Lib.join (xsA.map (·.data.toList)) (⟨#[46]⟩ : ByteArray).data.toList).toArray = #[49, 48, 46, 48, 46, 48, 46, 49] := by kernel_rfl
      rw [ej] at hjoin
      have HJ := Lib.hid (show Calls Tryd.prog 25 #[.slice (some ⟨g2, 0, none⟩) 4 vc, .string ⟨#[46]⟩] wr _ from hjoin)
      have hsw := HBW.out.size
      clear hjoin hcs2 hvl hvm ej hlk
      go_wp2_with fail
      refine HJ.out.mono ?_
      rintro e w3 ⟨rfl, hb3⟩
      have HB3 := Lib.hid (HB0.out.trans ((HBW.out.mono hle).trans (hb3.mono (by omega))))
      clear hb3
      go_wp2_with fail
      go_ret
      exact ⟨rfl, HB3.out⟩
end Go.Proofs.YtbigikpioomjlaaDoor
