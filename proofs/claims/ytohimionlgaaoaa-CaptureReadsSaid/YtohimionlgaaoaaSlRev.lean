/- slices.Reverse at bytes of the call's own. -/
import Derived.Test.YtohimionlgaaoaaRows
import Derived.Test.YtohimionlgaaoaaBytesB
import Derived.Test.YtohimionlgaaoaaRgW
import Derived.Outline
import Derived.Deep.Light
import Derived.Deep.DeepCutAuto
import Derived.Deep.LoopGhost
import Derived.Lib.SliceRun
import Derived.RegionTactic
import Derived.BigRegion
namespace Go.Proofs.Ytohimionlgaaoaa
open Go.RowKit
set_option linter.unusedVariables false

/-- The bytes with the first i and the last i of them exchanged. -/
def revTo (l : List UInt8) (i : Nat) : List UInt8 := l.mapIdx fun k x => if k < i ∨ l.length ≤ k + i then l.getD (l.length - 1 - k) 0 else x
theorem revTo_len (l : List UInt8) (i : Nat) : (revTo l i).length = l.length := by simp [revTo]
theorem revTo_at (l : List UInt8) (i k : Nat) (h : k < l.length) : (revTo l i)[k]'(by rw [revTo_len]; exact h) = if k < i ∨ l.length ≤ k + i then l.getD (l.length - 1 - k) 0 else l[k] := by simp [revTo]
theorem revTo_zero (l : List UInt8) : revTo l 0 = l := by
  apply List.ext_getElem (by rw [revTo_len])
  intro k h1 h2
  rw [revTo_at l 0 k h2, if_neg (by omega)]
theorem revTo_end (l : List UInt8) (i : Nat) (h : l.length ≤ 2 * i + 1) : revTo l i = l.reverse := by
  apply List.ext_getElem (by rw [revTo_len, List.length_reverse])
  intro k h1 h2
  have hk : k < l.length := by rw [revTo_len] at h1; exact h1
  rw [revTo_at l i k hk, List.getElem_reverse]
  split
  · simp [List.getD_eq_getElem?_getD, show l.length - 1 - k < l.length by omega]
  · congr 1; omega
theorem revTo_step (l : List UInt8) (i : Nat) (h : 2 * i + 1 < l.length) (x y : UInt8) (hx : (revTo l i)[l.length - 1 - i]? = some x) (hy : (revTo l i)[i]? = some y) : ((revTo l i).set i x).set (l.length - 1 - i) y = revTo l (i + 1) := by
  apply List.ext_getElem (by simp [revTo_len])
  intro k h1 h2
  have hk : k < l.length := by rw [revTo_len] at h2; exact h2
  rw [revTo_at l (i + 1) k hk]
  have ex : x = l[l.length - 1 - i] := by
    rw [List.getElem?_eq_getElem (by rw [revTo_len]; omega), revTo_at l i _ (by omega), if_neg (by omega)] at hx
    injection hx with hx; exact hx.symm
  have ey : y = l[i] := by
    rw [List.getElem?_eq_getElem (by rw [revTo_len]; omega), revTo_at l i _ (by omega), if_neg (by omega)] at hy
    injection hy with hy; exact hy.symm
  rw [List.getElem_set]
  split
  · rename_i e
    subst e
    rw [if_pos (by omega), ey]
    simp [List.getD_eq_getElem?_getD, show l.length - 1 - (l.length - 1 - i) = i by omega, show i < l.length by omega]
  · rw [List.getElem_set]
    split
    · rename_i e
      subst e
      rw [if_pos (by omega), ex]
      simp [List.getD_eq_getElem?_getD, show l.length - 1 - i < l.length by omega]
    · rw [revTo_at l i k hk]
      by_cases c : k < i ∨ l.length ≤ k + i
      · rw [if_pos c, if_pos (by omega)]
      · rw [if_neg c, if_neg (by omega)]
theorem own_bytes {w : World} {e g cap : Nat} {l : List UInt8} (h : Own w e g cap l) (i : Nat) (x : UInt8) (hx : l[i]? = some x) : w.cell? ⟨g, i, none⟩ = some (.int .u8 (x.toNat : Int)) := by
  obtain ⟨hi, rfl⟩ := List.getElem?_eq_some_iff.1 hx
  exact h.cell hi
theorem slRev_nil (A : Option Addr) (c : Nat) (w : World) : Calls Try.prog 40 #[.slice A 0 c] w fun e w' => (∃ x, e = .returned x) ∧ w = w' := by
  go_enter Try.func40, Try.ntmps40
  go_wp2_with fail
  refine wp_loop_rounds 1 ?_; rw [rounds_succ]
  go_wp2_with fail
  go_end0
  exact ⟨⟨_, rfl⟩, rfl⟩
set_option maxHeartbeats 2000000 in
theorem slRev_any (g cap : Nat) (l : List UInt8) (w : World) (h0 : 0 < l.length) (hl : l.length ≤ 1000000) (hO : Own w 5 g cap l) :
    Calls Try.prog 40 #[.slice (some ⟨g, 0, none⟩) l.length cap] w fun e w' => (∃ x, e = .returned x) ∧ Own w' 5 g cap l.reverse ∧ Kept (· = g) w w' := by
  have HO := Lib.hid hO
  clear hO
  go_enter Try.func40, Try.ntmps40
  go_wp2_with fail
  go_loopw [2, 3] (fun i j wr => ∃ k : Nat, 2 * k ≤ l.length ∧ i = .int .i64 (k : Int) ∧ j = .int .i64 ((l.length : Int) - 1 - (k : Int)) ∧ Hid (Own wr 5 g cap (revTo l k)) ∧ Hid (Kept (· = g) w wr)) (fun i _ _ => l.length - (intOf i).toNat)
  case atStart => exact ⟨0, by omega, rfl, by simp, Lib.hid (by rw [revTo_zero]; exact HO.out), Lib.hid (Kept.refl _ _)⟩
  case round =>
    obtain ⟨k, hk, rfl, rfl, HOk, HK⟩ := hrel
    by_cases hlt : 2 * k + 1 < l.length
    · obtain ⟨j, hj⟩ : ∃ j : Nat, l.length - 1 - k = j := ⟨_, rfl⟩
      have hjI : (l.length : Int) - 1 - (k : Int) = (j : Int) := by omega
      rw [hjI]
      have hkj : k < j := by omega
      have hjl : j < l.length := by omega
      obtain ⟨x, hx⟩ : ∃ x, (revTo l k)[j]? = some x := ⟨_, List.getElem?_eq_getElem (by rw [revTo_len]; exact hjl)⟩
      obtain ⟨y, hy⟩ : ∃ y, (revTo l k)[k]? = some y := ⟨_, List.getElem?_eq_getElem (by rw [revTo_len]; omega)⟩
      have cx := own_bytes HOk.out j x hx
      have cy := own_bytes HOk.out k y hy
      have fx := HOk.out.frozen j
      have fy := HOk.out.frozen k
      have hx1 := byte_le x
      have hy1 := byte_le y
      have HST := Lib.hid (show ((revTo l k).set k x).set j y = revTo l (k + 1) by rw [← hj]; exact revTo_step l k hlt x y (by rw [hj]; exact hx) hy)
      have glt := HOk.out.lt
      have kI : (k : Int) < (j : Int) := by omega
      have k0 : (0 : Int) ≤ (k : Int) := by omega
      have j0 : (0 : Int) ≤ (j : Int) := by omega
      have klI : (k : Int) < (l.length : Int) := by omega
      have jlI : (j : Int) < (l.length : Int) := by omega
      have hne : k ≠ j := by omega
      have HJ := Lib.hid hjI
      clear hx hy hj hjI
      go_wp2_with fail
      go_region
      go_wp2_with fail
      go_roundw
      case rel =>
        refine ⟨k + 1, by omega, by go_num, by rw [show (l.length : Int) - 1 - ((k + 1 : Nat) : Int) = (j : Int) - 1 by have := HJ.out; omega], Lib.hid ?_, Lib.hid ?_⟩
        · rw [← HST.out]
          exact ((HOk.out.set k x).set j y).drew
        · exact ((HK.out.setCell (p := ⟨g, k, none⟩) (.inl rfl) _).setCell (p := ⟨g, j, none⟩) (.inl rfl) _).drew
      case measure => simp [intOf]; omega
    · have hge : ¬ (k : Int) < (l.length : Int) - 1 - (k : Int) := by omega
      go_wp2_with fail
      go_end0
      exact ⟨⟨_, rfl⟩, by rw [← revTo_end l k (by omega)]; exact HOk.out, HK.out⟩
end Go.Proofs.Ytohimionlgaaoaa
