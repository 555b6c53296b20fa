/- slices.Equal of bytes and of members. -/
import Derived.Test.YthfdhggcnkgjfaaDoorStOpen
import Derived.Test.YthfdhggcnkgjfaaDoorRgRow
import Derived.Deep.Cut
import Derived.Deep.Light
import Derived.Outline
namespace Go.Proofs.YthfdhggcnkgjfaaDoor
open Go.RowKit
set_option linter.unusedVariables false
theorem take_snoc_eq {α : Type} {l m : List α} {k : Nat} (h : l.take k = m.take k) (hk : k < l.length) (hm : k < m.length) (e : l[k] = m[k]) : l.take (k + 1) = m.take (k + 1) := by
  rw [List.take_succ_eq_append_getElem hk, List.take_succ_eq_append_getElem hm, h, e]
theorem ne_of_get {α : Type} {l m : List α} {k : Nat} (hk : k < l.length) (hm : k < m.length) (e : l[k] ≠ m[k]) : ¬ l = m := fun h => e (by subst h; rfl)
theorem eqB_len (A A' : Option Addr) (c c' : Nat) (l m : List UInt8) (w : World) (h : l.length ≠ m.length) :
    Calls Tryd.prog 19 #[.slice A l.length c, .slice A' m.length c'] w fun e w' => e = .returned (.bool false) ∧ Below w.heap.size w w' := by
  have hI : ((l.length : Int)) ≠ (m.length : Int) := by omega
  go_enter Tryd.func19, Tryd.ntmps19
  go_wp2_with fail
  go_ret
  exact ⟨rfl, Below.refl _ _⟩
set_option maxHeartbeats 2000000 in
theorem eqB_cells (b off b' off' : Nat) (c c' : Nat) (l m : List UInt8) (w : World) (h : l.length = m.length) (hm : l.length ≤ maxLen) (hl : BytesAt w b off l) (hr : BytesAt w b' off' m) (hb : b < w.heap.size) (hb' : b' < w.heap.size) :
    Calls Tryd.prog 19 #[.slice (some ⟨b, off, none⟩) l.length c, .slice (some ⟨b', off', none⟩) m.length c'] w fun e w' => e = .returned (.bool (decide (l = m))) ∧ Below w.heap.size w w' := by
  have HL := Lib.hid hl
  have HR := Lib.hid hr
  have HM := Lib.hid hm
  have hI : ((l.length : Int)) = (m.length : Int) := by omega
  clear hl hr hm
  go_enter Tryd.func19, Tryd.ntmps19
  go_wp2_with fail
  go_loopw [13] (fun i wr => ∃ k n : Nat, k ≤ l.length ∧ i = .int .i64 k ∧ Hid (l.take k = m.take k) ∧ wr = w.drewN n) (fun i _ => l.length - (intOf i).toNat)
  case atStart => exact ⟨0, 0, Nat.zero_le _, rfl, Lib.hid (by simp), rfl⟩
  case round =>
    obtain ⟨k, n, hk, rfl, HT, rfl⟩ := hrel
    have hml := HM.out
    unfold maxLen at hml
    by_cases hlt : k < l.length
    · have hlt' : k < m.length := by omega
      have hk0 : (0 : Int) ≤ (k : Int) := Int.natCast_nonneg _
      have hk1 : (k : Int) < (l.length : Int) := by omega
      have hk2 : (k : Int) < (m.length : Int) := by omega
      have hc : w.cell? ⟨b, off + k, none⟩ = some (.int .u8 (l[k].toNat : Int)) := by simpa using HL.out k hlt
      have hc' : w.cell? ⟨b', off' + k, none⟩ = some (.int .u8 (m[k].toNat : Int)) := by simpa using HR.out k hlt'
      by_cases he : l[k] = m[k]
      · have hE : ((l[k].toNat : Int)) = (m[k].toNat : Int) := by rw [he]
        go_wp2_with fail
        go_region
        go_wp2_with fail
        go_roundw
        case rel => exact ⟨k + 1, n + 1, by omega, by go_num, Lib.hid (take_snoc_eq HT.out hlt hlt' he), by simp⟩
        case measure => simp [intOf]; omega
      · have hE : ¬ ((l[k].toNat : Int)) = (m[k].toNat : Int) := fun e => he (UInt8.toNat_inj.1 (by omega))
        have HF := Lib.hid (ne_of_get hlt hlt' he)
        go_wp2_with fail
        go_region
        go_wp2_with fail
        go_ret
        exact ⟨by rw [decide_eq_false HF.out]; rfl, belowN (Below.refl _ _) _⟩
    · have : k = l.length := by omega
      subst this
      have HF := Lib.hid (show l = m by have := HT.out; rwa [List.take_length, h, List.take_length] at this)
      go_wp2_with fail
      go_ret
      exact ⟨by rw [decide_eq_true HF.out]; rfl, belowN (Below.refl _ _) _⟩
theorem eqB_nil (A A' : Option Addr) (c c' : Nat) (w : World) :
    Calls Tryd.prog 19 #[.slice A 0 c, .slice A' 0 c'] w fun e w' => e = .returned (.bool true) ∧ Below w.heap.size w w' := by
  go_enter Tryd.func19, Tryd.ntmps19
  go_wp2_with fail
  refine wp_loop_rounds 1 ?_; rw [rounds_succ]
  go_wp2_with fail
  go_ret
  exact ⟨rfl, Below.refl _ _⟩
theorem eqB_any (A A' : Option Addr) (c c' : Nat) (l m : List UInt8) (w : World) (hm : l.length ≤ maxLen) (hl : BS w w.heap.size A l) (hr : BS w w.heap.size A' m) :
    Calls Tryd.prog 19 #[.slice A l.length c, .slice A' m.length c'] w fun e w' => e = .returned (.bool (decide (l = m))) ∧ Below w.heap.size w w' := by
  by_cases h : l.length = m.length
  · rcases hl with rfl | ⟨b, off, hb, rfl, hl⟩
    · obtain rfl : m = [] := List.eq_nil_of_length_eq_zero h.symm
      exact (eqB_nil A A' c c' w).mono fun e w' ⟨h1, h2⟩ => ⟨by rw [h1]; rfl, h2⟩
    · rcases hr with rfl | ⟨b', off', hb', rfl, hr⟩
      · obtain rfl : l = [] := List.eq_nil_of_length_eq_zero h
        exact (eqB_nil _ A' c c' w).mono fun e w' ⟨h1, h2⟩ => ⟨by rw [h1]; rfl, h2⟩
      · exact eqB_cells b off b' off' c c' l m w h hm hl hr hb hb'
  · refine (eqB_len A A' c c' l m w h).mono fun e w' ⟨h1, h2⟩ => ⟨by rw [h1, decide_eq_false]; exact fun e => h (by rw [e]), h2⟩
end Go.Proofs.YthfdhggcnkgjfaaDoor
