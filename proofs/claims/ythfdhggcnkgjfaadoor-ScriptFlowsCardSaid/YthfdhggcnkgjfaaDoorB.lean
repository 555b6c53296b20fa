/- slices.Equal of members. -/
import Derived.Test.YthfdhggcnkgjfaaDoorA
namespace Go.Proofs.YthfdhggcnkgjfaaDoor
open Go.RowKit
set_option linter.unusedVariables false
instance : DecidableEq Mb := fun a b => if h : a.back = b.back ∧ a.weight = b.weight then isTrue (by cases a; cases b; simp at h; simp [h]) else isFalse (fun e => h (by rw [e]; exact ⟨rfl, rfl⟩))
theorem Mb.get {w : World} {b off : Nat} {l : List Mb} (h : ElAt w b off 2 (l.map Mb.cs)) {k : Nat} (hk : k < l.length) :
    w.cell? ⟨b, off + k * 2, none⟩ = some (.int .i64 l[k].back) ∧ w.cell? ⟨b, off + k * 2 + 1, none⟩ = some (.int .i64 l[k].weight) := by
  have h0 := h.get (k := k) (by simpa using hk) 0 (by omega)
  have h1 := h.get (k := k) (by simpa using hk) 1 (by omega)
  simp [Mb.cs] at h0 h1
  exact ⟨h0, h1⟩
theorem eqM_len (A A' : Option Addr) (c c' : Nat) (l m : List Mb) (w : World) (h : l.length ≠ m.length) :
    Calls Tryd.prog 30 #[.slice A l.length c, .slice A' m.length c'] w fun e w' => e = .returned (.bool false) ∧ Below w.heap.size w w' := by
  have hI : ((l.length : Int)) ≠ (m.length : Int) := by omega
  go_enter Tryd.func30, Tryd.ntmps30
  go_wp2_with fail
  go_ret
  exact ⟨rfl, Below.refl _ _⟩
set_option maxHeartbeats 2000000 in
theorem eqM_cells (b off b' off' : Nat) (c c' : Nat) (l m : List Mb) (w : World) (h : l.length = m.length) (hm : l.length ≤ maxLen) (hl : ElAt w b off 2 (l.map Mb.cs)) (hr : ElAt w b' off' 2 (m.map Mb.cs)) (hb : b < w.heap.size) (hb' : b' < w.heap.size) :
    Calls Tryd.prog 30 #[.slice (some ⟨b, off, none⟩) l.length c, .slice (some ⟨b', off', none⟩) m.length c'] w fun e w' => e = .returned (.bool (decide (l = m))) ∧ Below w.heap.size w w' := by
  have HL := Lib.hid hl
  have HR := Lib.hid hr
  have HM := Lib.hid hm
  have hI : ((l.length : Int)) = (m.length : Int) := by omega
  clear hl hr hm
  go_enter Tryd.func30, Tryd.ntmps30
  go_wp2_with fail
  go_loopw [13] (fun i wr => ∃ k n : Nat, k ≤ l.length ∧ i = .int .i64 k ∧ Hid (l.take k = m.take k) ∧ wr = w.drewN n) (fun i _ => l.length - (intOf i).toNat)
  case atStart => exact ⟨0, 0, Nat.zero_le _, rfl, Lib.hid (by simp), rfl⟩
  case round =>
    obtain ⟨k, n, hk, rfl, HT, rfl⟩ := hrel
    have hml := HM.out
    unfold maxLen at hml
    by_cases hlt : k < l.length
    · have hlt' : k < m.length := by omega
      have hk0 : (0 : Int) ≤ (k : Int) := Int.natCast_nonneg _
      have hk1 : (k : Int) < (l.length : Int) := by omega
      have hk2 : (k : Int) < (m.length : Int) := by omega
      obtain ⟨h0, h1⟩ := Mb.get HL.out hlt
      obtain ⟨h0', h1'⟩ := Mb.get HR.out hlt'
      have c0 : w.cell? ⟨b, off + k * 2, none⟩ = some (.int .i64 l[k].back) := by simpa using h0
      have c1 : w.cell? ⟨b, off + k * 2 + 1, none⟩ = some (.int .i64 l[k].weight) := by simpa using h1
      have d0 : w.cell? ⟨b', off' + k * 2, none⟩ = some (.int .i64 m[k].back) := by simpa using h0'
      have d1 : w.cell? ⟨b', off' + k * 2 + 1, none⟩ = some (.int .i64 m[k].weight) := by simpa using h1'
      clear h0 h1 h0' h1'
      by_cases he : l[k].back = m[k].back
      · by_cases hf : l[k].weight = m[k].weight
        · have HE := Lib.hid (show l[k] = m[k] by cases hx : l[k]; cases hy : m[k]; rw [hx, hy] at he hf; simp at he hf; rw [he, hf])
          go_wp2_with fail
          go_region
          go_wp2_with fail
          go_roundw
          case rel => exact ⟨k + 1, n + 1, by omega, by go_num, Lib.hid (take_snoc_eq HT.out hlt hlt' HE.out), by simp⟩
          case measure => simp [intOf]; omega
        · have HF := Lib.hid (ne_of_get hlt hlt' (fun e => hf (by rw [e])))
          go_wp2_with fail
          go_region
          go_wp2_with fail
          go_ret
          exact ⟨by rw [decide_eq_false HF.out]; rfl, belowN (Below.refl _ _) _⟩
      · have HF := Lib.hid (ne_of_get hlt hlt' (fun e => he (by rw [e])))
        go_wp2_with fail
        go_region
        go_wp2_with fail
        go_ret
        exact ⟨by rw [decide_eq_false HF.out]; rfl, belowN (Below.refl _ _) _⟩
    · have : k = l.length := by omega
      subst this
      have HF := Lib.hid (show l = m by have := HT.out; rwa [List.take_length, h, List.take_length] at this)
      go_wp2_with fail
      go_ret
      exact ⟨by rw [decide_eq_true HF.out]; rfl, belowN (Below.refl _ _) _⟩
theorem eqM_nil (A A' : Option Addr) (c c' : Nat) (w : World) :
    Calls Tryd.prog 30 #[.slice A 0 c, .slice A' 0 c'] w fun e w' => e = .returned (.bool true) ∧ Below w.heap.size w w' := by
  go_enter Tryd.func30, Tryd.ntmps30
  go_wp2_with fail
  refine wp_loop_rounds 1 ?_; rw [rounds_succ]
  go_wp2_with fail
  go_ret
  exact ⟨rfl, Below.refl _ _⟩
theorem eqM_any (A A' : Option Addr) (c c' : Nat) (l m : List Mb) (w : World) (hm : l.length ≤ maxLen) (hl : ES w w.heap.size A 2 (l.map Mb.cs)) (hr : ES w w.heap.size A' 2 (m.map Mb.cs)) :
    Calls Tryd.prog 30 #[.slice A l.length c, .slice A' m.length c'] w fun e w' => e = .returned (.bool (decide (l = m))) ∧ Below w.heap.size w w' := by
  by_cases h : l.length = m.length
  · rcases hl with hl | ⟨b, off, hb, rfl, hl⟩
    · obtain rfl : l = [] := by simpa using hl
      obtain rfl : m = [] := List.eq_nil_of_length_eq_zero h.symm
      exact (eqM_nil A A' c c' w).mono fun e w' ⟨h1, h2⟩ => ⟨by rw [h1]; rfl, h2⟩
    · rcases hr with hr | ⟨b', off', hb', rfl, hr⟩
      · obtain rfl : m = [] := by simpa using hr
        obtain rfl : l = [] := List.eq_nil_of_length_eq_zero h
        exact (eqM_nil _ A' c c' w).mono fun e w' ⟨h1, h2⟩ => ⟨by rw [h1]; rfl, h2⟩
      · exact eqM_cells b off b' off' c c' l m w h hm hl hr hb hb'
  · refine (eqM_len A A' c c' l m w h).mono fun e w' ⟨h1, h2⟩ => ⟨by rw [h1, decide_eq_false]; exact fun e => h (by rw [e]), h2⟩
end Go.Proofs.YthfdhggcnkgjfaaDoor
