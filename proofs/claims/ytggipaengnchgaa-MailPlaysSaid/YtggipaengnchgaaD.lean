/- slices.DeleteFunc at letters; Clear. -/
import Derived.Test.YtggipaengnchgaaC
import Derived.Deep.LoopGhost
namespace Go.Proofs.Ytggipaengnchgaa
open Go.RowKit
set_option linter.unusedVariables false
theorem clos_any (nb : Nat) (nd node : Int) (bk : Bool) (A : Option Addr) (n c : Nat) (w : World) (h : Blk w nb 3 #[.int .i64 node]) : Calls Try.prog 21 #[.agg #[.int .i64 nd, .bool bk, .slice A n c], .pointer (some ⟨nb, 0, none⟩)] w fun e w' => e = .returned (.bool (nd == node)) ∧ Below w.heap.size w w' := by
  have c0 := h.cell 0
  simp at c0
  have l0 := h.lt
  clear h
  go_enter Try.func21, Try.ntmps21
  go_wp2_with fail
  go_ret
  exact ⟨rfl, (Below.refl _ _).alloc (Nat.le_refl _) _⟩
theorem le_cells {w : World} {b off k : Nat} {L : List Le} (h : ElAt w b off 3 (L.map Le.cs)) (hk : k < L.length) :
    w.cell? ⟨b, off + k * 3, none⟩ = some (.int .i64 L[k].node) ∧ w.cell? ⟨b, off + k * 3 + 1, none⟩ = some (.bool L[k].back) ∧ w.cell? ⟨b, off + k * 3 + 2, none⟩ = some L[k].v := by
  have hk' : k < (L.map Le.cs).length := by simpa using hk
  have h0 := h.get0 hk' (by omega)
  have h1 := h.get hk' 1 (by omega)
  have h2 := h.get hk' 2 (by omega)
  simp [Le.cs] at h0 h1 h2
  exact ⟨h0, h1, h2⟩
def SlV (L : List Le) : Prop := ∀ x ∈ L, ∃ A n c, x.v = .slice A n c
def IxP (L : List Le) (node z : Int) : Prop := (z = -1 ∧ ∀ x ∈ L, x.node ≠ node) ∨ ∃ (j : Nat) (h : j < L.length), z = (j : Int) ∧ L[j].node = node ∧ ∀ i (hi : i < L.length), i < j → L[i].node ≠ node
def IxPost (L : List Le) (node : Int) (w : World) (e : Ending) (w' : World) : Prop := ∃ z, e = .returned (.int .i64 z) ∧ IxP L node z ∧ Below w.heap.size w w'
set_option maxHeartbeats 2000000 in
theorem indexF_any (nb : Nat) (node : Int) (A : Option Addr) (c : Nat) (L : List Le) (w : World) (hl : L.length ≤ 100000) (hs : SlV L) (hN : Blk w nb 3 #[.int .i64 node]) (hE : ES w w.heap.size A 3 (L.map Le.cs)) :
    Calls Try.prog 24 #[.slice A L.length c, (.func (.func 21) #[] #[.pointer (some ⟨nb, 0, none⟩)])] w (IxPost L node w) := by
  have HE := Lib.hid hE
  have HN := Lib.hid hN
  have HS := Lib.hid hs
  clear hE hN hs
  go_enter Try.func24, Try.ntmps24
  go_wp2_with fail
  go_loopw [5, 8] (fun _ i wr => ∃ k : Nat, k ≤ L.length ∧ i = .int .i64 (k : Int) ∧ Hid (∀ i (hi : i < L.length), i < k → L[i].node ≠ node) ∧ Hid (Below w.heap.size w wr)) (fun _ i _ => L.length - (intOf i).toNat)
  case atStart => exact ⟨0, by omega, rfl, Lib.hid (fun i hi h => by omega), Lib.hid (Below.refl _ _)⟩
  case round =>
    obtain ⟨k, hk, rfl, HI, HB⟩ := hrel
    have hsw := HB.out.size
    by_cases hkl : k < L.length
    · obtain ⟨b, o, hb, rfl, hel⟩ := HE.out.at (k := k) (by simpa using hkl)
      obtain ⟨c0, c1, c2⟩ := le_cells (hel.keep (w' := wr) (fun o => HB.out.cell (p := ⟨b, o, none⟩) hb)) hkl
      obtain ⟨VA, vn, vc, hv⟩ := HS.out L[k] (List.getElem_mem hkl)
      rw [hv] at c2
      obtain ⟨nd, hnd⟩ : ∃ nd, L[k].node = nd := ⟨_, rfl⟩
      obtain ⟨bk, hbk⟩ : ∃ bk, L[k].back = bk := ⟨_, rfl⟩
      rw [hnd] at c0
      rw [hbk] at c1
      have HND := Lib.hid hnd
      have kI : (k : Int) < (L.length : Int) := by omega
      have blt : b < wr.heap.size := by omega
      clear hel hv hnd hbk
      go_wp2_with fail
      refine (clos_any nb nd node bk VA vn vc wr (HN.out.below HB.out HN.out.lt)).mono ?_
      rintro e w1 ⟨rfl, hb1⟩
      have HB1 := Lib.hid (kept_of HB.out hb1)
      clear hb1 c0 c1 c2
      by_cases he : nd = node
      · subst he
        go_wp2_with fail
        go_ret
        exact ⟨_, rfl, .inr ⟨k, hkl, rfl, HND.out, HI.out⟩, HB1.out⟩
      · have heb : (nd == node) = false := beq_eq_false_iff_ne.2 he
        go_wp2_with fail
        go_roundw
        case rel => exact ⟨k + 1, by omega, by go_num, Lib.hid (fun i hi h => by
          by_cases e : i = k
          · subst e; rw [HND.out]; exact he
          · exact HI.out i hi (by omega)), HB1⟩
        case measure => simp [intOf]; omega
    · obtain rfl : k = L.length := by omega
      have hkn : ¬ (L.length : Int) < (L.length : Int) := by omega
      go_wp2_with fail
      go_ret
      exact ⟨_, rfl, .inl ⟨rfl, fun x hx => by obtain ⟨i, hi, rfl⟩ := List.mem_iff_getElem.1 hx; exact HI.out i hi hi⟩, HB.out⟩
def keepN (L : List Le) (node : Int) : List Le := L.filter fun x => decide (x.node ≠ node)
theorem keepN_snoc (L : List Le) (node : Int) (j : Nat) (hj : j < L.length) : keepN (L.take (j + 1)) node = keepN (L.take j) node ++ (if L[j].node = node then [] else [L[j]]) := by
  unfold keepN
  rw [List.take_succ_eq_append_getElem hj, List.filter_append]
  congr 1
  by_cases h : L[j].node = node <;> simp [h]
/-- What the loop of DeleteFunc keeps. -/
structure DfS (L M : List Le) (node : Int) (i j : Nat) : Prop where
  len : M.length = L.length
  lt : i < j
  le : j ≤ L.length
  pre : M.take i = keepN (L.take j) node
  suf : M.drop j = L.drop j
  sub : ∀ x ∈ M, x ∈ L
theorem DfS.at_ {L M : List Le} {node : Int} {i j : Nat} (h : DfS L M node i j) (hj : j < L.length) : ∃ h' : j < M.length, M[j] = L[j] := by
  have hM : j < M.length := by rw [h.len]; exact hj
  refine ⟨hM, ?_⟩
  have := congrArg (fun l => l[0]?) h.suf
  simp only [List.getElem?_drop, Nat.add_zero] at this
  rw [List.getElem?_eq_getElem hM, List.getElem?_eq_getElem hj] at this
  injection this
theorem DfS.drop_ {L M : List Le} {node : Int} {i j : Nat} (h : DfS L M node i j) (hj : j < L.length) (hn : L[j].node = node) : DfS L M node i (j + 1) := by
  refine ⟨h.len, by have := h.lt; omega, by omega, ?_, ?_, h.sub⟩
  · rw [keepN_snoc L node j hj, if_pos hn, List.append_nil]; exact h.pre
  · have := congrArg (List.drop 1) h.suf
    rwa [List.drop_drop, List.drop_drop] at this
theorem DfS.keep_ {L M : List Le} {node : Int} {i j : Nat} (h : DfS L M node i j) (hj : j < L.length) (hn : L[j].node ≠ node) : DfS L (M.set i L[j]) node (i + 1) (j + 1) := by
  have hiM : i < M.length := by rw [h.len]; have := h.lt; omega
  refine ⟨by rw [List.length_set]; exact h.len, by have := h.lt; omega, by omega, ?_, ?_, ?_⟩
  · rw [keepN_snoc L node j hj, if_neg hn, ← h.pre, List.take_succ_eq_append_getElem (by rw [List.length_set]; exact hiM), List.getElem_set_self]
    congr 1
    rw [List.take_set_of_le (Nat.le_refl _)]
  · have h2 := h.lt
    rw [List.drop_set_of_lt (by omega)]
    have := congrArg (List.drop 1) h.suf
    rwa [List.drop_drop, List.drop_drop] at this
  · intro x hx
    rcases List.mem_or_eq_of_mem_set hx with hx | rfl
    · exact h.sub x hx
    · exact List.getElem_mem hj
theorem le_set (M : List Le) (i : Nat) (hi : i < M.length) (nd : Int) (bk : Bool) (v : Value) (l : List UInt8) :
    (((M.map Le.cs).set i ((M.map Le.cs)[i]'(by simpa using hi) |>.set 0 (.int .i64 nd))).set i (([Value.int .i64 nd, .bool M[i].back, M[i].v]).set 1 (.bool bk))).set i (([Value.int .i64 nd, .bool bk, M[i].v]).set 2 v) = (M.set i ⟨nd, bk, v, l⟩).map Le.cs := by
  rw [List.set_set, List.set_set, List.map_set]
  rfl
end Go.Proofs.Ytggipaengnchgaa
