/- Letters that came in; what the mail and a list of them have alike. -/
import Derived.Test.YtggipaengnchgaaG
import Derived.Test.YtggipaengnchgaaOpenN
namespace Go.Proofs.Ytggipaengnchgaa
open Go.RowKit
set_option linter.unusedVariables false
theorem Try.infoLeV : (Try.prog.info? 28).map (fun i => (i.zero, i.size, i.bytes)) = some (some (.agg #[.int .i64 0, .bool false, .slice none 0 0]), 3, 40) := by kernel_rfl
section
open Go.ChangeShapes Go.WideShapes Go.Deep
structure LeV where
  node : Int
  back : Bool
  b : BV
def LeV.cs (a : LeV) : List Value := [.int .i64 a.node, .bool a.back, a.b.val]
theorem LeV.cs_len (a : LeV) : a.cs.length = 3 := rfl
def LeV.wf (a : LeV) (w : World) : Prop := (-9223372036854775808 ≤ a.node ∧ a.node ≤ 9223372036854775807) ∧ a.b.ok w
theorem trod_LeV {H : Type} {enc : TypeId × Value → H} {w : World} {base : Nat} {spare : Nat → Bool} {held : Bool} {fuel : Nat} {l : List Value} {x : DataW H × List MemPlace} (h : DataW.trod enc Try.prog w base spare held fuel 28 l = some x) (hl : l.length = 3) : ∃ a : LeV, l = a.cs ∧ a.wf w := by
  match l, hl with
  | [c0, c1, c2], _ =>
    obtain ⟨xs, n, -, -, -, hlen, hg⟩ := DataW.trod_struct Try.underlying28 h
    have hlk : xs.length = 3 := hlen
    have g0 : DataW.trod enc Try.prog w base spare held n 3 (([c0, c1, c2].drop 0).take (Try.prog.cellsOf 3)) = xs[0]? := hg 0 _ rfl
    rw [show Try.prog.cellsOf 3 = 1 by kernel_rfl, List.getElem?_eq_getElem (by omega)] at g0
    have g1 : DataW.trod enc Try.prog w base spare held n 4 (([c0, c1, c2].drop 1).take (Try.prog.cellsOf 4)) = xs[1]? := hg 1 _ rfl
    rw [show Try.prog.cellsOf 4 = 1 by kernel_rfl, List.getElem?_eq_getElem (by omega)] at g1
    have g2 : DataW.trod enc Try.prog w base spare held n 26 (([c0, c1, c2].drop 2).take (Try.prog.cellsOf 26)) = xs[2]? := hg 2 _ rfl
    rw [show Try.prog.cellsOf 26 = 1 by kernel_rfl, List.getElem?_eq_getElem (by omega)] at g2
    obtain ⟨a0, e0, -, z0⟩ := DataW.trod_int Try.underlying3 g0
    simp [Lit.wf, IntKind.min, IntKind.max, IntKind.signed, IntKind.bits] at e0 z0
    subst e0
    obtain ⟨a1, e1, -⟩ := DataW.trod_bool Try.underlying4 g1
    simp at e1
    subst e1
    obtain ⟨a2, rfl, z2⟩ := trod_bytes Try.underlying26 Try.underlying5 (by kernel_rfl) g2
    exact ⟨⟨a0, a1, a2⟩, rfl, ⟨⟨by simpa using z0.1, by simpa using z0.2⟩, z2⟩⟩
end
def LeV.key (x : LeV) : Int × Bool × List UInt8 := (x.node, x.back, x.b.l)
def Le.key (x : Le) : Int × Bool × List UInt8 := (x.node, x.back, x.l)
def keepV (L : List LeV) (node : Int) : List LeV := L.filter fun x => decide (x.node ≠ node)
def Alike (L : List Le) (M : List LeV) : Prop := L.map Le.key = M.map LeV.key
theorem Alike.len {L : List Le} {M : List LeV} (h : Alike L M) : L.length = M.length := by have := congrArg List.length h; simpa using this
theorem Alike.nil : Alike [] [] := rfl
theorem Alike.keep {L : List Le} {M : List LeV} (h : Alike L M) (node : Int) : Alike (keepN L node) (keepV M node) := by
  have h1 : (keepN L node).map Le.key = (L.map Le.key).filter (fun p => decide (p.1 ≠ node)) := by unfold keepN; rw [List.filter_map]; rfl
  have h2 : (keepV M node).map LeV.key = (M.map LeV.key).filter (fun p => decide (p.1 ≠ node)) := by unfold keepV; rw [List.filter_map]; rfl
  unfold Alike
  rw [h1, h2, h]
theorem Alike.snoc {L : List Le} {M : List LeV} (h : Alike L M) (x : Le) (y : LeV) (hk : x.key = y.key) : Alike (L ++ [x]) (M ++ [y]) := by
  unfold Alike; rw [List.map_append, List.map_append, h]; simp [hk]
theorem Alike.get {L : List Le} {M : List LeV} (h : Alike L M) (i : Nat) (hi : i < M.length) : ∃ x, L[i]? = some x ∧ x.key = M[i].key := by
  have hl : i < L.length := by rw [h.len]; exact hi
  refine ⟨L[i], List.getElem?_eq_getElem hl, ?_⟩
  have := congrArg (fun l => l[i]?) h
  simpa [hl, hi] using this
theorem Alike.erase {L : List Le} {M : List LeV} (h : Alike L M) (i : Nat) : Alike (L.eraseIdx i) (M.eraseIdx i) := by
  have e1 : (L.eraseIdx i).map Le.key = (L.map Le.key).eraseIdx i := by rw [List.eraseIdx_eq_take_drop_succ, List.eraseIdx_eq_take_drop_succ, List.map_append, List.map_take, List.map_drop]
  have e2 : (M.eraseIdx i).map LeV.key = (M.map LeV.key).eraseIdx i := by rw [List.eraseIdx_eq_take_drop_succ, List.eraseIdx_eq_take_drop_succ, List.map_append, List.map_take, List.map_drop]
  unfold Alike; rw [e1, e2, h]
theorem keepV_len (L : List LeV) (node : Int) : (keepV L node).length ≤ L.length := List.length_filter_le _ _
theorem keepV_snoc (L : List LeV) (node : Int) (j : Nat) (hj : j < L.length) : keepV (L.take (j + 1)) node = keepV (L.take j) node ++ (if L[j].node = node then [] else [L[j]]) := by
  unfold keepV
  rw [List.take_succ_eq_append_getElem hj, List.filter_append]
  congr 1
  by_cases h : L[j].node = node <;> simp [h]
theorem lev_cells {w : World} {b off k : Nat} {L : List LeV} (h : ElAt w b off 3 (L.map LeV.cs)) (hk : k < L.length) :
    w.cell? ⟨b, off + k * 3, none⟩ = some (.int .i64 L[k].node) ∧ w.cell? ⟨b, off + k * 3 + 1, none⟩ = some (.bool L[k].back) ∧ w.cell? ⟨b, off + k * 3 + 2, none⟩ = some (.slice L[k].b.A L[k].b.l.length L[k].b.c) := by
  have hk' : k < (L.map LeV.cs).length := by simpa using hk
  have h0 := h.get0 hk' (by omega)
  have h1 := h.get hk' 1 (by omega)
  have h2 := h.get hk' 2 (by omega)
  simp [LeV.cs, BV.val] at h0 h1 h2
  exact ⟨h0, h1, h2⟩
theorem lev_one (x : LeV) : ∀ u ∈ [x.cs].flatten, u.oneCell' = true := by
  intro u hu
  simp [LeV.cs] at hu
  rcases hu with rfl | rfl | rfl <;> rfl
theorem levs_one (L : List LeV) : ∀ u ∈ (L.map LeV.cs).flatten, u.oneCell' = true := by
  intro u hu
  obtain ⟨cs, hcs, hu⟩ := List.mem_flatten.1 hu
  obtain ⟨x, _, rfl⟩ := List.mem_map.1 hcs
  simp [LeV.cs] at hu
  rcases hu with rfl | rfl | rfl <;> rfl
end Go.Proofs.Ytggipaengnchgaa
