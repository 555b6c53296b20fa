/- Acts; what the mail and the reference have alike while a law plays them. -/
import Derived.Test.YtggipaengnchgaaL
namespace Go.Proofs.Ytggipaengnchgaa
open Go.RowKit
set_option linter.unusedVariables false
section
open Go.ChangeShapes Go.WideShapes Go.Deep
structure AcV where
  kind : Int
  x : LeV
  i : Int
def AcV.cs (a : AcV) : List Value := [.int .i64 a.kind] ++ a.x.cs ++ [.int .i64 a.i]
theorem AcV.cs_len (a : AcV) : a.cs.length = 5 := rfl
def AcV.wf (a : AcV) (w : World) : Prop := (-9223372036854775808 ≤ a.kind ∧ a.kind ≤ 9223372036854775807) ∧ a.x.wf w ∧ (-9223372036854775808 ≤ a.i ∧ a.i ≤ 9223372036854775807)
theorem trod_AcV {H : Type} {enc : TypeId × Value → H} {w : World} {base : Nat} {spare : Nat → Bool} {held : Bool} {fuel : Nat} {l : List Value} {x : DataW H × List MemPlace} (h : DataW.trod enc Try.prog w base spare held fuel 42 l = some x) (hl : l.length = 5) : ∃ a : AcV, l = a.cs ∧ a.wf w := by
  match l, hl with
  | [c0, c1, c2, c3, c4], _ =>
    obtain ⟨xs, n, -, -, -, hlen, hg⟩ := DataW.trod_struct Try.underlying42 h
    have hlk : xs.length = 3 := hlen
    have g0 : DataW.trod enc Try.prog w base spare held n 3 (([c0, c1, c2, c3, c4].drop 0).take (Try.prog.cellsOf 3)) = xs[0]? := hg 0 _ rfl
    rw [show Try.prog.cellsOf 3 = 1 by kernel_rfl, List.getElem?_eq_getElem (by omega)] at g0
    have g1 : DataW.trod enc Try.prog w base spare held n 28 (([c0, c1, c2, c3, c4].drop 1).take (Try.prog.cellsOf 28)) = xs[1]? := hg 1 _ rfl
    rw [show Try.prog.cellsOf 28 = 3 by kernel_rfl, List.getElem?_eq_getElem (by omega)] at g1
    have g2 : DataW.trod enc Try.prog w base spare held n 3 (([c0, c1, c2, c3, c4].drop 4).take (Try.prog.cellsOf 3)) = xs[2]? := hg 2 _ rfl
    rw [show Try.prog.cellsOf 3 = 1 by kernel_rfl, List.getElem?_eq_getElem (by omega)] at g2
    obtain ⟨a0, e0, -, z0⟩ := DataW.trod_int Try.underlying3 g0
    simp [Lit.wf, IntKind.min, IntKind.max, IntKind.signed, IntKind.bits] at e0 z0
    subst e0
    obtain ⟨a1, e1, z1⟩ := trod_LeV g1 rfl
    have e1' : [c1, c2, c3] = a1.cs := e1
    unfold LeV.cs at e1'
    first | simp only [List.cons.injEq, and_true] at e1' | simp only [List.cons_append, List.nil_append, List.cons.injEq, and_true] at e1'
    obtain ⟨rfl, rfl, rfl⟩ := e1'
    obtain ⟨a2, e2, -, z2⟩ := DataW.trod_int Try.underlying3 g2
    simp [Lit.wf, IntKind.min, IntKind.max, IntKind.signed, IntKind.bits] at e2 z2
    subst e2
    exact ⟨⟨a0, a1, a2⟩, rfl, ⟨⟨by simpa using z0.1, by simpa using z0.2⟩, z1, ⟨by simpa using z2.1, by simpa using z2.2⟩⟩⟩
end
theorem ac_cells {w : World} {b off k : Nat} {L : List AcV} (h : ElAt w b off 5 (L.map AcV.cs)) (hk : k < L.length) :
    w.cell? ⟨b, off + k * 5, none⟩ = some (.int .i64 L[k].kind) ∧ w.cell? ⟨b, off + k * 5 + 1, none⟩ = some (.int .i64 L[k].x.node) ∧ w.cell? ⟨b, off + k * 5 + 2, none⟩ = some (.bool L[k].x.back) ∧ w.cell? ⟨b, off + k * 5 + 3, none⟩ = some (.slice L[k].x.b.A L[k].x.b.l.length L[k].x.b.c) ∧ w.cell? ⟨b, off + k * 5 + 4, none⟩ = some (.int .i64 L[k].i) := by
  have hk' : k < (L.map AcV.cs).length := by simpa using hk
  have h0 := h.get0 hk' (by omega)
  have h1 := h.get hk' 1 (by omega)
  have h2 := h.get hk' 2 (by omega)
  have h3 := h.get hk' 3 (by omega)
  have h4 := h.get hk' 4 (by omega)
  simp [AcV.cs, LeV.cs, BV.val] at h0 h1 h2 h3 h4
  exact ⟨h0, h1, h2, h3, h4⟩
/-- The reference's mail, in memory. -/
def RfS (rb B : Nat) (most lost : Int) (M : List LeV) (w : World) : Prop := ∃ A c, M.length ≤ c ∧ c ≤ maxLen ∧ Blk w rb 40 #[.int .i64 most, .slice A M.length c, .int .i64 lost] ∧ RowN w B 28 3 (.slice A M.length c) (M.map LeV.cs)
structure PyS (mb rb : Nat) (w0 : World) (most : Int) (k : Nat) (lost : Int) (ML : List Le) (M : List LeV) (w : World) : Prop where
  ml : MlS mb mb most lost ML w
  rf : RfS rb w0.heap.size most lost M w
  al : Alike ML M
  len : M.length ≤ k
  lo : 0 ≤ lost ∧ lost ≤ 60 * (k : Int)
  fine : ∀ x ∈ M, x.b.l.length ≤ 200 ∧ x.b.ok w0
  bel : Below w0.heap.size w0 w
  hb : w0.heap.size ≤ mb ∧ mb ≤ w.heap.size
  mr : w0.heap.size ≤ rb
theorem RfS.on {rb B : Nat} {most lost : Int} {M : List LeV} {w w' : World} (h : RfS rb B most lost M w) (hk : Kept (fun _ => False) w w') : RfS rb B most lost M w' := by
  obtain ⟨A, c, h1, h2, h3, h4⟩ := h
  exact ⟨A, c, h1, h2, h3.kept hk (fun h => h), h4.kept hk (fun _ _ h => h)⟩
theorem RfS.oth {rb B : Nat} {most lost : Int} {M : List LeV} {w w' : World} (h : RfS rb B most lost M w) (hk : Oth w w') : RfS rb B most lost M w' := by
  obtain ⟨A, c, h1, h2, h3, h4⟩ := h
  exact ⟨A, c, h1, h2, hk _ _ _ h3 (by decide) (by decide), h4.oth hk (by decide) (by decide)⟩
theorem PyS.on {mb rb : Nat} {w0 : World} {most : Int} {k : Nat} {lost : Int} {ML : List Le} {M : List LeV} {w w' : World} (h : PyS mb rb w0 most k lost ML M w) (hk : Kept (fun _ => False) w w') : PyS mb rb w0 most k lost ML M w' :=
  ⟨h.ml.on hk, h.rf.on hk, h.al, h.len, h.lo, h.fine, keptK h.bel hk, ⟨h.hb.1, Nat.le_trans h.hb.2 hk.size⟩, h.mr⟩
theorem PyS.onB {mb rb : Nat} {w0 : World} {most : Int} {k : Nat} {lost : Int} {ML : List Le} {M : List LeV} {w w' : World} (h : PyS mb rb w0 most k lost ML M w) (hk : Below w.heap.size w w') : PyS mb rb w0 most k lost ML M w' := h.on (Kept.ofB hk)
theorem PyS.next {mb rb : Nat} {w0 : World} {most : Int} {k : Nat} {lost : Int} {ML : List Le} {M : List LeV} {w : World} (h : PyS mb rb w0 most k lost ML M w) : PyS mb rb w0 most (k + 1) lost ML M w :=
  ⟨h.ml, h.rf, h.al, Nat.le_succ_of_le h.len, ⟨h.lo.1, by have := h.lo.2; omega⟩, h.fine, h.bel, h.hb, h.mr⟩
/-- A store into the reference's mail leaves the program's as it is. -/
theorem MlS.farR {mb base rb o : Nat} {most lost : Int} {L : List Le} {w : World} {cs : Array Value} (h : MlS mb base most lost L w) (hr : Blk w rb 40 cs) (u : Value) : MlS mb base most lost L (w.setCell ⟨rb, o, none⟩ u) := by
  obtain ⟨⟨LA, lc, h1, h2⟩, h3, h4⟩ := h
  exact ⟨⟨LA, lc, h1.far (p := ⟨rb, o, none⟩) (h1.ne_ hr (by decide)) _, h2.far (h2.ne hr (by decide))⟩, fun x hx => Row.far (h3 x hx) (Row.ne (h3 x hx) hr (by decide)), h4⟩
theorem MlS.farK {mb base rb : Nat} {most lost : Int} {L : List Le} {w w' : World} {cs : Array Value} (h : MlS mb base most lost L w) (hr : Blk w rb 40 cs) (hk : Kept (· = rb) w w') : MlS mb base most lost L w' := by
  obtain ⟨⟨LA, lc, h1, h2⟩, h3, h4⟩ := h
  exact ⟨⟨LA, lc, h1.kept hk (h1.ne_ hr (by decide)), h2.kept hk (fun g hg e => by subst e; exact h2.ne hr (by decide) hg)⟩, fun x hx => Row.kept (h3 x hx) hk (fun g hg e => by subst e; exact Row.ne (h3 x hx) hr (by decide) hg), h4⟩
theorem row_es {w : World} {base e sz n c : Nat} {A : Option Addr} {L : List (List Value)} (h : RowN w base e sz (.slice A n c) L) : ES w w.heap.size A sz L := by
  obtain ⟨A', c', hv, -, -, he⟩ := h.es
  injection hv with e1 e2 e3
  rw [e1]; exact he
theorem PyS.put {mb rb : Nat} {w0 w : World} {most : Int} {k : Nat} {lost : Int} {ML : List Le} {M : List LeV} {a0 a1 a2 : Value} {A : Option Addr} {n c B : Nat} (hm : MlS mb mb most lost ML w) (hB : Blk w rb 40 #[a0, a1, a2]) (hR : RowN w B 28 3 (.slice A n c) (M.map LeV.cs))
    (al : Alike ML M) (len : M.length ≤ k) (lo : 0 ≤ lost ∧ lost ≤ 60 * (k : Int)) (fine : ∀ x ∈ M, x.b.l.length ≤ 200 ∧ x.b.ok w0) (bel : Below w0.heap.size w0 w) (hb : w0.heap.size ≤ mb ∧ mb ≤ w.heap.size) (mr : w0.heap.size ≤ rb) (hBB : w0.heap.size ≤ B) :
    PyS mb rb w0 most k lost ML M (((w.setCell ⟨rb, 0, none⟩ (.int .i64 most)).setCell ⟨rb, 1, none⟩ (.slice A n c)).setCell ⟨rb, 2, none⟩ (.int .i64 lost)) := by
  obtain ⟨A', c', hv, h1, h2⟩ := hR.shape
  injection hv with e1 e2 e3
  subst e1 e2 e3
  rw [List.length_map] at hR h1 ⊢
  have hB1 := hB.set_ 0 (.int .i64 most)
  have hB2 := hB1.set_ 1 (.slice A M.length c)
  have hn := hR.ne hB (by decide)
  refine ⟨((hm.farR hB _).farR hB1 _).farR hB2 _, ⟨A, c, h1, h2, hB2.set_to rfl, (((hR.far hn).far hn).far hn).more hBB⟩, al, len, lo, fine, ((bel.setCell mr _).setCell mr _).setCell mr _, ⟨hb.1, by simpa [World.setCell] using hb.2⟩, mr⟩
theorem PyS.put2 {mb rb : Nat} {w0 w : World} {most : Int} {k : Nat} {lost l0 : Int} {ML : List Le} {M : List LeV} {a0 a1 a2 : Value} {A : Option Addr} {n c B : Nat} (hm : MlS mb mb most lost ML w) (hB : Blk w rb 40 #[a0, a1, a2]) (hR : RowN w B 28 3 (.slice A n c) (M.map LeV.cs))
    (al : Alike ML M) (len : M.length ≤ k) (lo : 0 ≤ lost ∧ lost ≤ 60 * (k : Int)) (fine : ∀ x ∈ M, x.b.l.length ≤ 200 ∧ x.b.ok w0) (bel : Below w0.heap.size w0 w) (hb : w0.heap.size ≤ mb ∧ mb ≤ w.heap.size) (mr : w0.heap.size ≤ rb) (hBB : w0.heap.size ≤ B) :
    PyS mb rb w0 most k lost ML M ((((w.setCell ⟨rb, 0, none⟩ (.int .i64 most)).setCell ⟨rb, 1, none⟩ (.slice A n c)).setCell ⟨rb, 2, none⟩ (.int .i64 l0)).setCell ⟨rb, 2, none⟩ (.int .i64 lost)) := by
  obtain ⟨A', c', hv, h1, h2⟩ := hR.shape
  injection hv with e1 e2 e3
  subst e1 e2 e3
  rw [List.length_map] at hR h1 ⊢
  have hB1 := hB.set_ 0 (.int .i64 most)
  have hB2 := hB1.set_ 1 (.slice A M.length c)
  have hB3 := hB2.set_ 2 (.int .i64 l0)
  have hn := hR.ne hB (by decide)
  refine ⟨(((hm.farR hB _).farR hB1 _).farR hB2 _).farR hB3 _, ⟨A, c, h1, h2, hB3.set_to rfl, ((((hR.far hn).far hn).far hn).far hn).more hBB⟩, al, len, lo, fine, (((bel.setCell mr _).setCell mr _).setCell mr _).setCell mr _, ⟨hb.1, by simpa [World.setCell] using hb.2⟩, mr⟩
theorem kept3 {rb : Nat} (w : World) (a b c : Value) : Kept (fun i => i = rb) w (((w.setCell ⟨rb, 0, none⟩ a).setCell ⟨rb, 1, none⟩ b).setCell ⟨rb, 2, none⟩ c) :=
  (((Kept.refl (fun i => i = rb) w).setCell (p := ⟨rb, 0, none⟩) (.inl rfl) a).setCell (p := ⟨rb, 1, none⟩) (.inl rfl) b).setCell (p := ⟨rb, 2, none⟩) (.inl rfl) c
theorem put_is {rb : Nat} {w : World} {a0 a1 a2 p q : Value} {L : List (List Value)} (hB : Blk w rb 40 #[a0, a1, a2]) (hL : ∀ x ∈ L, x.length = 3) (hm : L.length ≤ maxLen) :
    ∃ (v : Value) (u : World), Kept (fun i => i = rb) w u ∧ ∃ UA un uc, Blk u rb 40 #[p, .slice UA un uc, q] ∧ RowN u w.heap.size 28 3 (.slice UA un uc) L := by
  have hR := rowN_is w.heap.size w L hL (Nat.le_refl _) hm
  have hB' := hB.alloc (.cells L.flatten.toArray 28)
  have hn := hR.ne hB' (by decide)
  exact ⟨undef, _, (((Kept.refl _ w).alloc _).trans (kept3 _ p (.slice (some ⟨w.heap.size, 0, none⟩) L.length L.length) q)), _, _, _, ((hB'.set_ _ _).set_ _ _).set_to rfl, ((hR.far hn).far hn).far hn⟩
end Go.Proofs.Ytggipaengnchgaa
