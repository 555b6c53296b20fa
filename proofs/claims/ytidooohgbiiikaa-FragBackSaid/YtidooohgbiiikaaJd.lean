import Derived.Test.YtidooohgbiiikaaRows
import Derived.Test.YtidooohgbiiikaaBytesB
import Derived.Test.YtidooohgbiiikaaRgW
import Derived.Outline
import Derived.Deep.Light
import Derived.Deep.DeepCutAuto
import Derived.Deep.LoopGhost
import Derived.Lib.SliceRun
import Derived.RegionTactic
import Derived.BigRegion
import Derived.Test.YtidooohgbiiikaaI
import Derived.Test.YtidooohgbiiikaaF
import Derived.Test.YtidooohgbiiikaaPlainS
/- slices.Clone at bytes. -/
namespace Go.Proofs.Ytidooohgbiiikaa
open Go.RowKit
set_option linter.unusedVariables false
theorem Try.info5sc : (Try.prog.info? 5).map (fun i => (i.zero, i.size, i.bytes)) = some (some (.int .u8 0), 1, 1) := by kernel_rfl
theorem slClone_any (A : Option Addr) (c : Nat) (l : List UInt8) (w : World) (hl : l.length ≤ 1000000) (hB : BS w w.heap.size A l) :
    Calls Try.prog 15 #[.slice A l.length c] w fun e w' => ∃ v, e = .returned v ∧ Row w' w.heap.size 5 v (bcs l) ∧ Below w.heap.size w w' := by
  have hq := fun W => Lib.run_eql_slice_nil (P := Try.prog) W 22 5 A l.length c 0 0 Try.underlying22
  have h5 := Try.info5sc
  have HB := Lib.hid hB
  cases A with
  | none =>
    obtain rfl : l = [] := by
      rcases hB with h | ⟨_, _, _, h, _⟩
      · exact h
      · cases h
    clear hB hq
    have hq := fun W => Lib.run_eql_slice_nil (P := Try.prog) W 22 5 none 0 c 0 0 Try.underlying22
    go_enter Try.func15, Try.ntmps15
    go_wp2_with fail
    go_ret
    exact ⟨_, rfl, Row.nil _ _ _, Below.refl _ _⟩
  | some A =>
    clear hB
    go_enter Try.func15, Try.ntmps15
    go_wp2_with (at_builtin; refine wpList_append_row rfl (.tmp 5) (.tmp 6) 22 rfl w.heap.size 5 (.int .u8 0) 1 Try.underlying22 h5 rfl _ [] rfl (some A) l.length c (bcs l) rfl (bcs_length l).symm ?a1 ?a2 (bcs_one l) ?a3 ?a4 ?a5 ?_)
    case a1 => exact Row.of_blk (cs := #[]) (Blk.new_ rfl _ _) (Nat.le_refl _) (by simp) rfl
    case a2 => exact (HB.out.alloc (Nat.le_refl _) _).src
    case a3 => rw [bcs_length]; unfold maxLen; simp; omega
    case a4 => rw [bcs_length]; simp; omega
    case a5 => simp
    intro v1 w1 hrow hgr _
    have HR := Lib.hid hrow
    have HB1 := Lib.hid (show Below w.heap.size w w1 from ((Below.refl _ _).alloc (Nat.le_refl _) _).trans (below_grown hgr (fun i e => by simp [Value.ownBlock] at e; omega) (by simp)))
    clear hrow hgr
    go_wp2_with fail
    go_ret
    exact ⟨_, rfl, HR.out, HB1.out⟩
end Go.Proofs.Ytidooohgbiiikaa
/- Slices of slices of bytes, and what Split returns. -/
namespace Go.Proofs.Ytidooohgbiiikaa
open Go.RowKit
set_option linter.unusedVariables false
/-- A slice of slices of bytes, in memory of its own. -/
def FragsV (w : World) (base : Nat) (v : Value) (ls : List (List UInt8)) : Prop := ∃ vs, Row w base 22 v vs ∧ vs.length = ls.length ∧ ∀ k (h : k < vs.length) (h' : k < ls.length), Byt w vs[k] ls[k]
def Recs (w : World) (base : Nat) (v : Value) (ls : List (List UInt8)) : Prop := ∃ vs, Row w base 22 v vs ∧ vs.length = ls.length ∧ ∀ k (h : k < vs.length) (h' : k < ls.length), Row w base 5 vs[k] (bcs ls[k])
theorem Row.apart {w : World} {b b' e e' : Nat} {v u : Value} {xs ys : List Value} (h : Row w b e v xs) (h' : Row w b' e' u ys) (hne : e ≠ e') : u.ownBlock = none ∨ u.ownBlock ≠ v.ownBlock := by
  rcases h'.2 with ⟨rfl, _⟩ | ⟨g, cap, cur, rfl, _, hb, _⟩
  · exact .inl rfl
  · exact .inr fun he => h.ne (g := g) (t := e') (cs := cur) hb hne he.symm
theorem Recs.nil (w : World) (base : Nat) : Recs w base (.slice none 0 0) [] := ⟨[], Row.nil _ _ _, rfl, fun k h => by simp at h⟩
theorem Recs.kept {w w' : World} {base : Nat} {v : Value} {ls : List (List UInt8)} (h : Recs w base v ls) (hk : Kept (fun _ => False) w w') : Recs w' base v ls := by
  obtain ⟨vs, h1, h2, h3⟩ := h
  exact ⟨vs, h1.kept hk (fun _ _ h => h), h2, fun k a b => (h3 k a b).kept hk (fun _ _ h => h)⟩
theorem Recs.shape {w : World} {base : Nat} {v : Value} {ls : List (List UInt8)} (h : Recs w base v ls) : ∃ A c, v = .slice A ls.length c ∧ ls.length ≤ c ∧ c ≤ maxLen := by
  obtain ⟨vs, h1, h2, _⟩ := h
  obtain ⟨A, c, e, h4, h5⟩ := h1.shape
  rw [h2] at e h4
  exact ⟨A, c, e, h4, h5⟩
theorem Recs.frags {w : World} {base base' : Nat} {v : Value} {ls : List (List UInt8)} (h : Recs w base v ls) (hb : base' ≤ base) : FragsV w base' v ls := by
  obtain ⟨vs, h1, h2, h3⟩ := h
  exact ⟨vs, h1.more hb, h2, fun k a b => (h3 k a b).byt⟩
theorem FragsV.nil (w : World) (base : Nat) : FragsV w base (.slice none 0 0) [] := ⟨[], Row.nil _ _ _, rfl, fun k h => by simp at h⟩
theorem FragsV.one {w : World} {base : Nat} {v : Value} {l : List UInt8} (hy : Byt w v l) (hb : base ≤ w.heap.size) : FragsV (w.alloc (.cells #[v] 22)) base (.slice (some ⟨w.heap.size, 0, none⟩) 1 1) [l] :=
  ⟨[v], Row.of_blk (cs := #[v]) (Blk.new _ _ _) hb (by unfold maxLen; simp) rfl, rfl, fun k h h' => by
    obtain rfl : k = 0 := by simp at h; omega
    exact hy.on0 ((Kept.refl _ _).alloc _)⟩
/-- One more. -/
theorem Recs.snoc {w w' : World} {base : Nat} {v v' u : Value} {vs : List Value} {ls : List (List UInt8)} {y : List UInt8} {o : Obj} (h1 : Row w base 22 v vs) (h2 : vs.length = ls.length) (h3 : ∀ k (h : k < vs.length) (h' : k < ls.length), Row w base 5 vs[k] (bcs ls[k])) (hy : Row w base 5 u (bcs y))
    (hr : Row w' base 22 v' (vs ++ [u])) (hg : (w.alloc o).grownBy w' v.ownBlock) : Recs w' base v' (ls ++ [y]) := by
  refine ⟨_, hr, by simp [h2], fun k h h' => ?_⟩
  by_cases hk : k < vs.length
  · rw [List.getElem_append_left hk, List.getElem_append_left (by rw [← h2]; exact hk)]
    exact ((h3 k hk (by rw [← h2]; exact hk)).alloc _).grown hg (h1.apart (h3 k hk (by rw [← h2]; exact hk)) (by decide))
  · obtain rfl : k = vs.length := by simp at h; omega
    have e1 : (vs ++ [u])[vs.length] = u := by simp
    have e2 : (ls ++ [y])[vs.length] = y := by rw [List.getElem_append_right (by rw [h2]; exact Nat.le_refl _)]; simp [h2]
    rw [e1, e2]
    exact (hy.alloc _).grown hg (h1.apart hy (by decide))
theorem relAt_load_mid {P : Program} {w : World} {o : Oper} {a : Act} {R : Value → World → Prop} (ty : TypeId) (x : Operand) (ho : o.op = .load ty x)
    (b of_ : Nat) (hx : a.eval x = .pointer (some ⟨b, of_, none⟩)) (cs : List Value) (d : TypeDesc) (hc : w.rangeAt b of_ cs)
    (hu : P.underlying ty = some d) (hd : d.isRow = true) (hi : (P.info? ty).map (·.size) = some cs.length) (h : R (.agg cs.toArray) w) : relAt P o a w R := by
  unfold relAt execOp
  simp only [ho, hx, Instr.loadAt, Instr.sureAddr, Sem.run_bind, Sem.run_pure, Result.andThen_ok, run_loadVar_mid w b of_ ty cs d hc hu hd hi]
  exact h
theorem Try.info22r : (Try.prog.info? 22).map (fun i => (i.zero, i.size, i.bytes)) = some (some (.slice none 0 0), 1, 24) := by kernel_rfl
def SplitP (b : List UInt8) (most : Int) (w : World) (e : Ending) (w' : World) : Prop := Below w.heap.size w w' ∧
  ∃ v, e = .returned (.tuple #[v, .int .i64 (splitR b most).1]) ∧ FragsV w' w.heap.size v (splitR b most).2
def TupRow (base : Nat) (P : List UInt8) (u : World) (v : Value) : Prop := ∃ pv, v = .tuple #[pv, .int .i64 0] ∧ Row u base 5 pv (bcs P)
theorem slClone_len (A : Option Addr) (c : Nat) (l : List UInt8) (m : Nat) (hm : l.length = m) (w : World) (hl : m ≤ 1000000) (hB : BS w w.heap.size A l) :
    Calls Try.prog 15 #[.slice A m c] w fun e w' => ∃ v, e = .returned v ∧ Row w' w.heap.size 5 v (bcs l) ∧ Below w.heap.size w w' := by
  subst hm
  exact slClone_any A c l w hl hB
theorem Byt.bs_of {w : World} {A : Option Addr} {n c : Nat} {l : List UInt8} (h : Byt w (.slice A n c) l) : BS w w.heap.size A l := by
  obtain ⟨A', c', e, _, _, h⟩ := h
  injection e with e1 e2 e3
  rw [e1]; exact h
end Go.Proofs.Ytidooohgbiiikaa
