/- Packets gathered from a range over a function: words and laws. -/
import Derived.Test.YtohimionlgaaoaaL
namespace Go.Proofs.Ytohimionlgaaoaa
open Go.RowKit
set_option linter.unusedVariables false
theorem Row.blk {w : World} {base e : Nat} {v : Value} {xs : List Value} {g : Nat} (h : Row w base e v xs) (hg : v.ownBlock = some g) : ∃ cs, Blk w g e cs := by
  rcases h.2 with ⟨rfl, _⟩ | ⟨g', cap, cur, rfl, _, hh, _⟩
  · cases hg
  · injection hg with hg; subst hg; exact ⟨cur, hh⟩
/-- Packets in a row of the call's own, each with bytes of the call's own. -/
def PksO (w : World) (base : Nat) (v : Value) (ps : List Pk) : Prop := ∃ L : List PkV, L.map (·.pk) = ps ∧ RowN w base 34 4 v (L.map PkV.cs) ∧ ∀ p ∈ L, Row w base 5 (.slice p.DA p.pk.dl.length p.dc) (bcs p.pk.dl)
theorem PksO.nil (w : World) (base : Nat) : PksO w base (.slice none 0 0) [] := ⟨[], rfl, RowN.nil _ _ _ _, fun p hp => by cases hp⟩
theorem PksO.own {w : World} {base : Nat} {v : Value} {ps : List Pk} (h : PksO w base v ps) {g : Nat} (hg : v.ownBlock = some g) : ∃ cs, Blk w g 34 cs := by
  obtain ⟨L, -, hr, -⟩ := h
  exact hr.blk hg
theorem PksO.kept {w w' : World} {base : Nat} {v : Value} {ps : List Pk} {S : Nat → Prop} (h : PksO w base v ps) (hk : Kept S w w') (hS : ∀ i, S i → ∀ t cs, Blk w i t cs → t ≠ 34 ∧ t ≠ 5) : PksO w' base v ps := by
  obtain ⟨L, hl, hr, hd⟩ := h
  refine ⟨L, hl, hr.kept hk fun g hg hs => ?_, fun p hp => (hd p hp).kept hk fun g hg hs => ?_⟩
  · obtain ⟨cs, hb⟩ := hr.blk hg
    exact (hS g hs _ _ hb).1 rfl
  · obtain ⟨cs, hb⟩ := (hd p hp).blk hg
    exact (hS g hs _ _ hb).2 rfl
theorem blk_cells {w : World} {i t : Nat} {cs : Array Value} {o : Obj} (h : Blk w i t cs) (ho : w.heap[i]? = some o) : o.isCells = true := by
  have h' : w.heap[i]? = some (.cells cs t (0, 0)) := h
  rw [h'] at ho; cases ho; rfl
theorem keepsOthers_of_kept {S : Nat → Prop} {u u' : World} (h : Kept S u u') (hS : ∀ i, S i → ∃ t cs, Blk u i t cs) : KeepsOthers u u' :=
  ⟨h.size, fun k o hk ho => (h.block k (Array.getElem?_eq_some_iff.1 hk).1 fun hs => by
    obtain ⟨t, cs, hb⟩ := hS k hs
    rw [blk_cells hb hk] at ho
    cases ho).trans hk⟩
theorem Blk.stays {u u' : World} {g t B : Nat} {cs : Array Value} {S : Nat → Prop} (h : Blk u g t cs) (hk : Kept S u u') (hS : ∀ i, S i → B ≤ i ∧ ∀ o, u.heap[i]? = some o → o.isCells = false) : Blk u' g t cs :=
  h.kept hk fun hs => by have := (hS g hs).2 _ h; cases this
theorem PksO.stays {u u' : World} {B base : Nat} {v : Value} {ps : List Pk} {S : Nat → Prop} (h : PksO u base v ps) (hk : Kept S u u') (hS : ∀ i, S i → B ≤ i ∧ ∀ o, u.heap[i]? = some o → o.isCells = false) : PksO u' base v ps :=
  h.kept hk fun i hs t cs hb => by have := (hS i hs).2 _ hb; cases this
theorem Row.stays {u u' : World} {B base e : Nat} {v : Value} {xs : List Value} {S : Nat → Prop} (h : Row u base e v xs) (hk : Kept S u u') (hS : ∀ i, S i → B ≤ i ∧ ∀ o, u.heap[i]? = some o → o.isCells = false) : Row u' base e v xs :=
  h.kept hk fun g hg hs => by
    obtain ⟨cs, hb⟩ := h.blk hg
    have := (hS g hs).2 _ hb; cases this
/-- 'append' inside a fence. -/
theorem wpListIn_append_rowN {F : Fence} {n : Nat} {P : Program} {w : World} {ops : Array Oper} {rest : List Oper} {o : Oper} {a : Act} {Q : Exit → Act → World → Prop} (hgd : o.guard = none) (s x : Operand) (t : TypeId)
    (ho : o.op = .call { callee := .builtin .append, args := #[s, x], argTypes := #[t, t] })
    (base : Nat) (e : TypeId) (z : Value) (sz bytes : Nat) (ht : P.underlying t = some (.slice e)) (hinfo : (P.info? e).map (fun i => (i.zero, i.size, i.bytes)) = some (some z, sz, bytes)) (hzs : z.cells.size = sz) (hsz : 0 < sz)
    (v : Value) (L : List (List Value)) (hs : a.eval s = v) (C : Option Addr) (m d : Nat) (M : List (List Value)) (hx : a.eval x = .slice C m d) (hm : m = M.length) (hrow : RowN w base e sz v L) (hM : ∀ x ∈ M, x.length = sz) (hsrc : Src w C M.flatten) (h1 : ∀ u ∈ M.flatten, u.oneCell' = true)
    (h63 : L.length + M.length ≤ maxLen) (hbytes : (L.length + M.length) * bytes ≤ 140737488355328) (hbase : base ≤ w.heap.size)
    (h : ∀ v' w', RowN w' base e sz v' (L ++ M) → w.grownBy w' v.ownBlock → (v'.ownBlock = v.ownBlock ∨ v'.ownBlock = some w.heap.size) → wpListIn F n P ops Q rest (a.put o.dst v') w') : wpListIn F n P ops Q (o :: rest) a w := by
  refine wpListIn_plain hgd fun K hK => ?_
  subst hm
  obtain ⟨v', w', hr, h2, h3, h4⟩ := run_append_rowN (P := P) (w := w) (ty := o.type) ht hinfo hzs hsz hrow hM hsrc h1 h63 hbytes hbase
  unfold Oper.wpIn
  refine ⟨?_, ?_⟩
  · simp [Oper.about, ho, resolve, Target.leads, Sem.run_pure]
  · rw [Oper.semAt_plain F _ _ (by rw [ho]; intro c hc'; cases hc')]
    simp [execOp, ho, resolve, invoke, builtin, hs, hx, Result.andThen]
    rw [hr]
    exact hK _ _ (h v' w' h2 h3 h4)
/-- Leaving a function that holds a range over a function: ahead of it, and behind it. -/
theorem leaveM0 {F : Fence} {n : Nat} {P : Program} {fn : Func} {R : Ending → World → Prop} {a : Act} {w : World} {v : Value} (hr : (results fn a.tmps).run P w = .ok v w) (hd : a.defers = []) (hR : R (.returned v) w) : bodyPostM F n P fn R .ret a w := by
  show LeavesInM F n P fn a.tmps R a.defers .returning w
  rw [hd]
  exact ⟨v, hr, hR⟩
theorem leaveM1 {F : Fence} {n : Nat} {P : Program} {fn : Func} {R : Ending → World → Prop} {a : Act} {w : World} {v : Value} {D : Nat} (hd : a.defers = [{ target := .collected D, args := #[] }]) (hD : w.heap[D]? = some (.deferred (some [])))
    (hr : (results fn a.tmps).run P (w.putObj D (.deferred none)) = .ok v (w.putObj D (.deferred none))) (hR : R (.returned v) (w.putObj D (.deferred none))) : bodyPostM F n P fn R .ret a w := by
  show LeavesInM F n P fn a.tmps R a.defers .returning w
  rw [hd]
  exact ⟨by simp, .inl ⟨_, _, rfl, run_takeDeferred hD, ⟨v, hr, hR⟩⟩⟩
/-- The law of a range over a function, with the words of the round's activation given as a function of the activation. -/
theorem range_law2 {P : Program} {α : Type} {g : Operand} {ps : Array Tmp} {assign body : Code} {Q : Exit → Act → World → Prop} {a : Act} {w : World} {gf : Nat} {lb : Array Value}
    {Kn : α → Array Value → World → Prop} {M : Nat → Prop} {xs : List α}
    (hg : a.eval g = .func (.func gf) #[] lb) (eg : ∀ args w, (callFunc gf args).run P w = .ok (.enter gf args) w)
    (hit : Iter P gf lb Kn M xs w) (hM : ∀ i, M i → i < w.heap.size) (hps : ∀ x args u, Kn x args u → args.size = ps.size)
    (I : List α → World → Prop) (Ix : Code → List α → World → Prop) (Ax : Act → List α × α × Act → World → Prop)
    (hI : Stays w.heap.size I) (hIx : ∀ c, Stays w.heap.size (Ix c)) (hAx : ∀ a, Stays w.heap.size (Ax a)) (h0 : I [] w)
    (hassign : ∀ (l : Nat) (pre : List α) (x : α) (t : List α) (args : Array Value) (u : World) (K : Act → World → Prop), pre ++ x :: t = xs → I pre u → Kn x args u →
      (∀ a₁ u₁, KeepsOthers u u₁ → Kept (fun i => ¬ M i) u u₁ → Ax a (pre, x, a₁) u₁ → K a₁ u₁) →
      assign.wpIn (Fence.wide.inRound l) 0 P (Exit.then K (fun _ _ _ => False)) { tmps := (ps.zip args).foldl (fun t (p, v) => t.setIfInBounds p v) a.tmps, defers := [] } u)
    (hbody : ∀ (l : Nat) (pre : List α) (x : α) (t : List α) (a₁ : Act) (u : World), pre ++ x :: t = xs → Ax a (pre, x, a₁) u →
      body.wpIn (Fence.wide.inRound l) 0 P (bodyWay M I Ix (pre ++ [x]) u) a₁ u)
    (hdone : ∀ (D : Nat) (u : World), w.heap.size ≤ D → I xs u → u.heap[D]? = some (.deferred (some [])) → Q .normal { a with defers := { target := .collected D, args := #[] } :: a.defers } u)
    (hstop : ∀ (D : Nat) (c : Code) (pre : List α) (u : World), w.heap.size ≤ D → Ix c pre u → u.heap[D]? = some (.deferred (some [])) → c.wp P Q { a with defers := { target := .collected D, args := #[] } :: a.defers } u) :
    (Code.rangeFunc g ps assign body).wp P Q a w :=
  wpIn_wide.1 (range_law hg eg hit hM hps I Ix (Ax a) hI hIx (hAx a) h0 hassign hbody hdone (fun D c pre u h1 h2 h3 => wpIn_wide.2 (hstop D c pre u h1 h2 h3)))
end Go.Proofs.Ytohimionlgaaoaa
