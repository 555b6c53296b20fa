/- A range over a function whose iterator says, besides what it yields, what lies in memory behind it: the law, in words of our own. No program in sight. -/
import Derived.Test.YtohimionlgaaoaaRowX
import Derived.RangeFuncFrom
import Derived.RangeFuncLeaves
import Derived.RangeFuncCalls
namespace Go.Proofs.Ytohimionlgaaoaa
open Go.RowKit
set_option linter.unusedVariables false
/-- What is said of a world outlives new blocks, and a turn of blocks from B on that hold no cells. -/
def Stays {β : Type} (B : Nat) (I : β → World → Prop) : Prop :=
  ∀ s u u' (S : Nat → Prop), I s u → Kept S u u' → (∀ i, S i → B ≤ i ∧ ∀ o, u.heap[i]? = some o → o.isCells = false) → I s u'
theorem Stays.quiet {β : Type} {B : Nat} {I : β → World → Prop} (h : Stays B I) {s : β} {u u' : World} (hs : I s u) (hk : Kept (fun _ => False) u u') : I s u' :=
  h s u u' _ hs hk fun _ e => e.elim
theorem kept_putObj {S : Nat → Prop} {u : World} {l : Nat} {o : Obj} (h : S l) : Kept S u (u.putObj l o) :=
  Kept.of_grown (grownBy_putObj' u l o) fun i _ e => by cases e; exact h
theorem Stays.turn {β : Type} {B : Nat} {I : β → World → Prop} (h : Stays B I) {s : β} {u : World} {l : Nat} {o o' : Obj} (hs : I s u) (hB : B ≤ l) (hl : u.heap[l]? = some o) (ho : o.isCells = false) : I s (u.putObj l o') :=
  h s u _ (fun i => i = l) hs (kept_putObj rfl) fun i e => by
    subst e
    exact ⟨hB, fun x hx => by rw [hl] at hx; cases hx; exact ho⟩
theorem Kept.quietly {u u' : World} (h : Below u.heap.size u u') : Kept (fun _ => False) u u' := Kept.of_below h fun i hi e => by omega
/-- The iterator's contract: it yields xs one by one; of each it says Kn; it reads the blocks of M alone. -/
def Iter {α : Type} (P : Program) (g : Nat) (lb : Array Value) (Kn : α → Array Value → World → Prop) (M : Nat → Prop) (xs : List α) (w : World) : Prop :=
  ∀ (l : Nat) (J Jx : List α → World → Prop) (u : World), Kept (fun i => ¬ M i) w u →
    (∀ s a b, J s a → Kept (fun _ => False) a b → J s b) → (∀ s a b, Jx s a → Kept (fun _ => False) a b → Jx s b) →
    (∀ pre x t args v, pre ++ x :: t = xs → J pre v → Kn x args v → YieldAt Fence.wide 0 P l args v fun e v' =>
      (e = .returned (.bool true) ∧ J (pre ++ [x]) v' ∧ Kept (fun i => ¬ M i) v v') ∨ (e = .returned (.bool false) ∧ Jx (pre ++ [x]) v')) →
    J [] u →
    CallsIn Fence.wide 0 P g (#[.func (.yield l) #[] #[]] ++ lb) u fun e u' => (∃ v, e = .returned v) ∧ (J xs u' ∨ ∃ pre, Jx pre u')
/-- How a round's body may be left. -/
def bodyWay {α : Type} (M : Nat → Prop) (I : List α → World → Prop) (Ix : Code → List α → World → Prop) (xs : List α) (u : World) : Exit → Act → World → Prop
  | .normal, _, u' => KeepsOthers u u' ∧ Kept (fun i => ¬ M i) u u' ∧ I xs u'
  | .ret, _, u' => KeepsOthers u u' ∧ Ix .ret xs u'
  | .exit id, _, u' => KeepsOthers u u' ∧ Ix (.exit id) xs u'
  | .goto t, _, u' => KeepsOthers u u' ∧ Ix (.goto t) xs u'
  | .panic _, _, _ => False
  | .outgrown, _, _ => False
theorem range_law {P : Program} {α : Type} {g : Operand} {ps : Array Tmp} {assign body : Code} {Q : Exit → Act → World → Prop} {a : Act} {w : World} {gf : Nat} {lb : Array Value}
    {Kn : α → Array Value → World → Prop} {M : Nat → Prop} {xs : List α}
    (hg : a.eval g = .func (.func gf) #[] lb) (eg : ∀ args w, (callFunc gf args).run P w = .ok (.enter gf args) w)
    (hit : Iter P gf lb Kn M xs w) (hM : ∀ i, M i → i < w.heap.size) (hps : ∀ x args u, Kn x args u → args.size = ps.size)
    (I : List α → World → Prop) (Ix : Code → List α → World → Prop) (Ax : List α × α × Act → World → Prop)
    (hI : Stays w.heap.size I) (hIx : ∀ c, Stays w.heap.size (Ix c)) (hAx : Stays w.heap.size Ax) (h0 : I [] w)
    (hassign : ∀ (l : Nat) (pre : List α) (x : α) (t : List α) (args : Array Value) (u : World) (K : Act → World → Prop), pre ++ x :: t = xs → I pre u → Kn x args u →
      (∀ a₁ u₁, KeepsOthers u u₁ → Kept (fun i => ¬ M i) u u₁ → Ax (pre, x, a₁) u₁ → K a₁ u₁) →
      assign.wpIn (Fence.wide.inRound l) 0 P (Exit.then K (fun _ _ _ => False)) { tmps := (ps.zip args).foldl (fun t (p, v) => t.setIfInBounds p v) a.tmps, defers := [] } u)
    (hbody : ∀ (l : Nat) (pre : List α) (x : α) (t : List α) (a₁ : Act) (u : World), pre ++ x :: t = xs → Ax (pre, x, a₁) u →
      body.wpIn (Fence.wide.inRound l) 0 P (bodyWay M I Ix (pre ++ [x]) u) a₁ u)
    (hdone : ∀ (D : Nat) (u : World), w.heap.size ≤ D → I xs u → u.heap[D]? = some (.deferred (some [])) → Q .normal { a with defers := { target := .collected D, args := #[] } :: a.defers } u)
    (hstop : ∀ (D : Nat) (c : Code) (pre : List α) (u : World), w.heap.size ≤ D → Ix c pre u → u.heap[D]? = some (.deferred (some [])) → c.wpIn Fence.wide 0 P Q { a with defers := { target := .collected D, args := #[] } :: a.defers } u) :
    (Code.rangeFunc g ps assign body).wpIn Fence.wide 0 P Q a w := by
  refine wpIn_rangeFunc ?_
  intro fn hfn
  rw [show Fence.wide.round = none from rfl]
  obtain ⟨rec, hrec⟩ : ∃ rec : LoopState → Option Code → Loop, rec = fun st pe => { state := st, pending := pe, fn, tmps := a.tmps, params := ps, assign, body, defers := w.heap.size } := ⟨_, rfl⟩
  obtain ⟨w1, hw1⟩ : ∃ w1, (w.alloc (.deferred (some []))).alloc (.loop (rec .ready none)) = w1 := ⟨_, rfl⟩
  have hL : w1.heap[w.heap.size + 1]? = some (.loop (rec .ready none)) := by
    have := World.alloc_heap_new (w.alloc (.deferred (some []))) (.loop (rec .ready none))
    rw [World.size_alloc, hw1] at this
    exact this
  have hD : w1.heap[w.heap.size]? = some (.deferred (some [])) := by
    rw [← hw1]
    exact (Below.heap_alloc _ _ _ (by simp)).trans (World.alloc_heap_new w _)
  have hk1 : Kept (fun _ => False) w w1 := by rw [← hw1]; exact ((Kept.refl _ w).alloc _).alloc _
  have hout : ¬ M (w.heap.size + 1) := fun h => by have := hM _ h; omega
  refine ⟨w.heap.size + 1, [{ target := .collected w.heap.size, args := #[] }], w1, { target := .fn (.func gf) lb, args := #[.func (.yield (w.heap.size + 1)) #[] #[]] }, w1, gf,
    #[.func (.yield (w.heap.size + 1)) #[] #[]] ++ lb, w1, ?_, ?_, fun _ _ => trivial, ?_, fun h => (by cases h), ?_⟩
  · rw [← hw1, hrec]; exact run_enterLoop_outer _ _ _ _ _
  · simp only [resolve, hg]
    simp [go_sem]
  · simp [invoke, go_sem, eg]
  refine (hit (w.heap.size + 1)
    (fun pre u => I pre u ∧ u.heap[w.heap.size + 1]? = some (.loop (rec .ready none)) ∧ u.heap[w.heap.size]? = some (.deferred (some [])))
    (fun pre u => ∃ c, Ix c pre u ∧ u.heap[w.heap.size + 1]? = some (.loop (rec .done (some c))) ∧ u.heap[w.heap.size]? = some (.deferred (some [])))
    w1 (hk1.mono fun _ _ e => e.elim) ?_ ?_ ?_ ⟨hI.quiet h0 hk1, hL, hD⟩).mono ?_
  · rintro s u u' ⟨hi, hl, hd⟩ hk
    exact ⟨hI.quiet hi hk, (hk.block _ (Array.getElem?_eq_some_iff.1 hl).1 (fun e => e)).trans hl, (hk.block _ (Array.getElem?_eq_some_iff.1 hd).1 (fun e => e)).trans hd⟩
  · rintro s u u' ⟨c, hi, hl, hd⟩ hk
    exact ⟨c, (hIx c).quiet hi hk, (hk.block _ (Array.getElem?_eq_some_iff.1 hl).1 (fun e => e)).trans hl, (hk.block _ (Array.getElem?_eq_some_iff.1 hd).1 (fun e => e)).trans hd⟩
  · rintro pre x t args u hx ⟨hi, hl, hd⟩ hkn
    have hy := run_yield (P := P) (args := args) hl (by rw [hrec]; exact hps x args u hkn)
    rw [hrec] at hy
    refine ⟨fn, _, assign, body, hy, roundIn_of_wpIn trivial (hassign _ pre x t args u _ hx hi hkn ?_)⟩
    intro a₁ u₁ ko1 kk1 hax
    have hl1 := ko1.same _ _ hl rfl
    have hd1 := ko1.same _ _ hd rfl
    refine ⟨_, run_beginRound hl1 (by rw [hrec]), ?_⟩
    have hl2 : (u₁.putObj (w.heap.size + 1) (.loop { rec .ready none with state := .busy })).heap[w.heap.size + 1]? = some (.loop { rec .ready none with state := .busy }) := World.putObj_heap_same (Array.getElem?_eq_some_iff.1 hl1).1
    have hd2 : (u₁.putObj (w.heap.size + 1) (.loop { rec .ready none with state := .busy })).heap[w.heap.size]? = some (.deferred (some [])) := (World.putObj_heap_other (by omega)).trans hd1
    have hk2 : Kept (fun i => ¬ M i) u (u₁.putObj (w.heap.size + 1) (.loop { rec .ready none with state := .busy })) := kk1.trans (kept_putObj (S := fun i => ¬ M i) hout)
    refine wpIn_mono (hbody _ pre x t a₁ _ hx (hAx.turn hax (by omega) hl1 rfl)) ?_
    have fin : ∀ (jump : Option Code) (u3 : World), KeepsOthers (u₁.putObj (w.heap.size + 1) (.loop { rec .ready none with state := .busy })) u3 →
        (Instr.endRound (w.heap.size + 1) jump).run P u3 = .ok (.bool jump.isNone) (u3.putObj (w.heap.size + 1) (.loop (rec (if jump.isNone then .ready else .done) jump))) ∧
        u3.heap[w.heap.size + 1]? = some (.loop { rec .ready none with state := .busy }) ∧
        (u3.putObj (w.heap.size + 1) (.loop (rec (if jump.isNone then .ready else .done) jump))).heap[w.heap.size + 1]? = some (.loop (rec (if jump.isNone then .ready else .done) jump)) ∧
        (u3.putObj (w.heap.size + 1) (.loop (rec (if jump.isNone then .ready else .done) jump))).heap[w.heap.size]? = some (.deferred (some [])) := fun jump u3 ko3 => by
      have hl3 := ko3.same _ _ hl2 rfl
      have hr := run_endRound (P := P) jump hl3
      rw [hrec] at hr hl3 ⊢
      exact ⟨hr, hl3, World.putObj_heap_same (Array.getElem?_eq_some_iff.1 hl3).1, (World.putObj_heap_other (by omega)).trans (ko3.same _ _ hd2 rfl)⟩
    rintro e a3 u3 hp
    cases e with
    | normal =>
      obtain ⟨ko3, kk3, hi3⟩ := hp
      obtain ⟨hr, hl3, hl4, hd4⟩ := fin none u3 ko3
      exact ⟨_, _, hr, .inl ⟨rfl, ⟨hI.turn hi3 (by omega) hl3 rfl, hl4, hd4⟩, (hk2.trans kk3).trans (kept_putObj (S := fun i => ¬ M i) hout)⟩⟩
    | ret =>
      obtain ⟨ko3, hi3⟩ := hp
      obtain ⟨hr, hl3, hl4, hd4⟩ := fin (some .ret) u3 ko3
      exact ⟨_, _, hr, .inr ⟨rfl, .ret, (hIx _).turn hi3 (by omega) hl3 rfl, hl4, hd4⟩⟩
    | exit id =>
      obtain ⟨ko3, hi3⟩ := hp
      obtain ⟨hr, hl3, hl4, hd4⟩ := fin (some (.exit id)) u3 ko3
      exact ⟨_, _, hr, .inr ⟨rfl, .exit id, (hIx _).turn hi3 (by omega) hl3 rfl, hl4, hd4⟩⟩
    | goto q =>
      obtain ⟨ko3, hi3⟩ := hp
      obtain ⟨hr, hl3, hl4, hd4⟩ := fin (some (.goto q)) u3 ko3
      exact ⟨_, _, hr, .inr ⟨rfl, .goto q, (hIx _).turn hi3 (by omega) hl3 rfl, hl4, hd4⟩⟩
    | panic ch => exact hp.elim
    | outgrown => exact hp.elim
  · rintro e u ⟨⟨v, rfl⟩, (⟨hi, hl, hd⟩ | ⟨pre, c, hi, hl, hd⟩)⟩
    · exact ⟨none, _, by have := run_endLoop (P := P) hl (by rw [hrec]; simp); rw [hrec] at this; exact this, hdone _ _ (Nat.le_refl _) (hI.turn hi (by omega) hl rfl) ((World.putObj_heap_other (by omega)).trans hd)⟩
    · exact ⟨some c, _, by have := run_endLoop (P := P) hl (by rw [hrec]; simp); rw [hrec] at this; exact this, hstop _ c pre _ (Nat.le_refl _) ((hIx c).turn hi (by omega) hl rfl) ((World.putObj_heap_other (by omega)).trans hd)⟩
end Go.Proofs.Ytohimionlgaaoaa
