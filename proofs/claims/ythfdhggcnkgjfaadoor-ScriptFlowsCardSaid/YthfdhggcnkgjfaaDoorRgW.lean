/- The steps of the walk of a region that draws its order (Rg). No program in sight. -/
import Derived.Test.YthfdhggcnkgjfaaDoorRg
import Derived.BigQuiet
namespace Go.Proofs.YthfdhggcnkgjfaaDoor
open Go.RowKit

/-- An operation that leaves a value, and calls nothing. -/
def plainOp : Op → Bool
  | .move _ | .assign _ | .pick .. | .load .. | .binOp .. | .unOp .. | .convert .. | .makeInterface .. | .slice .. | .fieldAddr .. | .field .. | .indexAddr .. | .index .. | .lookup .. | .extract .. | .build .. => true
  | .call { callee := .builtin .len, .. } | .call { callee := .builtin .cap, .. } | .call { callee := .builtin .min, .. } | .call { callee := .builtin .max, .. } => true
  | _ => false
theorem value_of_bind {P : Program} {s : Sem Value} {w w' : World} {n : Next} (h : (do pure (.value (← s)) : Sem Next).run P w = .ok n w') : ∃ v, n = .value v := by
  rw [Sem.run_bind] at h
  cases hs : s.run P w with
  | ok v w1 => rw [hs] at h; simp only [Result.andThen_ok, Sem.run_pure] at h; injection h with h1; exact ⟨v, h1.symm⟩
  | halt x w1 => rw [hs] at h; cases h
theorem plainOp_value {P : Program} {ρ : Operand → Value} {o : Oper} {w w' : World} {n : Next} (ho : plainOp o.op = true) (h : (execOp ρ o).run P w = .ok n w') : ∃ v, n = .value v := by
  obtain ⟨dst, op, ty, pos, after, guard⟩ := o
  unfold execOp at h
  cases op <;> try (simp [plainOp] at ho; done)
  case move x => simp only [Sem.run_pure] at h; injection h with h1; exact ⟨_, h1.symm⟩
  case assign x => simp only [Sem.run_pure] at h; injection h with h1; exact ⟨_, h1.symm⟩
  case pick c a b =>
    simp only [Sem.run_bind] at h
    cases hs : (asBool (ρ c)).run P w with
    | ok v w1 => rw [hs] at h; simp only [Result.andThen_ok, Sem.run_pure] at h; injection h with h1; exact ⟨_, h1.symm⟩
    | halt x w1 => rw [hs] at h; cases h
  case call c =>
    obtain ⟨callee, args, argTypes⟩ := c
    cases callee with
    | value f => simp [plainOp] at ho
    | invoke r m => simp [plainOp] at ho
    | builtin b =>
      simp only [resolve, Sem.run_bind, Sem.run_pure, Result.andThen_ok, invoke] at h
      cases b <;> try (simp [plainOp] at ho; done)
      all_goals exact value_of_bind h
  all_goals exact value_of_bind h

section
variable {P : Program} {ops : Array Oper} {G : Rg} {E : Got → Mem → Act → Prop} {o : Oper} {rest : List Oper} {k : Nat} {F : Got} {M : Mem} {a : Act}

/-- Every world of a class, named by a world. -/
theorem pick_of {C : World → Prop} {w0 : World} (h0 : C w0) : ∃ pick : World → World, (∀ u, C (pick u)) ∧ ∀ w, C w → ∃ u, w = pick u := by
  classical
  refine ⟨fun u => if C u then u else w0, fun u => ?_, fun w hw => ⟨w, by simp only [hw, if_true]⟩⟩
  by_cases h : C u
  · simp only [h, if_true]
  · simp only [h, if_false]; exact h0

/-- The walk, shut: nothing unfolds it by itself. -/
structure WpR (P : Program) (ops : Array Oper) (G : Rg) (E : Got → Mem → Act → Prop) (l : List Oper) (k : Nat) (F : Got) (M : Mem) (a : Act) : Prop where
  out : wpR P ops G E l k F M a
/-- An operation that reads. -/
theorem wpR_det_of {pick : World → World} (hp : ∀ w, G.cls k w → ∃ u, w = pick u) (hw : Region.wanted o (yielded ops a.tmps) = true) (hr : G.rel k = false) (hv : ∀ w n w', (execOp a.eval o).run P w = .ok n w' → ∃ v, n = .value v)
    (h : ∀ K : Act → Prop, (∀ a, WpR P ops G E rest (k + 1) F M a → K a) → o.quiet P a (fun w => ∃ u, w = pick u) K) : WpR P ops G E (o :: rest) k F M a := by
  refine ⟨?_⟩
  unfold wpR stepR
  rw [if_pos hw, if_neg (by rw [hr]; exact Bool.false_ne_true)]
  obtain ⟨v, h1, h2⟩ := h _ (fun _ h => h)
  refine ⟨v, fun w hc => ?_, h2.out⟩
  obtain ⟨u, hu⟩ := hp w hc
  have h3 := h1 w ⟨u, hu⟩
  unfold Oper.quietAt at h3
  cases hr : (execOp a.eval o).run P w with
  | ok n w' =>
    obtain ⟨x, rfl⟩ := hv _ _ _ hr
    rw [hr] at h3
    obtain ⟨e1, e2⟩ : w' = w ∧ x = v := h3
    rw [e1, e2]
  | halt x w' => rw [hr] at h3; exact h3.elim
theorem wpR_det {pick : World → World} (hp : ∀ j w, G.cls j w → ∃ u, w = pick u) (hw : Region.wanted o (yielded ops a.tmps) = true) (hr : G.rel k = false) (ho : plainOp o.op = true)
    (h : ∀ K : Act → Prop, (∀ a, WpR P ops G E rest (k + 1) F M a → K a) → o.quiet P a (fun w => ∃ u, w = pick u) K) : WpR P ops G E (o :: rest) k F M a :=
  wpR_det_of (hp k) hw hr (fun _ _ _ h => plainOp_value ho h) h
/-- An operation that reads what is turned later. -/
theorem wpR_peek {pick : World → World} (hp : ∀ w, G.L0 G.w0 w → ∃ u, w = pick u) (hw : Region.wanted o (yielded ops a.tmps) = true) (hr : G.rel k = false) (hk : G.peek k = true) (ho : plainOp o.op = true)
    (h : ∀ K : Act → Prop, (∀ a, WpR P ops G E rest (k + 1) F M a → K a) → o.quiet P a (fun w => ∃ u, w = pick u) K) : WpR P ops G E (o :: rest) k F M a :=
  wpR_det_of (fun w hw => hp w (by unfold Rg.cls at hw; rwa [if_pos hk] at hw)) hw hr (fun _ _ _ h => plainOp_value ho h) h
/-- A pointer is found not to be nil. -/
theorem wpR_ptr {pick : World → World} {x : Operand} {p : Addr} (hp : ∀ j w, G.cls j w → ∃ u, w = pick u) (hw : Region.wanted o (yielded ops a.tmps) = true) (hr : G.rel k = false) (ho : o.op = .nilCheck x) (hx : a.eval x = .pointer (some p))
    (h : ∀ K : Act → Prop, (∀ a, WpR P ops G E rest (k + 1) F M a → K a) → o.quiet P a (fun w => ∃ u, w = pick u) K) : WpR P ops G E (o :: rest) k F M a :=
  wpR_det_of (hp k) hw hr (fun _ _ _ h => by
    unfold execOp at h
    simp only [ho, hx, Sem.run_pure] at h
    injection h with h1
    exact ⟨_, h1.symm⟩) h

theorem quiet_const {pick : World → World} {d : Option Tmp} {v : Value} {ty : TypeId} {pos : String} {af : Array Edge} {gd : Option (Nat × Bool)} {K : Act → Prop}
    (h : (Oper.mk d (.move (.const v)) ty pos af gd).quiet P a (fun w => ∃ u, w = pick u) K) : K (a.put d v) := by
  obtain ⟨x, h1, h2⟩ := h
  have h3 := h1 (pick default) ⟨_, rfl⟩
  unfold Oper.quietAt at h3
  rw [BigFrame.run_move (.const v) rfl] at h3
  obtain ⟨_, e⟩ : _ ∧ a.eval (.const v) = x := h3
  rw [← e] at h2
  exact h2

/-- An operation that is passed over. -/
theorem wpR_skip (pick : World → World) {d : Option Tmp} {op : Op} {ty : TypeId} {pos : String} {af : Array Edge} {gd : Option (Nat × Bool)} (hw : Region.wanted (Oper.mk d op ty pos af gd) (yielded ops a.tmps) = false)
    (h : ∀ K : Act → Prop, (∀ a, WpR P ops G E rest (k + 1) F M a → K a) → (Oper.mk d (.move (.const undef)) ty pos af gd).quiet P a (fun w => ∃ u, w = pick u) K) : WpR P ops G E (Oper.mk d op ty pos af gd :: rest) k F M a := by
  refine ⟨?_⟩
  unfold wpR stepR
  rw [if_neg (by rw [hw]; exact Bool.false_ne_true)]
  exact quiet_const (h _ (fun _ h => h.out))

/-- An operation whose result is known by what is said of it. -/
theorem wpR_rel (pick : World → World) {d : Option Tmp} {op : Op} {ty : TypeId} {pos : String} {af : Array Edge} {gd : Option (Nat × Bool)} (hw : Region.wanted (Oper.mk d op ty pos af gd) (yielded ops a.tmps) = true) (hr : G.rel k = true) (ht : G.turns k = false)
    (h1 : ∀ w, Cls G ops k F w → relAt P (Oper.mk d op ty pos af gd) a w (fun v w' => G.L0 w w' ∧ G.Φ k v w'))
    (h : ∀ v, WOut G k v → ∀ K : Act → Prop, (∀ a, WpR P ops G E rest (k + 1) (F.upd k v) M a → K a) → (Oper.mk d (.move (.const v)) ty pos af gd).quiet P a (fun w => ∃ u, w = pick u) K) : WpR P ops G E (Oper.mk d op ty pos af gd :: rest) k F M a := by
  refine ⟨?_⟩
  unfold wpR stepR
  rw [if_pos hw, if_pos hr, if_neg (by rw [ht]; exact Bool.false_ne_true)]
  exact ⟨h1, fun v hv => quiet_const (h v hv _ (fun _ h => h.out))⟩
/-- An operation that turns what the others leave alone. -/
theorem wpR_turn (pick : World → World) {d : Option Tmp} {op : Op} {ty : TypeId} {pos : String} {af : Array Edge} {gd : Option (Nat × Bool)} (hw : Region.wanted (Oper.mk d op ty pos af gd) (yielded ops a.tmps) = true) (hr : G.rel k = true) (ht : G.turns k = true) (ha : G.adds k = false)
    (h1 : ∀ w, Cls G ops k F w → M w → relAt P (Oper.mk d op ty pos af gd) a w (fun v w' => G.L w w' ∧ G.Φ k v w'))
    (h : ∀ v, WOut G k v → ∀ K : Act → Prop, (∀ a, WpR P ops G E rest (k + 1) F (G.Φ k v) a → K a) → (Oper.mk d (.move (.const v)) ty pos af gd).quiet P a (fun w => ∃ u, w = pick u) K) : WpR P ops G E (Oper.mk d op ty pos af gd :: rest) k F M a := by
  refine ⟨?_⟩
  unfold wpR stepR
  rw [if_pos hw, if_pos hr, if_pos ht]
  have e1 : G.step k = G.L := by funext x y; unfold Rg.step; rw [if_neg (by rw [ha]; exact Bool.false_ne_true)]
  have e2 : ∀ v, G.next k M v = G.Φ k v := fun v => by unfold Rg.next; rw [if_neg (by rw [ha]; exact Bool.false_ne_true)]
  rw [e1]
  exact ⟨h1, fun v hv => by rw [e2]; exact quiet_const (h v hv _ (fun _ h => h.out))⟩
/-- One of the operations that wait for one another, that turns nothing itself. -/
theorem wpR_add (pick : World → World) {d : Option Tmp} {op : Op} {ty : TypeId} {pos : String} {af : Array Edge} {gd : Option (Nat × Bool)} (hw : Region.wanted (Oper.mk d op ty pos af gd) (yielded ops a.tmps) = true) (hr : G.rel k = true) (ht : G.turns k = true) (ha : G.adds k = true)
    (h1 : ∀ w, Cls G ops k F w → M w → relAt P (Oper.mk d op ty pos af gd) a w (fun v w' => G.L0 w w' ∧ G.Φ k v w'))
    (h : ∀ v, WOut G k v → ∀ K : Act → Prop, (∀ a, WpR P ops G E rest (k + 1) F (fun u => M u ∧ G.Φ k v u) a → K a) → (Oper.mk d (.move (.const v)) ty pos af gd).quiet P a (fun w => ∃ u, w = pick u) K) : WpR P ops G E (Oper.mk d op ty pos af gd :: rest) k F M a := by
  refine ⟨?_⟩
  unfold wpR stepR
  rw [if_pos hw, if_pos hr, if_pos ht]
  have e1 : G.step k = G.L0 := by funext x y; unfold Rg.step; rw [if_pos ha]
  have e2 : ∀ v, G.next k M v = fun u => M u ∧ G.Φ k v u := fun v => by unfold Rg.next; rw [if_pos ha]
  rw [e1]
  exact ⟨h1, fun v hv => by rw [e2]; exact quiet_const (h v hv _ (fun _ h => h.out))⟩
theorem wpR_nil (h : E F M a) : WpR P ops G E [] k F M a := ⟨h⟩

theorem Got.upd_self (F : Got) (k : Nat) (v : Value) : F.upd k v k = some v := by unfold Got.upd; rw [if_pos rfl]
end

/-- A list of operations' numbers, with what is known of their results. -/
abbrev Said := List (Nat × (Value → World → Prop))
def Said.at (Ψ : Said) (k : Nat) (v : Value) (w : World) : Prop := ∀ p ∈ Ψ, p.1 = k → p.2 v w
/-- What a region's walk knows of its frame G. -/
structure RgIs (G : Rg) (S : Nat → Prop) (T : List Nat) (A : List Nat) (Ψ : Said) (w : World) : Prop where
  w0 : G.w0 = w.drew
  into : ∀ {a b}, Kept S a b → G.L a b
  out : ∀ {a b}, G.L a b → Kept S a b
  into0 : ∀ {a b}, Kept (fun _ => False) a b → G.L0 a b
  out0 : ∀ {a b}, G.L0 a b → Kept (fun _ => False) a b
  rel : ∀ k, G.rel k = Ψ.any fun p => p.1 == k
  turns : ∀ k, G.turns k = T.contains k
  adds : ∀ k, G.adds k = A.contains k
  said : ∀ {k v u}, Ψ.at k v u → G.Φ k v u
  tell : ∀ {k v u}, G.Φ k v u → Ψ.at k v u
theorem RgIs.since {G : Rg} {S : Nat → Prop} {T A : List Nat} {Ψ : Said} {w w' : World} (h : RgIs G S T A Ψ w) (hL : G.L G.w0 w') : Kept S w w' := (h.w0 ▸ h.out hL : Kept S w.drew w').undrew
theorem RgIs.first {G : Rg} {S : Nat → Prop} {T A : List Nat} {Ψ : Said} {w w' : World} (h : RgIs G S T A Ψ w) (hL : G.L0 w.drew w') : Kept (fun _ => False) w w' := (h.out0 hL : Kept _ w.drew w').undrew
theorem Said.at_cons {Ψ : Said} {p : Nat × (Value → World → Prop)} {v : Value} {w : World} {k : Nat} (h1 : p.1 = k → p.2 v w) (h2 : Ψ.at k v w) : Said.at (p :: Ψ) k v w := by
  intro q hq
  rcases List.mem_cons.1 hq with rfl | hq
  · exact h1
  · exact h2 q hq
theorem Said.at_nil {v : Value} {w : World} {k : Nat} : Said.at [] k v w := fun q hq => by cases hq

def Said.ok (Ψ : Said) : Bool := decide ((Ψ.map (·.1)).Nodup)
theorem Said.at_get {Ψ : Said} (i : Nat) {k : Nat} {φ : Value → World → Prop} {v : Value} {u : World} (hd : Ψ.ok = true) (h : Ψ[i]? = some (k, φ)) (hφ : φ v u) : Ψ.at k v u := by
  intro p hp hk
  obtain ⟨j, hj, rfl⟩ := List.mem_iff_getElem.1 hp
  obtain ⟨hi, he⟩ := List.getElem?_eq_some_iff.1 h
  have hn := of_decide_eq_true hd
  have : j = i := by
    have h1 : (Ψ.map (·.1))[j]'(by simpa using hj) = (Ψ.map (·.1))[i]'(by simpa using hi) := by simp [he, hk]
    exact (List.getElem_inj (h₀ := by simpa using hj) (h₁ := by simpa using hi) hn).1 h1
  subst this
  rw [he]
  exact hφ
section
variable {G : Rg} {S : Nat → Prop} {T A : List Nat} {Ψ : Said} {w u u' : World} {v : Value}
theorem RgIs.put (hR : RgIs G S T A Ψ w) (i : Nat) {k : Nat} {φ : Value → World → Prop} (hd : Ψ.ok = true) (h : Ψ[i]? = some (k, φ)) (hφ : φ v u) : G.Φ k v u := hR.said (Said.at_get i hd h hφ)
theorem RgIs.get (hR : RgIs G S T A Ψ w) (i : Nat) {k : Nat} {φ : Value → World → Prop} (h : Ψ[i]? = some (k, φ)) (hΦ : G.Φ k v u) : φ v u :=
  hR.tell hΦ (k, φ) (List.mem_of_getElem? h) rfl
theorem Kept.ofB (h : Below u.heap.size u u') : Kept S u u' := Kept.of_below h fun i hi hge => absurd hi (by omega)
theorem RgIs.intoB (hR : RgIs G S T A Ψ w) (h : Below u.heap.size u u') : G.L0 u u' := hR.into0 (Kept.ofB h)
theorem RgIs.same (hR : RgIs G S T A Ψ w) : G.L0 u u := hR.into0 (Kept.refl _ _)
end
theorem Got.upd_old {F : Got} {k i : Nat} {v u : Value} (h : F i = some v) (hne : (i == k) = false) : F.upd k u i = some v := by unfold Got.upd; rw [if_neg (by simpa using hne)]; exact h

/-- **THE REGION**: S: the blocks that some operations may turn; T: those operations; Ψ: the operations that are not told by their operands alone, and what is known of their results; n: so many operations are walked so, the others behind them in their order. -/
theorem wp_region_peek {P : Program} {id : Nat} {Q : Exit → Act → World → Prop} {a : Act} {w : World} {l : List Oper} (n : Nat) (S : Nat → Prop) (T A Pk : List Nat) (Ψ : Said)
    (hΨ : ∀ p ∈ Ψ, ∀ v u u', p.2 v u → (if T.contains p.1 then Kept (fun _ => False) u u' else Kept S u u') → p.2 v u') (hne : ∀ p ∈ Ψ, ∃ v u, Kept S w u ∧ p.2 v u) (hd : Ψ.ok = true)
    (hm : P.follows .mixedOrders = true) (hB : rgB l.toArray n = true) (hMu : mutOk l.toArray (fun k => T.contains k) = true) (hPk : peekOk l.toArray (fun k => T.contains k) (fun k => Pk.contains k) = true)
    (h : ∀ (G : Rg) (pick pick0 : World → World), RgIs G S T A Ψ w → (∀ u, Kept S w (pick u)) → (∀ j u, G.cls j u → ∃ x, u = pick x) → (∀ k, G.peek k = Pk.contains k) → (∀ u, Kept (fun _ => False) w (pick0 u)) → (∀ u, G.L0 G.w0 u → ∃ x, u = pick0 x) →
      WpR P l.toArray G (fun F M a' => ∀ w', Kept S w w' → Facts G F w' → M w' → wpList P l.toArray Q (l.drop n) a' w') (l.take n) 0 (fun _ => none) (G.L0 w.drew) a) : (Code.region id l.toArray true).wp P Q a w := by
  have hG : (Rg.mk (fun k => Ψ.any fun p => p.1 == k) (fun k => T.contains k) (fun k => A.contains k) (fun k => Pk.contains k) (Kept S) (Kept fun _ => False) Ψ.at w.drew).Ok := by
    refine ⟨Kept.refl S, fun _ _ _ h k => h.trans k, Kept.refl _, fun _ _ _ h k => h.trans k, fun _ _ h => h.mono (fun _ _ h => h.elim), ?_, ?_, ?_⟩
    · intro k v u u' hk h hL p hp e
      refine hΨ p hp v u u' (h p hp e) ?_
      rw [if_neg (by rw [e, show T.contains k = false from hk]; exact Bool.false_ne_true)]
      exact hL
    · intro k v u u' hk h hL p hp e
      refine hΨ p hp v u u' (h p hp e) ?_
      rw [if_pos (by rw [e]; exact hk)]
      exact hL
    · intro k hk
      obtain ⟨p, hp, he⟩ := List.any_eq_true.1 hk
      obtain rfl : p.1 = k := by simpa using he
      obtain ⟨i, hi⟩ := List.mem_iff_getElem?.1 hp
      obtain ⟨v, u, h1, h2⟩ := hne p hp
      exact ⟨v, u, ⟨h1.os, h1.tape, h1.output, h1.size, h1.block⟩, Said.at_get i hd hi h2⟩
  obtain ⟨pick, h1, h2⟩ := pick_of (C := fun u => Kept S w.drew u) (Kept.refl S w.drew)
  obtain ⟨pick0, q1, q2⟩ := pick_of (C := fun u => Kept (fun _ => False) w.drew u) (Kept.refl _ w.drew)
  refine wp_region_rg n _ hG rfl hm hB hMu hPk ?_
  have H := h (Rg.mk (fun k => Ψ.any fun p => p.1 == k) (fun k => T.contains k) (fun k => A.contains k) (fun k => Pk.contains k) (Kept S) (Kept fun _ => False) Ψ.at w.drew) pick pick0 ⟨rfl, fun h => h, fun h => h, fun h => h, fun h => h, fun _ => rfl, fun _ => rfl, fun _ => rfl, fun h => h, fun h => h⟩ (fun u => (h1 u).undrew) (fun j u hu => h2 u (Rg.cls_L hG hu)) (fun _ => rfl) (fun u => (q1 u).undrew) q2
  replace H := H.out
  refine (?_ : ∀ (E E' : Got → Mem → Act → Prop), (∀ F M a, E F M a → E' F M a) → ∀ (G : Rg) (ops : Array Oper) (l : List Oper) (k : Nat) (F : Got) (M : Mem) (a : Act), wpR P ops G E l k F M a → wpR P ops G E' l k F M a) _ _ (fun F M a h w' hw => h w' (Kept.undrew hw)) _ _ _ _ _ _ _ H
  intro E E' hE G ops l
  induction l with
  | nil => intro k F M a h; exact hE _ _ _ h
  | cons o l ih =>
    intro k F M a h
    unfold wpR stepR at h ⊢
    split
    · rename_i hw; rw [if_pos hw] at h
      split
      · rename_i hr; rw [if_pos hr] at h
        split
        · rename_i ht; rw [if_pos ht] at h; exact ⟨h.1, fun v hv => ih _ _ _ _ (h.2 v hv)⟩
        · rename_i ht; rw [if_neg ht] at h; exact ⟨h.1, fun v hv => ih _ _ _ _ (h.2 v hv)⟩
      · rename_i hr; rw [if_neg hr] at h; obtain ⟨v, h1, h2⟩ := h; exact ⟨v, h1, ih _ _ _ _ h2⟩
    · rename_i hw; rw [if_neg hw] at h; exact ih _ _ _ _ h
theorem wp_region_add {P : Program} {id : Nat} {Q : Exit → Act → World → Prop} {a : Act} {w : World} {l : List Oper} (n : Nat) (S : Nat → Prop) (T A : List Nat) (Ψ : Said)
    (hΨ : ∀ p ∈ Ψ, ∀ v u u', p.2 v u → (if T.contains p.1 then Kept (fun _ => False) u u' else Kept S u u') → p.2 v u') (hne : ∀ p ∈ Ψ, ∃ v u, Kept S w u ∧ p.2 v u) (hd : Ψ.ok = true)
    (hm : P.follows .mixedOrders = true) (hB : rgB l.toArray n = true) (hMu : mutOk l.toArray (fun k => T.contains k) = true)
    (h : ∀ (G : Rg) (pick : World → World), RgIs G S T A Ψ w → (∀ u, Kept S w (pick u)) → (∀ j u, G.cls j u → ∃ x, u = pick x) →
      WpR P l.toArray G (fun F M a' => ∀ w', Kept S w w' → Facts G F w' → M w' → wpList P l.toArray Q (l.drop n) a' w') (l.take n) 0 (fun _ => none) (G.L0 w.drew) a) : (Code.region id l.toArray true).wp P Q a w :=
  wp_region_peek n S T A [] Ψ hΨ hne hd hm hB hMu (peekOk_none fun _ => rfl) fun G pick _ hR hp1 hp2 _ _ _ => h G pick hR hp1 hp2

/-- No operation but those that turn adds anything to what is known of them. -/
theorem wp_region_turn {P : Program} {id : Nat} {Q : Exit → Act → World → Prop} {a : Act} {w : World} {l : List Oper} (n : Nat) (S : Nat → Prop) (T : List Nat) (Ψ : Said)
    (hΨ : ∀ p ∈ Ψ, ∀ v u u', p.2 v u → (if T.contains p.1 then Kept (fun _ => False) u u' else Kept S u u') → p.2 v u') (hne : ∀ p ∈ Ψ, ∃ v u, Kept S w u ∧ p.2 v u) (hd : Ψ.ok = true)
    (hm : P.follows .mixedOrders = true) (hB : rgB l.toArray n = true) (hMu : mutOk l.toArray (fun k => T.contains k) = true)
    (h : ∀ (G : Rg) (pick : World → World), RgIs G S T [] Ψ w → (∀ u, Kept S w (pick u)) → (∀ j u, G.cls j u → ∃ x, u = pick x) →
      WpR P l.toArray G (fun F M a' => ∀ w', Kept S w w' → Facts G F w' → M w' → wpList P l.toArray Q (l.drop n) a' w') (l.take n) 0 (fun _ => none) (G.L0 w.drew) a) : (Code.region id l.toArray true).wp P Q a w := wp_region_add n S T [] Ψ hΨ hne hd hm hB hMu h
/-- No operation turns anything. -/
theorem wp_region_kept {P : Program} {id : Nat} {Q : Exit → Act → World → Prop} {a : Act} {w : World} {l : List Oper} (n : Nat) (Ψ : Said)
    (hΨ : ∀ p ∈ Ψ, ∀ v u u', p.2 v u → Kept (fun _ => False) u u' → p.2 v u') (hne : ∀ p ∈ Ψ, ∃ v u, Kept (fun _ => False) w u ∧ p.2 v u) (hd : Ψ.ok = true)
    (hm : P.follows .mixedOrders = true) (hB : rgB l.toArray n = true)
    (h : ∀ (G : Rg) (pick : World → World), RgIs G (fun _ => False) [] [] Ψ w → (∀ u, Kept (fun _ => False) w (pick u)) → (∀ j u, G.cls j u → ∃ x, u = pick x) →
      WpR P l.toArray G (fun F M a' => ∀ w', Kept (fun _ => False) w w' → Facts G F w' → M w' → wpList P l.toArray Q (l.drop n) a' w') (l.take n) 0 (fun _ => none) (G.L0 w.drew) a) : (Code.region id l.toArray true).wp P Q a w := by
  refine wp_region_turn n (fun _ => False) [] Ψ (fun p hp v u u' h hk => hΨ p hp v u u' h ?_) hne hd hm hB ?_ h
  · simpa using hk
  · unfold mutOk; simp
end Go.Proofs.YthfdhggcnkgjfaaDoor
