/- Regions that draw their order: ONE walk in the text's order serves every order, where each operation keeps a preorder 'L' of worlds and what is known of its result stays true in every later world. No program in sight. -/
import Derived.Test.YthfdhggcnkgjfaaDoorBase
import Derived.StillTail
import Derived.Deep.Quiet
namespace Go.Proofs.YthfdhggcnkgjfaaDoor

/-- What the results so far are known to be: the number of an operation, and the value that it left. -/
abbrev Got := Nat → Option Value
def Got.upd (F : Got) (k : Nat) (v : Value) : Got := fun i => if i = k then some v else F i
theorem Got.upd_comm (F : Got) {i j : Nat} (h : i ≠ j) (v u : Value) : (F.upd i v).upd j u = (F.upd j u).upd i v := by
  funext k
  unfold Got.upd
  by_cases h1 : k = j
  · rw [if_pos h1, if_neg (by omega), if_pos h1]
  · rw [if_neg h1, if_neg h1]

/-- The value, in a world, that an operation may leave, a call's too. -/
def relUpon (P : Program) (R : Value → World → Prop) : Result Next → Prop
  | .ok (.value v) w' => R v w'
  | .ok .skip w' => R undef w'
  | .ok (.enter f args) w' => Calls P f args w' (fun e w'' => ∃ v, e = .returned v ∧ R v w'')
  | _ => False
def relAt (P : Program) (o : Oper) (a : Act) (w : World) (R : Value → World → Prop) : Prop := relUpon P R ((execOp a.eval o).run P w)

theorem calls_some {P : Program} {f : FuncId} {args : Array Value} {w : World} {R : Ending → World → Prop} (h : Calls P f args w R) : ∃ e w', R e w' := by
  obtain ⟨e, w', _, hR, _⟩ := h []
  exact ⟨e, w', hR⟩

/-- What a region's walk is given: which operations are free in what they yield, the preorder, what is known of their results, the world at the start. -/
structure Rg where
  rel : Nat → Bool
  /-- Of these: those that turn what the others leave alone. No two of them may come up beside one another. -/
  turns : Nat → Bool
  /-- Of those: they turn nothing, and what was known of the turned blocks stays known behind them. -/
  adds : Nat → Bool
  /-- Of those that read: each that turns something waits for them. -/
  peek : Nat → Bool
  L : World → World → Prop
  L0 : World → World → Prop
  Φ : Nat → Value → World → Prop
  w0 : World
structure Rg.Ok (G : Rg) : Prop where
  refl : ∀ w, G.L w w
  trans : ∀ a b c, G.L a b → G.L b c → G.L a c
  refl0 : ∀ w, G.L0 w w
  trans0 : ∀ a b c, G.L0 a b → G.L0 b c → G.L0 a c
  sub : ∀ a b, G.L0 a b → G.L a b
  stable : ∀ k v w w', G.turns k = false → G.Φ k v w → G.L w w' → G.Φ k v w'
  stable0 : ∀ k v w w', G.turns k = true → G.Φ k v w → G.L0 w w' → G.Φ k v w'
  some : ∀ k, G.rel k = true → ∃ v w, G.L G.w0 w ∧ G.Φ k v w
/-- What operation k may leave. -/
def WOut (G : Rg) (k : Nat) (v : Value) : Prop := ∃ w, G.L G.w0 w ∧ G.Φ k v w
/-- The worlds in which an operation that reads may come up. -/
def Rg.cls (G : Rg) (k : Nat) (w : World) : Prop := if G.peek k then G.L0 G.w0 w else G.L G.w0 w
theorem Rg.cls_L {G : Rg} (hG : G.Ok) {k : Nat} {w : World} (h : G.cls k w) : G.L G.w0 w := by
  unfold Rg.cls at h; split at h
  · exact hG.sub _ _ h
  · exact h
theorem Rg.cls_refl {G : Rg} (hG : G.Ok) (k : Nat) : G.cls k G.w0 := by
  unfold Rg.cls; split
  · exact hG.refl0 _
  · exact hG.refl _
/-- What is known of what the mutators turn. -/
abbrev Mem := World → Prop
/-- What is known behind operation k, one that turns. -/
def Rg.next (G : Rg) (k : Nat) (M : Mem) (v : Value) : Mem := if G.adds k then (fun u => M u ∧ G.Φ k v u) else G.Φ k v
def Rg.step (G : Rg) (k : Nat) (w w' : World) : Prop := if G.adds k then G.L0 w w' else G.L w w'
def Still0 (G : Rg) (M : Mem) : Prop := ∀ w w', M w → G.L0 w w' → M w'

section
variable {P : Program} {ops : Array Oper} {md : Region.Mode} {G : Rg}

def dep (ops : Array Oper) (k i : Nat) : Bool := ((Region.before ops).getD k 0).testBit i
def Facts (G : Rg) (F : Got) (w : World) : Prop := ∀ i v, F i = some v → G.Φ i v w
def Cls (G : Rg) (ops : Array Oper) (k : Nat) (F : Got) (w : World) : Prop := G.L G.w0 w ∧ ∀ i v, F i = some v → dep ops k i = true → G.Φ i v w
/-- Only operations that turn nothing are among the facts. -/
def Pure (G : Rg) (F : Got) : Prop := ∀ i v, F i = some v → G.turns i = false

/-- One operation. -/
def stepR (P : Program) (ops : Array Oper) (G : Rg) (k : Nat) (o : Oper) (F : Got) (M : Mem) (a : Act) (K : Got → Mem → Act → Prop) : Prop :=
  if Region.wanted o (yielded ops a.tmps) then
    (if G.rel k then
      (if G.turns k then (∀ w, Cls G ops k F w → M w → relAt P o a w (fun v w' => G.step k w w' ∧ G.Φ k v w')) ∧ ∀ v, WOut G k v → K F (G.next k M v) (a.put o.dst v)
       else (∀ w, Cls G ops k F w → relAt P o a w (fun v w' => G.L0 w w' ∧ G.Φ k v w')) ∧ ∀ v, WOut G k v → K (F.upd k v) M (a.put o.dst v))
     else ∃ v, (∀ w, G.cls k w → (execOp a.eval o).run P w = .ok (.value v) w) ∧ K F M (a.put o.dst v))
  else K F M (a.put o.dst undef)

def Safe (P : Program) (ops : Array Oper) (G : Rg) (k : Nat) (o : Oper) (F : Got) (M : Mem) (a : Act) : Prop :=
  Region.wanted o (yielded ops a.tmps) = true →
    (G.rel k = true → G.turns k = true → ∀ w, Cls G ops k F w → M w → relAt P o a w (fun v w' => G.step k w w' ∧ G.Φ k v w')) ∧
    (G.rel k = true → G.turns k = false → ∀ w, Cls G ops k F w → relAt P o a w (fun v w' => G.L0 w w' ∧ G.Φ k v w')) ∧
    (G.rel k = false → ∃ v, ∀ w, G.cls k w → (execOp a.eval o).run P w = .ok (.value v) w)
def Outc (P : Program) (ops : Array Oper) (G : Rg) (k : Nat) (o : Oper) (F : Got) (M : Mem) (a : Act) (v : Value) (F' : Got) (M' : Mem) : Prop :=
  (Region.wanted o (yielded ops a.tmps) = false ∧ v = undef ∧ F' = F ∧ M' = M) ∨
  (Region.wanted o (yielded ops a.tmps) = true ∧ G.rel k = false ∧ F' = F ∧ M' = M ∧ ∀ w, G.cls k w → (execOp a.eval o).run P w = .ok (.value v) w) ∨
  (Region.wanted o (yielded ops a.tmps) = true ∧ G.rel k = true ∧ G.turns k = false ∧ F' = F.upd k v ∧ M' = M ∧ WOut G k v) ∨
  (Region.wanted o (yielded ops a.tmps) = true ∧ G.rel k = true ∧ G.turns k = true ∧ F' = F ∧ M' = G.next k M v ∧ WOut G k v)

theorem stepR_iff (hG : G.Ok) {k : Nat} {o : Oper} {F : Got} {M : Mem} {a : Act} {K : Got → Mem → Act → Prop} :
    stepR P ops G k o F M a K ↔ Safe P ops G k o F M a ∧ ∀ v F' M', Outc P ops G k o F M a v F' M' → K F' M' (a.put o.dst v) := by
  unfold stepR Safe Outc
  cases hw : Region.wanted o (yielded ops a.tmps) with
  | false =>
    simp only [Bool.false_eq_true, if_false, false_implies, true_and, false_and, or_false]
    exact ⟨fun h v F' M' ⟨h1, h2, h3⟩ => by subst h1 h2 h3; exact h, fun h => h _ _ _ ⟨rfl, rfl, rfl⟩⟩
  | true =>
    cases hr : G.rel k with
    | true =>
      cases hm : G.turns k with
      | true =>
        simp only [if_true, true_implies, Bool.true_eq_false, false_implies, and_true, true_and, false_and, false_or]
        exact ⟨fun h => ⟨h.1, fun v F' M' ⟨h1, h2, h3⟩ => by subst h1 h2; exact h.2 v h3⟩, fun h => ⟨h.1, fun v hv => h.2 v _ _ ⟨rfl, rfl, hv⟩⟩⟩
      | false =>
        simp only [if_true, if_false, true_implies, Bool.true_eq_false, Bool.false_eq_true, false_implies, and_true, true_and, false_and, false_or, or_false]
        exact ⟨fun h => ⟨h.1, fun v F' M' ⟨h1, h2, h3⟩ => by subst h1 h2; exact h.2 v h3⟩, fun h => ⟨h.1, fun v hv => h.2 v _ _ ⟨rfl, rfl, hv⟩⟩⟩
    | false =>
      simp only [Bool.false_eq_true, if_false, false_implies, true_and, if_true, true_implies, false_and, false_or, or_false, Bool.true_eq_false]
      constructor
      · rintro ⟨v, h1, h2⟩
        refine ⟨⟨v, h1⟩, fun v' F' M' ⟨e, e', h3⟩ => ?_⟩
        subst e e'
        have := (h1 _ (G.cls_refl hG k)).symm.trans (h3 _ (G.cls_refl hG k))
        have e2 : v = v' := by injection this with h4; injection h4
        subst e2
        exact h2
      · rintro ⟨⟨v, h1⟩, h2⟩
        exact ⟨v, h1, h2 v F M ⟨rfl, rfl, h1⟩⟩

theorem step_L (hG : G.Ok) {k : Nat} {w w' : World} (h : G.step k w w') : G.L w w' := by
  unfold Rg.step at h; split at h
  · exact hG.sub _ _ h
  · exact h
theorem next_still (hG : G.Ok) {k : Nat} {M : Mem} {v : Value} (hM : Still0 G M) (hm : G.turns k = true) : Still0 G (G.next k M v) := by
  unfold Rg.next; split
  · exact fun w w' h1 h2 => ⟨hM w w' h1.1 h2, hG.stable0 _ _ _ _ hm h1.2 h2⟩
  · exact fun w w' h1 h2 => hG.stable0 _ _ _ _ hm h1 h2
theorem next_at {k : Nat} {M : Mem} {v : Value} {w w' : World} (hM : Still0 G M) (hMw : M w) (hs : G.step k w w') (hv : G.Φ k v w') : G.next k M v w' := by
  unfold Rg.next; unfold Rg.step at hs
  split at hs
  · rename_i h; rw [if_pos h]; exact ⟨hM _ _ hMw hs, hv⟩
  · rename_i h; rw [if_neg h]; exact hv
theorem facts_upd (hG : G.Ok) {F : Got} {w w' : World} {k : Nat} {v : Value} (hP : Pure G F) (hF : Facts G F w) (hL : G.L w w') (hv : G.Φ k v w') : Facts G (F.upd k v) w' := by
  intro i u hi
  unfold Got.upd at hi
  split at hi
  · rename_i e; subst e; cases hi; exact hv
  · exact hG.stable _ _ _ _ (hP i u hi) (hF i u hi) hL
theorem facts_on (hG : G.Ok) {F : Got} {w w' : World} (hP : Pure G F) (hF : Facts G F w) (hL : G.L w w') : Facts G F w' := fun i u hi => hG.stable _ _ _ _ (hP i u hi) (hF i u hi) hL
theorem out_some (hG : G.Ok) {k : Nat} {o : Oper} {F : Got} {M : Mem} {a : Act} (hS : Safe P ops G k o F M a) : ∃ v F' M', Outc P ops G k o F M a v F' M' := by
  unfold Safe at hS
  cases hw : Region.wanted o (yielded ops a.tmps) with
  | false => exact ⟨undef, F, M, .inl ⟨hw, rfl, rfl, rfl⟩⟩
  | true =>
    obtain ⟨_, _, h2⟩ := hS hw
    cases hr : G.rel k with
    | false =>
      obtain ⟨v, hv⟩ := h2 hr
      exact ⟨v, F, M, .inr (.inl ⟨hw, hr, rfl, rfl, hv⟩)⟩
    | true =>
      obtain ⟨v, w, hv⟩ := hG.some k hr
      cases hm : G.turns k with
      | true => exact ⟨v, _, _, .inr (.inr (.inr ⟨hw, hr, hm, rfl, rfl, w, hv⟩))⟩
      | false => exact ⟨v, _, _, .inr (.inr (.inl ⟨hw, hr, hm, rfl, rfl, w, hv⟩))⟩
section
variable {k : Nat} {o : Oper} {F F' : Got} {M M' : Mem} {a : Act} {v : Value}
theorem Outc.pure (hP : Pure G F) (h : Outc P ops G k o F M a v F' M') : Pure G F' := by
  rcases h with ⟨_, _, rfl, rfl⟩ | ⟨_, _, rfl, rfl, _⟩ | ⟨_, _, hm, rfl, rfl, h⟩ | ⟨_, _, _, rfl, rfl, h⟩
  · exact hP
  · exact hP
  · intro i u hi
    unfold Got.upd at hi
    split at hi
    · rename_i e; subst e; exact hm
    · exact hP i u hi
  · exact hP
theorem Outc.still (hG : G.Ok) (hM : Still0 G M) (h : Outc P ops G k o F M a v F' M') : Still0 G M' := by
  rcases h with ⟨_, _, rfl, rfl⟩ | ⟨_, _, rfl, rfl, _⟩ | ⟨_, _, hm, rfl, rfl, h⟩ | ⟨_, _, hm, rfl, rfl, h⟩
  · exact hM
  · exact hM
  · exact hM
  · exact next_still hG hM hm
theorem Outc.form (h : Outc P ops G k o F M a v F' M') : F' = F ∨ F' = F.upd k v := by
  rcases h with ⟨_, _, h, _⟩ | ⟨_, _, h, _⟩ | ⟨_, _, _, h, _⟩ | ⟨_, _, _, h, _⟩
  · exact .inl h
  · exact .inl h
  · exact .inr h
  · exact .inl h
theorem Outc.mem (h : Outc P ops G k o F M a v F' M') : M' = M ∨ G.turns k = true := by
  rcases h with ⟨_, _, _, h⟩ | ⟨_, _, _, h, _⟩ | ⟨_, _, _, _, h, _⟩ | ⟨_, _, h, _⟩
  · exact .inl h
  · exact .inl h
  · exact .inl h
  · exact .inr h
end
/-- Operation j leaves what i is asked, and what i may yield, as it was, where neither waits for the other. -/
theorem cls_upd {k j : Nat} {F F' : Got} {u : Value} (hF : F' = F ∨ F' = F.upd j u) (hj : F j = none) (hd : dep ops k j = false) (w : World) : Cls G ops k F' w ↔ Cls G ops k F w := by
  rcases hF with rfl | rfl
  · exact Iff.rfl
  · unfold Cls
    refine and_congr_right fun _ => ⟨fun h i v hi hd' => h i v ?_ hd', fun h i v hi hd' => ?_⟩
    · unfold Got.upd
      rw [if_neg (by rintro rfl; rw [hj] at hi; cases hi)]
      exact hi
    · unfold Got.upd at hi
      split at hi
      · rename_i e; subst e; rw [hd] at hd'; cases hd'
      · exact h i v hi hd'

section
variable {i j : Nat} {oi oj : Oper} {F F' : Got} {M M' : Mem} {a : Act} {u v : Value}
theorem safe_put (hsi : ∀ cs b, oi.op ≠ .select cs b) (hap : ∀ d, oj.dst = some d → d ∉ oi.looksAt ops) (hF : F' = F ∨ F' = F.upd j u) (hj : F j = none) (hd : dep ops i j = false) (hM : M' = M ∨ G.turns i = false) :
    Safe P ops G i oi F' M' (a.put oj.dst u) ↔ Safe P ops G i oi F M a := by
  unfold Safe relAt
  rw [wanted_put oi a oj.dst u hap, execOp_put oi hsi a oj.dst u hap]
  simp only [cls_upd hF hj hd]
  rcases hM with rfl | hm
  · exact Iff.rfl
  · simp only [hm, Bool.false_eq_true, false_implies, implies_true]
end

/-- Whatever order is picked from here on, for the operations before number n. -/
def wpAnyR (P : Program) (md : Region.Mode) (ops : Array Oper) (G : Rg) (n : Nat) (B : Array Bool → Got → Mem → Act → Prop) : Nat → Array Bool → Got → Mem → Act → Prop
  | 0, listed, F, M, a => B listed F M a
  | f + 1, listed, F, M, a =>
    Region.ready md ops listed ≠ [] ∧ ∀ i ∈ Region.ready md ops listed, i < n ∧ ∀ o, ops[i]? = some o → stepR P ops G i o F M a (wpAnyR P md ops G n B f (listed.setIfInBounds i true))

theorem Oper.wp_of_rel {o : Oper} {a : Act} {w : World} {R : Value → World → Prop} {K : Act → World → Prop} {Q : Exit → Act → World → Prop} (h : relAt P o a w R) (hK : ∀ v w', R v w' → K (a.put o.dst v) w') : o.wp P a w K Q := by
  unfold relAt at h
  unfold Oper.wp
  generalize (execOp a.eval o).run P w = r at *
  cases r with
  | ok n w' =>
    cases n <;> simp only [relUpon] at h <;> simp only [Oper.upon]
    case value v => exact hK _ _ h
    case skip => exact hK _ _ h
    case enter f args => exact Calls.mono h fun e w'' ⟨v, he, hR⟩ => by subst he; exact hK _ _ hR
  | halt x w' => simp only [relUpon] at h

/-- What is said of the edges, by the kernel. -/
def depOk (ops : Array Oper) : Bool :=
  (List.range ops.size).all fun k => (List.range ops.size).all fun i => !dep ops k i || ((ops[k]?).map fun o => o.after.any fun e => decide (e.on < k) && Region.binds .any e && (e.on == i || dep ops e.on i)).getD false
theorem dep_listed (hD : depOk ops = true) {listed : Array Bool} (hcl : ∀ j oj, ops[j]? = some oj → listed.getD j false = true → ∀ e ∈ oj.after, Region.binds .any e = true → listed.getD e.on false = true) {i : Nat} (hi : i < ops.size) :
    ∀ (k : Nat) (o : Oper), ops[k]? = some o → (∀ e ∈ o.after, Region.binds .any e = true → listed.getD e.on false = true) → dep ops k i = true → listed.getD i false = true := by
  intro k
  induction k using Nat.strongRecOn with
  | _ k ih =>
    intro o ho hall hd
    have hk : k < ops.size := (Array.getElem?_eq_some_iff.1 ho).1
    have h1 := List.all_eq_true.1 (List.all_eq_true.1 hD k (List.mem_range.2 hk)) i (List.mem_range.2 hi)
    rw [hd, ho] at h1
    simp only [Bool.not_true, Bool.false_or, Option.map_some, Option.getD_some] at h1
    obtain ⟨e, he, hb⟩ := Array.any_eq_true'.1 h1
    simp only [Bool.and_eq_true, Bool.or_eq_true, decide_eq_true_eq, beq_iff_eq] at hb
    obtain ⟨⟨hlt, hb1⟩, hb2⟩ := hb
    have hl := hall e he hb1
    rcases hb2 with rfl | hb2
    · exact hl
    · have hes : e.on < ops.size := by omega
      exact ih e.on hlt ops[e.on] (Array.getElem?_eq_getElem hes) (hcl e.on _ (Array.getElem?_eq_getElem hes) hl) hb2

/-- Each that turns something waits for each that peeks. -/
def peekOk (ops : Array Oper) (tu pk : Nat → Bool) : Bool := (List.range ops.size).all fun k => (List.range ops.size).all fun t => !(pk k && tu t) || dep ops t k
theorem peekOk_spec {tu pk : Nat → Bool} (h : peekOk ops tu pk = true) {k t : Nat} (hk : k < ops.size) (ht : t < ops.size) (hp : pk k = true) (hm : tu t = true) : dep ops t k = true := by
  have := List.all_eq_true.1 (List.all_eq_true.1 h k (List.mem_range.2 hk)) t (List.mem_range.2 ht)
  simpa [hp, hm] using this
theorem peekOk_none {tu pk : Nat → Bool} (h : ∀ k, pk k = false) : peekOk ops tu pk = true := by
  unfold peekOk; simp [h]
def Shut (ops : Array Oper) (listed : Array Bool) : Prop := ∀ j oj, ops[j]? = some oj → listed.getD j false = true → ∀ e ∈ oj.after, Region.binds .any e = true → listed.getD e.on false = true
theorem Shut.set {listed : Array Bool} {i : Nat} {oi : Oper} (h : Shut ops listed) (hi : i < ops.size) (hoi : ops[i]? = some oi) (hall : ∀ e ∈ oi.after, Region.binds .any e = true → listed.getD e.on false = true) (hsz : listed.size = ops.size) : Shut ops (listed.setIfInBounds i true) := by
  intro j oj hoj hj e he hb
  have key : listed.getD e.on false = true := by
    by_cases hij : i = j
    · subst hij; obtain rfl : oi = oj := Option.some.inj (hoi.symm.trans hoj); exact hall e he hb
    · rw [getD_set_ne false hij] at hj; exact h j oj hoj hj e he hb
  by_cases hie : i = e.on
  · rw [← hie]; simp [hsz, hi]
  · rw [getD_set_ne false hie]; exact key
theorem wpAny_of_R (hG : G.Ok) (hD : depOk ops = true) (hPk : peekOk ops G.turns G.peek = true) {n g : Nat} {B : Array Bool → Got → Mem → Act → Prop} {Q' : Exit → Act → World → Prop}
    (hB : ∀ listed F M a w, B listed F M a → G.L G.w0 w → Facts G F w → M w → wpAny P .any ops Q' g listed a w) :
    ∀ (f : Nat) (listed : Array Bool) (F : Got) (M : Mem) (a : Act) (w : World), Shut ops listed → listed.size = ops.size → ((∀ t, t < ops.size → G.turns t = true → listed.getD t false = false) → G.L0 G.w0 w) → wpAnyR P .any ops G n B f listed F M a → Pure G F → Still0 G M → G.L G.w0 w → Facts G F w → M w → wpAny P .any ops Q' (f + g) listed a w
  | 0, listed, F, M, a, w, _, _, _, h, _, _, h0, hF, hMw => by rw [Nat.zero_add]; exact hB _ _ _ _ _ h h0 hF hMw
  | f + 1, listed, F, M, a, w, hcl, hsz, h00, h, hP, hM, h0, hF, hMw => by
    rw [show f + 1 + g = (f + g) + 1 by omega]
    refine ⟨fun he => absurd he h.1, fun i hi => ?_⟩
    obtain ⟨hun, oi, hoi, halli⟩ := mem_ready.1 hi
    have hil : i < ops.size := (Array.getElem?_eq_some_iff.1 hoi).1
    have hcl' := hcl.set hil hoi halli hsz
    have hsz' : (listed.setIfInBounds i true).size = ops.size := by simpa using hsz
    have hold : G.turns i = false → (∀ t, t < ops.size → G.turns t = true → (listed.setIfInBounds i true).getD t false = false) → G.L0 G.w0 w := fun _ hall => h00 fun t ht htt => by
      have h1 := hall t ht htt
      by_cases e : i = t
      · subst e; rw [show (listed.setIfInBounds i true).getD i false = true by simp [hsz, hil]] at h1; cases h1
      · rwa [getD_set_ne false e] at h1
    have hturn : G.turns i = true → ¬ (∀ t, t < ops.size → G.turns t = true → (listed.setIfInBounds i true).getD t false = false) := fun hm hall => by
      have h1 := hall i hil hm
      rw [show (listed.setIfInBounds i true).getD i false = true by simp [hsz, hil]] at h1
      cases h1
    have hs := (h.2 i hi).2 oi hoi
    unfold wpOp
    simp only [hoi]
    unfold stepR at hs
    cases hw : Region.wanted oi (yielded ops a.tmps) with
    | false =>
      simp only [hw, Bool.false_eq_true, if_false] at hs ⊢
      refine wpAny_of_R hG hD hPk hB f _ _ _ _ _ hcl' hsz' (fun hall => ?_) hs hP hM h0 hF hMw
      cases hm : G.turns i with
      | true => exact absurd hall (hturn hm)
      | false => exact hold hm hall
    | true =>
      simp only [hw, if_true] at hs ⊢
      refine .inl ?_
      cases hr : G.rel i with
      | true =>
        cases hm : G.turns i with
        | true =>
          simp only [hr, hm, if_true] at hs
          refine Oper.wp_of_rel (hs.1 w ⟨h0, fun k v hk _ => hF k v hk⟩ hMw) fun v w' ⟨hs', hv⟩ => ?_
          have hL := step_L hG hs'
          have hF' := facts_on hG hP hF hL
          exact wpAny_of_R hG hD hPk hB f _ _ _ _ _ hcl' hsz' (fun hall => absurd hall (hturn hm)) (hs.2 v ⟨w', hG.trans _ _ _ h0 hL, hv⟩) hP (next_still hG hM hm) (hG.trans _ _ _ h0 hL) hF' (next_at hM hMw hs' hv)
        | false =>
          simp only [hr, hm, if_true, Bool.false_eq_true, if_false] at hs
          refine Oper.wp_of_rel (hs.1 w ⟨h0, fun k v hk _ => hF k v hk⟩) fun v w' ⟨hL, hv⟩ => ?_
          have hF' := facts_upd (k := i) (v := v) hG hP hF (hG.sub _ _ hL) hv
          have h0' := hG.trans _ _ _ h0 (hG.sub _ _ hL)
          refine wpAny_of_R hG hD hPk hB f _ _ _ _ _ hcl' hsz' (fun hall => hG.trans0 _ _ _ (hold hm hall) hL) (hs.2 v ⟨w', h0', hv⟩) (fun k u hk => ?_) hM h0' hF' (hM _ _ hMw hL)
          unfold Got.upd at hk
          split at hk
          · rename_i e; subst e; exact hm
          · exact hP k u hk
      | false =>
        simp only [hr, Bool.false_eq_true, if_false] at hs
        obtain ⟨v, h1, h2⟩ := hs
        unfold Oper.wp
        have hcw : G.cls i w := by
          unfold Rg.cls
          split
          · rename_i hpk
            exact h00 fun t ht htt => by
              cases hl : listed.getD t false with
              | false => rfl
              | true =>
                have hd := peekOk_spec hPk hil ht hpk htt
                have := dep_listed hD hcl hil t _ (Array.getElem?_eq_getElem ht) (hcl t _ (Array.getElem?_eq_getElem ht) hl) hd
                rw [getD_both hun] at this
                cases this
          · exact h0
        rw [h1 w hcw]
        refine wpAny_of_R hG hD hPk hB f _ _ _ _ _ hcl' hsz' (fun hall => ?_) h2 hP hM h0 hF hMw
        cases hm : G.turns i with
        | true => exact absurd hall (hturn hm)
        | false => exact hold hm hall

/-- Of two that turn something one waits for the other. -/
def mutOk (ops : Array Oper) (tu : Nat → Bool) : Bool := (List.range ops.size).all fun k => (List.range k).all fun i => !(tu k && tu i) || dep ops k i
theorem mutOk_spec {tu : Nat → Bool} (h : mutOk ops tu = true) {i j : Nat} (hi : i < ops.size) (hj : j < ops.size) (hne : i ≠ j) (mi : tu i = true) (mj : tu j = true) : dep ops i j = true ∨ dep ops j i = true := by
  rcases Nat.lt_or_gt_of_ne hne with hlt | hlt
  · have := List.all_eq_true.1 (List.all_eq_true.1 h j (List.mem_range.2 hj)) i (List.mem_range.2 hlt)
    simp only [mi, mj, Bool.and_self, Bool.not_true, Bool.false_or] at this
    exact .inr this
  · have := List.all_eq_true.1 (List.all_eq_true.1 h i (List.mem_range.2 hi)) j (List.mem_range.2 hlt)
    simp only [mi, mj, Bool.and_self, Bool.not_true, Bool.false_or] at this
    exact .inl this

theorem wpAnyR_first (hG : G.Ok) {n i : Nat} {oi : Oper} {B : Array Bool → Got → Mem → Act → Prop} (hi : ops[i]? = some oi) (hsel : ∀ (j : Nat) (o : Oper) cs b, ops[j]? = some o → o.op ≠ .select cs b)
    (hD : depOk ops = true) (hMu : mutOk ops G.turns = true) (htail : ∀ listed, HeadInv .any ops n listed → listed.getD i true = false → ∀ t, n ≤ t → t ∉ Region.ready .any ops listed)
    (hdone : ∀ listed F M a, B listed F M a → ∀ j ∈ Region.ready .any ops listed, n ≤ j) :
    ∀ (f : Nat) (listed : Array Bool) (F : Got) (M : Mem) (a : Act), HeadInv .any ops n listed →
      (∀ j oj, ops[j]? = some oj → j ≠ i → listed.getD j true = false → (∀ e ∈ oj.after, Region.binds .any e = true → e.on ≠ i) → oi.apart ops oj = true) →
      i ∈ Region.ready .any ops listed → (∀ k, listed.getD k true = false → F k = none) →
      stepR P ops G i oi F M a (wpAnyR P .any ops G n B f (listed.setIfInBounds i true)) → wpAnyR P .any ops G n B (f + 1) listed F M a := by
  intro f
  induction f with
  | zero =>
    intro listed F M a inv _ hr hN H
    have hun := (mem_ready.1 hr).1
    refine ⟨fun h => (by rw [h] at hr; cases hr), fun j hj => ?_⟩
    have hjn : j < n := by
      rcases Nat.lt_or_ge j n with h | h
      · exact h
      · exact absurd hj (htail _ inv hun j h)
    refine ⟨hjn, fun oj hoj => ?_⟩
    by_cases hji : j = i
    · subst hji; obtain rfl : oi = oj := Option.some.inj (hi.symm.trans hoj); exact H
    · obtain ⟨hS, hO⟩ := (stepR_iff hG).1 H
      obtain ⟨v, F', M', ho⟩ := out_some hG hS
      have := hdone _ _ _ _ (hO v F' M' ho) j (ready_mono hj hji)
      omega
  | succ f ih =>
    intro listed F M a inv hfree hr hN H
    obtain ⟨hun, oi', hoi', halli⟩ := mem_ready.1 hr
    obtain rfl : oi = oi' := Option.some.inj (hi.symm.trans hoi')
    refine ⟨fun h => (by rw [h] at hr; cases hr), fun j hj => ?_⟩
    have hjn : j < n := by
      rcases Nat.lt_or_ge j n with h | h
      · exact h
      · exact absurd hj (htail _ inv hun j h)
    refine ⟨hjn, fun oj hoj => ?_⟩
    by_cases hji : j = i
    · subst hji; obtain rfl : oi = oj := Option.some.inj (hi.symm.trans hoj); exact H
    · obtain ⟨hjun, oj', hoj', hall⟩ := mem_ready.1 hj
      obtain rfl : oj = oj' := Option.some.inj (hoj.symm.trans hoj')
      have hnot : ∀ e ∈ oj.after, Region.binds .any e = true → e.on ≠ i := fun e he hb heq => by
        have h1 := hall e he hb
        rw [heq, getD_both hun] at h1
        cases h1
      have hap := hfree j oj hoj hji hjun hnot
      obtain ⟨a1, a2, a3⟩ := Oper.apart_spec hap
      have hil : i < ops.size := (Array.getElem?_eq_some_iff.1 hi).1
      have hjl : j < ops.size := (Array.getElem?_eq_some_iff.1 hoj).1
      have dji : dep ops j i = false := by
        cases hd : dep ops j i with
        | false => rfl
        | true => have := dep_listed hD inv.closed hil j oj hoj hall hd; rw [getD_both hun] at this; cases this
      have dij : dep ops i j = false := by
        cases hd : dep ops i j with
        | false => rfl
        | true => have := dep_listed hD inv.closed hjl i oi hi halli hd; rw [getD_both hjun] at this; cases this
      have one : G.turns i = true → G.turns j = false := fun mi => by
        cases mj : G.turns j with
        | false => rfl
        | true =>
          rcases mutOk_spec hMu hil hjl (Ne.symm hji) mi mj with h | h
          · rw [dij] at h; cases h
          · rw [dji] at h; cases h
      have one' : G.turns j = true → G.turns i = false := fun mj => by
        cases mi : G.turns i with
        | false => rfl
        | true => rw [one mi] at mj; cases mj
      have Fi := hN i hun
      have Fj := hN j hjun
      have si : ∀ cs b, oi.op ≠ .select cs b := fun cs b => hsel i oi cs b hi
      have sj : ∀ cs b, oj.op ≠ .select cs b := fun cs b => hsel j oj cs b hoj
      obtain ⟨hS, hO⟩ := (stepR_iff hG).1 H
      -- what j is asked behind an outcome of i
      have behind : ∀ v F' M', Outc P ops G i oi F M a v F' M' → stepR P ops G j oj F' M' (a.put oi.dst v) (wpAnyR P .any ops G n B f ((listed.setIfInBounds i true).setIfInBounds j true)) := fun v F' M' ho =>
        ((hO v F' M' ho).2 j (ready_mono hj hji)).2 oj hoj
      rw [stepR_iff hG]
      constructor
      · obtain ⟨v, F', M', ho⟩ := out_some hG hS
        exact (safe_put sj a1 ho.form Fi dji (ho.mem.imp id one)).1 ((stepR_iff hG).1 (behind v F' M' ho)).1
      · intro u Fu Mu hou
        refine ih (listed.setIfInBounds j true) Fu Mu (a.put oj.dst u) (inv.set hj hjn) ?_ (ready_mono hr (Ne.symm hji)) ?_ ?_
        · intro k ok hk hki hku hno
          refine hfree k ok hk hki ?_ hno
          by_cases hjk : j = k
          · subst hjk; exact hjun
          · rw [getD_set_ne true hjk] at hku; exact hku
        · intro k hk
          have hkj : j ≠ k := by
            rintro rfl
            have : j < listed.size := by rw [inv.size]; exact hjl
            simp [this] at hk
          rw [getD_set_ne true hkj] at hk
          rcases hou.form with rfl | rfl
          · exact hN k hk
          · unfold Got.upd; rw [if_neg (Ne.symm hkj)]; exact hN k hk
        · rw [stepR_iff hG]
          refine ⟨(safe_put si a3 hou.form Fj dij (hou.mem.imp id one')).2 hS, fun v F'' M'' hov => ?_⟩
          -- the same two outcomes, the other way round
          have hwi := wanted_put (ops := ops) oi a oj.dst u a3
          have hei := execOp_put (ops := ops) oi si a oj.dst u a3
          have hwj := wanted_put (ops := ops) oj a oi.dst v a1
          have hej := execOp_put (ops := ops) oj sj a oi.dst v a1
          have key : ∃ F' M', Outc P ops G i oi F M a v F' M' ∧ Outc P ops G j oj F' M' (a.put oi.dst v) u F'' M'' := by
            rcases hov with ⟨e1, e2, e3, e4⟩ | ⟨e1, e2, e3, e4, e5⟩ | ⟨e1, e2, e2', e3, e4, e5⟩ | ⟨e1, e2, e2', e3, e4, e5⟩
            · -- i is passed over
              subst e3 e4
              refine ⟨F, M, .inl ⟨by rw [← hwi]; exact e1, e2, rfl, rfl⟩, ?_⟩
              rcases hou with ⟨f1, f2, f3, f4⟩ | ⟨f1, f2, f3, f4, f5⟩ | ⟨f1, f2, f2', f3, f4, f5⟩ | ⟨f1, f2, f2', f3, f4, f5⟩
              · exact .inl ⟨by rw [hwj]; exact f1, f2, f3, f4⟩
              · exact .inr (.inl ⟨by rw [hwj]; exact f1, f2, f3, f4, by rw [hej]; exact f5⟩)
              · exact .inr (.inr (.inl ⟨by rw [hwj]; exact f1, f2, f2', f3, f4, f5⟩))
              · exact .inr (.inr (.inr ⟨by rw [hwj]; exact f1, f2, f2', f3, f4, f5⟩))
            · -- i only reads
              subst e3 e4
              refine ⟨F, M, .inr (.inl ⟨by rw [← hwi]; exact e1, e2, rfl, rfl, fun w hw => by rw [← hei]; exact e5 w hw⟩), ?_⟩
              rcases hou with ⟨f1, f2, f3, f4⟩ | ⟨f1, f2, f3, f4, f5⟩ | ⟨f1, f2, f2', f3, f4, f5⟩ | ⟨f1, f2, f2', f3, f4, f5⟩
              · exact .inl ⟨by rw [hwj]; exact f1, f2, f3, f4⟩
              · exact .inr (.inl ⟨by rw [hwj]; exact f1, f2, f3, f4, by rw [hej]; exact f5⟩)
              · exact .inr (.inr (.inl ⟨by rw [hwj]; exact f1, f2, f2', f3, f4, f5⟩))
              · exact .inr (.inr (.inr ⟨by rw [hwj]; exact f1, f2, f2', f3, f4, f5⟩))
            · -- i leaves a fact
              subst e3 e4
              refine ⟨F.upd i v, M, .inr (.inr (.inl ⟨by rw [← hwi]; exact e1, e2, e2', rfl, rfl, e5⟩)), ?_⟩
              rcases hou with ⟨f1, f2, f3, f4⟩ | ⟨f1, f2, f3, f4, f5⟩ | ⟨f1, f2, f2', f3, f4, f5⟩ | ⟨f1, f2, f2', f3, f4, f5⟩
              · subst f3 f4
                exact .inl ⟨by rw [hwj]; exact f1, f2, rfl, rfl⟩
              · subst f3 f4
                exact .inr (.inl ⟨by rw [hwj]; exact f1, f2, rfl, rfl, by rw [hej]; exact f5⟩)
              · subst f3 f4
                exact .inr (.inr (.inl ⟨by rw [hwj]; exact f1, f2, f2', Got.upd_comm F hji u v, rfl, f5⟩))
              · subst f3 f4
                exact .inr (.inr (.inr ⟨by rw [hwj]; exact f1, f2, f2', rfl, rfl, f5⟩))
            · -- i turns something
              subst e3 e4
              refine ⟨F, G.next i M v, .inr (.inr (.inr ⟨by rw [← hwi]; exact e1, e2, e2', rfl, rfl, e5⟩)), ?_⟩
              rcases hou with ⟨f1, f2, f3, f4⟩ | ⟨f1, f2, f3, f4, f5⟩ | ⟨f1, f2, f2', f3, f4, f5⟩ | ⟨f1, f2, f2', f3, f4, f5⟩
              · exact .inl ⟨by rw [hwj]; exact f1, f2, f3, by rw [f4]⟩
              · exact .inr (.inl ⟨by rw [hwj]; exact f1, f2, f3, by rw [f4], by rw [hej]; exact f5⟩)
              · exact .inr (.inr (.inl ⟨by rw [hwj]; exact f1, f2, f2', f3, by rw [f4], f5⟩))
              · rw [one e2'] at f2'; cases f2'
          obtain ⟨F', M', ho, hoj2⟩ := key
          have h3 := ((stepR_iff hG).1 (behind v F' M' ho)).2 u F'' M'' hoj2
          rw [Array.setIfInBounds_comm _ _ hji, ← Act.put_comm a v u a2]
          exact h3
/-- THE WALK, in the order of the text. -/
def wpR (P : Program) (ops : Array Oper) (G : Rg) (E : Got → Mem → Act → Prop) : List Oper → Nat → Got → Mem → Act → Prop
  | [], _, F, M, a => E F M a
  | o :: rest, k, F, M, a => stepR P ops G k o F M a (wpR P ops G E rest (k + 1))

def rgB (ops : Array Oper) (n : Nat) : Bool :=
  Region.noSelect ops && depOk ops && (decide (n = ops.size) || (decide (n < ops.size) && Region.sinkB .any ops n && Region.chainB .any ops n)) && Region.lexHead .any ops (ops.size - n) n 0 (Array.replicate ops.size false)

theorem wpAnyR_lex (hG : G.Ok) {n g : Nat} {E : Got → Mem → Act → Prop} (hsel : Region.noSelect ops = true) (hD : depOk ops = true) (hMu : mutOk ops G.turns = true) (hn : n ≤ ops.size)
    (htail : ∀ listed, HeadInv .any ops n listed → ∀ i, i < n → listed.getD i true = false → ∀ t, n ≤ t → t ∉ Region.ready .any ops listed) :
    ∀ (l : List Oper) (k : Nat) (listed : Array Bool) (F : Got) (M : Mem) (a : Act), (∀ j, j < l.length → l[j]? = ops[k + j]?) → k + l.length = n → HeadInv .any ops n listed →
    (∀ i, listed.getD i true = false → F i = none) →
    Region.lexHead .any ops g l.length k listed = true → wpR P ops G E l k F M a →
    wpAnyR P .any ops G n (fun listed' F' M' a' => Region.seqB .any ops g n listed' = true ∧ E F' M' a') l.length listed F M a
  | [], k, listed, F, M, a, _, hk, _, _, hB, h => by
    have : k = n := by simpa using hk
    subst this
    exact ⟨by simpa [Region.lexHead] using hB, h⟩
  | o :: l, k, listed, F, M, a, hl, hk, inv, hN, hB, h => by
    have h0 : ops[k]? = some o := by simpa using (hl 0 (by simp)).symm
    simp only [List.length_cons, Region.lexHead, Bool.and_eq_true] at hB
    obtain ⟨⟨hr, hf⟩, hB'⟩ := hB
    have hkn : k < n := by simp only [List.length_cons] at hk; omega
    have hr' : k ∈ Region.ready .any ops listed := by simpa using hr
    refine wpAnyR_first hG h0 (Region.noSelect_spec hsel) hD hMu (fun li inv' hu => htail li inv' k hkn hu) (fun listed' F' M' a' hL => seqB_ready hL.1) l.length listed F M a inv (Region.free_spec h0 hf) hr' hN ?_
    have h' : stepR P ops G k o F M a (wpR P ops G E l (k + 1)) := h
    rw [stepR_iff hG] at h' ⊢
    refine ⟨h'.1, fun v F' M' ho => ?_⟩
    refine wpAnyR_lex hG hsel hD hMu hn htail l (k + 1) _ F' M' _ (fun j hj => by have := hl (j + 1) (by simp; omega); simpa [Nat.add_assoc, Nat.add_comm 1 j] using this) (by simp only [List.length_cons] at hk; omega) (inv.set hr' hkn) ?_ hB' (h'.2 v F' M' ho)
    intro i hi
    have hks : k < listed.size := by rw [inv.size]; omega
    have hki : k ≠ i := by rintro rfl; simp [hks] at hi
    rw [getD_set_ne true hki] at hi
    rcases ho.form with rfl | rfl
    · exact hN i hi
    · unfold Got.upd; rw [if_neg (Ne.symm hki)]; exact hN i hi

/-- **ONE WALK SERVES EVERY ORDER.** The first n operations by 'wpR'; those from n on, which wait for all of them and for one another, in their order. -/
theorem wp_region_rg {id : Nat} {Q : Exit → Act → World → Prop} {a : Act} {w : World} {l : List Oper} (n : Nat) (G : Rg) (hG : G.Ok) (hw0 : G.w0 = w.drew) (hm : P.follows .mixedOrders = true) (hB : rgB l.toArray n = true) (hMu : mutOk l.toArray G.turns = true) (hPk : peekOk l.toArray G.turns G.peek = true)
    (h : wpR P l.toArray G (fun F M a' => ∀ w', G.L w.drew w' → Facts G F w' → M w' → wpList P l.toArray Q (l.drop n) a' w') (l.take n) 0 (fun _ => none) (G.L0 w.drew) a) : (Code.region id l.toArray true).wp P Q a w := by
  simp only [rgB, Bool.and_eq_true, Bool.or_eq_true, decide_eq_true_eq] at hB
  obtain ⟨⟨⟨hsel, hD⟩, hn⟩, hlex⟩ := hB
  have hn' : n ≤ l.toArray.size := by rcases hn with h | ⟨⟨h, _⟩, _⟩ <;> omega
  have htl : (l.take n).length = n := by simp at hn' ⊢; omega
  have hdl : (l.drop n).length = l.toArray.size - n := by simp
  have inv0 : HeadInv .any l.toArray n (Array.replicate l.toArray.size false) :=
    ⟨by simp, fun j oj _ hl => (by rw [getD_replicate_false] at hl; cases hl), fun t _ ht => getD_in (by simpa using ht) (getD_replicate_false _ _)⟩
  have htail : ∀ listed, HeadInv .any l.toArray n listed → ∀ i, i < n → listed.getD i true = false → ∀ t, n ≤ t → t ∉ Region.ready .any l.toArray listed := by
    intro listed inv i hi hu t ht hr
    rcases hn with h | ⟨⟨h, hs⟩, hc⟩
    · obtain ⟨_, ot, hot, _⟩ := mem_ready.1 hr
      have := (Array.getElem?_eq_some_iff.1 hot).1
      omega
    · exact tail_waits hs hc h inv _ i rfl hi hu t ht hr
  have H := wpAnyR_lex hG (g := l.toArray.size - n) hsel hD hMu hn' htail (l.take n) 0 _ _ _ a (fun j hj => by
    have hj' : j < n := by rw [htl] at hj; exact hj
    simp [hj']) (by simpa using htl) inv0 (fun _ _ => rfl) (by rw [htl]; exact hlex) h
  refine wp_region_any hm ?_
  have := wpAny_of_R hG hD hPk (Q' := Q) (g := l.toArray.size - n) (fun listed F M a' w' hL h0 hF hMw => by
    have := wpAny_of_seq (md := .any) (Q' := Q) (l.drop n) n listed a' w' (fun j => by simp [List.getElem?_drop]) (by rw [hdl]; exact hL.1) (hL.2 w' (hw0 ▸ h0) hF hMw)
    rwa [hdl] at this) _ _ _ _ _ w.drew (fun j oj _ hl => (by rw [getD_replicate_false] at hl; cases hl)) (by simp) (fun _ => hw0 ▸ hG.refl0 _) H (fun i v hi => by cases hi) (fun x y h1 h2 => hG.trans0 _ _ _ h1 h2) (by rw [hw0]; exact hG.refl _) (fun i v hi => by cases hi) (hG.refl0 _)
  rw [htl, show n + (l.toArray.size - n) = l.toArray.size by omega] at this
  exact this
end
end Go.Proofs.YthfdhggcnkgjfaaDoor
