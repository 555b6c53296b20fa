/- A trie in memory: which block each path's node is, whether it has a value, which one. No walk here. -/
import Derived.Test.YtchgbdghllkcpaaD
namespace Go.Proofs.Ytchgbdghllkcpaa
open Go.RowKit
set_option linter.unusedVariables false
abbrev Path := List Bool
def upd {α : Type} (F : Bool → Path → α) (f : Bool) (p : Path) (x : α) : Bool → Path → α := fun g q => if g = f ∧ q = p then x else F g q
theorem upd_self {α : Type} (F : Bool → Path → α) (f : Bool) (p : Path) (x : α) : upd F f p x f p = x := by simp [upd]
theorem upd_ne {α : Type} (F : Bool → Path → α) {f g : Bool} {p q : Path} (x : α) (h : ¬ (g = f ∧ q = p)) : upd F f p x g q = F g q := by simp [upd, h]
def pv : Option Nat → Value
  | none => .pointer none
  | some b => .pointer (some ⟨b, 0, none⟩)
def ndC (N : Bool → Path → Option Nat) (H : Bool → Path → Bool) (V : Bool → Path → Int) (f : Bool) (p : Path) : List Value := [pv (N f (p ++ [false])), pv (N f (p ++ [true])), .bool (H f p), .int .i64 (V f p)]
def tbC (N : Bool → Path → Option Nat) (H : Bool → Path → Bool) (V : Bool → Path → Int) (sz : Int) : List Value := .int .i64 sz :: (ndC N H V false [] ++ ndC N H V true [])
structure Tri (tb base : Nat) (N : Bool → Path → Option Nat) (H : Bool → Path → Bool) (V : Bool → Path → Int) (sz : Int) (w : World) : Prop where
  tab : Blk w tb 62 (tbC N H V sz).toArray
  node : ∀ f p b, p ≠ [] → N f p = some b → base ≤ b ∧ Blk w b 60 (ndC N H V f p).toArray
  inj : ∀ f p g q b, p ≠ [] → q ≠ [] → N f p = some b → N g q = some b → f = g ∧ p = q
  up : ∀ f p x, p ≠ [] → N f p = none → N f (p ++ [x]) = none
  has : ∀ f p, p ≠ [] → N f p = none → H f p = false
  lo : base ≤ tb
/-- Where the node of a path lies. -/
def AtN (tb : Nat) (N : Bool → Path → Option Nat) (f : Bool) (p : Path) (ab ao : Nat) : Prop := (p = [] ∧ ab = tb ∧ ao = rootO f) ∨ (p ≠ [] ∧ N f p = some ab ∧ ao = 0)
section
variable {tb base : Nat} {N N' : Bool → Path → Option Nat} {H H' : Bool → Path → Bool} {V V' : Bool → Path → Int} {sz : Int} {w w' : World} {f : Bool} {p : Path} {ab ao : Nat}
theorem AtN.root : AtN tb N f [] tb (rootO f) := .inl ⟨rfl, rfl, rfl⟩
theorem AtN.child {x : Bool} {b : Nat} (h : N f (p ++ [x]) = some b) : AtN tb N f (p ++ [x]) b 0 := .inr ⟨by simp, h, rfl⟩
theorem Tri.keep (h : Tri tb base N H V sz w) (hk : ∀ b, base ≤ b → b < w.heap.size → w'.heap[b]? = w.heap[b]?) : Tri tb base N H V sz w' :=
  ⟨(hk tb h.lo h.tab.lt).trans h.tab, fun f p b hp hb => ⟨(h.node f p b hp hb).1, (hk b (h.node f p b hp hb).1 (h.node f p b hp hb).2.lt).trans (h.node f p b hp hb).2⟩, h.inj, h.up, h.has, h.lo⟩
theorem Tri.onB (h : Tri tb base N H V sz w) (hb : Below w.heap.size w w') : Tri tb base N H V sz w' := h.keep fun b _ hlt => hb.block b hlt
theorem Tri.on0 (h : Tri tb base N H V sz w) (hb : Kept (fun _ => False) w w') : Tri tb base N H V sz w' := h.keep fun b _ hlt => hb.block b hlt (fun h => h)
theorem Tri.cells (h : Tri tb base N H V sz w) (ha : AtN tb N f p ab ao) :
    w.cell? ⟨ab, ao, none⟩ = some (pv (N f (p ++ [false]))) ∧ w.cell? ⟨ab, ao + 1, none⟩ = some (pv (N f (p ++ [true]))) ∧ w.cell? ⟨ab, ao + 2, none⟩ = some (.bool (H f p)) ∧ w.cell? ⟨ab, ao + 3, none⟩ = some (.int .i64 (V f p)) ∧
    (∀ o, w.frozen? ⟨ab, o, none⟩ = false) ∧ ab < w.heap.size ∧ base ≤ ab := by
  rcases ha with ⟨rfl, rfl, rfl⟩ | ⟨hp, hb, rfl⟩
  · refine ⟨?_, ?_, ?_, ?_, h.tab.frozen, h.tab.lt, h.lo⟩ <;> rw [h.tab.cell] <;> cases f <;> simp [tbC, ndC, rootO]
  · obtain ⟨h1, h2⟩ := h.node f p ab hp hb
    refine ⟨?_, ?_, ?_, ?_, h2.frozen, h2.lt, h1⟩ <;> rw [h2.cell] <;> simp [ndC]
theorem Tri.size (h : Tri tb base N H V sz w) : w.cell? ⟨tb, 0, none⟩ = some (.int .i64 sz) := by rw [h.tab.cell]; simp [tbC]
theorem Tri.ne29 (h : Tri tb base N H V sz w) (ha : AtN tb N f p ab ao) {g : Nat} {t : TypeId} {cs : Array Value} (hg : Blk w g t cs) (h60 : t ≠ 60) (h62 : t ≠ 62) : g ≠ ab := by
  rcases ha with ⟨rfl, rfl, rfl⟩ | ⟨hp, hb, rfl⟩
  · exact hg.ne_ h.tab h62
  · exact hg.ne_ (h.node f p ab hp hb).2 h60
/-- One store into a node. -/
theorem Tri.store (h : Tri tb base N H V sz w) (ha : AtN tb N f p ab ao) {j : Nat} (hj : j < 4) {v : Value}
    (e1 : ndC N' H' V' f p = (ndC N H V f p).set j v) (e2 : ∀ g q, ¬ (g = f ∧ q = p) → (q = [] ∨ ∃ b, N' g q = some b) → ndC N' H' V' g q = ndC N H V g q)
    (sub : ∀ g q b, q ≠ [] → N' g q = some b → N g q = some b) (hup : ∀ f p x, p ≠ [] → N' f p = none → N' f (p ++ [x]) = none) (hhas : ∀ f p, p ≠ [] → N' f p = none → H' f p = false) :
    Tri tb base N' H' V' sz (w.setCell ⟨ab, ao + j, none⟩ v) := by
  refine ⟨?_, fun g q b hq hb => ?_, fun f p g q b hp hq h1 h2 => h.inj f p g q b hp hq (sub _ _ _ hp h1) (sub _ _ _ hq h2), hup, hhas, h.lo⟩
  · rcases ha with ⟨rfl, rfl, rfl⟩ | ⟨hp, hb, rfl⟩
    · refine h.tab.set_to ?_
      cases f with
      | false =>
        rw [show tbC N' H' V' sz = .int .i64 sz :: (ndC N' H' V' false [] ++ ndC N' H' V' true []) from rfl, e1, e2 true [] (by simp) (.inl rfl)]
        match j, hj with
        | 0, _ => rfl
        | 1, _ => rfl
        | 2, _ => rfl
        | 3, _ => rfl
      | true =>
        rw [show tbC N' H' V' sz = .int .i64 sz :: (ndC N' H' V' false [] ++ ndC N' H' V' true []) from rfl, e1, e2 false [] (by simp) (.inl rfl)]
        match j, hj with
        | 0, _ => rfl
        | 1, _ => rfl
        | 2, _ => rfl
        | 3, _ => rfl
    · have hne : tb ≠ ab := h.tab.ne_ (h.node f p ab hp hb).2 (by decide)
      refine Blk.far' hne ?_
      have e3 : tbC N' H' V' sz = tbC N H V sz := by
        unfold tbC
        rw [e2 false [] (fun e => hp e.2.symm) (.inl rfl), e2 true [] (fun e => hp e.2.symm) (.inl rfl)]
      rw [e3]; exact h.tab
  · have hbN := sub g q b hq hb
    obtain ⟨h1, h2⟩ := h.node g q b hq hbN
    refine ⟨h1, ?_⟩
    by_cases hgq : g = f ∧ q = p
    · obtain ⟨rfl, rfl⟩ := hgq
      rcases ha with ⟨hp, _, _⟩ | ⟨hp, hb', rfl⟩
      · exact absurd hp hq
      · obtain rfl : b = ab := by rw [hb'] at hbN; exact (Option.some.inj hbN).symm
        rw [e1, Nat.zero_add]
        refine h2.set_to ?_
        simp
    · have hne : b ≠ ab := by
        rcases ha with ⟨rfl, rfl, rfl⟩ | ⟨hp, hb', rfl⟩
        · exact h2.ne_ h.tab (by decide)
        · rintro rfl
          exact hgq (h.inj g q f p b hq hp hbN hb')
      rw [e2 g q hgq (.inr ⟨b, hb⟩)]
      exact Blk.far' hne h2
/-- A child is hung in: the block that was just made. -/
theorem Tri.grow (h : Tri tb base N H V sz w) (ha : AtN tb N f p ab ao) (x : Bool) (hn : N f (p ++ [x]) = none) (hb : base ≤ w.heap.size) :
    Tri tb base (upd N f (p ++ [x]) (some w.heap.size)) H (upd V f (p ++ [x]) 0) sz ((w.alloc (.cells #[.pointer none, .pointer none, .bool false, .int .i64 0] 60)).setCell ⟨ab, ao + (if x then 1 else 0), none⟩ (.pointer (some ⟨w.heap.size, 0, none⟩))) := by
  have hlt : ab < w.heap.size := (h.cells ha).2.2.2.2.2.1
  have hq : p ++ [x] ≠ [] := by simp
  have hold : ∀ g q b, q ≠ [] → N g q = some b → b < w.heap.size := fun g q b hq hb => (h.node g q b hq hb).2.lt
  have hpx : ∀ q : Path, ∀ y, q ++ [y] = p ++ [x] → q = p ∧ y = x := fun q y e => by simpa using List.append_inj' e rfl
  -- the cells of the old nodes but p are as they were
  have hcell : ∀ g q, ¬ (g = f ∧ q = p) → ¬ (g = f ∧ q = p ++ [x]) → ndC (upd N f (p ++ [x]) (some w.heap.size)) H (upd V f (p ++ [x]) 0) g q = ndC N H V g q := fun g q h1 h2 => by
    unfold ndC
    rw [upd_ne _ _ (fun e => h1 ⟨e.1, (hpx _ _ e.2).1⟩), upd_ne _ _ (fun e => h1 ⟨e.1, (hpx _ _ e.2).1⟩), upd_ne V _ h2]
  have hpne : ¬ (f = f ∧ p = p ++ [x]) := fun e => by have := congrArg List.length e.2; simp at this
  have hcp : ndC (upd N f (p ++ [x]) (some w.heap.size)) H (upd V f (p ++ [x]) 0) f p = (ndC N H V f p).set (if x then 1 else 0) (.pointer (some ⟨w.heap.size, 0, none⟩)) := by
    unfold ndC
    rw [upd_ne V _ hpne]
    cases x with
    | false => rw [upd_self, upd_ne N (f := f) (g := f) (p := p ++ [false]) (q := p ++ [true]) _ (fun e => by have := (hpx _ _ e.2).2; cases this)]; rfl
    | true => rw [upd_self, upd_ne N (f := f) (g := f) (p := p ++ [true]) (q := p ++ [false]) _ (fun e => by have := (hpx _ _ e.2).2; cases this)]; rfl
  refine ⟨?_, fun g q b hq' hb' => ?_, fun g q g' q' b h1 h2 h3 h4 => ?_, fun g q y h1 h2 => ?_, fun g q h1 h2 => ?_, h.lo⟩
  · have ht := h.tab.alloc (.cells #[.pointer none, .pointer none, .bool false, .int .i64 0] 60)
    rcases ha with ⟨rfl, rfl, rfl⟩ | ⟨hp, hb', rfl⟩
    · refine ht.set_to ?_
      cases f with
      | false =>
        rw [show tbC (upd N false ([] ++ [x]) (some w.heap.size)) H (upd V false ([] ++ [x]) 0) sz = .int .i64 sz :: (ndC (upd N false ([] ++ [x]) (some w.heap.size)) H (upd V false ([] ++ [x]) 0) false [] ++ ndC (upd N false ([] ++ [x]) (some w.heap.size)) H (upd V false ([] ++ [x]) 0) true []) from rfl, hcp, hcell true [] (by simp) (by simp)]
        cases x <;> rfl
      | true =>
        rw [show tbC (upd N true ([] ++ [x]) (some w.heap.size)) H (upd V true ([] ++ [x]) 0) sz = .int .i64 sz :: (ndC (upd N true ([] ++ [x]) (some w.heap.size)) H (upd V true ([] ++ [x]) 0) false [] ++ ndC (upd N true ([] ++ [x]) (some w.heap.size)) H (upd V true ([] ++ [x]) 0) true []) from rfl, hcp, hcell false [] (by simp) (by simp)]
        cases x <;> rfl
    · have hne : tb ≠ ab := h.tab.ne_ (h.node f p ab hp hb').2 (by decide)
      refine Blk.far' hne ?_
      have e3 : tbC (upd N f (p ++ [x]) (some w.heap.size)) H (upd V f (p ++ [x]) 0) sz = tbC N H V sz := by
        unfold tbC
        rw [hcell false [] (fun e => hp e.2.symm) (by simp), hcell true [] (fun e => hp e.2.symm) (by simp)]
      rw [e3]; exact ht
  · by_cases hgx : g = f ∧ q = p ++ [x]
    · obtain ⟨rfl, rfl⟩ := hgx
      rw [upd_self] at hb'
      obtain rfl := Option.some.inj hb'
      refine ⟨hb, Blk.far' (by omega) ?_⟩
      have e4 : ndC (upd N g (p ++ [x]) (some w.heap.size)) H (upd V g (p ++ [x]) 0) g (p ++ [x]) = [.pointer none, .pointer none, .bool false, .int .i64 0] := by
        unfold ndC
        have hno : ∀ y, ¬ (g = g ∧ p ++ [x] ++ [y] = p ++ [x]) := fun y e => by have := congrArg List.length e.2; simp at this
        rw [upd_ne _ _ (hno false), upd_ne _ _ (hno true), h.up g _ false hq hn, h.up g _ true hq hn, h.has g _ hq hn, upd_self]
        rfl
      rw [e4]
      exact Blk.new _ _ _
    · rw [upd_ne _ _ hgx] at hb'
      obtain ⟨h1, h2⟩ := h.node g q b hq' hb'
      refine ⟨h1, ?_⟩
      have h2' := h2.alloc (.cells #[.pointer none, .pointer none, .bool false, .int .i64 0] 60)
      by_cases hgp : g = f ∧ q = p
      · obtain ⟨rfl, rfl⟩ := hgp
        rcases ha with ⟨hp, _, _⟩ | ⟨hp, hb'', rfl⟩
        · exact absurd hp hq'
        · obtain rfl : b = ab := by rw [hb''] at hb'; exact (Option.some.inj hb').symm
          rw [hcp, Nat.zero_add]
          refine h2'.set_to ?_
          simp
      · have hne : b ≠ ab := by
          rcases ha with ⟨rfl, rfl, rfl⟩ | ⟨hp, hb'', rfl⟩
          · exact h2.ne_ h.tab (by decide)
          · rintro rfl
            exact hgp (h.inj g q f p b hq' hp hb' hb'')
        rw [hcell g q hgp hgx]
        exact Blk.far' hne h2'
  · by_cases a1 : g = f ∧ q = p ++ [x]
    · by_cases a2 : g' = f ∧ q' = p ++ [x]
      · exact ⟨a1.1.trans a2.1.symm, a1.2.trans a2.2.symm⟩
      · rw [a1.1, a1.2, upd_self] at h3
        rw [upd_ne _ _ a2] at h4
        have := hold _ _ _ h2 h4
        have := Option.some.inj h3
        omega
    · rw [upd_ne _ _ a1] at h3
      by_cases a2 : g' = f ∧ q' = p ++ [x]
      · rw [a2.1, a2.2, upd_self] at h4
        have := hold _ _ _ h1 h3
        have := Option.some.inj h4
        omega
      · rw [upd_ne _ _ a2] at h4
        exact h.inj g q g' q' b h1 h2 h3 h4
  · by_cases a1 : g = f ∧ q = p ++ [x]
    · rw [a1.1, a1.2, upd_self] at h2; cases h2
    · rw [upd_ne _ _ a1] at h2
      by_cases a2 : g = f ∧ q ++ [y] = p ++ [x]
      · obtain ⟨rfl, e⟩ := a2
        obtain ⟨rfl, rfl⟩ := hpx _ _ e
        rcases ha with ⟨hp, _, _⟩ | ⟨hp, hb'', rfl⟩
        · exact absurd hp h1
        · rw [hb''] at h2; cases h2
      · rw [upd_ne _ _ a2]
        exact h.up g q y h1 h2
  · by_cases a1 : g = f ∧ q = p ++ [x]
    · rw [a1.1, a1.2, upd_self] at h2; cases h2
    · rw [upd_ne _ _ a1] at h2
      exact h.has g q h1 h2
theorem Tri.grow' (h : Tri tb base N H V sz w) (ha : AtN tb N f p ab ao) (x : Bool) (hn : N f (p ++ [x]) = none) (hb : base ≤ w.heap.size) :
    Tri tb base (upd N f (p ++ [x]) (some w.heap.size)) H (upd V f (p ++ [x]) 0) sz ((w.setCell ⟨ab, ao + (if x then 1 else 0), none⟩ (.pointer (some ⟨w.heap.size, 0, none⟩))).alloc (.cells #[.pointer none, .pointer none, .bool false, .int .i64 0] 60)) := by
  rw [← World.setCell_alloc_past _ _ _ _ (h.cells ha).2.2.2.2.2.1]
  exact h.grow ha x hn hb
/-- A node's mark. -/
theorem Tri.mark (h : Tri tb base N H V sz w) (ha : AtN tb N f p ab ao) (b : Bool) : Tri tb base N (upd H f p b) V sz (w.setCell ⟨ab, ao + 2, none⟩ (.bool b)) := by
  refine h.store ha (by omega) ?_ (fun g q hn _ => ?_) (fun g q b _ hb => hb) h.up (fun g q hq hn => ?_)
  · unfold ndC; rw [upd_self]; rfl
  · unfold ndC; rw [upd_ne _ _ hn]
  · by_cases e : g = f ∧ q = p
    · obtain ⟨rfl, rfl⟩ := e
      rcases ha with ⟨hp, _, _⟩ | ⟨hp, hb, rfl⟩
      · exact absurd hp hq
      · rw [hb] at hn; cases hn
    · rw [upd_ne _ _ e]; exact h.has g q hq hn
/-- A node's value. -/
theorem Tri.put (h : Tri tb base N H V sz w) (ha : AtN tb N f p ab ao) (v : Int) : Tri tb base N H (upd V f p v) sz (w.setCell ⟨ab, ao + 3, none⟩ (.int .i64 v)) := by
  refine h.store ha (by omega) ?_ (fun g q hn _ => ?_) (fun g q b _ hb => hb) h.up h.has
  · unfold ndC; rw [upd_self]; rfl
  · unfold ndC; rw [upd_ne _ _ hn]
/-- A bare child is cut off. -/
theorem Tri.prune (h : Tri tb base N H V sz w) (ha : AtN tb N f p ab ao) (x : Bool) (h0 : N f (p ++ [x] ++ [false]) = none) (h1 : N f (p ++ [x] ++ [true]) = none) (hH : H f (p ++ [x]) = false) :
    Tri tb base (upd N f (p ++ [x]) none) H V sz (w.setCell ⟨ab, ao + (if x then 1 else 0), none⟩ (.pointer none)) := by
  have hpx : ∀ q : Path, ∀ y, q ++ [y] = p ++ [x] → q = p ∧ y = x := fun q y e => by simpa using List.append_inj' e rfl
  refine h.store ha (by split <;> omega) ?_ (fun g q hn hb => ?_) (fun g q b hq hb => ?_) (fun g q y hq hn => ?_) (fun g q hq hn => ?_)
  · unfold ndC
    cases x with
    | false => rw [upd_self, upd_ne N (f := f) (g := f) (p := p ++ [false]) (q := p ++ [true]) _ (fun e => by have := (hpx _ _ e.2).2; cases this)]; rfl
    | true => rw [upd_self, upd_ne N (f := f) (g := f) (p := p ++ [true]) (q := p ++ [false]) _ (fun e => by have := (hpx _ _ e.2).2; cases this)]; rfl
  · unfold ndC
    rw [upd_ne _ _ (fun e => hn ⟨e.1, (hpx _ _ e.2).1⟩), upd_ne _ _ (fun e => hn ⟨e.1, (hpx _ _ e.2).1⟩)]
  · by_cases e : g = f ∧ q = p ++ [x]
    · rw [e.1, e.2, upd_self] at hb; cases hb
    · rw [upd_ne _ _ e] at hb; exact hb
  · by_cases e2 : g = f ∧ q ++ [y] = p ++ [x]
    · rw [e2.1, e2.2, upd_self]
    · rw [upd_ne _ _ e2]
      by_cases e : g = f ∧ q = p ++ [x]
      · obtain ⟨rfl, rfl⟩ := e
        cases y
        · exact h0
        · exact h1
      · rw [upd_ne _ _ e] at hn
        exact h.up g q y hq hn
  · by_cases e : g = f ∧ q = p ++ [x]
    · rw [e.1, e.2]; exact hH
    · rw [upd_ne _ _ e] at hn
      exact h.has g q hq hn
/-- The number of values. -/
theorem Tri.count (h : Tri tb base N H V sz w) (n : Int) : Tri tb base N H V n (w.setCell ⟨tb, 0, none⟩ (.int .i64 n)) := by
  refine ⟨h.tab.set_to rfl, fun f p b hp hb => ⟨(h.node f p b hp hb).1, Blk.far' ?_ (h.node f p b hp hb).2⟩, h.inj, h.up, h.has, h.lo⟩
  exact (h.node f p b hp hb).2.ne_ h.tab (by decide)
end
/-- All blocks that are none of a trie are as they were. -/
def KeptT (w w' : World) : Prop := ∀ g t cs, Blk w g t cs → t ≠ 60 → t ≠ 62 → Blk w' g t cs
theorem KeptT.refl (w : World) : KeptT w w := fun _ _ _ h _ _ => h
theorem KeptT.trans {w w1 w2 : World} (h : KeptT w w1) (k : KeptT w1 w2) : KeptT w w2 := fun g t cs hb h1 h2 => k g t cs (h g t cs hb h1 h2) h1 h2
theorem KeptT.ofB {w w' : World} (h : Below w.heap.size w w') : KeptT w w' := fun g t cs hb _ _ => hb.below h hb.lt
theorem KeptT.of0 {w w' : World} (h : Kept (fun _ => False) w w') : KeptT w w' := fun g t cs hb _ _ => hb.kept h (fun h => h)
theorem KeptT.then {w w1 w2 : World} {S : Nat → Prop} (h : KeptT w w1) (k : Kept S w1 w2) (hS : ∀ i, S i → w.heap.size ≤ i) : KeptT w w2 := fun g t cs hb h1 h2 => (h g t cs hb h1 h2).kept k (fun hs => by have := hS g hs; have := hb.lt; omega)
theorem KeptT.alloc {w w1 : World} (h : KeptT w w1) (o : Obj) : KeptT w (w1.alloc o) := fun g t cs hb h1 h2 => (h g t cs hb h1 h2).alloc o
theorem KeptT.store {tb base : Nat} {N : Bool → Path → Option Nat} {H : Bool → Path → Bool} {V : Bool → Path → Int} {sz : Int} {w w1 : World} {f : Bool} {p : Path} {ab ao o : Nat} {v : Value} (h : KeptT w w1) (hT : Tri tb base N H V sz w1) (ha : AtN tb N f p ab ao) : KeptT w (w1.setCell ⟨ab, o, none⟩ v) :=
  fun g t cs hb h1 h2 => Blk.far' (hT.ne29 ha (h g t cs hb h1 h2) h1 h2) (h g t cs hb h1 h2)
theorem KeptT.tab {tb base : Nat} {N : Bool → Path → Option Nat} {H : Bool → Path → Bool} {V : Bool → Path → Int} {sz : Int} {w w1 : World} {o : Nat} {v : Value} (h : KeptT w w1) (hT : Tri tb base N H V sz w1) : KeptT w (w1.setCell ⟨tb, o, none⟩ v) :=
  fun g t cs hb h1 h2 => Blk.far' ((h g t cs hb h1 h2).ne_ hT.tab h2) (h g t cs hb h1 h2)
/-- The table as a map. -/
def mapOf (H : Bool → Path → Bool) (V : Bool → Path → Int) (f : Bool) (p : Path) : Option Int := if H f p then some (V f p) else none
def TabS (tb base : Nat) (M : Bool → Path → Option Int) (sz : Int) (w : World) : Prop := ∃ N H V, Tri tb base N H V sz w ∧ mapOf H V = M
theorem TabS.onB {tb base : Nat} {M : Bool → Path → Option Int} {sz : Int} {w w' : World} (h : TabS tb base M sz w) (hb : Below w.heap.size w w') : TabS tb base M sz w' := by
  obtain ⟨N, H, V, h1, h2⟩ := h
  exact ⟨N, H, V, h1.onB hb, h2⟩
theorem TabS.empty (w : World) (base : Nat) (hb : base ≤ w.heap.size) : TabS w.heap.size base (fun _ _ => none) 0 (w.alloc (.cells #[.int .i64 0, .pointer none, .pointer none, .bool false, .int .i64 0, .pointer none, .pointer none, .bool false, .int .i64 0] 62)) :=
  ⟨fun _ _ => none, fun _ _ => false, fun _ _ => 0, ⟨Blk.new _ _ _, fun f p b _ h => (by cases h), fun f p g q b _ _ h => (by cases h), fun _ _ _ _ _ => rfl, fun _ _ _ _ => rfl, hb⟩, rfl⟩
end Go.Proofs.Ytchgbdghllkcpaa
