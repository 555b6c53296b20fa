/- Regions that draw their order, and two allocations beside one another: what they leave is apart. No program in sight. -/
import Derived.Test.YthfdhggcnkgjfaaDoorRg
import Derived.Test.YthfdhggcnkgjfaaDoorRgW
namespace Go.Proofs.YthfdhggcnkgjfaaDoor
set_option linter.unusedVariables false
/-- What it leaves is a new block. -/
def FreshOp (P : Program) (o : Oper) : Prop := ∀ {a : Act} {w : World} {R : Value → World → Prop}, relAt P o a w R → relAt P o a w (fun v w' => R v w' ∧ v = .pointer (some ⟨w.heap.size, 0, none⟩) ∧ w.heap.size < w'.heap.size)
theorem FreshOp.of {P : Program} {o : Oper} (h : ∀ (a : Act) (w : World), ∃ ob, (execOp a.eval o).run P w = .ok (.value (.pointer (some ⟨w.heap.size, 0, none⟩))) (w.alloc ob)) : FreshOp P o := by
  intro a w R hR
  obtain ⟨ob, e⟩ := h a w
  unfold relAt at hR ⊢
  rw [e] at hR ⊢
  exact ⟨hR, rfl, by simp⟩
def Dst (fr : Nat → Bool) (F : Got) : Prop := ∀ i j v, fr i = true → fr j = true → i ≠ j → F i = some v → F j = some v → False
def FrI (fr : Nat → Bool) (F : Got) (w : World) : Prop := (∀ i v, fr i = true → F i = some v → ∃ b, v = .pointer (some ⟨b, 0, none⟩) ∧ b < w.heap.size) ∧ Dst fr F
section
variable {fr : Nat → Bool} {F : Got} {w w' : World} {k : Nat} {v : Value}
theorem FrI.grow (h : FrI fr F w) (hs : w.heap.size ≤ w'.heap.size) : FrI fr F w' :=
  ⟨fun i v hi hF => by obtain ⟨b, e, hb⟩ := h.1 i v hi hF; exact ⟨b, e, by omega⟩, h.2⟩
theorem FrI.pass (h : FrI fr F w) (hk : fr k = false) (hs : w.heap.size ≤ w'.heap.size) : FrI fr (F.upd k v) w' := by
  have e : ∀ i, fr i = true → F.upd k v i = F i := fun i hi => by
    unfold Got.upd; rw [if_neg (by rintro rfl; rw [hk] at hi; cases hi)]
  refine ⟨fun i u hi hF => ?_, fun i j u hi hj hne h1 h2 => ?_⟩
  · rw [e i hi] at hF
    obtain ⟨b, e, hb⟩ := h.1 i u hi hF; exact ⟨b, e, by omega⟩
  · rw [e i hi] at h1; rw [e j hj] at h2
    exact h.2 i j u hi hj hne h1 h2
theorem FrI.add (h : FrI fr F w) (hv : v = .pointer (some ⟨w.heap.size, 0, none⟩)) (hlt : w.heap.size < w'.heap.size) (hs : w.heap.size ≤ w'.heap.size) : FrI fr (F.upd k v) w' := by
  have old : ∀ i u, fr i = true → F i = some u → u ≠ v := fun i u hi hF e => by
    obtain ⟨b, e', hb⟩ := h.1 i u hi hF
    rw [e', hv] at e
    injection e with e; injection e with e; injection e with e
    omega
  refine ⟨fun i u hi hF => ?_, fun i j u hi hj hne h1 h2 => ?_⟩
  · unfold Got.upd at hF
    split at hF
    · injection hF with hF; exact ⟨_, hF.symm.trans hv, hlt⟩
    · obtain ⟨b, e, hb⟩ := h.1 i u hi hF; exact ⟨b, e, by omega⟩
  · unfold Got.upd at h1 h2
    split at h1
    · rename_i ei
      split at h2
      · rename_i ej; exact hne (ei.trans ej.symm)
      · injection h1 with h1; exact old j u hj h2 h1.symm
    · split at h2
      · injection h2 with h2; exact old i u hi h1 h2.symm
      · exact h.2 i j u hi hj hne h1 h2
end
section
variable {P : Program} {ops : Array Oper} {G : Rg}
theorem wpAny_of_RF (hG : G.Ok) (hD : depOk ops = true) (hPk : peekOk ops G.turns G.peek = true) {fr : Nat → Bool} (hfr : ∀ i o, ops[i]? = some o → fr i = true → FreshOp P o) (hLs : ∀ x y, G.L x y → x.heap.size ≤ y.heap.size) {n g : Nat} {B : Array Bool → Got → Mem → Act → Prop} {Q' : Exit → Act → World → Prop}
    (hB : ∀ listed F M a w, B listed F M a → G.L G.w0 w → Facts G F w → M w → Dst fr F → wpAny P .any ops Q' g listed a w) :
    ∀ (f : Nat) (listed : Array Bool) (F : Got) (M : Mem) (a : Act) (w : World), Shut ops listed → listed.size = ops.size → ((∀ t, t < ops.size → G.turns t = true → listed.getD t false = false) → G.L0 G.w0 w) → wpAnyR P .any ops G n B f listed F M a → Pure G F → Still0 G M → G.L G.w0 w → Facts G F w → M w → FrI fr F w → wpAny P .any ops Q' (f + g) listed a w
  | 0, listed, F, M, a, w, _, _, _, h, _, _, h0, hF, hMw, hFr => by rw [Nat.zero_add]; exact hB _ _ _ _ _ h h0 hF hMw hFr.2
  | f + 1, listed, F, M, a, w, hcl, hsz, h00, h, hP, hM, h0, hF, hMw, hFr => by
    rw [show f + 1 + g = (f + g) + 1 by omega]
    refine ⟨fun he => absurd he h.1, fun i hi => ?_⟩
    obtain ⟨hun, oi, hoi, halli⟩ := mem_ready.1 hi
    have hil : i < ops.size := (Array.getElem?_eq_some_iff.1 hoi).1
    have hcl' := hcl.set hil hoi halli hsz
    have hsz' : (listed.setIfInBounds i true).size = ops.size := by simpa using hsz
    have hold : G.turns i = false → (∀ t, t < ops.size → G.turns t = true → (listed.setIfInBounds i true).getD t false = false) → G.L0 G.w0 w := fun _ hall => h00 fun t ht htt => by
      have h1 := hall t ht htt
      by_cases e : i = t
      · subst e; rw [show (listed.setIfInBounds i true).getD i false = true by simp [hsz, hil]] at h1; cases h1
      · rwa [getD_set_ne false e] at h1
    have hturn : G.turns i = true → ¬ (∀ t, t < ops.size → G.turns t = true → (listed.setIfInBounds i true).getD t false = false) := fun hm hall => by
      have h1 := hall i hil hm
      rw [show (listed.setIfInBounds i true).getD i false = true by simp [hsz, hil]] at h1
      cases h1
    have hs := (h.2 i hi).2 oi hoi
    unfold wpOp
    simp only [hoi]
    unfold stepR at hs
    cases hw : Region.wanted oi (yielded ops a.tmps) with
    | false =>
      simp only [hw, Bool.false_eq_true, if_false] at hs ⊢
      refine wpAny_of_RF hG hD hPk hfr hLs hB f _ _ _ _ _ hcl' hsz' (fun hall => ?_) hs hP hM h0 hF hMw hFr
      cases hm : G.turns i with
      | true => exact absurd hall (hturn hm)
      | false => exact hold hm hall
    | true =>
      simp only [hw, if_true] at hs ⊢
      refine .inl ?_
      cases hr : G.rel i with
      | true =>
        cases hm : G.turns i with
        | true =>
          simp only [hr, hm, if_true] at hs
          refine Oper.wp_of_rel (hs.1 w ⟨h0, fun k v hk _ => hF k v hk⟩ hMw) fun v w' ⟨hs', hv⟩ => ?_
          have hL := step_L hG hs'
          have hF' := facts_on hG hP hF hL
          exact wpAny_of_RF hG hD hPk hfr hLs hB f _ _ _ _ _ hcl' hsz' (fun hall => absurd hall (hturn hm)) (hs.2 v ⟨w', hG.trans _ _ _ h0 hL, hv⟩) hP (next_still hG hM hm) (hG.trans _ _ _ h0 hL) hF' (next_at hM hMw hs' hv) (hFr.grow (hLs _ _ hL))
        | false =>
          simp only [hr, hm, if_true, Bool.false_eq_true, if_false] at hs
          have hs1 := hs.1 w ⟨h0, fun k v hk _ => hF k v hk⟩
          have key : ∀ v w', (G.L0 w w' ∧ G.Φ i v w') → FrI fr (F.upd i v) w' → wpAny P .any ops Q' (f + g) (listed.setIfInBounds i true) (a.put oi.dst v) w' := by
            intro v w' ⟨hL, hv⟩ hFr'
            have hF' := facts_upd (k := i) (v := v) hG hP hF (hG.sub _ _ hL) hv
            have h0' := hG.trans _ _ _ h0 (hG.sub _ _ hL)
            refine wpAny_of_RF hG hD hPk hfr hLs hB f _ _ _ _ _ hcl' hsz' (fun hall => hG.trans0 _ _ _ (hold hm hall) hL) (hs.2 v ⟨w', h0', hv⟩) (fun k u hk => ?_) hM h0' hF' (hM _ _ hMw hL) hFr'
            unfold Got.upd at hk
            split at hk
            · rename_i e; subst e; exact hm
            · exact hP k u hk
          cases hfi : fr i with
          | true => exact Oper.wp_of_rel (hfr i oi hoi hfi hs1) fun v w' ⟨h1, h2, h3⟩ => key v w' h1 (hFr.add h2 h3 (hLs _ _ (hG.sub _ _ h1.1)))
          | false => exact Oper.wp_of_rel hs1 fun v w' h1 => key v w' h1 (hFr.pass hfi (hLs _ _ (hG.sub _ _ h1.1)))
      | false =>
        simp only [hr, Bool.false_eq_true, if_false] at hs
        obtain ⟨v, h1, h2⟩ := hs
        unfold Oper.wp
        have hcw : G.cls i w := by
          unfold Rg.cls
          split
          · rename_i hpk
            exact h00 fun t ht htt => by
              cases hl : listed.getD t false with
              | false => rfl
              | true =>
                have hd := peekOk_spec hPk hil ht hpk htt
                have := dep_listed hD hcl hil t _ (Array.getElem?_eq_getElem ht) (hcl t _ (Array.getElem?_eq_getElem ht) hl) hd
                rw [getD_both hun] at this
                cases this
          · exact h0
        rw [h1 w hcw]
        refine wpAny_of_RF hG hD hPk hfr hLs hB f _ _ _ _ _ hcl' hsz' (fun hall => ?_) h2 hP hM h0 hF hMw hFr
        cases hm : G.turns i with
        | true => exact absurd hall (hturn hm)
        | false => exact hold hm hall

/-- **ONE WALK SERVES EVERY ORDER.** The first n operations by 'wpR'; those from n on, which wait for all of them and for one another, in their order. -/
theorem wp_region_rgF {id : Nat} {Q : Exit → Act → World → Prop} {a : Act} {w : World} {l : List Oper} (n : Nat) (G : Rg) {fr : Nat → Bool} (hfr : ∀ i o, l.toArray[i]? = some o → fr i = true → FreshOp P o) (hLs : ∀ x y, G.L x y → x.heap.size ≤ y.heap.size) (hG : G.Ok) (hw0 : G.w0 = w.drew) (hm : P.follows .mixedOrders = true) (hB : rgB l.toArray n = true) (hMu : mutOk l.toArray G.turns = true) (hPk : peekOk l.toArray G.turns G.peek = true)
    (h : wpR P l.toArray G (fun F M a' => ∀ w', G.L w.drew w' → Facts G F w' → M w' → Dst fr F → wpList P l.toArray Q (l.drop n) a' w') (l.take n) 0 (fun _ => none) (G.L0 w.drew) a) : (Code.region id l.toArray true).wp P Q a w := by
  simp only [rgB, Bool.and_eq_true, Bool.or_eq_true, decide_eq_true_eq] at hB
  obtain ⟨⟨⟨hsel, hD⟩, hn⟩, hlex⟩ := hB
  have hn' : n ≤ l.toArray.size := by rcases hn with h | ⟨⟨h, _⟩, _⟩ <;> omega
  have htl : (l.take n).length = n := by simp at hn' ⊢; omega
  have hdl : (l.drop n).length = l.toArray.size - n := by simp
  have inv0 : HeadInv .any l.toArray n (Array.replicate l.toArray.size false) :=
    ⟨by simp, fun j oj _ hl => (by rw [getD_replicate_false] at hl; cases hl), fun t _ ht => getD_in (by simpa using ht) (getD_replicate_false _ _)⟩
  have htail : ∀ listed, HeadInv .any l.toArray n listed → ∀ i, i < n → listed.getD i true = false → ∀ t, n ≤ t → t ∉ Region.ready .any l.toArray listed := by
    intro listed inv i hi hu t ht hr
    rcases hn with h | ⟨⟨h, hs⟩, hc⟩
    · obtain ⟨_, ot, hot, _⟩ := mem_ready.1 hr
      have := (Array.getElem?_eq_some_iff.1 hot).1
      omega
    · exact tail_waits hs hc h inv _ i rfl hi hu t ht hr
  have H := wpAnyR_lex hG (g := l.toArray.size - n) hsel hD hMu hn' htail (l.take n) 0 _ _ _ a (fun j hj => by
    have hj' : j < n := by rw [htl] at hj; exact hj
    simp [hj']) (by simpa using htl) inv0 (fun _ _ => rfl) (by rw [htl]; exact hlex) h
  refine wp_region_any hm ?_
  have := wpAny_of_RF hG hD hPk hfr hLs (Q' := Q) (g := l.toArray.size - n) (fun listed F M a' w' hL h0 hF hMw hDs => by
    have := wpAny_of_seq (md := .any) (Q' := Q) (l.drop n) n listed a' w' (fun j => by simp [List.getElem?_drop]) (by rw [hdl]; exact hL.1) (hL.2 w' (hw0 ▸ h0) hF hMw hDs)
    rwa [hdl] at this) _ _ _ _ _ w.drew (fun j oj _ hl => (by rw [getD_replicate_false] at hl; cases hl)) (by simp) (fun _ => hw0 ▸ hG.refl0 _) H (fun i v hi => by cases hi) (fun x y h1 h2 => hG.trans0 _ _ _ h1 h2) (by rw [hw0]; exact hG.refl _) (fun i v hi => by cases hi) (hG.refl0 _) ⟨(fun i v _ hi => by cases hi), (fun i j v _ _ _ hi => by cases hi)⟩
  rw [htl, show n + (l.toArray.size - n) = l.toArray.size by omega] at this
  exact this
end
theorem wp_region_fresh {P : Program} {id : Nat} {Q : Exit → Act → World → Prop} {a : Act} {w : World} {l : List Oper} (n : Nat) (S : Nat → Prop) (T A Pk : List Nat) (Ψ : Said) (FR : List Nat) (hfr : ∀ i o, l.toArray[i]? = some o → FR.contains i = true → FreshOp P o)
    (hΨ : ∀ p ∈ Ψ, ∀ v u u', p.2 v u → (if T.contains p.1 then Kept (fun _ => False) u u' else Kept S u u') → p.2 v u') (hne : ∀ p ∈ Ψ, ∃ v u, Kept S w u ∧ p.2 v u) (hd : Ψ.ok = true)
    (hm : P.follows .mixedOrders = true) (hB : rgB l.toArray n = true) (hMu : mutOk l.toArray (fun k => T.contains k) = true) (hPk : peekOk l.toArray (fun k => T.contains k) (fun k => Pk.contains k) = true)
    (h : ∀ (G : Rg) (pick pick0 : World → World), RgIs G S T A Ψ w → (∀ u, Kept S w (pick u)) → (∀ j u, G.cls j u → ∃ x, u = pick x) → (∀ k, G.peek k = Pk.contains k) → (∀ u, Kept (fun _ => False) w (pick0 u)) → (∀ u, G.L0 G.w0 u → ∃ x, u = pick0 x) →
      WpR P l.toArray G (fun F M a' => ∀ w', Kept S w w' → Facts G F w' → M w' → Dst (fun k => FR.contains k) F → wpList P l.toArray Q (l.drop n) a' w') (l.take n) 0 (fun _ => none) (G.L0 w.drew) a) : (Code.region id l.toArray true).wp P Q a w := by
  have hG : (Rg.mk (fun k => Ψ.any fun p => p.1 == k) (fun k => T.contains k) (fun k => A.contains k) (fun k => Pk.contains k) (Kept S) (Kept fun _ => False) Ψ.at w.drew).Ok := by
    refine ⟨Kept.refl S, fun _ _ _ h k => h.trans k, Kept.refl _, fun _ _ _ h k => h.trans k, fun _ _ h => h.mono (fun _ _ h => h.elim), ?_, ?_, ?_⟩
    · intro k v u u' hk h hL p hp e
      refine hΨ p hp v u u' (h p hp e) ?_
      rw [if_neg (by rw [e, show T.contains k = false from hk]; exact Bool.false_ne_true)]
      exact hL
    · intro k v u u' hk h hL p hp e
      refine hΨ p hp v u u' (h p hp e) ?_
      rw [if_pos (by rw [e]; exact hk)]
      exact hL
    · intro k hk
      obtain ⟨p, hp, he⟩ := List.any_eq_true.1 hk
      obtain rfl : p.1 = k := by simpa using he
      obtain ⟨i, hi⟩ := List.mem_iff_getElem?.1 hp
      obtain ⟨v, u, h1, h2⟩ := hne p hp
      exact ⟨v, u, ⟨h1.os, h1.tape, h1.output, h1.size, h1.block⟩, Said.at_get i hd hi h2⟩
  obtain ⟨pick, h1, h2⟩ := pick_of (C := fun u => Kept S w.drew u) (Kept.refl S w.drew)
  obtain ⟨pick0, q1, q2⟩ := pick_of (C := fun u => Kept (fun _ => False) w.drew u) (Kept.refl _ w.drew)
  refine wp_region_rgF n _ (fr := fun k => FR.contains k) hfr (fun x y h => Kept.size h) hG rfl hm hB hMu hPk ?_
  have H := h (Rg.mk (fun k => Ψ.any fun p => p.1 == k) (fun k => T.contains k) (fun k => A.contains k) (fun k => Pk.contains k) (Kept S) (Kept fun _ => False) Ψ.at w.drew) pick pick0 ⟨rfl, fun h => h, fun h => h, fun h => h, fun h => h, fun _ => rfl, fun _ => rfl, fun _ => rfl, fun h => h, fun h => h⟩ (fun u => (h1 u).undrew) (fun j u hu => h2 u (Rg.cls_L hG hu)) (fun _ => rfl) (fun u => (q1 u).undrew) q2
  replace H := H.out
  refine (?_ : ∀ (E E' : Got → Mem → Act → Prop), (∀ F M a, E F M a → E' F M a) → ∀ (G : Rg) (ops : Array Oper) (l : List Oper) (k : Nat) (F : Got) (M : Mem) (a : Act), wpR P ops G E l k F M a → wpR P ops G E' l k F M a) _ _ (fun F M a h w' hw => h w' (Kept.undrew hw)) _ _ _ _ _ _ _ H
  intro E E' hE G ops l
  induction l with
  | nil => intro k F M a h; exact hE _ _ _ h
  | cons o l ih =>
    intro k F M a h
    unfold wpR stepR at h ⊢
    split
    · rename_i hw; rw [if_pos hw] at h
      split
      · rename_i hr; rw [if_pos hr] at h
        split
        · rename_i ht; rw [if_pos ht] at h; exact ⟨h.1, fun v hv => ih _ _ _ _ (h.2 v hv)⟩
        · rename_i ht; rw [if_neg ht] at h; exact ⟨h.1, fun v hv => ih _ _ _ _ (h.2 v hv)⟩
      · rename_i hr; rw [if_neg hr] at h; obtain ⟨v, h1, h2⟩ := h; exact ⟨v, h1, ih _ _ _ _ h2⟩
    · rename_i hw; rw [if_neg hw] at h; exact ih _ _ _ _ h
end Go.Proofs.YthfdhggcnkgjfaaDoor
