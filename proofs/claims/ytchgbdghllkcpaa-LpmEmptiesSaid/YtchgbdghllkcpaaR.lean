/- Entries and the map that they are: what each call does to both. No walk here. -/
import Derived.Test.YtchgbdghllkcpaaQ
namespace Go.Proofs.Ytchgbdghllkcpaa
open Go.RowKit
set_option linter.unusedVariables false
theorem rightP_cut {a : Ad} {n : Int} (h : rightP a n) : a.cutN n.toNat = a ∧ n.toNat ≤ a.bits ∧ (n.toNat : Int) = n := by
  obtain ⟨h1, h2, h3, h4⟩ := h
  have hc : a.cl n = n.toNat := by unfold Ad.cl; omega
  unfold Ad.cut at h4
  rw [hc] at h4
  exact ⟨h4, by omega, by omega⟩
theorem key_inj {x y : En} (hx : x.a.wf) (hy : y.a.wf) (px : rightP x.a x.n) (py : rightP y.a y.n) (h6 : x.a.six = y.a.six) (hp : x.a.path x.n.toNat = y.a.path y.n.toNat) : x.a = y.a ∧ x.n = y.n := by
  obtain ⟨cx, bx, nx⟩ := rightP_cut px
  obtain ⟨cy, by_, ny⟩ := rightP_cut py
  obtain ⟨hn, hb⟩ := Ad.path_eq hp
  have := (cutN_eq hx hy px.1 py.1 h6 bx).2 hb
  rw [cx, hn, cy] at this
  exact ⟨this, by omega⟩
structure TwE (l : List En) (M : Bool → Path → Option Int) : Prop where
  ok : ∀ x ∈ l, x.a.wf ∧ rightP x.a x.n
  nd : l.Pairwise (fun x y => ¬ (x.a = y.a ∧ x.n = y.n))
  mem : ∀ x ∈ l, M x.a.six (x.a.path x.n.toNat) = some x.v
  all : ∀ f p v, M f p = some v → ∃ x ∈ l, x.a.six = f ∧ x.a.path x.n.toNat = p ∧ x.v = v
theorem TwE.nil : TwE [] (fun _ _ => none) := ⟨fun x hx => (by cases hx), List.Pairwise.nil, fun x hx => (by cases hx), fun f p v h => (by cases h)⟩
section
variable {l : List En} {M : Bool → Path → Option Int} {x : En}
theorem TwE.none_of (h : TwE l M) (hx : x.a.wf) (px : rightP x.a x.n) (hno : ∀ y ∈ l, ¬ (y.a = x.a ∧ y.n = x.n)) : M x.a.six (x.a.path x.n.toNat) = none := by
  cases hM : M x.a.six (x.a.path x.n.toNat) with
  | none => rfl
  | some v =>
    obtain ⟨y, hy, h6, hp, -⟩ := h.all _ _ _ hM
    obtain ⟨wy, py⟩ := h.ok y hy
    exact absurd (key_inj wy hx py px h6 hp) (hno y hy)
theorem TwE.add (h : TwE l M) (hx : x.a.wf) (px : rightP x.a x.n) (hno : ∀ y ∈ l, ¬ (y.a = x.a ∧ y.n = x.n)) : TwE (l ++ [x]) (upd M x.a.six (x.a.path x.n.toNat) (some x.v)) := by
  refine ⟨fun y hy => ?_, ?_, fun y hy => ?_, fun f p v hv => ?_⟩
  · rcases List.mem_append.1 hy with hy | hy
    · exact h.ok y hy
    · rw [List.mem_singleton.1 hy]; exact ⟨hx, px⟩
  · exact List.pairwise_append.2 ⟨h.nd, List.pairwise_singleton _ _, fun y hy z hz => by rw [List.mem_singleton.1 hz]; exact hno y hy⟩
  · rcases List.mem_append.1 hy with hy | hy
    · rw [upd_ne _ _ (fun e => hno y hy (key_inj (h.ok y hy).1 hx (h.ok y hy).2 px e.1 e.2))]
      exact h.mem y hy
    · rw [List.mem_singleton.1 hy, upd_self]
  · by_cases e : f = x.a.six ∧ p = x.a.path x.n.toNat
    · rw [e.1, e.2, upd_self] at hv
      exact ⟨x, by simp, e.1.symm, e.2.symm, Option.some.inj hv⟩
    · rw [upd_ne _ _ e] at hv
      obtain ⟨y, hy, h1⟩ := h.all _ _ _ hv
      exact ⟨y, List.mem_append_left _ hy, h1⟩
theorem TwE.ne_at (h : TwE l M) {i j : Nat} (hi : i < l.length) (hj : j < l.length) (hij : i ≠ j) : ¬ (l[i].a.six = l[j].a.six ∧ l[i].a.path l[i].n.toNat = l[j].a.path l[j].n.toNat) := by
  rintro ⟨h6, hp⟩
  have hk := key_inj (h.ok _ (List.getElem_mem hi)).1 (h.ok _ (List.getElem_mem hj)).1 (h.ok _ (List.getElem_mem hi)).2 (h.ok _ (List.getElem_mem hj)).2 h6 hp
  rcases Nat.lt_or_gt_of_ne hij with hlt | hgt
  · exact List.pairwise_iff_getElem.1 h.nd i j hi hj hlt hk
  · exact List.pairwise_iff_getElem.1 h.nd j i hj hi hgt ⟨hk.1.symm, hk.2.symm⟩
theorem TwE.put (h : TwE l M) {j : Nat} (hj : j < l.length) (ha : l[j].a = x.a) (hn : l[j].n = x.n) : TwE (l.set j x) (upd M x.a.six (x.a.path x.n.toNat) (some x.v)) := by
  have hokj := h.ok _ (List.getElem_mem hj)
  rw [ha, hn] at hokj
  have hget : ∀ i (hi : i < l.length), (l.set j x)[i]'(by simpa using hi) = if j = i then x else l[i] := fun i hi => by rw [List.getElem_set]
  refine ⟨fun y hy => ?_, ?_, fun y hy => ?_, fun f p v hv => ?_⟩
  · rcases List.mem_or_eq_of_mem_set hy with hy | rfl
    · exact h.ok y hy
    · exact hokj
  · refine List.pairwise_iff_getElem.2 fun i k hi hk hik => ?_
    have hi' : i < l.length := by simpa using hi
    have hk' : k < l.length := by simpa using hk
    rw [hget i hi', hget k hk']
    have := List.pairwise_iff_getElem.1 h.nd i k hi' hk' hik
    by_cases e1 : j = i
    · subst e1
      rw [if_pos rfl, if_neg (by omega), ← ha, ← hn]
      exact this
    · rw [if_neg e1]
      by_cases e2 : j = k
      · subst e2
        rw [if_pos rfl, ← ha, ← hn]
        exact this
      · rw [if_neg e2]
        exact this
  · obtain ⟨i, hi, rfl⟩ := List.mem_iff_getElem.1 hy
    have hi' : i < l.length := by simpa using hi
    rw [hget i hi']
    by_cases e1 : j = i
    · rw [if_pos e1, upd_self]
    · rw [if_neg e1, upd_ne]
      · exact h.mem _ (List.getElem_mem hi')
      · rw [← ha, ← hn]
        exact h.ne_at hi' hj (by omega)
  · by_cases e : f = x.a.six ∧ p = x.a.path x.n.toNat
    · rw [e.1, e.2, upd_self] at hv
      exact ⟨x, List.mem_set hj x, e.1.symm, e.2.symm, Option.some.inj hv⟩
    · rw [upd_ne _ _ e] at hv
      obtain ⟨y, hy, h6, hp, h1⟩ := h.all _ _ _ hv
      obtain ⟨i, hi, rfl⟩ := List.mem_iff_getElem.1 hy
      have hij : j ≠ i := by
        rintro rfl
        rw [ha] at h6 hp
        rw [hn] at hp
        exact e ⟨h6.symm, hp.symm⟩
      refine ⟨l[i], List.mem_iff_getElem.2 ⟨i, by simpa using hi, by rw [hget i hi, if_neg hij]⟩, h6, hp, h1⟩
theorem TwE.del (h : TwE l M) {j : Nat} (hj : j < l.length) (ha : l[j].a = x.a) (hn : l[j].n = x.n) : TwE (l.eraseIdx j) (upd M x.a.six (x.a.path x.n.toNat) none) := by
  have hsub := List.eraseIdx_sublist l j
  refine ⟨fun y hy => h.ok y (hsub.subset hy), h.nd.sublist hsub, fun y hy => ?_, fun f p v hv => ?_⟩
  · obtain ⟨i, hi, hij, rfl⟩ := List.mem_eraseIdx_iff_getElem.1 hy
    rw [upd_ne]
    · exact h.mem _ (List.getElem_mem hi)
    · rw [← ha, ← hn]
      exact h.ne_at hi hj hij
  · by_cases e : f = x.a.six ∧ p = x.a.path x.n.toNat
    · rw [e.1, e.2, upd_self] at hv; cases hv
    · rw [upd_ne _ _ e] at hv
      obtain ⟨y, hy, h6, hp, h1⟩ := h.all _ _ _ hv
      obtain ⟨i, hi, rfl⟩ := List.mem_iff_getElem.1 hy
      have hij : i ≠ j := by
        rintro rfl
        rw [ha] at h6 hp
        rw [hn] at hp
        exact e ⟨h6.symm, hp.symm⟩
      exact ⟨l[i], List.mem_eraseIdx_iff_getElem.2 ⟨i, hi, hij, rfl⟩, h6, hp, h1⟩
theorem fits_iff {a : Ad} {x : En} (ha : a.wf) (hr : a.right) (hx : x.a.wf) (px : rightP x.a x.n) : Fits a x ↔ x.a.six = a.six ∧ a.path x.n.toNat = x.a.path x.n.toNat := by
  obtain ⟨cx, bx, nx⟩ := rightP_cut px
  unfold Fits
  refine and_congr_right fun h6 => ?_
  have hb : a.bits = x.a.bits := by unfold Ad.bits; rw [h6]
  have hcl : a.cut x.n = a.cutN x.n.toNat := by unfold Ad.cut; congr 1; unfold Ad.cl; omega
  rw [hcl]
  constructor
  · intro h
    refine Ad.path_of ((cutN_eq ha hx hr px.1 h6.symm (by omega)).1 ?_)
    rw [h, cx]
  · intro h
    have := (cutN_eq ha hx hr px.1 h6.symm (by omega)).2 (Ad.path_eq h).2
    rw [this, cx]
theorem find_twin (h : TwE l M) {a : Ad} (ha : a.wf) (hr : a.right) {sz val z : Int} {fd : Bool} (hb : Best (fun k => M a.six (a.path k)) (a.bits + 1) sz val fd) (hz : FdS l a l.length z) :
    (z = -1 ∧ fd = false ∧ val = 0) ∨ ∃ (j : Nat) (hj : j < l.length), z = (j : Int) ∧ fd = true ∧ sz = l[j].n ∧ val = l[j].v ∧ a.cut sz = l[j].a := by
  have fit_of : ∀ k v, M a.six (a.path k) = some v → ∃ x ∈ l, Fits a x ∧ x.n = (k : Int) ∧ x.v = v := fun k v hv => by
    obtain ⟨x, hx, h6, hp, hv'⟩ := h.all _ _ _ hv
    obtain ⟨wx, px⟩ := h.ok x hx
    obtain ⟨cx, bx, nx⟩ := rightP_cut px
    have hk := (Ad.path_eq hp).1
    exact ⟨x, hx, (fits_iff ha hr wx px).2 ⟨h6, by rw [hk]; rw [← hp, hk]⟩, by omega, hv'⟩
  rcases hz with ⟨rfl, hno⟩ | ⟨j, hj, -, rfl, hf, hmax⟩
  · left
    rcases hb with ⟨h1, h2, h3, h4⟩ | ⟨h1, k, h2, h3, h4, h5⟩
    · exact ⟨rfl, h1, h3⟩
    · obtain ⟨x, hx, hfx, -, -⟩ := fit_of k val h4
      obtain ⟨i, hi, rfl⟩ := List.mem_iff_getElem.1 hx
      exact absurd hfx (hno i hi hi)
  · right
    obtain ⟨wj, pj⟩ := h.ok _ (List.getElem_mem hj)
    obtain ⟨cj, bj, nj⟩ := rightP_cut pj
    have hfj := (fits_iff ha hr wj pj).1 hf
    have hmj := h.mem _ (List.getElem_mem hj)
    rw [hfj.1, ← hfj.2] at hmj
    have hbb : l[j].a.bits = a.bits := by unfold Ad.bits; rw [hfj.1]
    refine ⟨j, hj, rfl, ?_⟩
    rcases hb with ⟨h1, h2, h3, h4⟩ | ⟨h1, k, h2, h3, h4, h5⟩
    · have := (h4 l[j].n.toNat (by omega)).symm.trans hmj
      cases this
    · obtain ⟨x, hx, hfx, hxn, hxv⟩ := fit_of k val h4
      obtain ⟨i, hi, rfl⟩ := List.mem_iff_getElem.1 hx
      have hle := hmax i hi hi hfx
      have hk : k = l[j].n.toNat := by
        rcases Nat.lt_or_ge k l[j].n.toNat with hlt | hge
        · have := (h5 _ hlt (by omega)).symm.trans hmj
          cases this
        · omega
      subst hk
      have hvv := Option.some.inj (h4.symm.trans hmj)
      have hsz : sz = l[j].n := by omega
      exact ⟨h1, hsz, hvv, by rw [hsz]; exact hf.2⟩
end
/-- The reference's entries: a slice of them somewhere. -/
def RSE (w : World) (v : Value) (R : List En) : Prop := ∃ A c, v = .slice A R.length c ∧ R.length ≤ c ∧ c ≤ maxLen ∧ (R = [] ∨ ∃ b off cs, A = some ⟨b, off, none⟩ ∧ Blk w b 42 cs ∧ ElAt w b off 5 (R.map En.cs))
theorem RSE.nil (w : World) : RSE w (.slice none 0 0) [] := ⟨none, 0, rfl, Nat.le_refl _, by unfold maxLen; omega, .inl rfl⟩
theorem RSE.of_row {w : World} {base : Nat} {v : Value} {R : List En} (h : RowN w base 42 5 v (R.map En.cs)) : RSE w v R := by
  obtain ⟨A, c, hv, h1, h2⟩ := h.shape
  rw [List.length_map] at hv h1
  refine ⟨A, c, hv, h1, h2, ?_⟩
  by_cases h0 : R = []
  · exact .inl h0
  · obtain ⟨g, c', hv', _, _, hel⟩ := h.at (i := 0) (by simpa using List.length_pos_iff.2 h0)
    obtain ⟨cs, hb⟩ := h.blk (g := g) (by rw [hv']; rfl)
    rw [hv] at hv'
    injection hv' with e1 _ _
    exact .inr ⟨g, 0, cs, e1, hb, hel⟩
theorem RSE.keptT {w w' : World} {v : Value} {R : List En} (h : RSE w v R) (hk : KeptT w w') : RSE w' v R := by
  obtain ⟨A, c, hv, h1, h2, h3⟩ := h
  refine ⟨A, c, hv, h1, h2, ?_⟩
  rcases h3 with h3 | ⟨b, off, cs, e, hb, hel⟩
  · exact .inl h3
  · have hb' := hk b 42 cs hb (by decide) (by decide)
    exact .inr ⟨b, off, cs, e, hb', hel.keep fun o => by rw [hb.cell, hb'.cell]⟩
theorem RSE.onB {w w' : World} {v : Value} {R : List En} (h : RSE w v R) (hk : Below w.heap.size w w') : RSE w' v R := h.keptT (KeptT.ofB hk)
theorem RSE.get {w : World} {v : Value} {R : List En} (h : RSE w v R) : ∃ A c, v = .slice A R.length c ∧ R.length ≤ c ∧ c ≤ maxLen ∧ ES w w.heap.size A 5 (R.map En.cs) := by
  obtain ⟨A, c, hv, h1, h2, h3⟩ := h
  refine ⟨A, c, hv, h1, h2, ?_⟩
  rcases h3 with rfl | ⟨b, off, cs, e, hb, hel⟩
  · exact .inl rfl
  · exact .inr ⟨b, off, hb.lt, e, hel⟩
/-- A table and the reference's list that hold the same. -/
structure MdS (tb base : Nat) (M : Bool → Path → Option Int) (R : List En) (rv : Value) (w : World) : Prop where
  tab : TabS tb base M (R.length : Int) w
  rs : RSE w rv R
  tw : TwE R M
theorem MdS.onB {tb base : Nat} {M : Bool → Path → Option Int} {R : List En} {rv : Value} {w w' : World} (h : MdS tb base M R rv w) (hk : Below w.heap.size w w') : MdS tb base M R rv w' := ⟨h.tab.onB hk, h.rs.onB hk, h.tw⟩
end Go.Proofs.Ytchgbdghllkcpaa
