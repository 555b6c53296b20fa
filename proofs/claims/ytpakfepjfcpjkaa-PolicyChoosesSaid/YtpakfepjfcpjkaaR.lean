/- The law PolicyChooses: both choosers step alike. -/
import Derived.Test.YtpakfepjfcpjkaaQ
namespace Go.Proofs.Ytpakfepjfcpjkaa
open Go.RowKit
set_option linter.unusedVariables false
structure Both (way : Int) (l : List Cd) (x y n : Int) (R : List ShR) (Bd : Int) (o : Option Cd) (n' : Int) (R' : List ShR) : Prop where
  len : R'.length ≤ 30
  cr : CrB R' (Bd + 3100)
  fits : ∀ z, o = some z → FitsP way l x y z
  prog : ∀ (cb base : Nat) (sv v : Value) (w : World), TCV w v l → Blk w cb 35 #[.int .i64 n, sv] → RowN w base 72 3 sv ((R.map ShR.sh).map Sh.cs) → base ≤ w.heap.size → Calls Try.prog 12 #[.pointer (some ⟨cb, 0, none⟩), .int .i64 way, v, .int .u32 x, .int .u32 y] w (ChQ o n' R' cb base sv w)
  ref : ∀ (base : Nat) (rv : Value) (A : Option Addr) (c : Nat) (w : World), RowN w base 63 5 rv (R.map ShR.cs) → base ≤ w.heap.size → ES w w.heap.size A 4 (l.map Cd.cs) → Calls Try.prog 14 #[.agg #[.int .i64 n, rv], .int .i64 way, .slice A l.length c, .int .u32 x, .int .u32 y] w (RcQ l o n' R' base w)
theorem CrB.more {R : List ShR} {Bd : Int} (h : CrB R Bd) : CrB R (Bd + 3100) := fun r hr => by have := h r hr; omega
theorem tcv_es {w : World} {v : Value} {l : List Cd} (h : TCV w v l) : ∃ A c, v = .slice A l.length c ∧ ES w w.heap.size A 4 (l.map Cd.cs) := by
  rcases h with ⟨rfl, rfl⟩ | ⟨h0, g, c, rfl, hg, hc, -, -⟩
  · exact ⟨none, 0, rfl, .inl rfl⟩
  · exact ⟨_, c, rfl, .inr ⟨g, 0, hg, rfl, cells_el hc⟩⟩
theorem tcv_nil {w : World} {v : Value} (h : TCV w v []) : v = .slice none 0 0 := by
  rcases h with ⟨-, h⟩ | ⟨h0, -⟩
  · exact h
  · exact absurd rfl h0
theorem both_any (way : Int) (l : List Cd) (x y n : Int) (R : List ShR) (Bd : Int) (hl : l.length ≤ 30) (hr : rightFrom (-1) l = true) (hx : 0 ≤ x) (hx' : x ≤ 4294967295) (hy : 0 ≤ y) (hy' : y ≤ 4294967295) (hRl : R.length ≤ 30) (hcr : CrB R Bd) (b0 : 0 ≤ Bd) (b1 : Bd ≤ 1000000000) :
    ∃ o n' R', Both way l x y n R Bd o n' R' := by
  by_cases h1 : way = 1
  · subst h1
    by_cases h0 : l = []
    · subst h0
      exact ⟨none, n, R, hRl, hcr.more, (fun z h => by cases h), (fun cb base sv v w hv hB hR hb => by rw [tcv_nil hv]; exact ch1n cb base n x y sv R w hB hR), fun base rv A c w hR hb hE => rc1n base n x y rv R w A c hR hb⟩
    · have hp := List.length_pos_iff.2 h0
      obtain ⟨z, hz⟩ : ∃ z, l[pickI l n]? = some z := ⟨_, List.getElem?_eq_getElem (pickI_lt l n hp)⟩
      refine ⟨some z, z.slot + 1, R, hRl, hcr.more, (fun z' h => by injection h with h; subst h; exact ⟨List.mem_of_getElem? hz, .inl rfl⟩), (fun cb base sv v w hv hB hR hb => ?_), fun base rv A c w hR hb hE => ?_⟩
      · rcases hv with ⟨h, -⟩ | ⟨-, g, c, rfl, hg, hc, -, -⟩
        · exact absurd h h0
        · exact ch1 cb base n x y sv R w g 0 c l z hB hR hp hl hr hc hg hz
      · rcases es_cands hE with h | ⟨b, off, hb', rfl, hc⟩
        · exact absurd h h0
        · exact rc1 base n x y rv R w b off c l z hR hb hp hl hr hc hb' hz
  by_cases h2 : way = 2
  · subst h2
    by_cases h0 : heavy l = []
    · refine ⟨none, n, R, hRl, hcr.more, (fun z h => by cases h), (fun cb base sv v w hv hB hR hb => ?_), fun base rv A c w hR hb hE => rc2n base n x y rv R w A c l Bd hR hb hl hr hRl hcr b0 b1 hE h0⟩
      obtain ⟨A, c, rfl, hE⟩ := tcv_es hv
      exact ch2n cb base n x y sv R w A c l Bd hB hR hl hr hRl hcr b0 b1 hb hE h0
    · have hp := List.length_pos_iff.2 h0
      obtain ⟨z, hz⟩ : ∃ z, (heavy l)[stepB (baseS (R.map ShR.sh) (heavy l))]? = some z := ⟨_, List.getElem?_eq_getElem (by have := stepB_lt (baseS (R.map ShR.sh) (heavy l)) (by rw [baseS_len]; exact hp); rwa [baseS_len] at this)⟩
      have hzm := heavy_pos l z (List.mem_of_getElem? hz)
      refine ⟨some z, n, nextR R l, next_len R l hRl hl, next_cr R l Bd hcr b0 (rf_weight hr) hl, (fun z' h => by injection h with h; subst h; exact ⟨hzm.1, .inr (.inl ⟨rfl, hzm.2⟩)⟩), (fun cb base sv v w hv hB hR hb => ?_), fun base rv A c w hR hb hE => rc2 base n x y rv R w A c l Bd z hR hb hl hr hRl hcr b0 b1 hE hz⟩
      obtain ⟨A, c, rfl, hE⟩ := tcv_es hv
      exact ch2 cb base n x y sv R w A c l Bd z hB hR hl hr hRl hcr b0 b1 hb hE hz
  by_cases h3 : way = 3
  · subst h3
    by_cases h0 : l = []
    · subst h0
      exact ⟨none, n, R, hRl, hcr.more, (fun z h => by cases h), (fun cb base sv v w hv hB hR hb => by rw [tcv_nil hv]; exact ch3n cb base n x y sv R w hB hR), fun base rv A c w hR hb hE => rc3n base n x y rv R w A c hR hb⟩
    · have hp := List.length_pos_iff.2 h0
      obtain ⟨z, hz⟩ : ∃ z, l[lbTo l l.length]? = some z := ⟨_, List.getElem?_eq_getElem (lbTo_lt l l.length hp)⟩
      refine ⟨some z, n, R, hRl, hcr.more, (fun z' h => by injection h with h; subst h; exact ⟨List.mem_of_getElem? hz, .inr (.inr (.inl ⟨rfl, hz⟩))⟩), (fun cb base sv v w hv hB hR hb => ?_), fun base rv A c w hR hb hE => rc3 base n x y rv R w A c l z hR hb hp hl hx hx' hy hy' hE hz⟩
      rcases hv with ⟨h, -⟩ | ⟨-, g, c, rfl, hg, hc, e1, e2⟩
      · exact absurd h h0
      · exact ch3 cb base n x y sv R w _ c l z hB hR hp hl hr e1 e2 (.inr ⟨g, 0, hg, rfl, cells_el hc⟩) hz
  by_cases h4 : way = 4
  · subst h4
    by_cases h0 : l = []
    · subst h0
      exact ⟨none, n, R, hRl, hcr.more, (fun z h => by cases h), (fun cb base sv v w hv hB hR hb => by rw [tcv_nil hv]; exact ch4n cb base n x y sv R w hB hR), fun base rv A c w hR hb hE => rc4n base n x y rv R w A c hR hb⟩
    · have hp := List.length_pos_iff.2 h0
      obtain ⟨z, hz⟩ : ∃ z, l[qOf l x y]? = some z := ⟨_, List.getElem?_eq_getElem (qOf_lt l x y hp)⟩
      refine ⟨some z, n, R, hRl, hcr.more, (fun z' h => by injection h with h; subst h; exact ⟨List.mem_of_getElem? hz, .inr (.inr (.inr ⟨rfl, hz⟩))⟩), (fun cb base sv v w hv hB hR hb => ?_), fun base rv A c w hR hb hE => rc4 base n x y rv R w A c l z hR hb hp hl hx hx' hy hy' hE hz⟩
      rcases hv with ⟨h, -⟩ | ⟨-, g, c, rfl, hg, hc, -, -⟩
      · exact absurd h h0
      · exact ch4 cb base n x y sv R w g c l z hB hR hp hl hr hc hg hx hx' hy hy' hz
  exact ⟨none, n, R, hRl, hcr.more, (fun z h => by cases h), (fun cb base sv v w hv hB hR hb => ch0 cb base n x y way sv v R w hB hR h1 h2 h3 h4), fun base rv A c w hR hb hE => rc0 base n x y rv R w way A c l hR hb h1 h2 h3 h4⟩
/-- What the loop over the acts keeps. -/
structure PcS (cb rb : Nat) (n : Int) (R : List ShR) (k : Nat) (w wr : World) : Prop where
  ex : ∃ sv rv, Blk wr cb 35 #[.int .i64 n, sv] ∧ RowN wr w.heap.size 72 3 sv ((R.map ShR.sh).map Sh.cs) ∧ Blk wr rb 38 #[.int .i64 n, rv] ∧ RowN wr w.heap.size 63 5 rv (R.map ShR.cs)
  bel : Below w.heap.size w wr
  len : R.length ≤ 30
  cr : CrB R (3100 * (k : Int))
  lc : w.heap.size ≤ cb
  lr : w.heap.size ≤ rb
theorem PcS.on {cb rb k : Nat} {n : Int} {R : List ShR} {w wr wr' : World} (h : PcS cb rb n R k w wr) (hk : Kept (fun _ => False) wr wr') : PcS cb rb n R k w wr' := by
  obtain ⟨⟨sv, rv, h1, h2, h3, h4⟩, h5, h6, h7, h8, h9⟩ := h
  exact ⟨⟨sv, rv, h1.kept hk (fun h => h), h2.kept hk (fun _ _ h => h), h3.kept hk (fun h => h), h4.kept hk (fun _ _ h => h)⟩, belK h5 hk, h6, h7, h8, h9⟩
theorem PcS.next {cb rb k : Nat} {n : Int} {R : List ShR} {w wr : World} (h : PcS cb rb n R k w wr) : PcS cb rb n R (k + 1) w wr :=
  ⟨h.ex, h.bel, h.len, fun r hr => by have := h.cr r hr; omega, h.lc, h.lr⟩
theorem own_ge {b o n c g H : Nat} (h : (Value.slice (some ⟨b, o, none⟩) n c).ownBlock = some g) (hb : H ≤ b) : H ≤ g := by
  have e : b = g := by simpa [Value.ownBlock] using h
  omega
/-- What 'to' gives, in memory that is new since H. -/
def TCB (H : Nat) (u : World) (v : Value) (l : List Cd) : Prop := TCV u v l ∧ ∀ g, v.ownBlock = some g → H ≤ g
theorem toB_any (A : Option Addr) (c : Nat) (l : List Cd) (H : Nat) (w : World) (hH : H ≤ w.heap.size) (hl : l.length ≤ 70) (hE : ES w w.heap.size A 4 (l.map Cd.cs)) : Calls Try.prog 13 #[.slice A l.length c] w fun e w' => ∃ v, e = .returned v ∧ TCB H w' v l ∧ Below w.heap.size w w' := by
  refine (toC_any A c l w hl hE).mono ?_
  rintro e w' ⟨hb, ⟨h0, rfl⟩ | ⟨h0, g, c, rfl, h1, h2, h3, h4, h5⟩⟩
  · exact ⟨_, rfl, ⟨.inl ⟨h0, rfl⟩, fun g hg => by cases hg⟩, hb⟩
  · exact ⟨_, rfl, ⟨.inr ⟨h0, g, c, rfl, h2, h3, h4, h5⟩, fun g' hg => own_ge hg (by omega)⟩, hb⟩
theorem TCB.on {H : Nat} {S : Nat → Prop} {u u' : World} {v : Value} {l : List Cd} (h : TCB H u v l) (hk : Kept S u u') (hS : ∀ i, S i → i < H) : TCB H u' v l := by
  refine ⟨?_, h.2⟩
  rcases h.1 with h1 | ⟨h0, g, c, rfl, hg, hc, h1, h2⟩
  · exact .inl h1
  · have hn : ¬ S g := fun e => by have := hS g e; have := h.2 g rfl; omega
    refine .inr ⟨h0, g, c, rfl, Nat.lt_of_lt_of_le hg hk.size, fun k hk' => ?_, h1, h2⟩
    have := hc k hk'
    exact ⟨(hk.cell hg hn _).trans this.1, (hk.cell hg hn _).trans this.2.1, (hk.cell hg hn _).trans this.2.2.1, (hk.cell hg hn _).trans this.2.2.2⟩
theorem TCB.is_ (S : Nat → Prop) (w : World) (l : List Cd) (hl : l.length ≤ 70) : ∃ v u, Kept S w u ∧ TCB w.heap.size u v l := by
  by_cases h0 : l = []
  · exact ⟨_, w, Kept.refl _ _, .inl ⟨h0, rfl⟩, fun g hg => by cases hg⟩
  · refine ⟨.slice (some ⟨w.heap.size, 0, none⟩) l.length l.length, w.alloc (.cells (l.map Cd.cs).flatten.toArray 45), (Kept.refl _ _).alloc _, .inr ⟨h0, _, _, rfl, by simp, ?_, Nat.le_refl _, by unfold maxLen; omega⟩, fun g hg => own_ge hg (Nat.le_refl _)⟩
    intro k hk
    exact cd_cells (ElAt.of_blk (Blk.new w 45 (l.map Cd.cs).flatten.toArray) (sz_map Cd.cs_len _) (by simp)) hk
/-- What Choose gives, as a value and in memory. -/
def ChV (o : Option Cd) (n' : Int) (R' : List ShR) (cb base : Nat) (v : Value) (u : World) : Prop :=
  v = .tuple #[cdO o, .bool o.isSome] ∧ ∃ sv', Blk u cb 35 #[.int .i64 n', sv'] ∧ RowN u base 72 3 sv' ((R'.map ShR.sh).map Sh.cs)
theorem ChV.on {o : Option Cd} {n' : Int} {R' : List ShR} {cb base : Nat} {v : Value} {u u' : World} (h : ChV o n' R' cb base v u) (hk : Kept (fun _ => False) u u') : ChV o n' R' cb base v u' := by
  obtain ⟨e, sv', h1, h2⟩ := h
  exact ⟨e, sv', h1.kept hk (fun h => h), h2.kept hk (fun _ _ h => h)⟩
end Go.Proofs.Ytpakfepjfcpjkaa
