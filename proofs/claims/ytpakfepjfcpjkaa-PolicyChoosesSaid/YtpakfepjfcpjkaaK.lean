/- The law PolicyFits, walked. -/
import Derived.Test.YtpakfepjfcpjkaaH
import Derived.Outline
import Derived.Deep.Light
import Derived.Deep.LoopGhost
import Derived.Deep.DeepCutAuto
import Derived.Deep.CutBlock
namespace Go.Proofs.Ytpakfepjfcpjkaa
open Go.RowKit
set_option linter.unusedVariables false
theorem bel2 {w w1 w2 : World} (h1 : Below w.heap.size w w1) (h2 : Below w1.heap.size w1 w2) : Below w.heap.size w w2 := h1.trans (Kept.below (S := fun _ => False) (Kept.ofB h2) h1.size (fun i h => h.elim))
theorem belK {w w1 w2 : World} (h1 : Below w.heap.size w w1) (h2 : Kept (fun _ => False) w1 w2) : Below w.heap.size w w2 := h1.trans (h2.below h1.size (fun i h => h.elim))
structure FxS (w0 wr : World) (ab : Nat) (cs : Array Value) (A : Option Addr) (l : List Cd) : Prop where
  blk : Blk wr ab 42 cs
  es : ES wr wr.heap.size A 4 (l.map Cd.cs)
  bel : Below w0.heap.size w0 wr
  lo : w0.heap.size ≤ ab
theorem FxS.on {w0 wr wr' : World} {ab : Nat} {cs : Array Value} {A : Option Addr} {l : List Cd} (h : FxS w0 wr ab cs A l) (hk : Kept (fun _ => False) wr wr') : FxS w0 wr' ab cs A l :=
  ⟨h.blk.kept hk (fun h => h), h.es.on hk (fun _ _ h => h), belK h.bel hk, h.lo⟩
theorem FxS.onB {w0 wr wr' : World} {ab : Nat} {cs : Array Value} {A : Option Addr} {l : List Cd} (h : FxS w0 wr ab cs A l) (hk : Below wr.heap.size wr wr') : FxS w0 wr' ab cs A l := h.on (Kept.ofB hk)
theorem FxS.far {w0 wr : World} {ab g i : Nat} {u : Value} {cs : Array Value} {A : Option Addr} {l : List Cd} (h : FxS w0 wr ab cs A l) (hg : ab < g) (hA : ∀ b o, A = some ⟨b, o, none⟩ → b < g) : FxS w0 (wr.setCell ⟨g, i, none⟩ u) ab cs A l := by
  refine ⟨h.blk.far (p := ⟨g, i, none⟩) (by simp; omega) u, ?_, h.bel.setCell (by have := h.lo; simp; omega) u, h.lo⟩
  rcases h.es with h0 | ⟨b, o, hb, e, hel⟩
  · exact .inl h0
  · have := hA b o e
    exact .inr ⟨b, o, by simpa [World.setCell] using hb, e, hel.keep fun o => World.cell?_setCell_other _ _ _ _ (by intro e; injection e; omega)⟩
/-- What 'to' gives. -/
def TCV (u : World) (v : Value) (l : List Cd) : Prop := (l = [] ∧ v = .slice none 0 0) ∨ (l ≠ [] ∧ ∃ g c, v = .slice (some ⟨g, 0, none⟩) l.length c ∧ g < u.heap.size ∧ CellsAt u g 0 l ∧ l.length ≤ c ∧ c ≤ maxLen)
theorem TCV.on {u u' : World} {v : Value} {l : List Cd} (h : TCV u v l) (hk : Kept (fun _ => False) u u') : TCV u' v l := by
  rcases h with h | ⟨h0, g, c, e, hg, hc, h1, h2⟩
  · exact .inl h
  · refine .inr ⟨h0, g, c, e, Nat.lt_of_lt_of_le hg hk.size, fun k hk' => ?_, h1, h2⟩
    have := hc k hk'
    exact ⟨(hk.cell hg (fun h => h) _).trans this.1, (hk.cell hg (fun h => h) _).trans this.2.1, (hk.cell hg (fun h => h) _).trans this.2.2.1, (hk.cell hg (fun h => h) _).trans this.2.2.2⟩
theorem toT_any (A : Option Addr) (c : Nat) (l : List Cd) (w : World) (hl : l.length ≤ 70) (hE : ES w w.heap.size A 4 (l.map Cd.cs)) : Calls Try.prog 13 #[.slice A l.length c] w fun e w' => ∃ v, e = .returned v ∧ TCV w' v l ∧ Below w.heap.size w w' := by
  refine (toC_any A c l w hl hE).mono ?_
  rintro e w' ⟨hb, ⟨h0, rfl⟩ | ⟨h0, g, c, rfl, h1, h2, h3, h4, h5⟩⟩
  · exact ⟨_, rfl, .inl ⟨h0, rfl⟩, hb⟩
  · exact ⟨_, rfl, .inr ⟨h0, g, c, rfl, h2, h3, h4, h5⟩, hb⟩
theorem TCV.is_ (w : World) (l : List Cd) (hl : l.length ≤ 70) : ∃ v u, Kept (fun _ => False) w u ∧ TCV u v l := by
  by_cases h0 : l = []
  · exact ⟨_, w, Kept.refl _ _, .inl ⟨h0, rfl⟩⟩
  · refine ⟨.slice (some ⟨w.heap.size, 0, none⟩) l.length l.length, w.alloc (.cells (l.map Cd.cs).flatten.toArray 45), (Kept.refl _ _).alloc _, .inr ⟨h0, _, _, rfl, by simp, ?_, Nat.le_refl _, by unfold maxLen; omega⟩⟩
    intro k hk
    exact cd_cells (ElAt.of_blk (Blk.new w 45 (l.map Cd.cs).flatten.toArray) (sz_map Cd.cs_len _) (by simp)) hk
theorem fits_nil (way : Int) (A : Option Addr) (c : Nat) (x y : Int) (z : Cd) (w : World) : Calls Try.prog 15 #[.int .i64 way, .slice A 0 c, .int .u32 x, .int .u32 y, z.agg] w (FitsPost way [] x y z w) := by
  have HCI := Lib.hid (fun u => contains_any A c [] z u (by simp) (.inl rfl))
  obtain ⟨z0, z1, z2, z3⟩ := z
  unfold Cd.agg at HCI ⊢
  go_enter Try.func15, Try.ntmps15
  go_wp2_with fail
  refine (HCI.out _).mono ?_
  rintro e w1 ⟨b, rfl, hm, hb⟩
  have HB := Lib.hid (show Below w.heap.size w w1 from Kept.below (S := fun _ => False) (((Kept.refl _ _).alloc _).then (Kept.ofB (S := fun _ => False) hb) (fun _ _ h => h.elim)) (Nat.le_refl _) (fun i h => h.elim))
  cases b with
  | true => exact absurd (hm.1 rfl) (by simp)
  | false =>
    clear hm hb HCI
    go_wp2_with fail
    go_ret
    exact ⟨false, rfl, ⟨(fun h => by cases h), fun h => absurd h.1 (by simp)⟩, HB.out⟩
theorem fits_u (way : Int) (v : Value) (l : List Cd) (x y : Int) (z : Cd) (w : World) (hv : TCV w v l) (hl : l.length ≤ 30) (hr : rightFrom (-1) l = true) (hx : 0 ≤ x) (hx' : x ≤ 4294967295) (hy : 0 ≤ y) (hy' : y ≤ 4294967295) :
    Calls Try.prog 15 #[.int .i64 way, v, .int .u32 x, .int .u32 y, z.agg] w (FitsPost way l x y z w) := by
  rcases hv with ⟨rfl, rfl⟩ | ⟨h0, g, c, rfl, hg, hc, h1, h2⟩
  · exact fits_nil way none 0 x y z w
  · exact fits_any way g c l x y z w (List.length_pos_iff.2 h0) hl hr h1 h2 hx hx' hy hy' hc hg
/-- Where the last one like x stands among the first k. -/
def InP (l : List Cd) (x : Cd) (k : Nat) (q : Int) : Prop := (q = -1 ∧ ∀ j (h : j < l.length), j < k → l[j] ≠ x) ∨ (∃ j, ∃ h : j < l.length, j < k ∧ q = (j : Int) ∧ l[j] = x)
theorem InP.no {l : List Cd} {x : Cd} {k : Nat} {q : Int} (h : InP l x k q) (hk : k < l.length) (hne : l[k] ≠ x) : InP l x (k + 1) q := by
  rcases h with ⟨h1, h2⟩ | ⟨j, hj, h1, h2, h3⟩
  · refine .inl ⟨h1, fun j hj hjk => ?_⟩
    by_cases e : j = k
    · subst e; exact hne
    · exact h2 j hj (by omega)
  · exact .inr ⟨j, hj, by omega, h2, h3⟩
theorem fits_none (way : Int) (l : List Cd) (x y : Int) (z : Cd) (hn : ∀ j (h : j < l.length), j < l.length → l[j] ≠ z) : ¬ FitsP way l x y z := fun h => by
  obtain ⟨j, hj, e⟩ := List.mem_iff_getElem.1 h.1
  exact hn j hj hj e
theorem at_iff {l : List Cd} (hr : rightFrom (-1) l = true) {j k : Nat} (hj : j < l.length) (hk : k < l.length) : l[k]? = some l[j] ↔ k = j := by
  rw [List.getElem?_eq_getElem hk]
  constructor
  · intro h
    injection h with h
    rcases Nat.lt_trichotomy k j with h1 | h1 | h1
    · have := rf_lt hr k j hj h1; rw [h] at this; omega
    · exact h1
    · have := rf_lt hr j k hk h1; rw [h] at this; omega
  · rintro rfl; rfl
theorem refCh_any (way : Int) (hw : way = 3 ∨ way = 4) (A : Option Addr) (c : Nat) (l : List Cd) (x y : Int) (w : World) (hl : l.length ≤ 30) (hx : 0 ≤ x) (hx' : x ≤ 4294967295) (hy : 0 ≤ y) (hy' : y ≤ 4294967295) (hE : ES w w.heap.size A 4 (l.map Cd.cs)) :
    Calls Try.prog 14 #[.agg #[.int .i64 0, .slice none 0 0], .int .i64 way, .slice A l.length c, .int .u32 x, .int .u32 y] w (ChPost (chK way l x y) w) := by
  by_cases h0 : l = []
  · subst h0
    have : chK way [] x y = -1 := by simp [chK]
    rw [this]
    rcases hw with rfl | rfl
    · exact refCh3n A c x y w
    · exact refCh4n A c x y w
  · have hp := List.length_pos_iff.2 h0
    rcases hw with rfl | rfl
    · have : chK 3 l x y = (lbTo l l.length : Int) := by simp [chK, h0]
      rw [this]
      exact refCh3 A c l x y w hp hl hx hx' hy hy' hE
    · have : chK 4 l x y = (qOf l x y : Int) := by simp [chK, h0]
      rw [this]
      exact refCh4 A c l x y w hp hl hx hx' hy hy' hE
theorem chK_iff {way : Int} (hw : way = 3 ∨ way = 4) {l : List Cd} (hr : rightFrom (-1) l = true) (x y : Int) {j : Nat} (hj : j < l.length) : chK way l x y = (j : Int) ↔ FitsP way l x y l[j] := by
  have h0 : l ≠ [] := by rintro rfl; simp at hj
  have hp := List.length_pos_iff.2 h0
  have hm := List.getElem_mem hj
  rcases hw with rfl | rfl
  · have : chK 3 l x y = (lbTo l l.length : Int) := by simp [chK, h0]
    rw [this]
    have hq := at_iff hr hj (lbTo_lt l l.length hp)
    constructor
    · intro h; exact ⟨hm, .inr (.inr (.inl ⟨rfl, hq.2 (by omega)⟩))⟩
    · rintro ⟨-, h | h | h | h⟩
      · omega
      · omega
      · have := hq.1 h.2; omega
      · omega
  · have : chK 4 l x y = (qOf l x y : Int) := by simp [chK, h0]
    rw [this]
    have hq := at_iff hr hj (qOf_lt l x y hp)
    constructor
    · intro h; exact ⟨hm, .inr (.inr (.inr ⟨rfl, hq.2 (by omega)⟩))⟩
    · rintro ⟨-, h | h | h | h⟩
      · omega
      · omega
      · omega
      · have := hq.1 h.2; omega
theorem fits_1 {l : List Cd} (x y : Int) {j : Nat} (hj : j < l.length) : FitsP 1 l x y l[j] := ⟨List.getElem_mem hj, .inl rfl⟩
theorem fits_2 {l : List Cd} (x y : Int) {j : Nat} (hj : j < l.length) : FitsP 2 l x y l[j] ↔ 0 < l[j].weight := by
  constructor
  · rintro ⟨-, h | h | h | h⟩
    · omega
    · exact h.2
    · omega
    · omega
  · intro h; exact ⟨List.getElem_mem hj, .inr (.inl ⟨rfl, h⟩)⟩
theorem fits_0 {way : Int} {l : List Cd} (x y : Int) {z : Cd} (h1 : ¬ way = 1) (h2 : ¬ way = 2) (h3 : ¬ way = 3) (h4 : ¬ way = 4) : ¬ FitsP way l x y z := by
  rintro ⟨-, h | h | h | h⟩
  · exact h1 h
  · exact h2 h.1
  · exact h3 h.1
  · exact h4 h.1
def T1 (u : World) (v : Value) (x : Cd) : Prop := ∃ g c, v = .slice (some ⟨g, 0, none⟩) 1 c ∧ g < u.heap.size ∧ CellsAt u g 0 [x]
theorem TCV.t1 {u : World} {v : Value} {x : Cd} (h : TCV u v [x]) : T1 u v x := by
  rcases h with ⟨h, -⟩ | ⟨-, g, c, rfl, h1, h2, -, -⟩
  · cases h
  · exact ⟨g, c, rfl, h1, h2⟩
theorem T1.on {u u' : World} {v : Value} {x : Cd} (h : T1 u v x) (hk : Kept (fun _ => False) u u') : T1 u' v x := by
  obtain ⟨g, c, rfl, h1, h2⟩ := h
  refine ⟨g, c, rfl, Nat.lt_of_lt_of_le h1 hk.size, fun k hk' => ?_⟩
  have := h2 k hk'
  exact ⟨(hk.cell h1 (fun h => h) _).trans this.1, (hk.cell h1 (fun h => h) _).trans this.2.1, (hk.cell h1 (fun h => h) _).trans this.2.2.1, (hk.cell h1 (fun h => h) _).trans this.2.2.2⟩
theorem T1.is_ (w : World) (x : Cd) : ∃ v u, Kept (fun _ => False) w u ∧ T1 u v x := by
  obtain ⟨v, u, h1, h2⟩ := TCV.is_ w [x] (by simp)
  exact ⟨v, u, h1, h2.t1⟩
theorem t1_cells {w : World} {g : Nat} {a b c d : Int} (h : CellsAt w g 0 [(⟨a, b, c, d⟩ : Cd)]) : w.cell? ⟨g, 0, none⟩ = some (.int .i64 a) ∧ w.cell? ⟨g, 1, none⟩ = some (.int .i64 b) ∧ w.cell? ⟨g, 2, none⟩ = some (.int .i64 c) ∧ w.cell? ⟨g, 3, none⟩ = some (.int .u32 d) := by
  have := h 0 (by simp)
  simpa using this
end Go.Proofs.Ytpakfepjfcpjkaa
