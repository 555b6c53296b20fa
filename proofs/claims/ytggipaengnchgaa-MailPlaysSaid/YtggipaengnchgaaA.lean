/- Letters in transit, in memory; New, Len, Lost, has, Send. -/
import Derived.Test.YtggipaengnchgaaSlClone
import Derived.Test.YtggipaengnchgaaOpenN
import Derived.Test.YtggipaengnchgaaRgRow
import Derived.Deep.Light
import Derived.Outline
namespace Go.Proofs.Ytggipaengnchgaa
open Go.RowKit
set_option linter.unusedVariables false
theorem Try.infoLe : (Try.prog.info? 31).map (fun i => (i.zero, i.size, i.bytes)) = some (some (.agg #[.int .i64 0, .bool false, .slice none 0 0]), 3, 40) := by kernel_rfl
/-- A letter in transit: its bytes lie in memory of their own. -/
structure Le where
  node : Int
  back : Bool
  v : Value
  l : List UInt8
def Le.cs (x : Le) : List Value := [.int .i64 x.node, .bool x.back, x.v]
theorem Le.cs_len (x : Le) : x.cs.length = 3 := rfl
def Le.ok (x : Le) (base : Nat) (w : World) : Prop := Row w base 5 x.v (bcs x.l)
theorem Row.blk {w : World} {base e g : Nat} {v : Value} {xs : List Value} (h : Row w base e v xs) (hg : v.ownBlock = some g) : ∃ cs, Blk w g e cs := by
  rcases h.2 with ⟨rfl, _⟩ | ⟨g', cap, cur, rfl, _, hh, _⟩
  · cases hg
  · injection hg with hg; subst hg; exact ⟨cur, hh⟩
theorem kept_of {w w1 w2 : World} (h1 : Below w.heap.size w w1) (h2 : Below w1.heap.size w1 w2) : Below w.heap.size w w2 := h1.trans (Kept.below (S := fun _ => False) (Kept.ofB h2) h1.size (fun i h => h.elim))
theorem keptK {w w1 w2 : World} (h1 : Below w.heap.size w w1) (h2 : Kept (fun _ => False) w1 w2) : Below w.heap.size w w2 := h1.trans (h2.below h1.size (fun i h => h.elim))
theorem belKK {B : Nat} {w w1 w2 : World} (h1 : Below B w w1) (h2 : Kept (fun _ => False) w1 w2) (hB : B ≤ w.heap.size) : Below B w w2 := h1.trans (h2.below (Nat.le_trans hB h1.size) (fun i h => h.elim))
/-- What is neither a mail nor a row of letters is as it was. -/
def Oth (w w' : World) : Prop := ∀ g t cs, Blk w g t cs → t ≠ 52 → t ≠ 31 → Blk w' g t cs
theorem Oth.trans {a b c : World} (h : Oth a b) (k : Oth b c) : Oth a c := fun g t cs hb h1 h2 => k g t cs (h g t cs hb h1 h2) h1 h2
theorem Oth.of0 {w w' : World} (h : Kept (fun _ => False) w w') : Oth w w' := fun g t cs hb _ _ => hb.kept h (fun h => h)
theorem Oth.ofB {w w' : World} (h : Below w.heap.size w w') : Oth w w' := Oth.of0 (Kept.ofB h)
theorem Oth.refl (w : World) : Oth w w := fun _ _ _ h _ _ => h
theorem Row.oth {w w' : World} {base e : Nat} {v : Value} {xs : List Value} (h : Row w base e v xs) (ho : Oth w w') (h1 : e ≠ 52) (h2 : e ≠ 31) : Row w' base e v xs :=
  h.keep fun g hg => by obtain ⟨cs, hb⟩ := h.blk hg; exact (ho g e cs hb h1 h2).trans hb.symm
theorem RowN.oth {w w' : World} {base e sz : Nat} {v : Value} {L : List (List Value)} (h : RowN w base e sz v L) (ho : Oth w w') (h1 : e ≠ 52) (h2 : e ≠ 31) : RowN w' base e sz v L :=
  h.keep fun g hg => by obtain ⟨cs, hb⟩ := h.blk hg; exact (ho g e cs hb h1 h2).trans hb.symm
theorem le_oth {x : Le} {base : Nat} {w w' : World} (h : x.ok base w) (ho : Oth w w') : x.ok base w' := Row.oth h ho (by decide) (by decide)
structure MlS (mb base : Nat) (most lost : Int) (L : List Le) (w : World) : Prop where
  ex : ∃ LA lc, Blk w mb 52 #[.int .i64 most, .int .i64 lost, .slice LA L.length lc] ∧ RowN w base 31 3 (.slice LA L.length lc) (L.map Le.cs)
  ok : ∀ x ∈ L, x.ok base w
  lo : base ≤ mb
theorem MlS.on {mb base : Nat} {most lost : Int} {L : List Le} {w w' : World} (h : MlS mb base most lost L w) (hk : Kept (fun _ => False) w w') : MlS mb base most lost L w' := by
  obtain ⟨⟨LA, lc, h1, h2⟩, h3, h4⟩ := h
  exact ⟨⟨LA, lc, h1.kept hk (fun h => h), h2.kept hk (fun _ _ h => h)⟩, fun x hx => le_oth (h3 x hx) (Oth.of0 hk), h4⟩
theorem MlS.onB {mb base : Nat} {most lost : Int} {L : List Le} {w w' : World} (h : MlS mb base most lost L w) (hk : Below w.heap.size w w') : MlS mb base most lost L w' := h.on (Kept.ofB hk)
/-- What a call on a mail leaves. -/
structure MlP (mb base : Nat) (most lost : Int) (L : List Le) (w w' : World) : Prop where
  st : MlS mb base most lost L w'
  oth : Oth w w'
  bel : Below base w w'
theorem new_any (m : Int) (w : World) : Calls Try.prog 6 #[.int .i64 m] w fun e w' => e = .returned (.pointer (some ⟨w.heap.size, 0, none⟩)) ∧ MlS w.heap.size w.heap.size (max m 0) 0 [] w' ∧ Below w.heap.size w w' := by
  by_cases h0 : m = 0
  · subst h0
    rw [show max (0 : Int) 0 = 0 by omega]
    go_enter Try.func6, Try.ntmps6
    go_wp2_with fail
    go_ret
    go_light
    exact ⟨rfl, ⟨⟨none, 0, Blk.new _ _ _, RowN.nil _ _ _ _⟩, (fun x hx => by cases hx), Nat.le_refl _⟩, (Below.refl _ _).alloc (Nat.le_refl _) _⟩
  by_cases hm : m < 0
  · rw [show max m 0 = 0 by omega]
    go_enter Try.func6, Try.ntmps6
    go_wp2_with fail
    go_ret
    go_light
    exact ⟨rfl, ⟨⟨none, 0, Blk.new _ _ _, RowN.nil _ _ _ _⟩, (fun x hx => by cases hx), Nat.le_refl _⟩, (Below.refl _ _).alloc (Nat.le_refl _) _⟩
  have hp : 0 < m := by omega
  rw [show max m 0 = m by omega]
  go_enter Try.func6, Try.ntmps6
  go_wp2_with fail
  go_ret
  go_light
  exact ⟨rfl, ⟨⟨none, 0, Blk.new _ _ _, RowN.nil _ _ _ _⟩, (fun x hx => by cases hx), Nat.le_refl _⟩, (Below.refl _ _).alloc (Nat.le_refl _) _⟩
theorem len_any (mb base : Nat) (most lost : Int) (L : List Le) (w : World) (h : MlS mb base most lost L w) : Calls Try.prog 8 #[.pointer (some ⟨mb, 0, none⟩)] w fun e w' => e = .returned (.int .i64 (L.length : Int)) ∧ w = w' := by
  obtain ⟨⟨LA, lc, h1, -⟩, -, -⟩ := h
  have c2 := h1.cell 2
  have ml := h1.lt
  simp at c2
  clear h1
  go_enter Try.func8, Try.ntmps8
  go_wp2_with fail
  go_ret
  exact ⟨rfl, rfl⟩
theorem len_none (w : World) : Calls Try.prog 8 #[.pointer none] w fun e w' => e = .returned (.int .i64 0) ∧ w = w' := by
  go_enter Try.func8, Try.ntmps8
  go_wp2_with fail
  go_ret
  exact ⟨rfl, rfl⟩
theorem lost_any (mb base : Nat) (most lost : Int) (L : List Le) (w : World) (h : MlS mb base most lost L w) : Calls Try.prog 18 #[.pointer (some ⟨mb, 0, none⟩)] w fun e w' => e = .returned (.int .i64 lost) ∧ w = w' := by
  obtain ⟨⟨LA, lc, h1, -⟩, -, -⟩ := h
  have c1 := h1.cell 1
  have ml := h1.lt
  simp at c1
  clear h1
  go_enter Try.func18, Try.ntmps18
  go_wp2_with fail
  go_ret
  exact ⟨rfl, rfl⟩
theorem lost_none (w : World) : Calls Try.prog 18 #[.pointer none] w fun e w' => e = .returned (.int .i64 0) ∧ w = w' := by
  go_enter Try.func18, Try.ntmps18
  go_wp2_with fail
  go_ret
  exact ⟨rfl, rfl⟩
theorem has_yes (mb base : Nat) (most lost : Int) (L : List Le) (i : Int) (w : World) (h : MlS mb base most lost L w) (h0 : 0 ≤ i) (h1 : i < (L.length : Int)) (hl : L.length ≤ 100000) : Calls Try.prog 22 #[.pointer (some ⟨mb, 0, none⟩), .int .i64 i] w fun e w' => e = .returned (.bool true) ∧ w = w' := by
  obtain ⟨⟨LA, lc, h2, -⟩, -, -⟩ := h
  have c2 := h2.cell 2
  have ml := h2.lt
  simp at c2
  clear h2
  go_enter Try.func22, Try.ntmps22
  go_wp2_with fail
  go_ret
  exact ⟨rfl, rfl⟩
theorem has_no (mb base : Nat) (most lost : Int) (L : List Le) (i : Int) (w : World) (h : MlS mb base most lost L w) (hi : i < 0 ∨ (L.length : Int) ≤ i) (hl : L.length ≤ 100000) : Calls Try.prog 22 #[.pointer (some ⟨mb, 0, none⟩), .int .i64 i] w fun e w' => e = .returned (.bool false) ∧ w = w' := by
  obtain ⟨⟨LA, lc, h2, -⟩, -, -⟩ := h
  have c2 := h2.cell 2
  have ml := h2.lt
  simp at c2
  clear h2
  by_cases h0 : i < 0
  · have d0 : decide (0 ≤ i) = false := decide_eq_false (by omega)
    clear hi
    go_enter Try.func22, Try.ntmps22
    go_wp2_with fail
    go_ret
    exact ⟨rfl, rfl⟩
  · have d1 : decide (i < (L.length : Int)) = false := decide_eq_false (by omega)
    have h1 : 0 ≤ i := by omega
    clear hi h0
    go_enter Try.func22, Try.ntmps22
    go_wp2_with fail
    go_ret
    exact ⟨rfl, rfl⟩
theorem has_none (i : Int) (w : World) : Calls Try.prog 22 #[.pointer none, .int .i64 i] w fun e w' => e = .returned (.bool false) ∧ w = w' := by
  go_enter Try.func22, Try.ntmps22
  go_wp2_with fail
  go_ret
  exact ⟨rfl, rfl⟩
theorem send_none (x : Value) (cs : Array Value) (hx : x = .agg cs) (w : World) : Calls Try.prog 7 #[.pointer none, x] w fun e w' => e = .returned (.int .i64 3) ∧ Below w.heap.size w w' := by
  subst hx
  go_enter Try.func7, Try.ntmps7
  go_wp2_with fail
  go_ret
  exact ⟨rfl, (Below.refl _ _).alloc (Nat.le_refl _) _⟩
set_option maxHeartbeats 2000000 in
theorem send_full (mb base : Nat) (most lost : Int) (L : List Le) (nd : Int) (bk : Bool) (BA : Option Addr) (bc : Nat) (bl : List UInt8) (w : World) (h : MlS mb base most lost L w) (hf : most ≤ (L.length : Int)) (hl : L.length ≤ 100000) (hlost : 0 ≤ lost ∧ lost ≤ 1000000000) (hba : base ≤ w.heap.size) :
    Calls Try.prog 7 #[.pointer (some ⟨mb, 0, none⟩), .agg #[.int .i64 nd, .bool bk, .slice BA bl.length bc]] w fun e w' => e = .returned (.int .i64 23) ∧ MlP mb base most (lost + 1) L w w' := by
  obtain ⟨ls0, ls1⟩ := hlost
  obtain ⟨⟨LA, lc, hB, hR⟩, hO, hlo⟩ := h
  have HBK := Lib.hid hB
  have HRW := Lib.hid hR
  have HOK := Lib.hid hO
  clear hB hR hO
  go_enter Try.func7, Try.ntmps7
  go_upto_region 3 with fail
  obtain ⟨w1, hw1⟩ : ∃ w1 : World, w1 = w.alloc (.cells #[.int .i64 nd, .bool bk, .slice BA bl.length bc] 31) := ⟨_, rfl⟩
  have hk1 : Kept (fun _ => False) w w1 := by rw [hw1]; exact (Kept.refl _ _).alloc _
  have HX1 := Lib.hid (show Blk w1 w.heap.size 31 #[.int .i64 nd, .bool bk, .slice BA bl.length bc] by rw [hw1]; exact Blk.new _ _ _)
  have hs1 : w.heap.size + 1 ≤ w1.heap.size := by rw [hw1]; simp
  have HK1 := Lib.hid hk1
  have HB1 := Lib.hid (HBK.out.kept hk1 (fun h => h))
  have mlw := HBK.out.lt
  have ml1 := HB1.out.lt
  have c0 := HB1.out.cell 0
  have c2 := HB1.out.cell 2
  simp at c0 c2
  rw [← hw1]
  clear hw1 hk1
  refine wp_region_kept 10 [] ?st ?ne rfl (by kernel_rfl) (by kernel_rfl) ?_
  case st => intro p hp; cases hp
  case ne => intro p hp; cases hp
  simp only [List.take_succ_cons, List.take_zero, List.drop_succ_cons, List.drop_zero]
  intro G pick hR hp1 hp2
  have p0 : ∀ u, (pick u).cell? ⟨mb, 0, none⟩ = some (.int .i64 most) := fun u => ((hp1 u).cell ml1 (fun h => h) _).trans c0
  have p2 : ∀ u, (pick u).cell? ⟨mb, 2, none⟩ = some (.slice LA L.length lc) := fun u => ((hp1 u).cell ml1 (fun h => h) _).trans c2
  repeat (first | (refine wpR_det hp2 rfl ((hR.rel _).trans rfl) rfl ?_; intro K hK; go_big_quiet_op; go_big_quiet_on) | (refine wpR_ptr hp2 rfl ((hR.rel _).trans rfl) rfl rfl ?_; intro K hK; go_big_quiet_op; go_big_quiet_on) | (refine wpR_skip pick rfl ?_; intro K hK; go_big_quiet_op; go_big_quiet_on))
  refine wpR_nil ?_
  intro w2 hk2 hF hM
  have hs2 := hk2.size
  have HK2 := Lib.hid (HK1.out.trans hk2)
  have HB2 := Lib.hid (HBK.out.kept HK2.out (fun h => h))
  have HR2 := Lib.hid (HRW.out.kept HK2.out (fun _ _ h => h))
  clear hF hM hk2 hp1 hp2 hR p0 p2 c0 c2 ml1 HB1 HX1
  have c1 := HB2.out.cell
  have f1 := HB2.out.frozen
  have ml2 := HB2.out.lt
  go_wp2_with fail
  go_ret
  go_light
  refine ⟨rfl, ⟨⟨⟨LA, lc, HB2.out.set_to rfl, HR2.out.far (HR2.out.ne HB2.out (by decide))⟩, fun x hx => le_oth (HOK.out x hx) (fun g t cs hb h1 h2 => (hb.kept HK2.out (fun h => h)).far (p := ⟨mb, 1, none⟩) (fun e => by subst e; exact (hb.kept HK2.out (fun h => h)).ne_ HB2.out h1 rfl) _), hlo⟩, fun g t cs hb h1 h2 => (hb.kept HK2.out (fun h => h)).far (p := ⟨mb, 1, none⟩) (fun e => by subst e; exact (hb.kept HK2.out (fun h => h)).ne_ HB2.out h1 rfl) _, ?_⟩⟩
  exact (HK2.out.below hba (fun i h => h.elim)).setCell hlo _
def Sent (mb base : Nat) (most lost : Int) (L : List Le) (nd : Int) (bk : Bool) (bl : List UInt8) (w : World) (e : Ending) (w' : World) : Prop := e = .returned (.int .i64 0) ∧ ∃ v, MlP mb base most lost (L ++ [⟨nd, bk, v, bl⟩]) w w'
set_option maxHeartbeats 2000000 in
theorem send_ok (mb base : Nat) (most lost : Int) (L : List Le) (nd : Int) (bk : Bool) (BA : Option Addr) (bc : Nat) (bl : List UInt8) (w : World) (h : MlS mb base most lost L w) (hf : (L.length : Int) < most) (hl : L.length ≤ 100000) (hba : base ≤ w.heap.size) (hbl : bl.length ≤ 1000) (hBS : BS w w.heap.size BA bl) :
    Calls Try.prog 7 #[.pointer (some ⟨mb, 0, none⟩), .agg #[.int .i64 nd, .bool bk, .slice BA bl.length bc]] w (Sent mb base most lost L nd bk bl w) := by
  have HBS := Lib.hid hBS
  clear hBS
  obtain ⟨⟨LA, lc, hB, hR⟩, hO, hlo⟩ := h
  have HBK := Lib.hid hB
  have HRW := Lib.hid hR
  have HOK := Lib.hid hO
  clear hB hR hO
  go_enter Try.func7, Try.ntmps7
  go_upto_region 3 with fail
  obtain ⟨w1, hw1⟩ : ∃ w1 : World, w1 = w.alloc (.cells #[.int .i64 nd, .bool bk, .slice BA bl.length bc] 31) := ⟨_, rfl⟩
  have hk1 : Kept (fun _ => False) w w1 := by rw [hw1]; exact (Kept.refl _ _).alloc _
  have HX1 := Lib.hid (show Blk w1 w.heap.size 31 #[.int .i64 nd, .bool bk, .slice BA bl.length bc] by rw [hw1]; exact Blk.new _ _ _)
  have hs1 : w.heap.size + 1 ≤ w1.heap.size := by rw [hw1]; simp
  have HK1 := Lib.hid hk1
  have HB1 := Lib.hid (HBK.out.kept hk1 (fun h => h))
  have mlw := HBK.out.lt
  have ml1 := HB1.out.lt
  have c0 := HB1.out.cell 0
  have c2 := HB1.out.cell 2
  simp at c0 c2
  rw [← hw1]
  clear hw1 hk1
  refine wp_region_kept 10 [] ?st ?ne rfl (by kernel_rfl) (by kernel_rfl) ?_
  case st => intro p hp; cases hp
  case ne => intro p hp; cases hp
  simp only [List.take_succ_cons, List.take_zero, List.drop_succ_cons, List.drop_zero]
  intro G pick hR hp1 hp2
  have p0 : ∀ u, (pick u).cell? ⟨mb, 0, none⟩ = some (.int .i64 most) := fun u => ((hp1 u).cell ml1 (fun h => h) _).trans c0
  have p2 : ∀ u, (pick u).cell? ⟨mb, 2, none⟩ = some (.slice LA L.length lc) := fun u => ((hp1 u).cell ml1 (fun h => h) _).trans c2
  repeat (first | (refine wpR_det hp2 rfl ((hR.rel _).trans rfl) rfl ?_; intro K hK; go_big_quiet_op; go_big_quiet_on) | (refine wpR_ptr hp2 rfl ((hR.rel _).trans rfl) rfl rfl ?_; intro K hK; go_big_quiet_op; go_big_quiet_on) | (refine wpR_skip pick rfl ?_; intro K hK; go_big_quiet_op; go_big_quiet_on))
  refine wpR_nil ?_
  intro w2 hk2 hF hM
  have hs2 := hk2.size
  have HK2 := Lib.hid (HK1.out.trans hk2)
  have HX2 := Lib.hid (HX1.out.kept hk2 (fun h => h))
  have HB2 := Lib.hid (HBK.out.kept HK2.out (fun h => h))
  clear hF hM hk2 hp1 hp2 hR p0 p2 c0 c2 ml1 HB1 HX1
  have c1 := HX2.out.cell
  have f1 := HX2.out.frozen
  have xl2 := HX2.out.lt
  go_wp2_with fail
  refine (slClone_any BA bc bl w2 (by omega) (HBS.out.on HK2.out (fun _ _ h => h))).mono ?_
  rintro e w3 ⟨v3, rfl, hrow3, hb3⟩
  obtain ⟨CA, cc, hve, -, -⟩ := hrow3.shape
  rw [bcs_length] at hve
  subst hve
  have hs3 := hb3.size
  have HK3 := Lib.hid (HK2.out.trans (Kept.ofB (S := fun _ => False) hb3))
  have HX3 := Lib.hid (HX2.out.below hb3 HX2.out.lt)
  have HC3 := Lib.hid (hrow3.more (show base ≤ w2.heap.size by omega))
  clear hrow3 hb3 c1 f1 xl2 HX2 HB2
  have c1 := HX3.out.cell
  have f1 := HX3.out.frozen
  have xl3 := HX3.out.lt
  go_upto_region 7 with fail
  obtain ⟨w4, hw4⟩ : ∃ w4 : World, w4 = w3.setCell ⟨w.heap.size, 2, none⟩ (.slice CA bl.length cc) := ⟨_, rfl⟩
  have hs4 : w4.heap.size = w3.heap.size := by rw [hw4]; simp [World.setCell]
  have HX4 := Lib.hid (show Blk w4 w.heap.size 31 #[.int .i64 nd, .bool bk, .slice CA bl.length cc] by rw [hw4]; exact HX3.out.set_to rfl)
  have HK4 := Lib.hid (show Kept (fun _ => False) w w4 by rw [hw4]; exact HK3.out.setNew (Nat.le_refl _))
  have HC4 := Lib.hid (show Row w4 base 5 (.slice CA bl.length cc) (bcs bl) by rw [hw4]; exact HC3.out.far (HC3.out.ne HX3.out (by decide)))
  rw [← hw4]
  clear hw4 c1 f1 xl3 HX3 HK3 HC3
  have HB4 := Lib.hid (HBK.out.kept HK4.out (fun h => h))
  have HR4 := Lib.hid (HRW.out.kept HK4.out (fun _ _ h => h))
  obtain ⟨xb, hxb⟩ : ∃ xb, w.heap.size = xb := ⟨_, rfl⟩
  rw [hxb] at HX4 ⊢
  have m2 := HB4.out.cell 2
  have x0 := HX4.out.cell 0
  have x1 := HX4.out.cell 1
  have x2 := HX4.out.cell 2
  simp at m2 x0 x1 x2
  have ml4 := HB4.out.lt
  have xl4 := HX4.out.lt
  have HSL := Lib.hid (fun i (h : (Value.slice LA L.length lc).ownBlock = some i) => (show i < w4.heap.size from (HR4.out.lt i h).2))
  have HSM := Lib.hid (show ¬ (Value.slice LA L.length lc).ownBlock = some mb from HR4.out.ne HB4.out (by decide))
  have HSX := Lib.hid (show ¬ (Value.slice LA L.length lc).ownBlock = some xb from fun e => by have := (HRW.out.lt xb e).2; omega)
  have HEX := Lib.hid (show ∃ v u, Kept (fun i => (Value.slice LA L.length lc).ownBlock = some i) w4 u ∧ RowN u base 31 3 v ((L ++ [(⟨nd, bk, .slice CA bl.length cc, bl⟩ : Le)]).map Le.cs) from
    ⟨_, _, (Kept.refl _ _).alloc (.cells ((L ++ [(⟨nd, bk, .slice CA bl.length cc, bl⟩ : Le)]).map Le.cs).flatten.toArray 31), RowN.of_blk (n := L.length + 1) (Blk.new _ _ _) (by omega) (by unfold maxLen; omega) (sz_map Le.cs_len _) (by simp) (by simp)⟩)
  refine wp_region_add 8 (fun i => (Value.slice LA L.length lc).ownBlock = some i) [7] [] [(6, fun v u => ∃ g, v = .slice (some ⟨g, 0, none⟩) 1 1 ∧ w4.heap.size ≤ g ∧ Blk u g 31 #[.int .i64 nd, .bool bk, .slice CA bl.length cc]), (7, fun v u => RowN u base 31 3 v ((L ++ [(⟨nd, bk, .slice CA bl.length cc, bl⟩ : Le)]).map Le.cs))] ?st ?ne rfl (by kernel_rfl) (by kernel_rfl) (by kernel_rfl) ?_
  case st =>
    intro p hp
    simp only [List.mem_cons, List.not_mem_nil, or_false] at hp
    rcases hp with rfl | rfl
    · rintro v u u' ⟨g, rfl, h1, h⟩ hk; exact ⟨g, rfl, h1, h.kept hk (fun e => by have := HSL.out _ e; omega)⟩
    · intro v u u' h hk; exact h.kept hk (fun _ _ h => h)
  case ne =>
    intro p hp
    simp only [List.mem_cons, List.not_mem_nil, or_false] at hp
    rcases hp with rfl | rfl
    · exact ⟨_, _, (Kept.refl _ _).alloc _, _, rfl, Nat.le_refl _, Blk.new _ _ _⟩
    · exact HEX.out
  simp only [List.take_succ_cons, List.take_zero, List.drop_succ_cons, List.drop_zero]
  intro G pick hR hp1 hp2
  have p2 : ∀ u, (pick u).cell? ⟨mb, 2, none⟩ = some (.slice LA L.length lc) := fun u => ((hp1 u).cell ml4 HSM.out _).trans m2
  have q0 : ∀ u, (pick u).cell? ⟨xb, 0, none⟩ = some (.int .i64 nd) := fun u => ((hp1 u).cell xl4 HSX.out _).trans x0
  have q1 : ∀ u, (pick u).cell? ⟨xb, 1, none⟩ = some (.bool bk) := fun u => ((hp1 u).cell xl4 HSX.out _).trans x1
  have q2 : ∀ u, (pick u).cell? ⟨xb, 2, none⟩ = some (.slice CA bl.length cc) := fun u => ((hp1 u).cell xl4 HSX.out _).trans x2
  repeat (first | (refine wpR_det hp2 rfl ((hR.rel _).trans rfl) rfl ?_; intro K hK; go_big_quiet_op; go_big_quiet_on) | (refine wpR_ptr hp2 rfl ((hR.rel _).trans rfl) rfl rfl ?_; intro K hK; go_big_quiet_op; go_big_quiet_on) | (refine wpR_skip pick rfl ?_; intro K hK; go_big_quiet_op; go_big_quiet_on))
  refine wpR_rel pick rfl ((hR.rel _).trans rfl) ((hR.turns _).trans rfl) ?_ ?_
  · intro u hu
    have hk := hR.since hu.1
    have hks := hk.size
    unfold relAt
    go_simp
    exact ⟨hR.into0 ((Kept.refl _ _).alloc _), hR.put 0 rfl rfl ⟨_, rfl, hks, Blk.new _ _ _⟩⟩
  intro v hv
  obtain ⟨u, _, hu⟩ := hv
  obtain ⟨g6, rfl, hg6, -⟩ := hR.get 0 rfl hu
  clear hu
  intro K hK
  go_big_quiet_op
  go_big_quiet_on
  repeat (first | (refine wpR_det hp2 rfl ((hR.rel _).trans rfl) rfl ?_; intro K hK; go_big_quiet_op; go_big_quiet_on) | (refine wpR_ptr hp2 rfl ((hR.rel _).trans rfl) rfl rfl ?_; intro K hK; go_big_quiet_op; go_big_quiet_on) | (refine wpR_skip pick rfl ?_; intro K hK; go_big_quiet_op; go_big_quiet_on))
  refine wpR_turn pick rfl ((hR.rel _).trans rfl) ((hR.turns _).trans rfl) ((hR.adds _).trans rfl) ?_ ?_
  · intro u hu hM
    have hk := hR.since hu.1
    have hks := hk.size
    obtain ⟨g', e, -, hB6⟩ := (hR.get 0 rfl (hu.2 _ _ (Got.upd_self _ _ _) (by kernel_rfl)))
    obtain rfl : g6 = g' := by injection e with e; injection e with e; injection e
    have hK0 := hR.first hM
    have hR0 := HR4.out.kept hK0 (fun _ _ h => h)
    refine relAt_append_rowN (.tmp 32) (.tmp 34) 50 rfl base 31 _ 3 40 Try.underlying50 Try.infoLe rfl (by decide) _ (L.map Le.cs) rfl (some ⟨g6, 0, none⟩) 1 1 [[.int .i64 nd, .bool bk, .slice CA bl.length cc]] rfl rfl hR0 (by simp) (Src.blk hB6 rfl) (by intro u hu; simp at hu; rcases hu with rfl | rfl | rfl <;> rfl) ?_ ?_ ?_ ?_
    · unfold maxLen; simp; omega
    · simp; omega
    · omega
    · intro v' w' h1 h2 h3
      exact ⟨hR.into (kept_grown h2 (fun i e _ => e)), hR.put 1 rfl rfl (by rw [List.map_append]; exact h1)⟩
  intro v hv
  obtain ⟨u, _, hu⟩ := hv
  obtain hT7 := hR.get 1 rfl hu
  clear hu
  obtain ⟨VA, vc, hve, -, -⟩ := hT7.shape
  rw [List.length_map] at hve
  subst hve
  clear hT7
  intro K hK
  go_big_quiet_op
  go_big_quiet_on
  repeat (first | (refine wpR_det hp2 rfl ((hR.rel _).trans rfl) rfl ?_; intro K hK; go_big_quiet_op; go_big_quiet_on) | (refine wpR_ptr hp2 rfl ((hR.rel _).trans rfl) rfl rfl ?_; intro K hK; go_big_quiet_op; go_big_quiet_on) | (refine wpR_skip pick rfl ?_; intro K hK; go_big_quiet_op; go_big_quiet_on))
  refine wpR_nil ?_
  intro w5 hk2 hF hM
  have hs5 := hk2.size
  have HT5 := Lib.hid (hR.get 1 rfl hM)
  have HK5 := Lib.hid hk2
  have HB5 := Lib.hid (HB4.out.kept hk2 HSM.out)
  clear hF hM hk2 hp1 hp2 hR p2 q0 q1 q2 m2 x0 x1 x2 HEX hxb
  have c5 := HB5.out.cell
  have f5 := HB5.out.frozen
  have l5 := HB5.out.lt
  go_wp2_with fail
  go_ret
  go_light
  have hoth : Oth w w5 := fun g t cs hb h1 h2 => (hb.kept HK4.out (fun h => h)).kept HK5.out (fun e => by obtain ⟨cs', hb'⟩ := HR4.out.blk e; exact (hb.kept HK4.out (fun h => h)).ne_ hb' h2 rfl)
  have hoth2 : ∀ (u : Value), Oth w (w5.setCell ⟨mb, 2, none⟩ u) := fun u g t cs hb h1 h2 => (hoth g t cs hb h1 h2).far (p := ⟨mb, 2, none⟩) (fun e => by subst e; exact (hoth _ t cs hb h1 h2).ne_ HB5.out h1 rfl) _
  refine ⟨rfl, .slice CA bl.length cc, ⟨⟨VA, vc, ?_, ?_⟩, ?_, hlo⟩, hoth2 _, ?_⟩
  · exact HB5.out.set_to (by simp)
  · exact HT5.out.far (HT5.out.ne HB5.out (by decide))
  · intro x hx
    rcases List.mem_append.1 hx with hx | hx
    · exact le_oth (HOK.out x hx) (hoth2 _)
    · obtain rfl := List.mem_singleton.1 hx
      refine Row.far (?_ : Row w5 base 5 (.slice CA bl.length cc) (bcs bl)) ?_
      · exact HC4.out.kept HK5.out (fun g hg e => by obtain ⟨cs', hb'⟩ := HR4.out.blk e; exact HC4.out.ne hb' (by decide) hg)
      · exact HC4.out.ne HB4.out (by decide)
  · exact ((HK4.out.below hba (fun i h => h.elim)).trans (HK5.out.below (by have := HK4.out.size; omega) (fun i h => (HR4.out.lt i h).1))).setCell hlo _
end Go.Proofs.Ytggipaengnchgaa
