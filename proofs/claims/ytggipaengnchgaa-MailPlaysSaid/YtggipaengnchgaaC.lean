/- Take. -/
import Derived.Test.YtggipaengnchgaaB
namespace Go.Proofs.Ytggipaengnchgaa
open Go.RowKit
set_option linter.unusedVariables false
theorem oth_far {w w' : World} {b o : Nat} {s : Option _} {u : Value} (h : Oth w w') (hne : ∀ g t cs, Blk w g t cs → t ≠ 52 → t ≠ 31 → g ≠ b) : Oth w (w'.setCell ⟨b, o, s⟩ u) := fun g t cs hb h1 h2 => (h g t cs hb h1 h2).far (p := ⟨b, o, s⟩) (hne g t cs hb h1 h2) _
theorem erase_map (L : List Le) (i : Nat) : (L.map Le.cs).eraseIdx i = (L.eraseIdx i).map Le.cs := by
  rw [List.eraseIdx_eq_take_drop_succ, List.eraseIdx_eq_take_drop_succ, List.map_append, List.map_take, List.map_drop]
theorem take_no (mb base : Nat) (most lost : Int) (L : List Le) (i : Int) (w : World) (h : MlS mb base most lost L w) (hi : i < 0 ∨ (L.length : Int) ≤ i) (hl : L.length ≤ 100000) :
    Calls Try.prog 10 #[.pointer (some ⟨mb, 0, none⟩), .int .i64 i] w fun e w' => e = .returned (.tuple #[.agg #[.int .i64 0, .bool false, .slice none 0 0], .int .i64 6]) ∧ Below w.heap.size w w' := by
  have HN := Lib.hid (fun u (hu : MlS mb base most lost L u) => has_no mb base most lost L i u hu hi hl)
  have HM := Lib.hid h
  clear h hi
  go_enter Try.func10, Try.ntmps10
  go_wp2_with fail
  refine (HN.out _ (HM.out.on ((Kept.refl _ _).alloc _))).mono ?_
  rintro e w1 ⟨rfl, rfl⟩
  go_wp2_with fail
  exact bodyPost_ret (results_blk_tmp (P := Try.prog) Try.results10 _ _ w.heap.size 31 #[.int .i64 0, .bool false, .slice none 0 0] _ rfl (Blk.new _ _ _) Try.underlying31 rfl (by kernel_rfl)) rfl ⟨rfl, (Below.refl _ _).alloc (Nat.le_refl _) _⟩
theorem take_none (i : Int) (w : World) : Calls Try.prog 10 #[.pointer none, .int .i64 i] w fun e w' => e = .returned (.tuple #[.agg #[.int .i64 0, .bool false, .slice none 0 0], .int .i64 6]) ∧ Below w.heap.size w w' := by
  go_enter Try.func10, Try.ntmps10
  go_wp2_with fail
  refine (has_none i _).mono ?_
  rintro e w1 ⟨rfl, rfl⟩
  go_wp2_with fail
  exact bodyPost_ret (results_blk_tmp (P := Try.prog) Try.results10 _ _ w.heap.size 31 #[.int .i64 0, .bool false, .slice none 0 0] _ rfl (Blk.new _ _ _) Try.underlying31 rfl (by kernel_rfl)) rfl ⟨rfl, (Below.refl _ _).alloc (Nat.le_refl _) _⟩
def Took (mb base : Nat) (most lost : Int) (L : List Le) (i : Nat) (x : Le) (w : World) (e : Ending) (w' : World) : Prop :=
  e = .returned (.tuple #[.agg #[.int .i64 x.node, .bool x.back, x.v], .int .i64 0]) ∧ MlP mb base most lost (L.eraseIdx i) w w'
set_option maxHeartbeats 2000000 in
theorem take_ok (mb base : Nat) (most lost : Int) (L : List Le) (i : Nat) (x : Le) (w : World) (h : MlS mb base most lost L w) (hx : L[i]? = some x) (hl : L.length ≤ 100000) (hba : base ≤ w.heap.size) :
    Calls Try.prog 10 #[.pointer (some ⟨mb, 0, none⟩), .int .i64 (i : Int)] w (Took mb base most lost L i x w) := by
  obtain ⟨hi, hxe⟩ := List.getElem?_eq_some_iff.1 hx
  have HN := Lib.hid (fun u (hu : MlS mb base most lost L u) => has_yes mb base most lost L (i : Int) u hu (by omega) (by omega) hl)
  have HM := Lib.hid h
  obtain ⟨⟨LA, lc, hB, hR⟩, hO, hlo⟩ := h
  obtain ⟨g, c', e, hbg, hgl, hel⟩ := hR.at (i := i) (by simpa using hi)
  injection e with e1 e2 e3
  subst e1 e3
  have hi' : i < (L.map Le.cs).length := by simpa using hi
  have d0 := hel.get0 hi' (by omega)
  have d1 := hel.get hi' 1 (by omega)
  have d2 := hel.get hi' 2 (by omega)
  have hok := hO L[i] (List.getElem_mem hi)
  simp only [List.getElem_map, hxe] at d0 d1 d2 hok
  obtain ⟨nd, bk, v, bl⟩ := x
  obtain ⟨XA, xc, hv, -, -⟩ := (show Row w base 5 v (bcs bl) from hok).shape
  rw [bcs_length] at hv
  subst hv
  simp [Le.cs] at d0 d1 d2
  have HBK := Lib.hid hB
  have HRW := Lib.hid hR
  have HOK := Lib.hid hO
  have HLE := Lib.hid (le_one L base w hO)
  have D0 := Lib.hid d0
  have D1 := Lib.hid d1
  have D2 := Lib.hid d2
  have mlw := hB.lt
  have gne : g ≠ mb := fun e => by subst e; exact hR.ne hB (by decide) rfl
  clear hB hR hO hel hok hxe hx d0 d1 d2 e2 hi'
  have iI : (i : Int) < (L.length : Int) := by omega
  have i0 : (0 : Int) ≤ (i : Int) := by omega
  go_enter Try.func10, Try.ntmps10
  go_wp2_with fail
  refine (HN.out _ (HM.out.on ((Kept.refl _ _).alloc _))).mono ?_
  rintro e w1 ⟨rfl, hw1⟩
  rw [← hw1] at *
  clear HN
  have HK1 := Lib.hid (show Kept (fun _ => False) w (w.alloc (.cells #[.int .i64 0, .bool false, .slice none 0 0] 31)) from (Kept.refl _ _).alloc _)
  obtain ⟨w1, hw1⟩ : ∃ w1 : World, w1 = w.alloc (.cells #[.int .i64 0, .bool false, .slice none 0 0] 31) := ⟨_, rfl⟩
  have HZ1 := Lib.hid (show Blk w1 w.heap.size 31 #[.int .i64 0, .bool false, .slice none 0 0] by rw [hw1]; exact Blk.new _ _ _)
  have hs1 : w1.heap.size = w.heap.size + 1 := by rw [hw1]; simp
  rw [← hw1] at HK1 ⊢
  clear hw1
  have c2 := (HBK.out.kept HK1.out (fun h => h)).cell 2
  simp at c2
  have d0 := (HK1.out.cell hgl (fun h => h) _).trans D0.out
  have d1 := (HK1.out.cell hgl (fun h => h) _).trans D1.out
  have d2 := (HK1.out.cell hgl (fun h => h) _).trans D2.out
  have ml1 : mb < w1.heap.size := by omega
  have gl1 : g < w1.heap.size := by omega
  go_upto_region 4 with fail
  obtain ⟨w2, hw2⟩ : ∃ w2 : World, w2 = w1.alloc (.cells #[.int .i64 nd, .bool bk, .slice XA bl.length xc] 31) := ⟨_, rfl⟩
  have HK2 := Lib.hid (show Kept (fun _ => False) w w2 by rw [hw2]; exact HK1.out.alloc _)
  have HZ2 := Lib.hid (show Blk w2 w.heap.size 31 #[.int .i64 0, .bool false, .slice none 0 0] by rw [hw2]; exact HZ1.out.alloc _)
  have HX2 := Lib.hid (show Blk w2 (w.heap.size + 1) 31 #[.int .i64 nd, .bool bk, .slice XA bl.length xc] by rw [hw2]; exact Blk.new_ hs1.symm _ _)
  have hs2 : w2.heap.size = w.heap.size + 2 := by rw [hw2]; simp; omega
  rw [← hw2]
  clear hw2 c2 d0 d1 d2 ml1 gl1 HK1 HZ1 hs1
  have HB2 := Lib.hid (HBK.out.kept HK2.out (fun h => h))
  have HR2 := Lib.hid (HRW.out.kept HK2.out (fun _ _ h => h))
  have hde := delete_any g lc base i (L.map Le.cs) w2 (by simpa using hi) (by simpa using hl) HLE.out (by rw [List.length_map]; exact HR2.out)
  rw [List.length_map, erase_map] at hde
  have HDE := Lib.hid hde
  clear hde
  have c2 := HB2.out.cell 2
  simp at c2
  have ml2 := HB2.out.lt
  go_wp2_with fail
  refine HDE.out.mono ?_
  rintro e w3 ⟨rfl, hR3, hk3⟩
  have hs3 := hk3.size
  have HB3 := Lib.hid (HB2.out.kept hk3 (fun h => gne h.symm))
  have HZ3 := Lib.hid (HZ2.out.kept hk3 (fun h => by omega))
  have HX3 := Lib.hid (HX2.out.kept hk3 (fun h => by omega))
  have HR3 := Lib.hid hR3
  have HK3 := Lib.hid hk3
  clear hR3 hk3 HDE c2 ml2 HZ2 HX2
  have c3 := HB3.out.cell
  have f3 := HB3.out.frozen
  have cz := HZ3.out.cell
  have fz := HZ3.out.frozen
  have cx := HX3.out.cell
  have l3 := HB3.out.lt
  have lz := HZ3.out.lt
  have lx := HX3.out.lt
  have n1 : mb ≠ w.heap.size := by omega
  have n2 : mb ≠ w.heap.size + 1 := by omega
  go_wp2_with fail
  have hoth : Oth w w3 := fun g' t cs hb h1 h2 => (hb.kept HK2.out (fun h => h)).kept HK3.out (fun e => by subst e; obtain ⟨cs', hb'⟩ := HR2.out.blk rfl; exact (hb.kept HK2.out (fun h => h)).ne_ hb' h2 rfl)
  have hA : ∀ g' t cs, Blk w g' t cs → t ≠ 52 → t ≠ 31 → g' ≠ mb := fun g' t cs hb h1 _ => hb.ne_ HBK.out h1
  have hZ : ∀ g' t cs, Blk w g' t cs → t ≠ 52 → t ≠ 31 → g' ≠ w.heap.size := fun g' t cs hb _ _ => by have := hb.lt; omega
  refine bodyPost_ret (results_blk_tmp (P := Try.prog) Try.results10 _ _ w.heap.size 31 #[.int .i64 nd, .bool bk, .slice XA bl.length xc] _ rfl ?_ Try.underlying31 rfl (by kernel_rfl)) rfl ⟨rfl, ⟨⟨some ⟨g, 0, none⟩, lc, ?_, ?_⟩, ?_, hlo⟩, ?_, ?_⟩
  · go_light
    repeat (first | (with_reducible apply Blk.set_to) | ((with_reducible apply Blk.far'); omega))
    exact HZ3.out
    all_goals rfl
  · go_light
    repeat ((with_reducible apply Blk.far'); omega)
    refine HB3.out.set_to ?_
    rw [List.length_eraseIdx_of_lt hi]; rfl
  · go_light
    rw [List.length_eraseIdx_of_lt hi]
    have hn1 := HR3.out.ne HB3.out (by decide)
    have hn2 : (Value.slice (some ⟨g, 0, none⟩) (L.length - 1) lc).ownBlock ≠ some w.heap.size := by
      intro e
      have e' : g = w.heap.size := by simpa [Value.ownBlock] using e
      omega
    repeat (first | (with_reducible refine RowN.far ?_ hn2) | (with_reducible refine RowN.far ?_ hn1))
    exact HR3.out
  · go_light
    intro y hy
    refine le_oth (HOK.out y (List.mem_of_mem_eraseIdx hy)) ?_
    repeat (first | (with_reducible refine oth_far ?_ hA) | (with_reducible refine oth_far ?_ hZ))
    exact hoth
  · go_light
    repeat (first | (with_reducible refine oth_far ?_ hA) | (with_reducible refine oth_far ?_ hZ))
    exact hoth
  · go_light
    refine Kept.below (S := fun i => base ≤ i) ?_ hba (fun i h => h)
    repeat ((with_reducible apply Kept.setIn); omega)
    exact (HK2.out.mono (fun _ _ h => h.elim)).trans (HK3.out.mono (fun i _ h => by omega))
end Go.Proofs.Ytggipaengnchgaa
