/- Clear; same. -/
import Derived.Test.YtggipaengnchgaaE
namespace Go.Proofs.Ytggipaengnchgaa
open Go.RowKit
set_option linter.unusedVariables false
theorem slv_of (L : List Le) (base : Nat) (w : World) (h : ∀ x ∈ L, x.ok base w) : SlV L := fun x hx => by
  obtain ⟨A, c, e, -, -⟩ := (show Row w base 5 x.v (bcs x.l) from h x hx).shape
  exact ⟨A, _, c, e⟩
theorem keepN_le (L : List Le) (node : Int) : (keepN L node).length ≤ L.length := List.length_filter_le _ _
def Cleared (mb base : Nat) (most lost : Int) (L : List Le) (node : Int) (w : World) (e : Ending) (w' : World) : Prop :=
  e = .returned (.int .i64 ((L.length : Int) - ((keepN L node).length : Int))) ∧ MlP mb base most (lost + ((L.length : Int) - ((keepN L node).length : Int))) (keepN L node) w w'
theorem clear_none (node : Int) (w : World) : Calls Try.prog 9 #[.pointer none, .int .i64 node] w fun e w' => e = .returned (.int .i64 0) ∧ Below w.heap.size w w' := by
  go_enter Try.func9, Try.ntmps9
  go_wp2_with fail
  go_ret
  exact ⟨rfl, (Below.refl _ _).alloc (Nat.le_refl _) _⟩
set_option maxHeartbeats 2000000 in
theorem clear_any (mb base : Nat) (most lost node : Int) (L : List Le) (w : World) (h : MlS mb base most lost L w) (hl : L.length ≤ 100000) (hlost : 0 ≤ lost ∧ lost ≤ 1000000000) (hba : base ≤ w.heap.size) :
    Calls Try.prog 9 #[.pointer (some ⟨mb, 0, none⟩), .int .i64 node] w (Cleared mb base most lost L node w) := by
  obtain ⟨ls0, ls1⟩ := hlost
  obtain ⟨⟨LA, lc, hB, hR⟩, hO, hlo⟩ := h
  have HBK := Lib.hid hB
  have HRW := Lib.hid hR
  have HOK := Lib.hid hO
  have HSV := Lib.hid (slv_of L base w hO)
  have c2 := hB.cell 2
  simp at c2
  have mlw := hB.lt
  have hkl := keepN_le L node
  have HSM := Lib.hid (show ¬ (Value.slice LA L.length lc).ownBlock = some mb from hR.ne hB (by decide))
  clear hB hR hO
  go_enter Try.func9, Try.ntmps9
  go_wp2_with fail
  obtain ⟨w1, hw1⟩ : ∃ w1 : World, w1 = w.alloc (.cells #[.int .i64 node] 3) := ⟨_, rfl⟩
  have HK1 := Lib.hid (show Kept (fun _ => False) w w1 by rw [hw1]; exact (Kept.refl _ _).alloc _)
  have HN1 := Lib.hid (show Blk w1 w.heap.size 3 #[.int .i64 node] by rw [hw1]; exact Blk.new _ _ _)
  rw [← hw1]
  clear hw1
  have HR1 := Lib.hid (HRW.out.kept HK1.out (fun _ _ h => h))
  refine (deleteF_any w.heap.size node LA lc base L w1 hl HSV.out HN1.out HR1.out).mono ?_
  rintro e w2 ⟨rfl, hR2, hk2⟩
  have hs2 := hk2.size
  have hs1 := HK1.out.size
  have HB2 := Lib.hid ((HBK.out.kept HK1.out (fun h => h)).kept hk2 HSM.out)
  have HR2 := Lib.hid hR2
  have HK2 := Lib.hid hk2
  obtain ⟨kn, hkn⟩ : ∃ kn, (keepN L node).length = kn := ⟨_, rfl⟩
  have HKN := Lib.hid hkn
  rw [hkn] at hkl HR2 ⊢
  clear hR2 hk2 hkn c2
  have c3 := HB2.out.cell
  have f3 := HB2.out.frozen
  have l3 := HB2.out.lt
  go_wp2_with fail
  go_ret
  go_light
  have hoth : Oth w w2 := fun g' t cs hb h1 h2 => (hb.kept HK1.out (fun h => h)).kept HK2.out (fun e => by obtain ⟨cs', hb'⟩ := HR1.out.blk e; exact (hb.kept HK1.out (fun h => h)).ne_ hb' h2 rfl)
  have hA : ∀ g' t cs, Blk w g' t cs → t ≠ 52 → t ≠ 31 → g' ≠ mb := fun g' t cs hb h1 _ => hb.ne_ HBK.out h1
  have hn1 := HR2.out.ne HB2.out (by decide)
  unfold Cleared
  rw [HKN.out]
  refine ⟨rfl, ⟨⟨LA, lc, ?_, ?_⟩, ?_, hlo⟩, ?_, ?_⟩
  · refine ((HB2.out.set_ _ _).set_to ?_)
    rw [HKN.out]; rfl
  · rw [HKN.out]
    exact (HR2.out.far hn1).far hn1
  · intro y hy
    exact le_oth (HOK.out y (List.mem_filter.1 hy).1) (oth_far (oth_far hoth hA) hA)
  · exact oth_far (oth_far hoth hA) hA
  · exact (((HK1.out.below hba (fun i h => h.elim)).trans (HK2.out.below (by omega) (fun i h => (HR1.out.lt i h).1))).setCell hlo _).setCell hlo _
set_option maxHeartbeats 1000000 in
theorem same_yes (nd : Int) (bk : Bool) (l : List UInt8) (A1 A2 : Option Addr) (c1 c2 : Nat) (w : World) (h1 : BS w w.heap.size A1 l) (h2 : BS w w.heap.size A2 l) :
    Calls Try.prog 11 #[.agg #[.int .i64 nd, .bool bk, .slice A1 l.length c1], .agg #[.int .i64 nd, .bool bk, .slice A2 l.length c2]] w fun e w' => e = .returned (.bool true) ∧ Below w.heap.size w w' := by
  have H1 := Lib.hid h1
  have H2 := Lib.hid h2
  clear h1 h2
  go_enter Try.func11, Try.ntmps11
  go_upto_region 1 with fail
  obtain ⟨w1, hw1⟩ : ∃ w1 : World, w1 = (w.alloc (.cells #[.int .i64 nd, .bool bk, .slice A1 l.length c1] 31)).alloc (.cells #[.int .i64 nd, .bool bk, .slice A2 l.length c2] 28) := ⟨_, rfl⟩
  have HK1 := Lib.hid (show Kept (fun _ => False) w w1 by rw [hw1]; exact ((Kept.refl _ _).alloc _).alloc _)
  have HX := Lib.hid (show Blk w1 w.heap.size 31 #[.int .i64 nd, .bool bk, .slice A1 l.length c1] by rw [hw1]; exact (Blk.new _ _ _).alloc _)
  have HY := Lib.hid (show Blk w1 (w.heap.size + 1) 28 #[.int .i64 nd, .bool bk, .slice A2 l.length c2] by rw [hw1]; exact Blk.new_ (by simp) _ _)
  rw [← hw1]
  clear hw1
  have v1 := (H1.out.on HK1.out (fun _ _ h => h)).conv (P := Try.prog) (c := c1) Try.underlying26 Try.underlying5 Try.underlying9
  have v2 := (H2.out.on HK1.out (fun _ _ h => h)).conv (P := Try.prog) (c := c2) Try.underlying26 Try.underlying5 Try.underlying9
  have cx := HX.out.cell
  have cy := HY.out.cell
  have lx := HX.out.lt
  have ly := HY.out.lt
  go_wp2_with fail
  go_ret
  exact ⟨rfl, HK1.out.below (Nat.le_refl _) (fun i h => h.elim)⟩
end Go.Proofs.Ytggipaengnchgaa
