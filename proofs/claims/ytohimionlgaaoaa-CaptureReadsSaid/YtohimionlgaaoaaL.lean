/- File.All, walked. -/
import Derived.Test.YtohimionlgaaoaaK
namespace Go.Proofs.Ytohimionlgaaoaa
open Go.RowKit
set_option linter.unusedVariables false
set_option maxRecDepth 10000 in
set_option maxHeartbeats 8000000 in
theorem allc_any (sm na : Bool) (mo li : Int) (A : Option Addr) (c : Nat) (b : List UInt8) (w : World) (hl : b.length ≤ 100000) (hB : BS w w.heap.size A b) :
    Calls Try.prog 29 #[.agg #[.bool sm, .bool na, .int .u32 mo, .int .u32 li], .slice A b.length c] w fun e w' => ∃ ob fb CA cc, e = .returned (.func (.func 38) #[] #[.pointer (some ⟨ob, 0, none⟩), .pointer (some ⟨fb, 0, none⟩)]) ∧
      Blk w' ob 25 #[.slice CA b.length cc] ∧ Blk w' fb 29 #[.bool sm, .bool na, .int .u32 mo, .int .u32 li] ∧ Row w' w.heap.size 5 (.slice CA b.length cc) (bcs b) ∧ w.heap.size ≤ ob ∧ w.heap.size ≤ fb ∧ Below w.heap.size w w' := by
  have HB := Lib.hid hB
  clear hB
  go_enter Try.func29, Try.ntmps29
  go_upto_region 1 with fail
  obtain ⟨w1, hw1⟩ : ∃ w1 : World, w1 = w.alloc (.cells #[.bool sm, .bool na, .int .u32 mo, .int .u32 li] 29) := ⟨_, rfl⟩
  have HF := Lib.hid (show Blk w1 w.heap.size 29 #[.bool sm, .bool na, .int .u32 mo, .int .u32 li] by rw [hw1]; exact Blk.new _ _ _)
  have HK1 := Lib.hid (show Kept (fun _ => False) w w1 by rw [hw1]; exact (Kept.refl _ _).alloc _)
  rw [← hw1]
  clear hw1
  obtain ⟨fb, hfb⟩ : ∃ fb, w.heap.size = fb := ⟨_, rfl⟩
  have HFB := Lib.hid hfb
  rw [hfb] at HF ⊢
  clear hfb
  go_wp2_with fail
  refine (slClone_any A c b w1 (by omega) (HB.out.on HK1.out (fun _ _ h => h))).mono ?_
  rintro e w2 ⟨v, rfl, hv, hb2⟩
  obtain ⟨CA, cc, rfl, -, -⟩ := hv.shape
  rw [bcs_length] at hv ⊢
  have HV := Lib.hid hv
  have HK2 := Lib.hid (show Kept (fun _ => False) w1 w2 from Kept.quietly hb2)
  clear hv hb2
  go_wp2_with fail
  have hne : fb ≠ w2.heap.size := by have := HF.out.lt; have := HK2.out.size; omega
  refine bodyPost_ret (results_tmp (show Try.f29.results = _ from rfl) _ _ _) rfl ⟨w2.heap.size, fb, CA, cc, rfl, Blk.new w2 25 _, (HF.out.kept HK2.out (fun h => h)).alloc _, ?_, ?_, ?_, ?_⟩
  · exact (HV.out.alloc _).more HK1.out.size
  · have := HK1.out.size; have := HK2.out.size; omega
  · exact Nat.le_of_eq HFB.out
  · exact (HK1.out.trans (HK2.out.alloc _)).below (Nat.le_refl _) (fun i h => h.elim)
end Go.Proofs.Ytohimionlgaaoaa
