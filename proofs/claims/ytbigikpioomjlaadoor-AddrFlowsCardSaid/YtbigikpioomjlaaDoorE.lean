/- Parse at what awake meets. -/
import Derived.Test.YtbigikpioomjlaaDoorD
namespace Go.Proofs.YtbigikpioomjlaaDoor
open Go.RowKit
set_option linter.unusedVariables false
set_option maxHeartbeats 2000000 in
theorem parse_any (w : World) : Calls Tryd.prog 12 #[.string ⟨#[49, 48, 46, 48, 46, 48, 46, 48, 49]⟩] w fun e w' => e = .returned (.tuple #[.agg #[.bool false, .int .u64 0, .int .u64 0], .int .i64 21]) ∧ Below w.heap.size w w' := by
  go_enter Tryd.func12, Tryd.ntmps12
  go_wp2_with fail
  refine (gr6_any _).mono ?_
  rintro e w1 ⟨rfl, hb1⟩
  have HN1 := Lib.hid ((Blk.new w 24 #[.bool false, .int .u64 0, .int .u64 0]).below hb1 (by simp))
  have HB1 := Lib.hid (((Below.refl w.heap.size w).alloc (Nat.le_refl _) _).trans (hb1.mono (by simp)))
  have hs1 := hb1.size
  simp only [World.size_alloc] at hs1
  clear hb1
  go_wp2_with fail
  refine (gr4_any _).mono ?_
  rintro e w2 ⟨rfl, hb2⟩
  have hN2 := HN1.out.below hb2 (by omega)
  have HN2 := Lib.hid hN2
  have HB2 := Lib.hid (HB1.out.trans (hb2.mono (by omega)))
  have c0 := hN2.cell 0
  have c1 := hN2.cell 1
  have c2 := hN2.cell 2
  have f0 := hN2.frozen 0
  have f1 := hN2.frozen 1
  have f2 := hN2.frozen 2
  simp only [List.getElem?_toArray, List.getElem?_cons_zero, List.getElem?_cons_succ] at c0 c1 c2
  clear hb2 hN2
  go_wp2_with fail
  refine bodyPost_ret (results_blk_tmp (P := Tryd.prog) (show Tryd.f12.results = _ from rfl) _ _ w.heap.size 24 #[.bool false, .int .u64 0, .int .u64 0] _ rfl ?_ Tryd.underlying24 rfl (by kernel_rfl)) rfl ⟨rfl, ?_⟩
  · exact (((HN2.out.set_to (i := 0) rfl).set_to (i := 1) rfl).set_to (i := 2) rfl)
  · exact ((HB2.out.setCell (Nat.le_refl _) _).setCell (Nat.le_refl _) _).setCell (Nat.le_refl _) _
theorem digit_small (w : World) (i : Nat) (hi : i < 100) : Calls Tryd.prog 26 #[.int .i64 (i : Int)] w fun e w' => e = .returned (.string ⟨(Lib.decDigits i).toArray⟩) ∧ w' = w := by
  have h0 : (0 : Int) ≤ (i : Int) := by omega
  have HI := Lib.hid (Tryd.strconv_Itoa_small i hi w)
  go_enter Tryd.func26, Tryd.ntmps26
  go_wp2_with fail
  refine HI.out.mono ?_
  rintro e w1 ⟨rfl, rfl⟩
  go_wp2_with fail
  go_ret
  exact ⟨rfl, rfl⟩
end Go.Proofs.YtbigikpioomjlaaDoor
