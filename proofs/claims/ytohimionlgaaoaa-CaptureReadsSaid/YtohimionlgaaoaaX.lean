/- The law CaptureReads at any bytes. -/
import Derived.Test.YtohimionlgaaoaaV
import Derived.Test.YtohimionlgaaoaaW
namespace Go.Proofs.Ytohimionlgaaoaa
open Go.RowKit
set_option linter.unusedVariables false
theorem reads_long (gs gn : Bool) (gm gl : Int) (mt : Nat) (A : Option Addr) (c : Nat) (b : List UInt8) (w : World) (h : 2000 < b.length) (hl : b.length ≤ 9223372036854775807) :
    Calls Try.prog 4 #[.slice A b.length c, .agg #[.bool gs, .bool gn, .int .u32 gm, .int .u32 gl], .int .u8 (mt : Int)] w fun e w' => e = .returned (.bool true) ∧ Below w.heap.size w w' := by
  go_enter Try.func4, Try.ntmps4
  have i1 : (2000 : Int) < (b.length : Int) := by omega
  go_upto_region 1 with fail
  obtain ⟨w1, hw1⟩ : ∃ w1 : World, w1 = w.alloc (.cells #[.bool gs, .bool gn, .int .u32 gm, .int .u32 gl] 24) := ⟨_, rfl⟩
  have HB := Lib.hid (show Below w.heap.size w w1 by rw [hw1]; exact (Below.refl _ w).alloc (Nat.le_refl _) _)
  rw [← hw1]
  clear hw1
  go_wp2_with fail
  refine (awake_any _).mono ?_
  rintro e wz ⟨rfl, hbz⟩
  have HBZ := Lib.hid (HB.out.trans (hbz.mono HB.out.size))
  clear hbz
  go_wp2_with fail
  go_ret
  exact ⟨rfl, HBZ.out⟩
theorem reads_l (gs gn : Bool) (gm gl : Int) (m : Int) (A : Option Addr) (c : Nat) (b : List UInt8) (w : World) (hgm : 0 ≤ gm ∧ gm ≤ 4294967295) (hgl : 0 ≤ gl ∧ gl ≤ 4294967295) (hm : 0 ≤ m ∧ m ≤ 255) (hc : b.length ≤ c) (hcm : c ≤ maxLen) (hB : BS w w.heap.size A b) :
    Calls Try.prog 4 #[.slice A b.length c, .agg #[.bool gs, .bool gn, .int .u32 gm, .int .u32 gl], .int .u8 m] w fun e w' => e = .returned (.bool true) ∧ Below w.heap.size w w' := by
  obtain ⟨mt, rfl⟩ : ∃ k : Nat, m = (k : Int) := ⟨m.toNat, by omega⟩
  by_cases hl : 2000 < b.length
  · exact reads_long gs gn gm gl mt A c b w hl (by unfold maxLen at hcm; omega)
  · by_cases hok : ∃ sm na, okF sm na b
    · obtain ⟨sm, na, h⟩ := hok
      exact reads_yes gs gn gm gl mt A c b w hgm hgl (by omega) (by omega) hc hcm hB sm na _ _ h rfl rfl
    · have hno : noF b := fun sm na h => hok ⟨sm, na, h⟩
      by_cases h24 : b.length < 24
      · exact reads_20 gs gn gm gl mt A c b w hgm hgl (by omega) (by omega) hc hcm hB hno (by rw [errOf, if_pos h24])
      · exact reads_21 gs gn gm gl mt A c b w hgm hgl (by omega) (by omega) hc hcm hB hno (by rw [errOf, if_neg h24])
end Go.Proofs.Ytohimionlgaaoaa
