/- Contract of the reference's Num. -/
import Derived.Test.YthfdhggcnkgjfaaGreatDoorRows
import Derived.Test.YthfdhggcnkgjfaaGreatDoorBase
import Derived.Outline
import Derived.Deep.Light
import Derived.Deep.DeepCutAuto
import Derived.Deep.LoopGhost
namespace Go.Proofs.YthfdhggcnkgjfaaGreatDoor
open Go.RowKit
set_option linter.unusedVariables false

theorem refNum_any (A : Option Addr) (c : Nat) (l : List UInt8) (w : World) (hl : l.length ≤ 8) (hB : BS w w.heap.size A l) :
    Calls Tryz.prog 49 #[.slice A l.length c] w fun e w' => e = .returned (.int .u64 (num l)) ∧ w = w' := by
  have HS := Lib.hid hB
  clear hB
  go_enter Tryz.func49, Tryz.ntmps49
  go_wp2_with fail
  go_loop [3, 4] (fun n i => ∃ j : Nat, j ≤ l.length ∧ i = .int .i64 (j : Int) ∧ n = .int .u64 (num (l.take j))) (fun _ i => l.length - (intOf i).toNat)
  case atStart => exact ⟨0, by omega, rfl, rfl⟩
  case round =>
    obtain ⟨j, hj, rfl, rfl⟩ := hrel
    by_cases hjk : j < l.length
    · obtain ⟨b, o, hb, rfl, hba⟩ := HS.out.at hjk
      have c1 := hba j hjk
      have hns := num_small l j (by omega) (by omega)
      have HT := Lib.hid (num_take l j hjk)
      generalize num (l.take j) = n at hns HT ⊢
      generalize hx : l[j] = x at c1 HT
      clear hx
      have x0 := byte_le x
      have x1 : (0 : Int) ≤ (x.toNat : Int) := by omega
      have jI : (j : Int) < (l.length : Int) := by omega
      obtain ⟨n0, n1⟩ := hns
      clear hba
      go_wp2_with fail
      go_round
      case rel => exact ⟨j + 1, by omega, by go_num, by rw [HT.out]⟩
      case measure => simp [intOf]; omega
    · go_wp2_with fail
      go_ret
      obtain rfl : j = l.length := by omega
      exact ⟨ret_int (by rw [List.take_of_length_le (Nat.le_refl _)]), rfl⟩

end Go.Proofs.YthfdhggcnkgjfaaGreatDoor
