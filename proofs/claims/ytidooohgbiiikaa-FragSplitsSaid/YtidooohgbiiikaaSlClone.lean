/- slices.Clone at bytes. -/
import Derived.Test.YtidooohgbiiikaaRows
import Derived.Test.YtidooohgbiiikaaBytesB
import Derived.Test.YtidooohgbiiikaaRgW
import Derived.Outline
import Derived.Deep.Light
import Derived.Deep.DeepCutAuto
import Derived.Deep.LoopGhost
import Derived.Lib.SliceRun
import Derived.RegionTactic
import Derived.BigRegion
namespace Go.Proofs.Ytidooohgbiiikaa
open Go.RowKit
set_option linter.unusedVariables false
theorem Try.info5sc : (Try.prog.info? 5).map (fun i => (i.zero, i.size, i.bytes)) = some (some (.int .u8 0), 1, 1) := by kernel_rfl
theorem slClone_any (A : Option Addr) (c : Nat) (l : List UInt8) (w : World) (hl : l.length ≤ 1000000) (hB : BS w w.heap.size A l) :
    Calls Try.prog 15 #[.slice A l.length c] w fun e w' => ∃ v, e = .returned v ∧ Row w' w.heap.size 5 v (bcs l) ∧ Below w.heap.size w w' := by
  have hq := fun W => Lib.run_eql_slice_nil (P := Try.prog) W 22 5 A l.length c 0 0 Try.underlying22
  have h5 := Try.info5sc
  have HB := Lib.hid hB
  cases A with
  | none =>
    obtain rfl : l = [] := by
      rcases hB with h | ⟨_, _, _, h, _⟩
      · exact h
      · cases h
    clear hB hq
    have hq := fun W => Lib.run_eql_slice_nil (P := Try.prog) W 22 5 none 0 c 0 0 Try.underlying22
    go_enter Try.func15, Try.ntmps15
    go_wp2_with fail
    go_ret
    exact ⟨_, rfl, Row.nil _ _ _, Below.refl _ _⟩
  | some A =>
    clear hB
    go_enter Try.func15, Try.ntmps15
    go_wp2_with (at_builtin; refine wpList_append_row rfl (.tmp 5) (.tmp 6) 22 rfl w.heap.size 5 (.int .u8 0) 1 Try.underlying22 h5 rfl _ [] rfl (some A) l.length c (bcs l) rfl (bcs_length l).symm ?a1 ?a2 (bcs_one l) ?a3 ?a4 ?a5 ?_)
    case a1 => exact Row.of_blk (cs := #[]) (Blk.new_ rfl _ _) (Nat.le_refl _) (by simp) rfl
    case a2 => exact (HB.out.alloc (Nat.le_refl _) _).src
    case a3 => rw [bcs_length]; unfold maxLen; simp; omega
    case a4 => rw [bcs_length]; simp; omega
    case a5 => simp
    intro v1 w1 hrow hgr _
    have HR := Lib.hid hrow
    have HB1 := Lib.hid (show Below w.heap.size w w1 from ((Below.refl _ _).alloc (Nat.le_refl _) _).trans (below_grown hgr (fun i e => by simp [Value.ownBlock] at e; omega) (by simp)))
    clear hrow hgr
    go_wp2_with fail
    go_ret
    exact ⟨_, rfl, HR.out, HB1.out⟩
end Go.Proofs.Ytidooohgbiiikaa
