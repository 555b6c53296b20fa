/- Contract of the reference's Set. -/
import Derived.Test.YtdnbhmfofphblaaGreatDoorRows
import Derived.Test.YtdnbhmfofphblaaGreatDoorBase
import Derived.Outline
import Derived.Deep.Light
import Derived.Deep.DeepCutAuto
import Derived.Deep.LoopGhost
namespace Go.Proofs.YtdnbhmfofphblaaGreatDoor
set_option maxRecDepth 100000
open Go.RowKit
set_option linter.unusedVariables false

theorem Tryz.info5s : (Tryz.prog.info? 5).map (fun i => (i.zero, i.size, i.bytes)) = some (some (.int .u8 0), 1, 1) := by kernel_rfl

theorem refSet_any (A C : Option Addr) (c d off : Nat) (l x : List UInt8) (w : World) (hl : l.length ≤ 1000000) (hB : BS w w.heap.size A l) (hC : BS w w.heap.size C x) (hoff : off + x.length ≤ l.length) (h0 : 0 < x.length) :
    Calls Tryz.prog 61 #[.slice A l.length c, .int .i64 (off : Int), .slice C x.length d] w fun e w' => ∃ v, e = .returned v ∧ Byt w' v (over l off x) ∧ Below w.heap.size w w' := by
  obtain ⟨b', o', hb', rfl, hC'⟩ := hC.at (k := 0) h0
  have HB := Lib.hid hB
  have HC := Lib.hid hC'
  have h5 := Tryz.info5s
  clear hB hC hC'
  go_enter Tryz.func61, Tryz.ntmps61
  go_wp2_with (at_builtin; refine wpList_append_row rfl (.tmp 9) (.tmp 10) 44 rfl w.heap.size 5 (.int .u8 0) 1 Tryz.underlying44 h5 rfl _ [] rfl A l.length c (bcs l) rfl (bcs_length l).symm ?a1 ?a2 (bcs_one l) ?a3 ?a4 ?a5 ?_)
  case a1 => exact Row.of_blk (cs := #[]) (Blk.new_ rfl _ _) (Nat.le_refl _) (by simp) rfl
  case a2 => exact (HB.out.alloc (Nat.le_refl _) _).src
  case a3 => rw [bcs_length]; unfold maxLen; simp; omega
  case a4 => rw [bcs_length]; simp; omega
  case a5 => simp
  intro v1 w1 hrow hgr _
  obtain ⟨g, cap, rfl, hg, hglt, _⟩ := hrow.at (i := 0) (by simp [bcs_length]; omega)
  rw [bcs_length] at hrow ⊢
  obtain ⟨hO, -, -⟩ := hrow.own
  have hb1 : Below w.heap.size w w1 := ((Below.refl _ _).alloc (Nat.le_refl _) _).trans (below_grown hgr (fun i e => by simp [Value.ownBlock] at e; omega) (by simp))
  have hs1 := hb1.size
  have HO := Lib.hid hO
  have HB1 := Lib.hid hb1
  clear hrow hgr hO hb1
  go_wp2_with fail
  go_loopw [8] (fun i wr => ∃ k : Nat, k ≤ x.length ∧ i = .int .i64 (k : Int) ∧ Hid (Own wr 5 g cap (over l off (x.take k))) ∧ Hid (Below w.heap.size w wr)) (fun i _ => x.length - (intOf i).toNat)
  case atStart => exact ⟨0, by omega, rfl, by rw [over_zero]; exact HO, HB1⟩
  case round =>
    obtain ⟨k, hk, rfl, HW, HBW⟩ := hrel
    by_cases hlt : k < x.length
    · have hx1 : (x.take k).length = k := by simp; omega
      have hol : off + k < (over l off (x.take k)).length := by rw [over_length _ _ _ (by omega)]; omega
      have c1 := HW.out.cell hol
      have f1 := HW.out.frozen (off + k)
      have c2 := (HBW.out.cell (p := ⟨b', o' + k, none⟩) hb').trans (HC.out k hlt)
      have kI : (k : Int) < (x.length : Int) := by omega
      have oI : (off : Int) + (k : Int) < (l.length : Int) := by omega
      clear hx1
      go_wp2
      go_roundw
      case rel =>
        go_light
        refine ⟨k + 1, by omega, by go_num, Lib.hid ?_, Lib.hid (HBW.out.setCell hg _)⟩
        rw [← over_step l off x k hlt hoff]
        exact HW.out.set _ _
      case measure => simp [intOf]; omega
    · go_wp2
      go_ret
      obtain rfl : k = x.length := by omega
      have := HW.out.byt
      rw [List.take_of_length_le (Nat.le_refl _), over_length _ _ _ hoff] at this
      exact ⟨_, rfl, this, HBW.out⟩

end Go.Proofs.YtdnbhmfofphblaaGreatDoor
