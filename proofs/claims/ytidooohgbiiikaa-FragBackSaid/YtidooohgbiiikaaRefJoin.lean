/- Contract of the reference's Join. -/
import Derived.Test.YtidooohgbiiikaaRows
import Derived.Test.YtidooohgbiiikaaBytesB
import Derived.Test.YtidooohgbiiikaaRgW
import Derived.Test.YtidooohgbiiikaaOctPlain
import Derived.Outline
import Derived.Deep.Light
import Derived.Deep.DeepCutAuto
import Derived.Deep.LoopGhost
namespace Go.Proofs.Ytidooohgbiiikaa
open Go.RowKit
set_option linter.unusedVariables false

theorem Try.info5j : (Try.prog.info? 5).map (fun i => (i.zero, i.size, i.bytes)) = some (some (.int .u8 0), 1, 1) := by kernel_rfl

def Bys (w : World) (g : Nat) (vs : List Value) (ls : List (List UInt8)) : Prop := vs.length = ls.length ∧ g < w.heap.size ∧ ∀ k (h : k < vs.length) (h' : k < ls.length), w.cell? ⟨g, k, none⟩ = some vs[k] ∧ Byt w vs[k] ls[k]

theorem flat_take (ls : List (List UInt8)) (k : Nat) (h : k < ls.length) : (ls.take (k + 1)).flatten = (ls.take k).flatten ++ ls[k] := by
  rw [List.take_succ_eq_append_getElem h, List.flatten_append, List.flatten_singleton]

theorem flat_le (ls : List (List UInt8)) (k : Nat) : (ls.take k).flatten.length ≤ ls.flatten.length := by
  have : ls.flatten = (ls.take k).flatten ++ (ls.drop k).flatten := by rw [← List.flatten_append, List.take_append_drop]
  rw [this, List.length_append]
  omega

theorem refJoin_any (g c : Nat) (vs : List Value) (ls : List (List UInt8)) (w : World) (hv : Bys w g vs ls) (hl : vs.length ≤ 1000000) (hf : ls.flatten.length ≤ 1000000) :
    Calls Try.prog 34 #[.slice (some ⟨g, 0, none⟩) vs.length c] w fun e w' => ∃ v, e = .returned v ∧ Byt w' v ls.flatten ∧ Below w.heap.size w w' := by
  have h5 := Try.info5j
  have hlen := Lib.hid hv.1
  have hgl := hv.2.1
  have HV := Lib.hid hv.2.2
  clear hv
  go_enter Try.func34, Try.ntmps34
  go_wp2_with fail
  go_loopw [3, 4] (fun v i wr => ∃ k : Nat, k ≤ vs.length ∧ i = .int .i64 (k : Int) ∧ Hid (Row wr w.heap.size 5 v (bcs (ls.take k).flatten)) ∧ Hid (Below w.heap.size w wr)) (fun _ i _ => vs.length - (intOf i).toNat)
  case atStart => exact ⟨0, by omega, rfl, Lib.hid (Row.nil _ _ _), Lib.hid (Below.refl _ _)⟩
  case round =>
    obtain ⟨k, hk, rfl, HW, HBW⟩ := hrel
    by_cases hlt : k < vs.length
    · have hlt' : k < ls.length := by rw [← hlen.out]; exact hlt
      obtain ⟨hc, hb⟩ := HV.out k hlt hlt'
      obtain ⟨A, c', hvk, h1, h2, hbs⟩ := hb
      rw [hvk] at hc
      have c1 := (HBW.out.cell (p := ⟨g, k, none⟩) hgl).trans hc
      have HBS := Lib.hid (hbs.onB HBW.out (Nat.le_refl _))
      have kI : (k : Int) < (vs.length : Int) := by omega
      have hsw := HBW.out.size
      have hfl := flat_le ls (k + 1)
      rw [flat_take ls k hlt', List.length_append] at hfl
      clear hc hvk hbs
      obtain ⟨vA, vc, hve, _⟩ := HW.out.shape
      subst hve
      go_wp2_with (at_builtin; refine wpList_append_row rfl (.tmp 11) (.tmp 15) 22 rfl w.heap.size 5 (.int .u8 0) 1 Try.underlying22 h5 rfl _ (bcs (ls.take k).flatten) rfl A ls[k].length c' (bcs ls[k]) rfl (bcs_length _).symm HW.out HBS.out.src (bcs_one _) ?a3 ?a4 ?a5 ?_)
      case a3 => rw [bcs_length, bcs_length]; unfold maxLen; omega
      case a4 => rw [bcs_length, bcs_length]; omega
      case a5 => exact hsw
      intro v1 w1 hrow hgr _
      have HR1 := Lib.hid (show Row w1 w.heap.size 5 v1 (bcs (ls.take (k + 1)).flatten) by rw [flat_take ls k hlt', bcs_append]; exact hrow)
      have HB1 := Lib.hid (HBW.out.trans (below_grown hgr (fun i e => (HW.out.lt i e).1) hsw))
      clear hrow hgr
      go_wp2_with fail
      go_roundw
      case rel => exact ⟨k + 1, by omega, by go_num, HR1, HB1⟩
      case measure => simp [intOf]; omega
    · go_wp2
      go_ret
      obtain rfl : k = vs.length := by omega
      have := HW.out.byt
      rw [hlen.out, List.take_of_length_le (Nat.le_refl _)] at this
      exact ⟨_, rfl, this, HBW.out⟩

end Go.Proofs.Ytidooohgbiiikaa
