import Derived.Test.YtpakfepjfcpjkaaCdWords
import Derived.Outline
import Derived.Deep.QuietTactic
import Derived.BigQuiet
import Derived.Deep.Light
namespace Go.Proofs.Ytpakfepjfcpjkaa
open Go.RowKit

def refTwoI (l : List Cd) (i k : Nat) (hi : i < l.length) (hk : k < l.length) : Nat := if l[i].load < l[k].load then i else if l[k].load < l[i].load then k else min i k

set_option maxHeartbeats 2000000 in
theorem refTwo_any (b off cap : Nat) (l : List Cd) (x y : Int) (i k : Nat) (w : World) (hl : l.length ≤ 70) (hc : CellsAt w b off l) (hx : 0 ≤ x) (hx' : x ≤ 4294967295) (hy : 0 ≤ y) (hy' : y ≤ 4294967295)
    (hi : i < l.length) (hk : k < l.length) (ei : x % (l.length : Int) = (i : Int)) (ek : y % (l.length : Int) = (k : Int)) :
    Calls Try.prog 24 #[.slice (some ⟨b, off, none⟩) l.length cap, .int .u32 x, .int .u32 y] w fun e w' => e = .returned (.int .i64 (refTwoI l i k hi hk)) ∧ ∃ n, w' = w.drewN n := by
  obtain ⟨a0, a1, a2, a3⟩ := hc i hi
  obtain ⟨b0, b1, b2, b3⟩ := hc k hk
  have hlen : ((l.length : Int) == 0) = false := beq_eq_false_iff_ne.2 (by omega)
  have hiI : (i : Int) < (l.length : Int) := by omega
  have hkI : (k : Int) < (l.length : Int) := by omega
  have hlp : (0 : Int) < (l.length : Int) := by omega
  clear hc
  by_cases h1 : l[i].load < l[k].load
  · have HF := Lib.hid (show refTwoI l i k hi hk = i by rw [refTwoI, if_pos h1])
    go_enter Try.func24, Try.ntmps24
    go_wp2
    go_quiet (fail)
    go_wp2
    go_quiet (fail)
    go_wp2
    go_ret
    go_light
    exact ⟨ret_int (by rw [HF.out]; first | rfl | exact ei), by first | exact drewN1 _ _ | exact drewN2 _ _ _ | (simp only [World.drewN_drewN]; exact drewN1 _ _)⟩
  · by_cases h2 : l[k].load < l[i].load
    · have HF := Lib.hid (show refTwoI l i k hi hk = k by rw [refTwoI, if_neg h1, if_pos h2])
      go_enter Try.func24, Try.ntmps24
      go_wp2
      go_quiet (fail)
      go_wp2
      go_quiet (fail)
      go_wp2
      go_quiet (fail)
      go_wp2
      go_ret
      go_light
      exact ⟨ret_int (by rw [HF.out]; first | rfl | exact ek), by first | exact drewN1 _ _ | exact drewN2 _ _ _ | (simp only [World.drewN_drewN]; exact drewN1 _ _)⟩
    · have HF := Lib.hid (show refTwoI l i k hi hk = min i k by rw [refTwoI, if_neg h1, if_neg h2])
      go_enter Try.func24, Try.ntmps24
      go_wp2
      go_quiet (fail)
      go_wp2
      go_quiet (fail)
      go_wp2
      go_quiet (fail)
      go_wp2
      all_goals
        go_ret
        go_light
        exact ⟨ret_int (by rw [HF.out]; omega), by first | exact drewN1 _ _ | exact drewN2 _ _ _ | (simp only [World.drewN_drewN]; exact drewN1 _ _)⟩
end Go.Proofs.Ytpakfepjfcpjkaa
