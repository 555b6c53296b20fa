import Derived.Test.YtikakdcjbnbacaaCdWords
import Derived.Outline
namespace Go.Proofs.Ytikakdcjbnbacaa
open Go.RowKit

set_option maxHeartbeats 1000000 in
theorem refRight_any (b off cap : Nat) (l : List Cd) (w : World) (hl : l.length ≤ 70) (hc : CellsAt w b off l) :
    Calls Try.prog 7 #[.slice (some ⟨b, off, none⟩) l.length cap] w fun e w' => e = .returned (.bool (rightFrom (-1) l)) ∧ w = w' := by
  have HC := Lib.hid hc
  clear hc
  go_enter Try.func7, Try.ntmps7
  go_wp2
  go_loop [3, 4] (fun la i => ∃ k : Nat, ∃ last : Int, k ≤ l.length ∧ i = .int .i64 k ∧ la = .int .i64 last ∧ Hid (rightFrom (-1) l = rightFrom last (l.drop k))) (fun _ i => l.length - (intOf i).toNat)
  case atStart => exact ⟨0, -1, Nat.zero_le _, rfl, rfl, Lib.hid (by simp)⟩
  case round =>
    obtain ⟨k, last, hk, rfl, rfl, hr⟩ := hrel
    by_cases hlt : k < l.length
    · obtain ⟨h0, h1, h2, h3⟩ := HC.out k hlt
      go_wp2
      case roundEnd =>
        go_round
        case rel => exact ⟨k + 1, l[k].slot, by omega, by go_num, rfl, Lib.hid (by rw [hr.out, rf_good hlt (by omega) (by omega) (by omega) (by omega)])⟩
        case measure => simp [intOf]; omega
      all_goals
        go_ret
        refine ⟨?_, rfl⟩
        rw [hr.out, rf_bad hlt (by omega)]
        rfl
    · go_wp2
      go_ret
      exact ⟨by rw [hr.out, rf_end hlt]; rfl, rfl⟩


theorem refRight_nil (A : Option Addr) (cap : Nat) (w : World) :
    Calls Try.prog 7 #[.slice A 0 cap] w fun e w' => e = .returned (.bool true) ∧ w = w' := by
  go_enter Try.func7, Try.ntmps7
  go_wp2
  refine wp_loop_rounds 1 ?_; rw [rounds_succ]
  go_wp2
  go_ret
  exact ⟨rfl, rfl⟩

/-- A slice that holds the candidates l: nil, or cells below block B. -/
def Cands (w : World) (B : Nat) (A : Option Addr) (l : List Cd) : Prop := l = [] ∨ ∃ b off, b < B ∧ A = some ⟨b, off, none⟩ ∧ CellsAt w b off l

theorem refRight_c (B : Nat) (A : Option Addr) (cap : Nat) (l : List Cd) (w : World) (hl : l.length ≤ 70) (hc : Cands w B A l) :
    Calls Try.prog 7 #[.slice A l.length cap] w fun e w' => e = .returned (.bool (rightFrom (-1) l)) ∧ w = w' := by
  rcases hc with rfl | ⟨b, off, _, rfl, hc⟩
  · exact refRight_nil A cap w
  · exact refRight_any b off cap l w hl hc

end Go.Proofs.Ytikakdcjbnbacaa
