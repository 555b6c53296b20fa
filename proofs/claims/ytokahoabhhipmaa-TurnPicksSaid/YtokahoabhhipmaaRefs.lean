import Derived.Test.YtokahoabhhipmaaRight
import Derived.Outline
import Derived.Deep.QuietTactic
import Derived.BigQuiet
import Derived.Deep.Light
namespace Go.Proofs.Ytokahoabhhipmaa
open Go.RowKit

set_option maxHeartbeats 1000000 in
theorem right_any (b off cap : Nat) (l : List Cd) (w : World) (hl : l.length ≤ 70) (hc : CellsAt w b off l) (hb : b < w.heap.size) :
    Calls Try.prog 12 #[.slice (some ⟨b, off, none⟩) l.length cap] w fun e w' => e = .returned (.bool (rightFrom (-1) l)) ∧ Below w.heap.size w w' := by
  have HC := Lib.hid hc
  clear hc
  go_enter Try.func12, Try.ntmps12
  go_wp2
  go_loopw [3, 8] (fun la i wr => ∃ k : Nat, ∃ last : Int, k ≤ l.length ∧ i = .int .i64 k ∧ la = .int .i64 (last + 1) ∧ -1 ≤ last ∧ last ≤ 4095 ∧ Hid (rightFrom (-1) l = rightFrom last (l.drop k)) ∧ Hid (Below w.heap.size w wr)) (fun _ i _ => l.length - (intOf i).toNat)
  case atStart => exact ⟨0, -1, Nat.zero_le _, rfl, rfl, by omega, by omega, Lib.hid (by simp), Lib.hid (Below.refl _ _)⟩
  case round =>
    obtain ⟨k, last, hk, rfl, rfl, hl1, hl2, hr, HB⟩ := hrel
    by_cases hlt : k < l.length
    · obtain ⟨h0, h1, h2, h3⟩ := HC.out.keep (fun o => HB.out.cell (p := ⟨b, o, none⟩) hb) k hlt
      have hsz := HB.out.size
      go_wp2
      case roundEnd =>
        go_roundw
        case rel => exact ⟨k + 1, l[k].slot, by omega, by go_num, rfl, by omega, by omega, Lib.hid (by rw [hr.out, rf_good hlt (by omega) (by omega) (by omega) (by omega)]), Lib.hid (HB.out.alloc hsz _)⟩
        case measure => simp [intOf]; omega
      all_goals
        go_ret
        exact ⟨ret_bool (by rw [hr.out, rf_bad hlt (by omega)]), HB.out.alloc hsz _⟩
    · go_wp2
      go_ret
      exact ⟨ret_bool (by rw [hr.out, rf_end hlt]), HB.out⟩

set_option maxHeartbeats 1000000 in
theorem refPick_any (b off cap : Nat) (l : List Cd) (n : Int) (w : World) (hl0 : 0 < l.length) (hl : l.length ≤ 70) (hc : CellsAt w b off l) :
    Calls Try.prog 13 #[.slice (some ⟨b, off, none⟩) l.length cap, .int .i64 n] w fun e w' => e = .returned (.int .i64 (pickI l n)) ∧ w = w' := by
  have HC := Lib.hid hc
  have hlen : (0 : Int) < (l.length : Int) := by omega
  clear hc
  go_enter Try.func13, Try.ntmps13
  go_wp2
  go_loop [5] (fun i => ∃ k : Nat, k ≤ l.length ∧ i = .int .i64 k ∧ Hid (∀ j (h : j < k) (h' : j < l.length), l[j].slot < n)) (fun i => l.length - (intOf i).toNat)
  case atStart => exact ⟨0, Nat.zero_le _, rfl, Lib.hid (fun j h => by omega)⟩
  case round =>
    obtain ⟨k, hk, rfl, hr⟩ := hrel
    by_cases hlt : k < l.length
    · obtain ⟨h0, h1, h2, h3⟩ := HC.out k hlt
      by_cases hs : n ≤ l[k].slot
      · go_wp2
        go_ret
        exact ⟨ret_int (by rw [pickI_at hlt hs fun j hj => hr.out j hj (by omega)]), rfl⟩
      · go_wp2
        go_round
        case rel => exact ⟨k + 1, by omega, by go_num, Lib.hid (fun j h h' => by rcases Nat.lt_succ_iff_lt_or_eq.1 h with h | rfl; exact hr.out j h h'; omega)⟩
        case measure => simp [intOf]; omega
    · go_wp2
      go_ret
      exact ⟨ret_int (by rw [pickI_none fun j hj => hr.out j (by omega) hj]; rfl), rfl⟩

theorem refPick_nil (A : Option Addr) (cap : Nat) (n : Int) (w : World) :
    Calls Try.prog 13 #[.slice A 0 cap, .int .i64 n] w fun e w' => e = .returned (.int .i64 (-1)) ∧ w = w' := by
  go_enter Try.func13, Try.ntmps13
  go_wp2
  refine wp_loop_rounds 1 ?_; rw [rounds_succ]
  go_wp2
  go_ret
  exact ⟨rfl, rfl⟩

theorem next_any (tb : Nat) (n : Int) (w : World) (ht : Blk w tb 27 #[.int .i64 n]) :
    Calls Try.prog 14 #[.pointer (some ⟨tb, 0, none⟩)] w fun e w' => e = .returned (.int .i64 n) ∧ w = w' := by
  have c := ht.cell
  clear ht
  go_enter Try.func14, Try.ntmps14
  go_wp2
  go_ret
  exact ⟨rfl, rfl⟩
theorem next_none (w : World) : Calls Try.prog 14 #[.pointer none] w fun e w' => e = .returned (.int .i64 0) ∧ w = w' := by
  go_enter Try.func14, Try.ntmps14
  go_wp2
  go_ret
  exact ⟨rfl, rfl⟩
end Go.Proofs.Ytokahoabhhipmaa
