import Derived.Test.YtpakfepjfcpjkaaCdWords
import Derived.Outline
import Derived.Deep.QuietTactic
import Derived.BigQuiet
import Derived.Deep.Light
namespace Go.Proofs.Ytpakfepjfcpjkaa
open Go.RowKit
variable {sv : Value}

/-- What Pick leaves: the candidate at the place that 'pickI' tells, the turn behind it. -/
def Picked (sv : Value) (tb : Nat) (l : List Cd) (n : Int) (w : World) (e : Ending) (w' : World) : Prop :=
  ∃ (k : Nat) (h : k < l.length), k = pickI l n ∧ e = .returned (.tuple #[.agg #[.int .i64 l[k].slot, .int .i64 l[k].backend, .int .i64 l[k].weight, .int .u32 l[k].load], .bool true]) ∧ Blk w' tb 35 #[.int .i64 (l[k].slot + 1), sv] ∧ Kept (· = tb) w w'

set_option maxHeartbeats 1000000 in
theorem pick_any (tb b off cap : Nat) (l : List Cd) (n : Int) (w : World) (hl0 : 0 < l.length) (hl : l.length ≤ 70) (hc : CellsAt w b off l) (hf : ∀ c ∈ l, 0 ≤ c.slot ∧ c.slot ≤ 4095)
    (hb : b < w.heap.size) (ht : Blk w tb 35 #[.int .i64 n, sv]) :
    Calls Try.prog 17 #[.pointer (some ⟨tb, 0, none⟩), .slice (some ⟨b, off, none⟩) l.length cap] w (Picked sv tb l n w) := by
  have HC := Lib.hid hc
  have h00 := (hc 0 hl0)
  simp only [Nat.zero_mul, Nat.add_zero] at h00
  obtain ⟨h0, h1, h2, h3⟩ := h00
  clear hc
  have hlen : ((l.length : Int) == 0) = false := beq_eq_false_iff_ne.2 (by omega)
  have hlt : (0 : Int) < (l.length : Int) := by omega
  have htl := ht.lt
  have HT := Lib.hid ht
  have HF := Lib.hid hf
  clear ht hf
  go_enter Try.func17, Try.ntmps17
  go_wp2
  go_loopw [22] (fun i wr => ∃ k : Nat, k ≤ l.length ∧ i = .int .i64 k ∧ Hid (∀ j (h : j < k) (h' : j < l.length), l[j].slot < n) ∧ Hid (Below (w.heap.size + 2) ((w.alloc (.cells #[.int .i64 0, .int .i64 0, .int .i64 0, .int .u32 0 ] 45)).alloc (.cells #[.int .i64 l[0].slot, .int .i64 l[0].backend, .int .i64 l[0].weight, .int .u32 l[0].load ] 45)) wr)) (fun i _ => l.length - (intOf i).toNat)
  case atStart => exact ⟨0, Nat.zero_le _, rfl, Lib.hid (fun j h => by omega), Lib.hid (Below.refl _ _)⟩
  case round =>
    obtain ⟨k, hk, rfl, hr, hbel⟩ := hrel
    have hB : Blk wr (w.heap.size + 1) 45 #[.int .i64 l[0].slot, .int .i64 l[0].backend, .int .i64 l[0].weight, .int .u32 l[0].load] := Blk.below (Blk.new_ (by simp) _ _) hbel.out (by omega)
    have hR : Blk wr w.heap.size 45 #[.int .i64 0, .int .i64 0, .int .i64 0, .int .u32 0] := Blk.below ((Blk.new _ _ _).alloc _) hbel.out (by omega)
    have hT : Blk wr tb 35 #[.int .i64 n, sv] := Blk.below ((HT.out.alloc _).alloc _) hbel.out (by omega)
    have hcs : CellsAt wr b off l := HC.out.keep fun o => by rw [hbel.out.cell (p := ⟨b, o, none⟩) (by simp; omega), World.cell?_alloc_lt _ _ _ (by simp; omega), World.cell?_alloc_lt _ _ _ (by simp; omega)]
    have hsz : w.heap.size + 2 ≤ wr.heap.size := by have := hbel.out.size; simpa using this
    have hK : Kept (· = tb) w wr := (((Kept.refl _ w).alloc _).alloc _).then (Kept.of_below (S := fun i => w.heap.size + 2 ≤ i) hbel.out (fun i _ h => h)) (fun i hi h => by omega)
    have cB := hB.cell
    have fB := hB.frozen
    have cR := hR.cell
    have fR := hR.frozen
    have cT := hT.cell
    have fT := hT.frozen
    have tlt : tb < wr.heap.size := by omega
    have blt : b < wr.heap.size := by omega
    have clt : w.heap.size + 1 < wr.heap.size := by omega
    have rlt : w.heap.size < wr.heap.size := by omega
    have HK := Lib.hid hK
    have HB := Lib.hid hB
    have HR := Lib.hid hR
    have HT' := Lib.hid hT
    have HCS := Lib.hid hcs
    clear hB hR hT hcs hK h0 h1 h2 h3
    by_cases hlt : k < l.length
    · obtain ⟨h0, h1, h2, h3⟩ := HCS.out k hlt
      have hfk := HF.out l[k] (List.getElem_mem hlt)
      by_cases hs : n ≤ l[k].slot
      · go_wp2
        go_quiet (fail)
        go_wp2
        refine bodyPost_ret (results_blk_tmp (P := Try.prog) Try.results17 _ _ w.heap.size 45 #[.int .i64 l[k].slot, .int .i64 l[k].backend, .int .i64 l[k].weight, .int .u32 l[k].load] _ rfl ?_ Try.underlying45 rfl (by kernel_rfl)) rfl ⟨k, hlt, (pickI_at hlt hs fun j hj => hr.out j hj (by omega)).symm, rfl, ?_, ?_⟩
        · go_light
          repeat (first | (with_reducible apply Blk.set_to) | ((with_reducible apply Blk.far'); omega) | (with_reducible apply Blk.drewN) | (with_reducible apply Blk.alloc))
          exact HR.out
          all_goals rfl
        · go_light
          repeat (first | (with_reducible apply Blk.set_to) | ((with_reducible apply Blk.far'); omega) | (with_reducible apply Blk.drewN) | (with_reducible apply Blk.alloc))
          exact HT'.out
          all_goals rfl
        · go_light
          repeat (first | ((with_reducible apply Kept.setNew); omega) | ((with_reducible apply Kept.setIn); rfl) | (with_reducible apply Kept.drewN) | (with_reducible apply Kept.alloc))
          exact HK.out
      · go_wp2
        go_quiet (fail)
        go_wp2
        go_roundw
        case rel => exact ⟨k + 1, by omega, by go_num, Lib.hid (fun j h h' => by rcases Nat.lt_succ_iff_lt_or_eq.1 h with h | rfl; exact hr.out j h h'; omega), Lib.hid (belowN (hbel.out.alloc (by omega) _) _)⟩
        case measure => simp [intOf]; omega
    · have hl0' := HF.out l[0] (List.getElem_mem hl0)
      go_wp2
      refine bodyPost_ret (results_blk_tmp (P := Try.prog) Try.results17 _ _ w.heap.size 45 #[.int .i64 l[0].slot, .int .i64 l[0].backend, .int .i64 l[0].weight, .int .u32 l[0].load] _ rfl ?_ Try.underlying45 rfl (by kernel_rfl)) rfl ⟨0, hl0, (pickI_none fun j hj => hr.out j (by omega) hj).symm, rfl, ?_, ?_⟩
      · go_light
        repeat (first | (with_reducible apply Blk.set_to) | ((with_reducible apply Blk.far'); omega) | (with_reducible apply Blk.drewN) | (with_reducible apply Blk.alloc))
        exact HR.out
        all_goals rfl
      · go_light
        repeat (first | (with_reducible apply Blk.set_to) | ((with_reducible apply Blk.far'); omega) | (with_reducible apply Blk.drewN) | (with_reducible apply Blk.alloc))
        exact HT'.out
        all_goals rfl
      · go_light
        repeat (first | ((with_reducible apply Kept.setNew); omega) | ((with_reducible apply Kept.setIn); rfl) | (with_reducible apply Kept.drewN) | (with_reducible apply Kept.alloc))
        exact HK.out
end Go.Proofs.Ytpakfepjfcpjkaa
