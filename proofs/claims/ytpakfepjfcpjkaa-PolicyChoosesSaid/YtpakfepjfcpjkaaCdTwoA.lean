import Derived.Test.YtpakfepjfcpjkaaCdWords
import Derived.Outline
import Derived.Deep.QuietTactic
import Derived.BigQuiet
import Derived.BigRegion
import Derived.Deep.Light
namespace Go.Proofs.Ytpakfepjfcpjkaa
open Go.RowKit

set_option maxHeartbeats 2000000 in
theorem two_less (b cap : Nat) (l : List Cd) (x y : Int) (i k : Nat) (w : World) (hl : l.length ≤ 70) (hc : CellsAt w b 0 l) (hb : b < w.heap.size) (hx : 0 ≤ x) (hx' : x ≤ 4294967295) (hy : 0 ≤ y) (hy' : y ≤ 4294967295)
    (hi : i < l.length) (hk : k < l.length) (ei : x % (l.length : Int) = (i : Int)) (ek : y % (l.length : Int) = (k : Int)) (hd : l[k].load < l[i].load) :
    Calls Try.prog 20 #[.slice (some ⟨b, 0, none⟩) l.length cap, .int .u32 x, .int .u32 y] w fun e w' => e = .returned (.tuple #[.agg #[.int .i64 l[k].slot, .int .i64 l[k].backend, .int .i64 l[k].weight, .int .u32 l[k].load], .bool true]) ∧ Below w.heap.size w w' := by
  obtain ⟨a0, a1, a2, a3⟩ := hc i hi
  obtain ⟨b0, b1, b2, b3⟩ := hc k hk
  simp only [Nat.zero_add] at a0 a1 a2 a3 b0 b1 b2 b3
  have hlen : ((l.length : Int) == 0) = false := beq_eq_false_iff_ne.2 (by omega)
  have hiI : (i : Int) < (l.length : Int) := by omega
  have hkI : (k : Int) < (l.length : Int) := by omega
  clear hc
  have hb1 : b < w.heap.size + 1 := by omega
  have hb2 : b < w.heap.size + 1 + 1 := by omega
  go_enter Try.func20, Try.ntmps20
  go_wp2
  go_region
  all_goals
    go_wp2
    refine bodyPost_ret (results_blk_tmp (P := Try.prog) Try.results20 _ _ w.heap.size 45 #[.int .i64 l[k].slot, .int .i64 l[k].backend, .int .i64 l[k].weight, .int .u32 l[k].load] _ rfl ?_ Try.underlying45 rfl (by kernel_rfl)) rfl ⟨rfl, ?_⟩
    · go_light
      repeat (first | (with_reducible exact Blk.new _ _ _) | (with_reducible apply Blk.set_to) | ((with_reducible apply Blk.far'); omega) | (with_reducible apply Blk.drewN) | (with_reducible apply Blk.drew) | (with_reducible apply Blk.alloc))
    · go_light
      refine Kept.below (S := fun i => w.heap.size ≤ i) ?_ (Nat.le_refl _) (fun i h => h)
      repeat (first | (with_reducible exact Kept.refl _ _) | ((with_reducible apply Kept.setNew); omega) | (with_reducible apply Kept.drewN) | (with_reducible apply Kept.drew) | (with_reducible apply Kept.alloc))

set_option maxHeartbeats 2000000 in
theorem two_eqLess (b cap : Nat) (l : List Cd) (x y : Int) (i k : Nat) (w : World) (hl : l.length ≤ 70) (hc : CellsAt w b 0 l) (hb : b < w.heap.size) (hx : 0 ≤ x) (hx' : x ≤ 4294967295) (hy : 0 ≤ y) (hy' : y ≤ 4294967295)
    (hi : i < l.length) (hk : k < l.length) (ei : x % (l.length : Int) = (i : Int)) (ek : y % (l.length : Int) = (k : Int)) (hd : l[k].load = l[i].load) (hs : l[k].slot < l[i].slot) :
    Calls Try.prog 20 #[.slice (some ⟨b, 0, none⟩) l.length cap, .int .u32 x, .int .u32 y] w fun e w' => e = .returned (.tuple #[.agg #[.int .i64 l[k].slot, .int .i64 l[k].backend, .int .i64 l[k].weight, .int .u32 l[k].load], .bool true]) ∧ Below w.heap.size w w' := by
  obtain ⟨a0, a1, a2, a3⟩ := hc i hi
  obtain ⟨b0, b1, b2, b3⟩ := hc k hk
  simp only [Nat.zero_add] at a0 a1 a2 a3 b0 b1 b2 b3
  have hlen : ((l.length : Int) == 0) = false := beq_eq_false_iff_ne.2 (by omega)
  have hiI : (i : Int) < (l.length : Int) := by omega
  have hkI : (k : Int) < (l.length : Int) := by omega
  clear hc
  have hb1 : b < w.heap.size + 1 := by omega
  have hb2 : b < w.heap.size + 1 + 1 := by omega
  have hn : ¬ l[k].load < l[i].load := by omega
  have he : (l[k].load == l[i].load) = true := beq_iff_eq.2 hd
  have HD := Lib.hid hd
  clear hd
  go_enter Try.func20, Try.ntmps20
  go_wp2
  go_region
  all_goals
    go_wp2
    refine bodyPost_ret (results_blk_tmp (P := Try.prog) Try.results20 _ _ w.heap.size 45 #[.int .i64 l[k].slot, .int .i64 l[k].backend, .int .i64 l[k].weight, .int .u32 l[k].load] _ rfl ?_ Try.underlying45 rfl (by kernel_rfl)) rfl ⟨rfl, ?_⟩
    · go_light
      repeat (first | (with_reducible exact Blk.new _ _ _) | (with_reducible apply Blk.set_to) | ((with_reducible apply Blk.far'); omega) | (with_reducible apply Blk.drewN) | (with_reducible apply Blk.drew) | (with_reducible apply Blk.alloc))
    · go_light
      refine Kept.below (S := fun i => w.heap.size ≤ i) ?_ (Nat.le_refl _) (fun i h => h)
      repeat (first | (with_reducible exact Kept.refl _ _) | ((with_reducible apply Kept.setNew); omega) | (with_reducible apply Kept.drewN) | (with_reducible apply Kept.drew) | (with_reducible apply Kept.alloc))

set_option maxHeartbeats 2000000 in
theorem two_eqNot (b cap : Nat) (l : List Cd) (x y : Int) (i k : Nat) (w : World) (hl : l.length ≤ 70) (hc : CellsAt w b 0 l) (hb : b < w.heap.size) (hx : 0 ≤ x) (hx' : x ≤ 4294967295) (hy : 0 ≤ y) (hy' : y ≤ 4294967295)
    (hi : i < l.length) (hk : k < l.length) (ei : x % (l.length : Int) = (i : Int)) (ek : y % (l.length : Int) = (k : Int)) (hd : l[k].load = l[i].load) (hs : ¬ l[k].slot < l[i].slot) :
    Calls Try.prog 20 #[.slice (some ⟨b, 0, none⟩) l.length cap, .int .u32 x, .int .u32 y] w fun e w' => e = .returned (.tuple #[.agg #[.int .i64 l[i].slot, .int .i64 l[i].backend, .int .i64 l[i].weight, .int .u32 l[i].load], .bool true]) ∧ Below w.heap.size w w' := by
  obtain ⟨a0, a1, a2, a3⟩ := hc i hi
  obtain ⟨b0, b1, b2, b3⟩ := hc k hk
  simp only [Nat.zero_add] at a0 a1 a2 a3 b0 b1 b2 b3
  have hlen : ((l.length : Int) == 0) = false := beq_eq_false_iff_ne.2 (by omega)
  have hiI : (i : Int) < (l.length : Int) := by omega
  have hkI : (k : Int) < (l.length : Int) := by omega
  clear hc
  have hb1 : b < w.heap.size + 1 := by omega
  have hb2 : b < w.heap.size + 1 + 1 := by omega
  have hn : ¬ l[k].load < l[i].load := by omega
  have he : (l[k].load == l[i].load) = true := beq_iff_eq.2 hd
  have HD := Lib.hid hd
  clear hd
  go_enter Try.func20, Try.ntmps20
  go_wp2
  go_region
  all_goals
    go_wp2
    refine bodyPost_ret (results_blk_tmp (P := Try.prog) Try.results20 _ _ w.heap.size 45 #[.int .i64 l[i].slot, .int .i64 l[i].backend, .int .i64 l[i].weight, .int .u32 l[i].load] _ rfl ?_ Try.underlying45 rfl (by kernel_rfl)) rfl ⟨rfl, ?_⟩
    · go_light
      repeat (first | (with_reducible exact Blk.new _ _ _) | (with_reducible apply Blk.set_to) | ((with_reducible apply Blk.far'); omega) | (with_reducible apply Blk.drewN) | (with_reducible apply Blk.drew) | (with_reducible apply Blk.alloc))
    · go_light
      refine Kept.below (S := fun i => w.heap.size ≤ i) ?_ (Nat.le_refl _) (fun i h => h)
      repeat (first | (with_reducible exact Kept.refl _ _) | ((with_reducible apply Kept.setNew); omega) | (with_reducible apply Kept.drewN) | (with_reducible apply Kept.drew) | (with_reducible apply Kept.alloc))

set_option maxHeartbeats 2000000 in
theorem two_not (b cap : Nat) (l : List Cd) (x y : Int) (i k : Nat) (w : World) (hl : l.length ≤ 70) (hc : CellsAt w b 0 l) (hb : b < w.heap.size) (hx : 0 ≤ x) (hx' : x ≤ 4294967295) (hy : 0 ≤ y) (hy' : y ≤ 4294967295)
    (hi : i < l.length) (hk : k < l.length) (ei : x % (l.length : Int) = (i : Int)) (ek : y % (l.length : Int) = (k : Int)) (hd : l[i].load < l[k].load) :
    Calls Try.prog 20 #[.slice (some ⟨b, 0, none⟩) l.length cap, .int .u32 x, .int .u32 y] w fun e w' => e = .returned (.tuple #[.agg #[.int .i64 l[i].slot, .int .i64 l[i].backend, .int .i64 l[i].weight, .int .u32 l[i].load], .bool true]) ∧ Below w.heap.size w w' := by
  obtain ⟨a0, a1, a2, a3⟩ := hc i hi
  obtain ⟨b0, b1, b2, b3⟩ := hc k hk
  simp only [Nat.zero_add] at a0 a1 a2 a3 b0 b1 b2 b3
  have hlen : ((l.length : Int) == 0) = false := beq_eq_false_iff_ne.2 (by omega)
  have hiI : (i : Int) < (l.length : Int) := by omega
  have hkI : (k : Int) < (l.length : Int) := by omega
  clear hc
  have hb1 : b < w.heap.size + 1 := by omega
  have hb2 : b < w.heap.size + 1 + 1 := by omega
  have hn : ¬ l[k].load < l[i].load := by omega
  have he : (l[k].load == l[i].load) = false := beq_eq_false_iff_ne.2 (by omega)
  go_enter Try.func20, Try.ntmps20
  go_wp2
  go_region
  all_goals
    go_wp2
    refine bodyPost_ret (results_blk_tmp (P := Try.prog) Try.results20 _ _ w.heap.size 45 #[.int .i64 l[i].slot, .int .i64 l[i].backend, .int .i64 l[i].weight, .int .u32 l[i].load] _ rfl ?_ Try.underlying45 rfl (by kernel_rfl)) rfl ⟨rfl, ?_⟩
    · go_light
      repeat (first | (with_reducible exact Blk.new _ _ _) | (with_reducible apply Blk.set_to) | ((with_reducible apply Blk.far'); omega) | (with_reducible apply Blk.drewN) | (with_reducible apply Blk.drew) | (with_reducible apply Blk.alloc))
    · go_light
      refine Kept.below (S := fun i => w.heap.size ≤ i) ?_ (Nat.le_refl _) (fun i h => h)
      repeat (first | (with_reducible exact Kept.refl _ _) | ((with_reducible apply Kept.setNew); omega) | (with_reducible apply Kept.drewN) | (with_reducible apply Kept.drew) | (with_reducible apply Kept.alloc))

end Go.Proofs.Ytpakfepjfcpjkaa
