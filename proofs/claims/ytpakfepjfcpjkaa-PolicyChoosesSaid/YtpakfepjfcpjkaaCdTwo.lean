import Derived.Test.YtpakfepjfcpjkaaCdTwoA
import Derived.Test.YtpakfepjfcpjkaaCdTwoB
import Derived.Test.YtpakfepjfcpjkaaCdTo
import Derived.Deep.RegionHeld3
namespace Go.Proofs.Ytpakfepjfcpjkaa
open Go.RowKit

theorem refTwoI_lt (l : List Cd) (i k : Nat) (hi : i < l.length) (hk : k < l.length) : refTwoI l i k hi hk < l.length := by
  unfold refTwoI; split
  · exact hi
  · split
    · exact hk
    · omega

/-- turn.Two picks whom the reference picks. -/
theorem two_any (b cap : Nat) (l : List Cd) (x y : Int) (i k q : Nat) (w : World) (hr : rightFrom (-1) l = true) (hl : l.length ≤ 70) (hc : CellsAt w b 0 l) (hb : b < w.heap.size) (hx : 0 ≤ x) (hx' : x ≤ 4294967295) (hy : 0 ≤ y) (hy' : y ≤ 4294967295)
    (hi : i < l.length) (hk : k < l.length) (ei : x % (l.length : Int) = (i : Int)) (ek : y % (l.length : Int) = (k : Int)) (hq : q < l.length) (hqe : refTwoI l i k hi hk = q) :
    Calls Try.prog 20 #[.slice (some ⟨b, 0, none⟩) l.length cap, .int .u32 x, .int .u32 y] w fun e w' => e = .returned (.tuple #[.agg #[.int .i64 l[q].slot, .int .i64 l[q].backend, .int .i64 l[q].weight, .int .u32 l[q].load], .bool true]) ∧ Below w.heap.size w w' := by
  unfold refTwoI at hqe
  by_cases h1 : l[i].load < l[k].load
  · rw [if_pos h1] at hqe; subst hqe
    exact two_not b cap l x y i k w hl hc hb hx hx' hy hy' hi hk ei ek h1
  · by_cases h2 : l[k].load < l[i].load
    · rw [if_neg h1, if_pos h2] at hqe; subst hqe
      exact two_less b cap l x y i k w hl hc hb hx hx' hy hy' hi hk ei ek h2
    · rw [if_neg h1, if_neg h2] at hqe
      have he : l[k].load = l[i].load := by omega
      by_cases h3 : k < i
      · obtain rfl : k = q := by omega
        exact two_eqLess b cap l x y i k w hl hc hb hx hx' hy hy' hi hk ei ek he (rf_lt hr k i hi h3)
      · obtain rfl : i = q := by omega
        refine two_eqNot b cap l x y i k w hl hc hb hx hx' hy hy' hi hk ei ek he ?_
        by_cases h4 : i = k
        · subst h4; omega
        · have := rf_lt hr i k hk (by omega); omega

theorem refTwo_q (b off cap : Nat) (l : List Cd) (x y : Int) (i k q : Nat) (w : World) (hl : l.length ≤ 70) (hc : CellsAt w b off l) (hx : 0 ≤ x) (hx' : x ≤ 4294967295) (hy : 0 ≤ y) (hy' : y ≤ 4294967295)
    (hi : i < l.length) (hk : k < l.length) (ei : x % (l.length : Int) = (i : Int)) (ek : y % (l.length : Int) = (k : Int)) (hqe : refTwoI l i k hi hk = q) :
    Calls Try.prog 24 #[.slice (some ⟨b, off, none⟩) l.length cap, .int .u32 x, .int .u32 y] w fun e w' => e = .returned (.int .i64 (q : Int)) ∧ ∃ n, w' = w.drewN n := by
  have := refTwo_any b off cap l x y i k w hl hc hx hx' hy hy' hi hk ei ek
  rw [hqe] at this
  exact this

theorem two_nil (x y : Int) (w : World) :
    Calls Try.prog 20 #[.slice none 0 0, .int .u32 x, .int .u32 y] w fun e w' => e = .returned (.tuple #[.agg #[.int .i64 0, .int .i64 0, .int .i64 0, .int .u32 0], .bool false]) ∧ Below w.heap.size w w' := by
  go_enter Try.func20, Try.ntmps20
  go_wp2
  exact bodyPost_ret (results_blk_tmp (P := Try.prog) Try.results20 _ _ w.heap.size 45 #[.int .i64 0, .int .i64 0, .int .i64 0, .int .u32 0] _ rfl (Blk.new _ _ _) Try.underlying45 rfl (by kernel_rfl)) rfl ⟨rfl, (Below.refl _ _).alloc (Nat.le_refl _) _⟩

end Go.Proofs.Ytpakfepjfcpjkaa
