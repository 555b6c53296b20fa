import Derived.Test.YtokahoabhhipmaaTwoA
import Derived.Test.YtokahoabhhipmaaTwoB
import Derived.Test.YtokahoabhhipmaaTo
import Derived.Test.YtokahoabhhipmaaAwake
import Derived.Deep.RegionHeld3
namespace Go.Proofs.Ytokahoabhhipmaa
open Go.RowKit

theorem refTwoI_lt (l : List Cd) (i k : Nat) (hi : i < l.length) (hk : k < l.length) : refTwoI l i k hi hk < l.length := by
  unfold refTwoI; split
  · exact hi
  · split
    · exact hk
    · omega

/-- turn.Two picks whom the reference picks. -/
theorem two_any (b cap : Nat) (l : List Cd) (x y : Int) (i k q : Nat) (w : World) (hr : rightFrom (-1) l = true) (hl : l.length ≤ 70) (hc : CellsAt w b 0 l) (hb : b < w.heap.size) (hx : 0 ≤ x) (hx' : x ≤ 4294967295) (hy : 0 ≤ y) (hy' : y ≤ 4294967295)
    (hi : i < l.length) (hk : k < l.length) (ei : x % (l.length : Int) = (i : Int)) (ek : y % (l.length : Int) = (k : Int)) (hq : q < l.length) (hqe : refTwoI l i k hi hk = q) :
    Calls Try.prog 10 #[.slice (some ⟨b, 0, none⟩) l.length cap, .int .u32 x, .int .u32 y] w fun e w' => e = .returned (.tuple #[.agg #[.int .i64 l[q].slot, .int .i64 l[q].backend, .int .i64 l[q].weight, .int .u32 l[q].load], .bool true]) ∧ Below w.heap.size w w' := by
  unfold refTwoI at hqe
  by_cases h1 : l[i].load < l[k].load
  · rw [if_pos h1] at hqe; subst hqe
    exact two_not b cap l x y i k w hl hc hb hx hx' hy hy' hi hk ei ek h1
  · by_cases h2 : l[k].load < l[i].load
    · rw [if_neg h1, if_pos h2] at hqe; subst hqe
      exact two_less b cap l x y i k w hl hc hb hx hx' hy hy' hi hk ei ek h2
    · rw [if_neg h1, if_neg h2] at hqe
      have he : l[k].load = l[i].load := by omega
      by_cases h3 : k < i
      · obtain rfl : k = q := by omega
        exact two_eqLess b cap l x y i k w hl hc hb hx hx' hy hy' hi hk ei ek he (rf_lt hr k i hi h3)
      · obtain rfl : i = q := by omega
        refine two_eqNot b cap l x y i k w hl hc hb hx hx' hy hy' hi hk ei ek he ?_
        by_cases h4 : i = k
        · subst h4; omega
        · have := rf_lt hr i k hk (by omega); omega

theorem refTwo_q (b off cap : Nat) (l : List Cd) (x y : Int) (i k q : Nat) (w : World) (hl : l.length ≤ 70) (hc : CellsAt w b off l) (hx : 0 ≤ x) (hx' : x ≤ 4294967295) (hy : 0 ≤ y) (hy' : y ≤ 4294967295)
    (hi : i < l.length) (hk : k < l.length) (ei : x % (l.length : Int) = (i : Int)) (ek : y % (l.length : Int) = (k : Int)) (hqe : refTwoI l i k hi hk = q) :
    Calls Try.prog 11 #[.slice (some ⟨b, off, none⟩) l.length cap, .int .u32 x, .int .u32 y] w fun e w' => e = .returned (.int .i64 (q : Int)) ∧ ∃ n, w' = w.drewN n := by
  have := refTwo_any b off cap l x y i k w hl hc hx hx' hy hy' hi hk ei ek
  rw [hqe] at this
  exact this

theorem two_nil (x y : Int) (w : World) :
    Calls Try.prog 10 #[.slice none 0 0, .int .u32 x, .int .u32 y] w fun e w' => e = .returned (.tuple #[.agg #[.int .i64 0, .int .i64 0, .int .i64 0, .int .u32 0], .bool false]) ∧ Below w.heap.size w w' := by
  go_enter Try.func10, Try.ntmps10
  go_wp2
  exact bodyPost_ret (results_blk_tmp (P := Try.prog) Try.results10 _ _ w.heap.size 32 #[.int .i64 0, .int .i64 0, .int .i64 0, .int .u32 0] _ rfl (Blk.new _ _ _) Try.underlying32 rfl (by kernel_rfl)) rfl ⟨rfl, (Below.refl _ _).alloc (Nat.le_refl _) _⟩

set_option maxHeartbeats 2000000 in
theorem turnTwo_far (A : Option Addr) (cap n : Nat) (x y : Int) (w : World) (h : 70 < n) (hn : n ≤ 9223372036854775807) :
    Calls Try.prog 4 #[.slice A n cap, .int .u32 x, .int .u32 y] w fun e w' => e = .returned (.bool true) ∧ Below w.heap.size w w' := by
  go_enter Try.func4, Try.ntmps4
  go_wp2_with fail
  refine (awake_any _).mono ?_
  rintro e w' ⟨rfl, hb⟩
  go_wp2_with fail
  go_ret
  exact ⟨rfl, hb⟩

set_option maxHeartbeats 2000000 in
theorem turnTwo_not (A : Option Addr) (cap : Nat) (l : List Cd) (x y : Int) (w : World) (B : Nat) (h : l.length ≤ 70) (hc : Cands w B A l) (hr : rightFrom (-1) l = false) :
    Calls Try.prog 4 #[.slice A l.length cap, .int .u32 x, .int .u32 y] w fun e w' => e = .returned (.bool true) ∧ Below w.heap.size w w' := by
  have HC := Lib.hid hc
  clear hc
  go_enter Try.func4, Try.ntmps4
  go_wp2_with fail
  refine (refRight_c B A cap l _ h HC.out).mono ?_
  rintro e w' ⟨rfl, rfl⟩
  go_wp2_with fail
  refine (awake_any _).mono ?_
  rintro e w' ⟨rfl, hb⟩
  go_wp2_with fail
  go_ret
  exact ⟨rfl, hb⟩

set_option maxHeartbeats 2000000 in
theorem turnTwo_empty (A : Option Addr) (cap : Nat) (x y : Int) (w : World) :
    Calls Try.prog 4 #[.slice A 0 cap, .int .u32 x, .int .u32 y] w fun e w' => e = .returned (.bool true) ∧ Below w.heap.size w w' := by
  go_enter Try.func4, Try.ntmps4
  go_wp2_with fail
  refine (refRight_nil A cap _).mono ?_
  rintro e w' ⟨rfl, rfl⟩
  go_wp2_with fail
  refine (to_nil A cap _).mono ?_
  rintro e w1 ⟨rfl, rfl⟩
  go_wp2_with fail
  refine (two_nil _ _ _).mono ?_
  rintro e w1 ⟨rfl, hb1⟩
  go_wp2_with fail
  refine (awake_any _).mono ?_
  rintro e w' ⟨rfl, hb⟩
  go_wp2_with fail
  go_ret
  exact ⟨rfl, (hb1.alloc hb1.size _).trans (hb.mono (by have := hb1.size; simp; omega))⟩

set_option maxRecDepth 100000 in
set_option maxHeartbeats 4000000 in
theorem turnTwo_yes (b off cap : Nat) (l : List Cd) (x y : Int) (w : World) (hx : 0 ≤ x) (hx' : x ≤ 4294967295) (hy : 0 ≤ y) (hy' : y ≤ 4294967295) (h : l.length ≤ 70) (hb : b < w.heap.size) (hc : CellsAt w b off l) (hr : rightFrom (-1) l = true) (hne : l ≠ []) :
    Calls Try.prog 4 #[.slice (some ⟨b, off, none⟩) l.length cap, .int .u32 x, .int .u32 y] w fun e w' => e = .returned (.bool true) ∧ Below w.heap.size w w' := by
  have HC := Lib.hid hc
  have HN := Lib.hid hne
  have hl0 : 0 < l.length := List.length_pos_iff.2 hne
  have hle : ((l.length : Int) == 0) = false := beq_eq_false_iff_ne.2 (by omega)
  obtain ⟨i, hi, ei⟩ : ∃ i : Nat, i < l.length ∧ x % (l.length : Int) = (i : Int) := ⟨(x % (l.length : Int)).toNat, by have := Int.emod_lt_of_pos x (b := (l.length : Int)) (by omega); have := Int.emod_nonneg x (b := (l.length : Int)) (by omega); omega, by have := Int.emod_nonneg x (b := (l.length : Int)) (by omega); omega⟩
  obtain ⟨k, hk, ek⟩ : ∃ i : Nat, i < l.length ∧ y % (l.length : Int) = (i : Int) := ⟨(y % (l.length : Int)).toNat, by have := Int.emod_lt_of_pos y (b := (l.length : Int)) (by omega); have := Int.emod_nonneg y (b := (l.length : Int)) (by omega); omega, by have := Int.emod_nonneg y (b := (l.length : Int)) (by omega); omega⟩
  obtain ⟨q, hqe⟩ : ∃ q, refTwoI l i k hi hk = q := ⟨_, rfl⟩
  have hq : q < l.length := by rw [← hqe]; exact refTwoI_lt l i k hi hk
  have hqI : (q : Int) < (l.length : Int) := by omega
  have EI := Lib.hid ei
  have EK := Lib.hid ek
  have EQ := Lib.hid hqe
  clear hc hne ei ek hqe
  go_enter Try.func4, Try.ntmps4
  go_wp2_with fail
  refine (refRight_any b off cap l _ h HC.out).mono ?_
  rintro e w' ⟨rfl, rfl⟩
  have HR := Lib.hid hr
  go_wp2_with fail
  refine (to_any b off cap l _ h HC.out hb).mono ?_
  rintro e w1 ⟨v, rfl, ho, hb1⟩
  obtain ⟨g, c, rfl, hg1, hg2⟩ := ho.form hl0
  have hcs := own_cells ho
  have HCS := Lib.hid hcs
  have HB1 := Lib.hid hb1
  clear ho hb1 hcs hr
  go_wp2_with fail
  refine (two_any g c l x y i k q _ HR.out h HCS.out hg2 hx hx' hy hy' hi hk EI.out EK.out hq EQ.out).mono ?_
  rintro e w2 ⟨rfl, hb2⟩
  have hcs2 : CellsAt w2 g 0 l := HCS.out.keep fun o => hb2.cell (p := ⟨g, o, none⟩) hg2
  have hbb : b < w1.heap.size := Nat.lt_of_lt_of_le hb HB1.out.size
  have hc2 : CellsAt w2 b off l := HC.out.keep fun o => (hb2.cell (p := ⟨b, o, none⟩) hbb).trans (HB1.out.cell (p := ⟨b, o, none⟩) hb)
  have hsz := hb2.size
  have hb3 : b < w2.heap.size := by omega
  have hg3 : g < w2.heap.size := by omega
  obtain ⟨c0, c1, c2, c3⟩ := hcs2 q hq
  simp only [Nat.zero_add] at c0 c1 c2 c3
  have HC2 := Lib.hid hc2
  have HB2 := Lib.hid (HB1.out.trans (hb2.mono HB1.out.size))
  clear hb2 hcs2 hc2
  go_wp2_with fail
  have hc3 : CellsAt (w2.alloc (.cells #[.int .i64 l[q].slot, .int .i64 l[q].backend, .int .i64 l[q].weight, .int .u32 l[q].load] 32)) b off l := HC2.out.keep fun o => World.cell?_alloc_lt _ _ _ hb3
  have HC3 := Lib.hid hc3
  clear hc3
  go_region_held3 (fun w' => w'.cell? ⟨w2.heap.size, 0, none⟩ = some (.int .i64 l[q].slot) ∧ w'.cell? ⟨w2.heap.size, 1, none⟩ = some (.int .i64 l[q].backend) ∧ w'.cell? ⟨w2.heap.size, 2, none⟩ = some (.int .i64 l[q].weight) ∧ w'.cell? ⟨w2.heap.size, 3, none⟩ = some (.int .u32 l[q].load) ∧
      w'.cell? ⟨g, q * 4, none⟩ = some (.int .i64 l[q].slot) ∧ w'.cell? ⟨g, q * 4 + 1, none⟩ = some (.int .i64 l[q].backend) ∧ w'.cell? ⟨g, q * 4 + 2, none⟩ = some (.int .i64 l[q].weight) ∧ w'.cell? ⟨g, q * 4 + 3, none⟩ = some (.int .u32 l[q].load))
    (first
      | go_keep
      | (go_split_ands
         refine ⟨?_, ?_, ?_, ?_, ?_, ?_, ?_, ?_⟩
         all_goals (rw [hb4.cell (by first | (simp; done) | (simp; omega))]; simp [go_sem]; try assumption)))
    (first
      | (go_at_call 11; refine (refTwo_q b off cap l x y i k q _ h (by exact HC3.out) hx hx' hy hy' hi hk EI.out EK.out EQ.out).mono ?_; rintro e w' ⟨rfl, n, rfl⟩)
      | (go_at_call 7; refine (awake_any _).mono ?_; rintro e w3 ⟨rfl, hb4⟩))
  go_wp2
  go_ret
  go_light
  refine ⟨rfl, Below.trans (b := _) ?_ (hb4.mono (by have := HB2.out.size; simp; omega))⟩
  first | exact HB2.out.alloc HB2.out.size _ | exact belowN (HB2.out.alloc HB2.out.size _) _ | exact (HB2.out.alloc HB2.out.size _).drew | exact belowN (HB2.out.alloc HB2.out.size _).drew _

theorem turnTwo_any (A : Option Addr) (cap : Nat) (l : List Cd) (x y : Int) (w : World) (hx : 0 ≤ x) (hx' : x ≤ 4294967295) (hy : 0 ≤ y) (hy' : y ≤ 4294967295) (hl : l.length ≤ maxLen) (hc : Cands w w.heap.size A l) :
    Calls Try.prog 4 #[.slice A l.length cap, .int .u32 x, .int .u32 y] w fun e w' => e = .returned (.bool true) ∧ Below w.heap.size w w' := by
  unfold maxLen at hl
  by_cases h : 70 < l.length
  · exact turnTwo_far A cap _ x y w h hl
  by_cases hr : rightFrom (-1) l = true
  · by_cases hne : l = []
    · subst hne
      exact turnTwo_empty A cap x y w
    · rcases hc with h0 | ⟨b, off, hb, rfl, hc⟩
      · exact absurd h0 hne
      · exact turnTwo_yes b off cap l x y w hx hx' hy hy' (by omega) hb hc hr hne
  · exact turnTwo_not A cap l x y w _ (by omega) hc (by simpa using hr)
end Go.Proofs.Ytokahoabhhipmaa
