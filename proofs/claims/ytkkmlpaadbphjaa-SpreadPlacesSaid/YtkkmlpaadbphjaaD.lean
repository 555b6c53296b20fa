/- Contracts of spread.Count, Without, slices.Clone, New where it says no, the reference's Right, Places, Without. -/
import Derived.Test.YtkkmlpaadbphjaaB
namespace Go.Proofs.Ytkkmlpaadbphjaa
open Go.RowKit
set_option linter.unusedVariables false

/-- The value v is a slice of whole numbers that reads as l. -/
def Nms (w : World) (v : Value) (l : List Int) : Prop := ∃ A c, v = .slice A l.length c ∧ l.length ≤ c ∧ c ≤ maxLen ∧ NS w w.heap.size A .i64 l
theorem Nms.onB {w w' : World} {v : Value} {l : List Int} (h : Nms w v l) (hk : Below w.heap.size w w') : Nms w' v l := by
  obtain ⟨A, c, rfl, h1, h2, h3⟩ := h
  exact ⟨A, c, rfl, h1, h2, h3.onB hk⟩
theorem Nms.on0 {w w' : World} {v : Value} {l : List Int} (h : Nms w v l) (hk : Kept (fun _ => False) w w') : Nms w' v l := by
  obtain ⟨A, c, rfl, h1, h2, h3⟩ := h
  exact ⟨A, c, rfl, h1, h2, h3.on0 hk⟩
theorem is_one (l : List Int) : ∀ u ∈ is l, u.oneCell' = true := by
  intro u hu
  obtain ⟨_, _, rfl⟩ := List.mem_map.1 hu
  rfl
theorem is_append (l m : List Int) : is (l ++ m) = is l ++ is m := by simp [is]
theorem Row.nms {w : World} {base e : Nat} {v : Value} {l : List Int} (h : Row w base e v (is l)) : Nms w v l := by
  obtain ⟨A, c, rfl, h1, h2⟩ := h.shape
  rw [is_length] at h1 ⊢
  refine ⟨A, c, rfl, h1, h2, ?_⟩
  by_cases h0 : l = []
  · exact .inl h0
  · obtain ⟨g, c', e1, _, hlt, hc⟩ := h.at (i := 0) (by rw [is_length]; exact List.length_pos_iff.2 h0)
    injection e1 with e1
    subst e1
    refine .inr ⟨g, 0, hlt, rfl, fun i hi => ?_⟩
    rw [Nat.zero_add, hc i (by rw [is_length]; exact hi)]
    simp [is]
theorem NS.src {w : World} {B : Nat} {A : Option Addr} {l : List Int} (h : NS w B A .i64 l) : Src w A (is l) := by
  rcases h with rfl | ⟨b, o, _, rfl, h2⟩
  · exact .inl rfl
  · refine .inr ⟨_, rfl, fun j u hu => ?_⟩
    have hj : j < l.length := by
      rcases Nat.lt_or_ge j l.length with h | h
      · exact h
      · rw [List.getElem?_eq_none (by rw [is_length]; exact h)] at hu; cases hu
    rw [Addr.add_lit, h2 j hj]
    simpa [is, hj] using hu
theorem Try.info3 : (Try.prog.info? 3).map (fun i => (i.zero, i.size, i.bytes)) = some (some (.int .i64 0), 1, 8) := by kernel_rfl

/-- How many of l are x. -/
def cnt (l : List Int) (x : Int) : Nat := l.count x
theorem cnt_take (l : List Int) (x : Int) (k : Nat) (h : k < l.length) : cnt (l.take (k + 1)) x = cnt (l.take k) x + if l[k] = x then 1 else 0 := by
  unfold cnt
  rw [List.take_succ_eq_append_getElem h, List.count_append, List.count_singleton]
  simp
theorem cnt_le (l : List Int) (x : Int) (k : Nat) : cnt (l.take k) x ≤ k := Nat.le_trans List.count_le_length (by simp; omega)

set_option maxHeartbeats 1000000 in
theorem count_any (A : Option Addr) (c : Nat) (l : List Int) (x : Int) (w : World) (hl : l.length ≤ 1000000) (hA : NS w w.heap.size A .i64 l) :
    Calls Try.prog 11 #[.agg #[.slice A l.length c], .int .i64 x] w fun e w' => e = .returned (.int .i64 (cnt l x : Int)) ∧ Below w.heap.size w w' := by
  have HA := Lib.hid hA
  clear hA
  go_enter Try.func11, Try.ntmps11
  go_wp2_with fail
  go_loop [5, 7, 11] (fun n _ i => ∃ k : Nat, k ≤ l.length ∧ i = .int .i64 (k : Int) ∧ n = .int .i64 (cnt (l.take k) x : Int)) (fun _ _ i => l.length - (intOf i).toNat)
  case atStart => exact ⟨0, by omega, rfl, rfl⟩
  case round =>
    obtain ⟨k, hk, rfl, rfl⟩ := hrel
    have hcl := cnt_le l x k
    by_cases hlt : k < l.length
    · obtain ⟨b, o, hb, rfl, hca⟩ := HA.out.at hlt
      have c1 := hca k hlt
      have HT := Lib.hid (cnt_take l x k hlt)
      have kI : (k : Int) < (l.length : Int) := by omega
      generalize l[k] = y at c1 HT
      have hbw : b < w.heap.size := hb
      clear hca
      by_cases hy : y = x
      · have hy' : ((y : Int) == x) = true := beq_iff_eq.2 hy
        have HT2 := Lib.hid (HT.out.trans (by rw [if_pos hy]))
        generalize cnt (l.take k) x = m at hcl HT2 ⊢
        clear hy
        go_wp2_with fail
        go_round
        case rel => exact ⟨k + 1, by omega, by go_num, by rw [HT2.out]; go_num⟩
        case measure => simp [intOf]; omega
      · have hy' : ((y : Int) == x) = false := beq_eq_false_iff_ne.2 hy
        have HT2 := Lib.hid (HT.out.trans (by rw [if_neg hy]))
        go_wp2_with fail
        go_round
        case rel => exact ⟨k + 1, by omega, by go_num, by rw [HT2.out]; rfl⟩
        case measure => simp [intOf]; omega
    · obtain rfl : k = l.length := by omega
      go_wp2_with fail
      go_ret
      exact ⟨rfl, (Below.refl _ _).alloc (Nat.le_refl _) _⟩

def pow2s : List Int := [1, 2, 4, 8, 16, 32, 64, 128, 256, 512, 1024, 2048, 4096]
theorem refRight_any (n : Int) (w : World) (h0 : -9223372036854775808 ≤ n) (h1 : n ≤ 9223372036854775807) :
    Calls Try.prog 9 #[.int .i64 n] w fun e w' => e = .returned (.bool (decide (n ∈ pow2s))) ∧ w = w' := by
  go_enter Try.func9, Try.ntmps9
  go_wp2_with fail
  go_loop [3] (fun i => ∃ k : Nat, k ≤ 13 ∧ i = .int .i64 ((2 : Int) ^ k) ∧ Hid (n ∉ pow2s.take k)) (fun i => (8192 - intOf i).toNat)
  case atStart => exact ⟨0, by omega, rfl, Lib.hid (by simp)⟩
  case round =>
    obtain ⟨k, hk, rfl, HN⟩ := hrel
    have : k = 0 ∨ k = 1 ∨ k = 2 ∨ k = 3 ∨ k = 4 ∨ k = 5 ∨ k = 6 ∨ k = 7 ∨ k = 8 ∨ k = 9 ∨ k = 10 ∨ k = 11 ∨ k = 12 ∨ k = 13 := by omega
    rcases this with rfl | rfl | rfl | rfl | rfl | rfl | rfl | rfl | rfl | rfl | rfl | rfl | rfl | rfl
    · rw [show (2 : Int) ^ 0 = 1 from rfl]
      by_cases hy : n = 1
      · subst hy
        go_wp2_with fail
        go_ret
        exact ⟨rfl, rfl⟩
      · have hy' : (((1 : Int)) == n) = false := beq_eq_false_iff_ne.2 (fun h => hy h.symm)
        have HN2 := Lib.hid (show n ∉ pow2s.take (0 + 1) by have := HN.out; simp [pow2s] at this ⊢; omega)
        clear hy HN
        go_wp2_with fail
        go_round
        case rel => exact ⟨0 + 1, by omega, rfl, HN2⟩
        case measure => simp [intOf]
    · rw [show (2 : Int) ^ 1 = 2 from rfl]
      by_cases hy : n = 2
      · subst hy
        go_wp2_with fail
        go_ret
        exact ⟨rfl, rfl⟩
      · have hy' : (((2 : Int)) == n) = false := beq_eq_false_iff_ne.2 (fun h => hy h.symm)
        have HN2 := Lib.hid (show n ∉ pow2s.take (1 + 1) by have := HN.out; simp [pow2s] at this ⊢; omega)
        clear hy HN
        go_wp2_with fail
        go_round
        case rel => exact ⟨1 + 1, by omega, rfl, HN2⟩
        case measure => simp [intOf]
    · rw [show (2 : Int) ^ 2 = 4 from rfl]
      by_cases hy : n = 4
      · subst hy
        go_wp2_with fail
        go_ret
        exact ⟨rfl, rfl⟩
      · have hy' : (((4 : Int)) == n) = false := beq_eq_false_iff_ne.2 (fun h => hy h.symm)
        have HN2 := Lib.hid (show n ∉ pow2s.take (2 + 1) by have := HN.out; simp [pow2s] at this ⊢; omega)
        clear hy HN
        go_wp2_with fail
        go_round
        case rel => exact ⟨2 + 1, by omega, rfl, HN2⟩
        case measure => simp [intOf]
    · rw [show (2 : Int) ^ 3 = 8 from rfl]
      by_cases hy : n = 8
      · subst hy
        go_wp2_with fail
        go_ret
        exact ⟨rfl, rfl⟩
      · have hy' : (((8 : Int)) == n) = false := beq_eq_false_iff_ne.2 (fun h => hy h.symm)
        have HN2 := Lib.hid (show n ∉ pow2s.take (3 + 1) by have := HN.out; simp [pow2s] at this ⊢; omega)
        clear hy HN
        go_wp2_with fail
        go_round
        case rel => exact ⟨3 + 1, by omega, rfl, HN2⟩
        case measure => simp [intOf]
    · rw [show (2 : Int) ^ 4 = 16 from rfl]
      by_cases hy : n = 16
      · subst hy
        go_wp2_with fail
        go_ret
        exact ⟨rfl, rfl⟩
      · have hy' : (((16 : Int)) == n) = false := beq_eq_false_iff_ne.2 (fun h => hy h.symm)
        have HN2 := Lib.hid (show n ∉ pow2s.take (4 + 1) by have := HN.out; simp [pow2s] at this ⊢; omega)
        clear hy HN
        go_wp2_with fail
        go_round
        case rel => exact ⟨4 + 1, by omega, rfl, HN2⟩
        case measure => simp [intOf]
    · rw [show (2 : Int) ^ 5 = 32 from rfl]
      by_cases hy : n = 32
      · subst hy
        go_wp2_with fail
        go_ret
        exact ⟨rfl, rfl⟩
      · have hy' : (((32 : Int)) == n) = false := beq_eq_false_iff_ne.2 (fun h => hy h.symm)
        have HN2 := Lib.hid (show n ∉ pow2s.take (5 + 1) by have := HN.out; simp [pow2s] at this ⊢; omega)
        clear hy HN
        go_wp2_with fail
        go_round
        case rel => exact ⟨5 + 1, by omega, rfl, HN2⟩
        case measure => simp [intOf]
    · rw [show (2 : Int) ^ 6 = 64 from rfl]
      by_cases hy : n = 64
      · subst hy
        go_wp2_with fail
        go_ret
        exact ⟨rfl, rfl⟩
      · have hy' : (((64 : Int)) == n) = false := beq_eq_false_iff_ne.2 (fun h => hy h.symm)
        have HN2 := Lib.hid (show n ∉ pow2s.take (6 + 1) by have := HN.out; simp [pow2s] at this ⊢; omega)
        clear hy HN
        go_wp2_with fail
        go_round
        case rel => exact ⟨6 + 1, by omega, rfl, HN2⟩
        case measure => simp [intOf]
    · rw [show (2 : Int) ^ 7 = 128 from rfl]
      by_cases hy : n = 128
      · subst hy
        go_wp2_with fail
        go_ret
        exact ⟨rfl, rfl⟩
      · have hy' : (((128 : Int)) == n) = false := beq_eq_false_iff_ne.2 (fun h => hy h.symm)
        have HN2 := Lib.hid (show n ∉ pow2s.take (7 + 1) by have := HN.out; simp [pow2s] at this ⊢; omega)
        clear hy HN
        go_wp2_with fail
        go_round
        case rel => exact ⟨7 + 1, by omega, rfl, HN2⟩
        case measure => simp [intOf]
    · rw [show (2 : Int) ^ 8 = 256 from rfl]
      by_cases hy : n = 256
      · subst hy
        go_wp2_with fail
        go_ret
        exact ⟨rfl, rfl⟩
      · have hy' : (((256 : Int)) == n) = false := beq_eq_false_iff_ne.2 (fun h => hy h.symm)
        have HN2 := Lib.hid (show n ∉ pow2s.take (8 + 1) by have := HN.out; simp [pow2s] at this ⊢; omega)
        clear hy HN
        go_wp2_with fail
        go_round
        case rel => exact ⟨8 + 1, by omega, rfl, HN2⟩
        case measure => simp [intOf]
    · rw [show (2 : Int) ^ 9 = 512 from rfl]
      by_cases hy : n = 512
      · subst hy
        go_wp2_with fail
        go_ret
        exact ⟨rfl, rfl⟩
      · have hy' : (((512 : Int)) == n) = false := beq_eq_false_iff_ne.2 (fun h => hy h.symm)
        have HN2 := Lib.hid (show n ∉ pow2s.take (9 + 1) by have := HN.out; simp [pow2s] at this ⊢; omega)
        clear hy HN
        go_wp2_with fail
        go_round
        case rel => exact ⟨9 + 1, by omega, rfl, HN2⟩
        case measure => simp [intOf]
    · rw [show (2 : Int) ^ 10 = 1024 from rfl]
      by_cases hy : n = 1024
      · subst hy
        go_wp2_with fail
        go_ret
        exact ⟨rfl, rfl⟩
      · have hy' : (((1024 : Int)) == n) = false := beq_eq_false_iff_ne.2 (fun h => hy h.symm)
        have HN2 := Lib.hid (show n ∉ pow2s.take (10 + 1) by have := HN.out; simp [pow2s] at this ⊢; omega)
        clear hy HN
        go_wp2_with fail
        go_round
        case rel => exact ⟨10 + 1, by omega, rfl, HN2⟩
        case measure => simp [intOf]
    · rw [show (2 : Int) ^ 11 = 2048 from rfl]
      by_cases hy : n = 2048
      · subst hy
        go_wp2_with fail
        go_ret
        exact ⟨rfl, rfl⟩
      · have hy' : (((2048 : Int)) == n) = false := beq_eq_false_iff_ne.2 (fun h => hy h.symm)
        have HN2 := Lib.hid (show n ∉ pow2s.take (11 + 1) by have := HN.out; simp [pow2s] at this ⊢; omega)
        clear hy HN
        go_wp2_with fail
        go_round
        case rel => exact ⟨11 + 1, by omega, rfl, HN2⟩
        case measure => simp [intOf]
    · rw [show (2 : Int) ^ 12 = 4096 from rfl]
      by_cases hy : n = 4096
      · subst hy
        go_wp2_with fail
        go_ret
        exact ⟨rfl, rfl⟩
      · have hy' : (((4096 : Int)) == n) = false := beq_eq_false_iff_ne.2 (fun h => hy h.symm)
        have HN2 := Lib.hid (show n ∉ pow2s.take (12 + 1) by have := HN.out; simp [pow2s] at this ⊢; omega)
        clear hy HN
        go_wp2_with fail
        go_round
        case rel => exact ⟨12 + 1, by omega, rfl, HN2⟩
        case measure => simp [intOf]
    · rw [show (2 : Int) ^ 13 = 8192 from rfl]
      have HF := Lib.hid (show decide (n ∈ pow2s) = false from decide_eq_false HN.out)
      clear HN
      go_wp2_with fail
      go_ret
      exact ⟨ret_bool HF.out.symm, rfl⟩

theorem i64_and_nat (a b : Nat) (ha : a < 9223372036854775808) (hb : b < 9223372036854775808) : bits .and .i64 (a : Int) (b : Int) = ((a &&& b : Nat) : Int) := by
  have hx : a &&& b < 2 ^ 63 := Nat.and_lt_two_pow _ (by omega)
  show IntKind.i64.wrap ((BitVec.ofInt 64 (a : Int) &&& BitVec.ofInt 64 (b : Int)).toNat : Int) = _
  rw [BitVec.toNat_and, ofInt_u64 a (by omega), ofInt_u64 b (by omega), IntKind.wrap_i64]
  omega
theorem and_pow (n : Nat) (h1 : 1 ≤ n) (h2 : n ≤ 4096) : (bits .and .i64 (n : Int) ((n : Int) - 1) = 0) ↔ (n : Int) ∈ pow2s := by
  have e : ((n : Int) - 1) = ((n - 1 : Nat) : Int) := by omega
  rw [e, i64_and_nat n (n - 1) (by omega) (by omega)]
  have key : ∀ a : Fin 65, ∀ b : Fin 64, 1 ≤ 64 * a.val + b.val → 64 * a.val + b.val ≤ 4096 → (((64 * a.val + b.val) &&& (64 * a.val + b.val - 1) = 0) ↔ ((64 * a.val + b.val : Nat) : Int) ∈ pow2s) := by decide +kernel
  have := key ⟨n / 64, by omega⟩ ⟨n % 64, by omega⟩
  simp only at this
  rw [show 64 * (n / 64) + n % 64 = n by omega] at this
  rw [← this h1 h2]
  omega
set_option maxHeartbeats 1000000 in
theorem new_no (A : Option Addr) (c m : Nat) (n : Int) (w : World) (h0 : -9223372036854775808 ≤ n) (h1 : n ≤ 9223372036854775807) (hm : m ≤ 1000000) (h : m = 0 ∨ (0 < m ∧ n < 1) ∨ (0 < m ∧ 1 ≤ n ∧ 4096 < n) ∨ (0 < m ∧ 1 ≤ n ∧ n ≤ 4096 ∧ (bits .and .i64 n (n - 1) != 0) = true)) :
    Calls Try.prog 8 #[.int .i64 n, .slice A m c] w fun e w' => e = .returned (.tuple #[.agg #[.slice none 0 0], .int .i64 1]) ∧ Below w.heap.size w w' := by
  rcases h with rfl | ⟨h2, h3⟩ | ⟨h2, h3, h4⟩ | ⟨h2, h3, h4, h5⟩
  · go_enter Try.func8, Try.ntmps8
    go_wp2_with fail
    exact bodyPost_ret (results_blk_tmp rfl _ _ _ _ _ _ rfl (Blk.new _ _ _) Try.underlying29 rfl (by kernel_rfl)) rfl ⟨rfl, (Below.refl _ _).alloc (Nat.le_refl _) _⟩
  all_goals
    have m0 : ((m : Int) == 0) = false := beq_eq_false_iff_ne.2 (by omega)
    go_enter Try.func8, Try.ntmps8
    go_wp2_with fail
    exact bodyPost_ret (results_blk_tmp rfl _ _ _ _ _ _ rfl (Blk.new _ _ _) Try.underlying29 rfl (by kernel_rfl)) rfl ⟨rfl, (Below.refl _ _).alloc (Nat.le_refl _) _⟩

theorem cloneI_any (A : Option Addr) (c : Nat) (l : List Int) (w : World) (hl : l.length ≤ 1000000) (h0 : 0 < l.length) (hB : NS w w.heap.size A .i64 l) :
    Calls Try.prog 20 #[.slice A l.length c] w fun e w' => ∃ g cap, e = .returned (.slice (some ⟨g, 0, none⟩) l.length cap) ∧ Row w' w.heap.size 3 (.slice (some ⟨g, 0, none⟩) l.length cap) (is l) ∧ Below w.heap.size w w' := by
  obtain ⟨b, o, hb, rfl, _⟩ := hB.at h0
  have hq := fun W => Lib.run_eql_slice_nil (P := Try.prog) W 27 3 (some ⟨b, o, none⟩) l.length c 0 0 Try.underlying27
  have h5 := Try.info3
  have HB := Lib.hid hB
  clear hB
  go_enter Try.func20, Try.ntmps20
  go_wp2_with (at_builtin; refine wpList_append_row rfl (.tmp 5) (.tmp 6) 27 rfl w.heap.size 3 (.int .i64 0) 8 Try.underlying27 h5 rfl _ [] rfl (some ⟨b, o, none⟩) l.length c (is l) rfl (is_length l).symm ?a1 ?a2 (is_one l) ?a3 ?a4 ?a5 ?_)
  case a1 => exact Row.of_blk (cs := #[]) (Blk.new_ rfl _ _) (Nat.le_refl _) (by simp) rfl
  case a2 => exact (HB.out.keep (fun b o hb => World.cell?_alloc_lt _ _ _ hb)).src
  case a3 => rw [is_length]; unfold maxLen; simp; omega
  case a4 => rw [is_length]; simp; omega
  case a5 => simp
  intro v1 w1 hrow hgr _
  obtain ⟨g, cap, rfl, _, _, _⟩ := hrow.at (i := 0) (by rw [is_length]; exact h0)
  have HR := Lib.hid hrow
  have HB1 := Lib.hid (show Below w.heap.size w w1 from ((Below.refl _ _).alloc (Nat.le_refl _) _).trans (below_grown hgr (fun i e => by simp [Value.ownBlock] at e; omega) (by simp)))
  clear hrow hgr
  go_wp2_with fail
  go_ret
  have := HR.out
  simp only [is_length] at this
  refine ⟨g, cap, ?_, this, HB1.out⟩
  simp [is_length]
end Go.Proofs.Ytkkmlpaadbphjaa
