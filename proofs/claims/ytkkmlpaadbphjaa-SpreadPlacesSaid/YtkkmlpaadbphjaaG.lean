/- The law SpreadPlaces, walked. -/
import Derived.Test.YtkkmlpaadbphjaaF
namespace Go.Proofs.Ytkkmlpaadbphjaa
open Go.RowKit
set_option linter.unusedVariables false

set_option maxRecDepth 100000 in
set_option maxHeartbeats 2000000 in
theorem skip_any (A C : Option Addr) (c d m k : Nat) (n sum gone : Int) (w : World) (hm : m ≤ maxLen) (hk : k ≤ maxLen) (h : 100 < m ∨ (m ≤ 100 ∧ 100 < k) ∨ (m ≤ 100 ∧ k ≤ 100 ∧ 512 < n ∧ n ≤ 4096)) :
    Calls Try.prog 4 #[.int .i64 n, .slice A m c, .int .u32 sum, .int .i64 gone, .slice C k d] w fun e w' => e = .returned (.bool true) ∧ Below w.heap.size w w' := by
  unfold maxLen at hm hk
  rcases h with h | ⟨h1, h2⟩ | ⟨h1, h2, h3, h4⟩
  all_goals
    go_enter Try.func4, Try.ntmps4
    go_wp2_with fail
    refine (awake_any w).mono ?_
    rintro e w1 ⟨rfl, hb⟩
    go_wp2_with fail
    go_ret
    exact ⟨rfl, hb⟩

set_option maxRecDepth 100000 in
set_option maxHeartbeats 4000000 in
theorem places_no (A C : Option Addr) (c d m k : Nat) (n sum gone : Int) (w : World) (n0 : -9223372036854775808 ≤ n) (n9 : n ≤ 9223372036854775807) (s0 : 0 ≤ sum) (s1 : sum ≤ 4294967295) (hm : m ≤ 100) (hk : k ≤ 100) (hn : ¬ (512 < n ∧ n ≤ 4096)) (h : m = 0 ∨ (0 < m ∧ n ∉ pow2s)) :
    Calls Try.prog 4 #[.int .i64 n, .slice A m c, .int .u32 sum, .int .i64 gone, .slice C k d] w fun e w' => e = .returned (.bool true) ∧ Below w.heap.size w w' := by
  have HN := Lib.hid (new_no A c m n w n0 n9 (by omega) (by
    rcases h with h | ⟨h1, h2⟩
    · exact .inl h
    · by_cases a : n < 1
      · exact .inr (.inl ⟨h1, a⟩)
      · by_cases b : 4096 < n
        · exact .inr (.inr (.inl ⟨h1, by omega, b⟩))
        · refine .inr (.inr (.inr ⟨h1, by omega, by omega, ?_⟩))
          obtain ⟨q, rfl⟩ := Int.eq_ofNat_of_zero_le (show 0 ≤ n by omega)
          rw [bne_iff_ne]
          intro e
          exact h2 ((and_pow q (by omega) (by omega)).1 e)))
  have hcmp : ¬ 512 < n ∨ ¬ n ≤ 4096 := by omega
  have hm' : decide ((100 : Int) < (m : Int)) = false := by simp; omega
  have hk' : decide ((100 : Int) < (k : Int)) = false := by simp; omega
  have HH := Lib.hid h
  clear h hn
  go_enter Try.func4, Try.ntmps4
  go_upto_region 1 with fail
  go_cut [37] (fun s wx => s = .bool false ∧ w = wx)
  case first =>
    rcases hcmp with h | h
    · go_wp2_with fail
      go_meet
      exact ⟨rfl, rfl⟩
    · by_cases h5 : 512 < n
      · go_wp2_with fail
        go_meet
        exact ⟨rfl, rfl⟩
      · exact absurd h (by omega)
  case rest =>
    obtain ⟨rfl, rfl⟩ := hcut
    clear hcmp
    go_wp2_with fail
    refine HN.out.mono ?_
    rintro e w1 ⟨rfl, hb1⟩
    have hs1 := hb1.size
    have HB1 := Lib.hid hb1
    clear hb1
    go_upto_region 5 with fail
    go_cut [52] (fun s wx => s = .bool true ∧ ((w1.alloc (.cells #[.slice none 0 0] 29)).alloc (.cells #[.slice none 0 0] 29)) = wx)
    case first =>
      rcases HH.out with rfl | ⟨h1, h2⟩
      · go_wp2_with fail
        go_meet
        exact ⟨rfl, rfl⟩
      · have m0 : ((m : Int) == 0) = false := beq_eq_false_iff_ne.2 (by omega)
        have HF := Lib.hid (decide_eq_false h2)
        go_wp2_with fail
        refine (refRight_any n _ n0 n9).mono ?_
        rintro e w2 ⟨rfl, rfl⟩
        rw [HF.out]
        go_wp2_with fail
        go_meet
        exact ⟨rfl, rfl⟩
    case rest =>
      obtain ⟨rfl, rfl⟩ := hcut
      have hT1 : Blk ((w1.alloc (.cells #[.slice none 0 0] 29)).alloc (.cells #[.slice none 0 0] 29)) w1.heap.size 29 #[.slice none 0 0] := (Blk.new _ _ _).alloc _
      have hT2 : Blk ((w1.alloc (.cells #[.slice none 0 0] 29)).alloc (.cells #[.slice none 0 0] 29)) (w1.heap.size + 1) 29 #[.slice none 0 0] := Blk.new_ (by simp) _ _
      have hB2 : Below w.heap.size w ((w1.alloc (.cells #[.slice none 0 0] 29)).alloc (.cells #[.slice none 0 0] 29)) := (HB1.out.alloc hs1 _).alloc (by simp; omega) _
      generalize (w1.alloc (.cells #[.slice none 0 0] 29)).alloc (.cells #[.slice none 0 0] 29) = w2 at hT1 hT2 hB2 ⊢
      have c1 := hT1.cell
      have c2 := hT2.cell
      have l1 := hT1.lt
      have l2 := hT2.lt
      have HT1 := Lib.hid hT1
      have HT2 := Lib.hid hT2
      have HB2 := Lib.hid hB2
      have hs2 := hB2.size
      clear hT1 hT2 hB2
      go_wp2_with fail
      refine (pick_any none 0 [] sum w2 s0 s1 (by simp) (.inl rfl)).mono ?_
      rintro e w3 ⟨rfl, hb3⟩
      rw [show pickI [] sum = -1 from rfl]
      have hs3 := hb3.size
      have hT1 := HT1.out.below hb3 l1
      have hT2 := HT2.out.below hb3 l2
      have HB3 := Lib.hid (HB2.out.trans (hb3.mono hs2))
      clear c1 c2
      have c1 := hT1.cell
      have c2 := hT2.cell
      have HT1 := Lib.hid hT1
      have HT2 := Lib.hid hT2
      clear hb3 hT1 hT2
      go_wp2_with fail
      refine (pick_any none 0 [] sum w3 s0 s1 (by simp) (.inl rfl)).mono ?_
      rintro e w4 ⟨rfl, hb4⟩
      rw [show pickI [] sum = -1 from rfl]
      have hs4 := hb4.size
      have hT1 := HT1.out.below hb4 (by omega)
      have HB4 := Lib.hid (HB3.out.trans (hb4.mono (by omega)))
      clear c1 c2
      have c1 := hT1.cell
      have HT1 := Lib.hid hT1
      clear hb4 hT1
      go_wp2_with fail
      refine (count_any none 0 [] gone w4 (by simp) (.inl rfl)).mono ?_
      rintro e w5 ⟨rfl, hb5⟩
      rw [show cnt [] gone = 0 from rfl]
      have hs5 := hb5.size
      have HB5 := Lib.hid (HB4.out.trans (hb5.mono (by omega)))
      clear hb5 c1
      go_wp2_with fail
      refine (awake_any w5).mono ?_
      rintro e w6 ⟨rfl, hb6⟩
      have HB6 := Lib.hid (HB5.out.trans (hb6.mono (by omega)))
      clear hb6
      go_wp2_with fail
      go_ret
      exact ⟨rfl, HB6.out⟩
end Go.Proofs.Ytkkmlpaadbphjaa
