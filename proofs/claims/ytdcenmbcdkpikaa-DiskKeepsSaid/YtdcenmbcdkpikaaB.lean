/- The law DiskKeeps, walked. -/
import Derived.Test.YtdcenmbcdkpikaaA
namespace Go.Proofs.Ytdcenmbcdkpikaa
open Go.RowKit
set_option linter.unusedVariables false

set_option maxHeartbeats 2000000 in
theorem awake_any (w : World) : Calls Try.prog 4 #[] w fun e w' => e = .returned (.bool true) ∧ Below w.heap.size w w' := by
  go_enter Try.func4, Try.ntmps4
  go_wp2_with fail
  refine (new_any 9 w (by omega)).mono ?_
  rintro e w1 ⟨rfl, hD, hb⟩
  have hs := hb.size
  have HD := Lib.hid (hD.kept ((Kept.refl _ w1).alloc (.cells #[.int .u8 1, .int .u8 2, .int .u8 3] 5)))
  have HB := Lib.hid (Kept.of_below (S := fun i => w.heap.size ≤ i) hb (fun i _ h => h))
  clear hD hb
  go_wp2_with fail
  refine (append_any w.heap.size w.heap.size 0 3 9 0 (.slice none 0 0) [] [1, 2, 3] (some ⟨w1.heap.size, 0, none⟩) _ (by omega) (by decide) HD.out (Own.of_blk (l := [1, 2, 3]) (Blk.new w1 5 _) (by decide)).bs (by simp; omega)).mono ?_
  rintro e w2 ⟨⟨v2, rfl, hD2⟩, hK2⟩
  have HD2 := Lib.hid hD2
  have HB2 := Lib.hid ((HB.out.alloc (.cells #[.int .u8 1, .int .u8 2, .int .u8 3] 5)).trans hK2)
  clear hD2 hK2
  go_wp2_with fail
  refine (crash_any w.heap.size w.heap.size 0 1 9 0 1 0 v2 ([] ++ [1, 2, 3]) w2 (by decide) (by decide) (by omega) (by omega) (by decide) HD2.out).mono ?_
  rintro e w3 ⟨v3, l3, rfl, hl3, -, hD3, hK3⟩
  rw [show ((([] ++ [1, 2, 3] : List UInt8).length : Int) - (((0 : Nat) : Int) + ((1 : Nat) : Int))) = 2 by decide]
  have HD3 := Lib.hid hD3
  have HL3 := Lib.hid hl3
  have HB3 := Lib.hid (HB2.out.trans hK3)
  clear hD3 hK3 hl3
  go_wp2_with fail
  refine (len_any w.heap.size w.heap.size (0 + 1) 9 0 v3 l3 w3 HD3.out).mono ?_
  rintro e w4 ⟨rfl, rfl⟩
  rw [HL3.out]
  go_wp2_with fail
  go_ret
  exact ⟨rfl, HB3.out.below (Nat.le_refl _) (fun i h => h)⟩

theorem keeps_long (A B : Option Addr) (a b n k : Nat) (keep bt : Int) (w : World) (h : 500 < n ∨ (n ≤ 500 ∧ 500 < k)) (hn : n ≤ maxLen) (hk : k ≤ maxLen) :
    Calls Try.prog 3 #[.slice A n a, .slice B k b, .int .i64 keep, .int .u8 bt] w fun e w' => e = .returned (.bool true) ∧ Below w.heap.size w w' := by
  unfold maxLen at hn hk
  rcases h with h | ⟨h1, h2⟩
  all_goals
    go_enter Try.func3, Try.ntmps3
    go_wp2_with fail
    refine (awake_any w).mono ?_
    rintro e w1 ⟨rfl, hb⟩
    have HB := Lib.hid hb
    have hs := hb.size
    clear hb
    go_wp2_with fail
    refine (awake_any w1).mono ?_
    rintro e w2 ⟨rfl, hb⟩
    go_wp2_with fail
    go_ret
    exact ⟨rfl, HB.out.trans (hb.mono hs)⟩

set_option maxRecDepth 100000 in
set_option maxHeartbeats 4000000 in
theorem keeps_any (A B : Option Addr) (ca cb : Nat) (a b : List UInt8) (keep bt : Int) (w : World) (ha : a.length ≤ 500) (hb : b.length ≤ 500) (hac : a.length ≤ ca) (hcm : ca ≤ maxLen) (b0 : 0 ≤ bt) (b1 : bt ≤ 255) (hA : BS w w.heap.size A a) (hB : BS w w.heap.size B b) :
    Calls Try.prog 3 #[.slice A a.length ca, .slice B b.length cb, .int .i64 keep, .int .u8 bt] w fun e w' => e = .returned (.bool true) ∧ Below w.heap.size w w' := by
  have HA := Lib.hid hA
  have HB := Lib.hid hB
  clear hA hB
  go_enter Try.func3, Try.ntmps3
  go_wp2_with fail
  refine (awake_any w).mono ?_
  rintro e w0 ⟨rfl, hb0⟩
  have hs0 := hb0.size
  have HB0 := Lib.hid hb0
  clear hb0
  go_wp2_with fail
  refine (new_any 1000 w0 (by omega)).mono ?_
  rintro e w1 ⟨rfl, hD, hb1⟩
  obtain ⟨base, hbase⟩ : ∃ base, base = w0.heap.size := ⟨_, rfl⟩
  rw [← hbase] at hD hs0 ⊢
  have hs1 : base ≤ w1.heap.size := by rw [hbase]; exact hb1.size
  have HD := Lib.hid hD
  have HK1 := Lib.hid (show Kept (fun i => base ≤ i) w w1 from (Kept.of_below HB0.out (fun i hi h => absurd hi (by omega))).trans (Kept.of_below hb1 (fun i _ h => by omega)))
  have bsA : ∀ w', Kept (fun i => base ≤ i) w w' → BS w' w'.heap.size A a := fun w' hk => (HA.out.kept hk (Nat.le_refl _) (fun i hi h => by omega)).more hk.size
  have bsB : ∀ w', Kept (fun i => base ≤ i) w w' → BS w' w'.heap.size B b := fun w' hk => (HB.out.kept hk (Nat.le_refl _) (fun i hi h => by omega)).more hk.size
  have BA := Lib.hid bsA
  have BB := Lib.hid bsB
  clear hD hb1 HB0 hbase bsA bsB
  go_wp2_with fail
  refine (append_any base base 0 ca 1000 0 (.slice none 0 0) [] a A w1 (by omega) (by simp; omega) HD.out (BA.out w1 HK1.out) hs1).mono ?_
  rintro e w2 ⟨⟨v2, rfl, hD2⟩, hK2⟩
  rw [List.nil_append] at hD2
  have hs2 := hK2.size
  have HD2 := Lib.hid hD2
  have HK2 := Lib.hid (HK1.out.trans hK2)
  clear hD2 hK2
  go_wp2_with fail
  refine (sync_any base base 0 1000 0 v2 a w2 (by omega) (by omega) (by omega) HD2.out).mono ?_
  rintro e w3 ⟨rfl, hD3, hK3⟩
  have hs3 := hK3.size
  have HD3 := Lib.hid hD3
  have HK3 := Lib.hid (HK2.out.trans hK3)
  clear hD3 hK3
  go_wp2_with fail
  refine (append_any base base a.length cb 1000 (0 + 1) v2 a b B w3 (by omega) (by omega) HD3.out (BB.out w3 HK3.out) (by omega)).mono ?_
  rintro e w4 ⟨⟨v4, rfl, hD4⟩, hK4⟩
  have hs4 := hK4.size
  have HD4 := Lib.hid hD4
  have HK4 := Lib.hid (HK3.out.trans hK4)
  clear hD4 hK4
  go_wp2_with fail
  obtain ⟨kk, hkk⟩ : ∃ kk : Nat, (kk : Int) = min (max keep 0) (((a ++ b).length : Int) - a.length) := ⟨(min (max keep 0) (((a ++ b).length : Int) - a.length)).toNat, by rw [List.length_append]; omega⟩
  have hkb : kk ≤ b.length := by rw [List.length_append] at hkk; omega
  refine (crash_any base base a.length kk 1000 (0 + 1) keep bt v4 (a ++ b) w4 (by rw [List.length_append]; omega) (by rw [List.length_append]; omega) b0 b1 hkk HD4.out).mono ?_
  rintro e w5 ⟨v5, l5, rfl, hl5, ht5, hD5, hK5⟩
  rw [List.take_left] at ht5
  rw [show (((a ++ b).length : Int) - ((a.length : Int) + (kk : Int))) = (b.length : Int) - (kk : Int) by rw [List.length_append]; omega]
  have hs5 := hK5.size
  have HD5 := Lib.hid hD5
  have HL5 := Lib.hid hl5
  have HT5 := Lib.hid ht5
  have HK5 := Lib.hid (HK4.out.trans hK5)
  clear hD5 hK5 hl5 ht5 hkk
  go_wp2_with fail
  refine (read_any base base (a.length + kk) 1000 (0 + 1) v5 l5 w5 (by rw [HL5.out]; omega) HD5.out).mono ?_
  rintro e w6 ⟨u, rfl, hy, hb6⟩
  obtain ⟨XA, xc, rfl, hx1, hx2, hbs⟩ := hy
  rw [HL5.out] at hx1 ⊢
  have hs6 := hb6.size
  have HD6 := Lib.hid (HD5.out.kept (Kept.ofB hb6))
  have HX := Lib.hid (hbs.take_ a.length)
  rw [HT5.out] at HX
  have HK6 := Lib.hid (HK5.out.trans (Kept.of_below hb6 (fun i _ h => by omega)))
  have HA6 := Lib.hid (BA.out w6 HK6.out)
  unfold maxLen at hx2
  clear hbs hb6
  go_wp2_with fail
  refine wp_region_kept 43 [(34, fun v _ => v = .int .i64 ((a.length + kk : Nat) : Int)), (40, fun v _ => v = .bool true)] ?st ?ne rfl (by kernel_rfl) (by kernel_rfl) ?_
  case st =>
    intro p hp
    simp only [List.mem_cons, List.not_mem_nil, or_false] at hp
    rcases hp with rfl | rfl
    · intro v u u' h hk; exact h
    · intro v u u' h hk; exact h
  case ne =>
    intro p hp
    simp only [List.mem_cons, List.not_mem_nil, or_false] at hp
    rcases hp with rfl | rfl
    · exact ⟨_, _, Kept.refl _ _, rfl⟩
    · exact ⟨_, _, Kept.refl _ _, rfl⟩
  simp only [List.take_succ_cons, List.take_zero, List.drop_succ_cons, List.drop_zero]
  intro G pick hR hp1 hp2
  have hcA : ∀ u, (convert 22 9 (.slice A a.length ca)).run Try.prog (pick u) = .ok (.string ⟨a.toArray⟩) (pick u) := fun u => (HA6.out.on (hp1 u) (fun _ _ h => h)).conv Try.underlying22 Try.underlying5 Try.underlying9
  have hcX : ∀ u, (convert 22 9 (.slice XA a.length xc)).run Try.prog (pick u) = .ok (.string ⟨a.toArray⟩) (pick u) := fun u => (HX.out.on (hp1 u) (fun _ _ h => h)).conv Try.underlying22 Try.underlying5 Try.underlying9
  have w1' : IntKind.i64.wrap ((a.length : Int) + (b.length : Int)) = (a.length : Int) + (b.length : Int) := IntWalk.i64_in _ (by omega)
  have w2' : IntKind.i64.wrap ((a.length : Int) + (b.length : Int) - ((b.length : Int) - (kk : Int))) = ((a.length + kk : Nat) : Int) := by rw [IntWalk.i64_in _ (by omega)]; omega
  repeat (first | (refine wpR_det hp2 rfl ((hR.rel _).trans rfl) rfl ?_; intro K hK; go_big_quiet_op; go_big_quiet_on) | (refine wpR_skip pick rfl ?_; intro K hK; go_big_quiet_op; go_big_quiet_on))
  refine wpR_rel pick rfl ((hR.rel _).trans rfl) ((hR.turns _).trans rfl) ?_ ?_
  · intro u hu
    have hk := hR.since hu.1
    have hks := hk.size
    have hD7 := HD6.out.kept hk
    unfold relAt
    go_simp
    refine (safe_any base base (a.length + kk) 1000 (0 + 1) v5 l5 u hD7).mono ?_
    rintro e w' ⟨rfl, rfl⟩
    exact ⟨_, rfl, hR.same, hR.put 0 rfl rfl rfl⟩
  intro v hv
  obtain ⟨u, _, hu⟩ := hv
  obtain rfl := hR.get 0 rfl hu
  clear hu
  intro K hK
  go_big_quiet_op
  go_big_quiet_on
  repeat (first | (refine wpR_det hp2 rfl ((hR.rel _).trans rfl) rfl ?_; intro K hK; go_big_quiet_op; go_big_quiet_on) | (refine wpR_skip pick rfl ?_; intro K hK; go_big_quiet_op; go_big_quiet_on))
  refine wpR_rel pick rfl ((hR.rel _).trans rfl) ((hR.turns _).trans rfl) ?_ ?_
  · intro u hu
    have hk := hR.since hu.1
    have hks := hk.size
    unfold relAt
    go_simp
    refine (awake_any u).mono ?_
    rintro e w' ⟨rfl, hb⟩
    exact ⟨_, rfl, hR.intoB hb, hR.put 1 rfl rfl rfl⟩
  intro v hv
  obtain ⟨u, _, hu⟩ := hv
  obtain rfl := hR.get 1 rfl hu
  clear hu
  intro K hK
  go_big_quiet_op
  go_big_quiet_on
  repeat (first | (refine wpR_det hp2 rfl ((hR.rel _).trans rfl) rfl ?_; intro K hK; go_big_quiet_op; go_big_quiet_on) | (refine wpR_skip pick rfl ?_; intro K hK; go_big_quiet_op; go_big_quiet_on))
  refine wpR_nil ?_
  intro w7 hk2 hF hM
  have HB7 := Lib.hid ((HK6.out.then hk2 (fun _ _ h => h.elim)).below (B := w.heap.size) (Nat.le_refl _) (fun i h => by omega))
  clear hF hk2 hM
  go_wp2_with fail
  go_ret
  exact ⟨rfl, HB7.out⟩
theorem keeps_l (A B : Option Addr) (ca cb : Nat) (a b : List UInt8) (keep bt : Int) (w : World) (h1 : a.length ≤ ca) (h2 : ca ≤ maxLen) (h3 : b.length ≤ cb) (h4 : cb ≤ maxLen) (b0 : 0 ≤ bt) (b1 : bt ≤ 255) (hA : BS w w.heap.size A a) (hB : BS w w.heap.size B b) :
    Calls Try.prog 3 #[.slice A a.length ca, .slice B b.length cb, .int .i64 keep, .int .u8 bt] w fun e w' => e = .returned (.bool true) ∧ Below w.heap.size w w' := by
  by_cases h : 500 < a.length ∨ (a.length ≤ 500 ∧ 500 < b.length)
  · exact keeps_long A B ca cb _ _ keep bt w h (by omega) (by omega)
  · exact keeps_any A B ca cb a b keep bt w (by omega) (by omega) h1 h2 b0 b1 hA hB
end Go.Proofs.Ytdcenmbcdkpikaa
