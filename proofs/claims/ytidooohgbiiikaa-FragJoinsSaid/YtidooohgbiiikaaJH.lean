/- The law FragJoins at any packets. -/
import Derived.Test.YtidooohgbiiikaaJG
import Derived.Test.YtidooohgbiiikaaJC
import Derived.Test.YtidooohgbiiikaaJE
namespace Go.Proofs.Ytidooohgbiiikaa
open Go.RowKit
set_option linter.unusedVariables false
set_option linter.unusedSimpArgs false
set_option maxRecDepth 100000 in
set_option maxHeartbeats 8000000 in
theorem joins_l (A : Option Addr) (c : Nat) (l : List (List UInt8)) (w : World) (hc : l.length ≤ c) (hcm : c ≤ maxLen) (hI : Ins w w.heap.size A l) (hmx : ∀ x ∈ l, x.length ≤ maxLen) :
    Calls Try.prog 4 #[.slice A l.length c] w fun e w' => e = .returned (.bool true) ∧ Below w.heap.size w w' := by
  have HI := Lib.hid hI
  have HMX := Lib.hid hmx
  have hlm : l.length ≤ 9223372036854775807 := by unfold maxLen at hcm; omega
  clear hI hmx
  go_enter Try.func4, Try.ntmps4
  go_wp2_with fail
  go_loopw [3, 4] (fun m i wr' => ∃ k : Nat, k ≤ l.length ∧ k ≤ 30 ∧ m = .int .i64 (msum l k : Int) ∧ i = .int .i64 (k : Int) ∧ w = wr') (fun _ i _ => l.length - (intOf i).toNat)
  case atStart => exact ⟨0, by omega, by omega, rfl, rfl, rfl⟩
  case round =>
    obtain ⟨k, hk, hk30, rfl, rfl, rfl⟩ := hrel
    have k0 : (0 : Int) ≤ (k : Int) := Int.natCast_nonneg _
    have hms := msum_le l k
    have HMS := Lib.hid (fun h => msum_succ (l := l) (k := k) h)
    have HMA := Lib.hid (fun (h : k = l.length) => show msum l k ≤ 4000 → _ from by rw [h]; exact msum_all)
    obtain ⟨M, hM⟩ : ∃ M, msum l k = M := ⟨_, rfl⟩
    rw [hM] at hms HMS HMA ⊢
    clear hM
    by_cases h30 : k < 30
    · by_cases hkl : k < l.length
      · have i1 : (k : Int) < (l.length : Int) := by omega
        have i2 : (k : Int) < 30 := by omega
        obtain ⟨b, o, hb, rfl, hcl⟩ : ∃ b off, b < w.heap.size ∧ A = some ⟨b, off, none⟩ ∧ ∀ k (h : k < l.length), ∃ C c, w.cell? ⟨b, off + k, none⟩ = some (.slice C l[k].length c) ∧ l[k].length ≤ c ∧ c ≤ maxLen ∧ BS w w.heap.size C l[k] := by
          rcases HI.out with h | h
          · rw [h] at hkl; simp at hkl
          · exact h
        obtain ⟨C, cc, c1, -, -, -⟩ := hcl k hkl
        have hxm := HMX.out _ (List.getElem_mem hkl)
        have hS := HMS.out hkl
        generalize l[k] = x at c1 hxm hS
        unfold maxLen at hxm
        have HS := Lib.hid hS
        clear hcl hS
        by_cases h5 : x.length ≤ 5000
        · have m1 : ((x.length : Nat) : Int) ≤ 5000 := by omega
          have m2 : min ((x.length : Nat) : Int) 5000 = (x.length : Int) := by omega
          have HS2 := Lib.hid (show msum l (k + 1) = M + x.length by rw [HS.out]; omega)
          go_wp2_with fail
          go_roundw
          case rel => exact ⟨k + 1, by omega, by omega, by rw [HS2.out]; go_num, by go_num, trivial⟩
          case measure => simp [intOf]; omega
        · have m1 : ¬ ((x.length : Nat) : Int) ≤ 5000 := by omega
          have m2 : min ((x.length : Nat) : Int) 5000 = 5000 := by omega
          have HS2 := Lib.hid (show msum l (k + 1) = M + 5000 by rw [HS.out]; omega)
          go_wp2_with fail
          go_roundw
          case rel => exact ⟨k + 1, by omega, by omega, by rw [HS2.out]; go_num, by go_num, trivial⟩
          case measure => simp [intOf]; omega
      · have i1 : ¬ (k : Int) < (l.length : Int) := by omega
        have hkE : k = l.length := by omega
        by_cases hM4 : 4000 < M
        · have i3 : ¬ (30 : Int) < (l.length : Int) := by omega
          have i4 : (4000 : Int) < (M : Int) := by omega
          go_wp2_with fail
          refine (awake_any _).mono ?_
          rintro e wz ⟨rfl, hbz⟩
          have HBZ := Lib.hid hbz
          clear hbz
          go_wp2_with fail
          go_ret
          exact ⟨rfl, HBZ.out⟩
        have i3 : ¬ (30 : Int) < (l.length : Int) := by omega
        have i4 : ¬ (4000 : Int) < (M : Int) := by omega
        have hSum := HMA.out hkE (by omega)
        have HSU := Lib.hid hSum
        clear hSum
        go_wp2_with fail
        refine (join_any A c l w (by omega) (by have := HSU.out; omega) HI.out).mono ?_
        rintro e w3 ⟨hb3, v1, rfl, hr1⟩
        have HW3 := Lib.hid hb3
        have HI3 := Lib.hid (HI.out.onB hb3)
        have HR1 := Lib.hid hr1
        clear hb3 hr1
        go_wp2_with fail
        refine (refJoins_any A c l w3 (by omega) (by have := HSU.out; omega) HI3.out).mono ?_
        rintro e w4 ⟨hb4, v2, rfl, hr2⟩
        have HW4 := Lib.hid (HW3.out.trans (hb4.mono HW3.out.size))
        have HK4 := Lib.hid (show Kept (fun _ => False) w3 w4 from Kept.ofB hb4)
        have HR2 := Lib.hid hr2
        clear hb4 hr2
        obtain ⟨⟨er, X⟩, hj⟩ : ∃ r, joinR l = r := ⟨_, rfl⟩
        rw [hj] at HR1 HR2 ⊢
        simp only at HR1 HR2 ⊢
        clear hj
        have HP1 := Lib.hid ((HR1.out.kept HK4.out (fun _ _ h => h)).byt)
        have HP2 := Lib.hid (HR2.out.byt)
        obtain ⟨P1, c1, rfl, hp1, hp2⟩ := HR1.out.shape
        obtain ⟨P2, c2, rfl, hq1, hq2⟩ := HR2.out.shape
        rw [bcs_length] at HP1 HP2 hp1 hq1 ⊢
        have v1 := HP1.out.bs_of.conv (P := Try.prog) (c := c1) Try.underlying22 Try.underlying5 Try.underlying9
        have v2 := HP2.out.bs_of.conv (P := Try.prog) (c := c2) Try.underlying22 Try.underlying5 Try.underlying9
        clear HR1 HR2
        go_wp2_with fail
        refine (awake_any _).mono ?_
        rintro e wz ⟨rfl, hbz⟩
        have HBZ := Lib.hid (HW4.out.trans (hbz.mono HW4.out.size))
        clear hbz
        go_wp2_with fail
        go_ret
        exact ⟨rfl, HBZ.out⟩
    · have i0 : ¬ (k : Int) < 30 := by omega
      by_cases hkl : k < l.length
      · have i1 : (k : Int) < (l.length : Int) := by omega
        have i3 : (30 : Int) < (l.length : Int) := by omega
        go_wp2_with fail
        refine (awake_any _).mono ?_
        rintro e wz ⟨rfl, hbz⟩
        have HBZ := Lib.hid hbz
        clear hbz
        go_wp2_with fail
        go_ret
        exact ⟨rfl, HBZ.out⟩
      have i1 : ¬ (k : Int) < (l.length : Int) := by omega
      have hkE : k = l.length := by omega
      by_cases hM4 : 4000 < M
      · have i3 : ¬ (30 : Int) < (l.length : Int) := by omega
        have i4 : (4000 : Int) < (M : Int) := by omega
        go_wp2_with fail
        refine (awake_any _).mono ?_
        rintro e wz ⟨rfl, hbz⟩
        have HBZ := Lib.hid hbz
        clear hbz
        go_wp2_with fail
        go_ret
        exact ⟨rfl, HBZ.out⟩
      have i3 : ¬ (30 : Int) < (l.length : Int) := by omega
      have i4 : ¬ (4000 : Int) < (M : Int) := by omega
      have hSum := HMA.out hkE (by omega)
      have HSU := Lib.hid hSum
      clear hSum
      go_wp2_with fail
      refine (join_any A c l w (by omega) (by have := HSU.out; omega) HI.out).mono ?_
      rintro e w3 ⟨hb3, v1, rfl, hr1⟩
      have HW3 := Lib.hid hb3
      have HI3 := Lib.hid (HI.out.onB hb3)
      have HR1 := Lib.hid hr1
      clear hb3 hr1
      go_wp2_with fail
      refine (refJoins_any A c l w3 (by omega) (by have := HSU.out; omega) HI3.out).mono ?_
      rintro e w4 ⟨hb4, v2, rfl, hr2⟩
      have HW4 := Lib.hid (HW3.out.trans (hb4.mono HW3.out.size))
      have HK4 := Lib.hid (show Kept (fun _ => False) w3 w4 from Kept.ofB hb4)
      have HR2 := Lib.hid hr2
      clear hb4 hr2
      obtain ⟨⟨er, X⟩, hj⟩ : ∃ r, joinR l = r := ⟨_, rfl⟩
      rw [hj] at HR1 HR2 ⊢
      simp only at HR1 HR2 ⊢
      clear hj
      have HP1 := Lib.hid ((HR1.out.kept HK4.out (fun _ _ h => h)).byt)
      have HP2 := Lib.hid (HR2.out.byt)
      obtain ⟨P1, c1, rfl, hp1, hp2⟩ := HR1.out.shape
      obtain ⟨P2, c2, rfl, hq1, hq2⟩ := HR2.out.shape
      rw [bcs_length] at HP1 HP2 hp1 hq1 ⊢
      have v1 := HP1.out.bs_of.conv (P := Try.prog) (c := c1) Try.underlying22 Try.underlying5 Try.underlying9
      have v2 := HP2.out.bs_of.conv (P := Try.prog) (c := c2) Try.underlying22 Try.underlying5 Try.underlying9
      clear HR1 HR2
      go_wp2_with fail
      refine (awake_any _).mono ?_
      rintro e wz ⟨rfl, hbz⟩
      have HBZ := Lib.hid (HW4.out.trans (hbz.mono HW4.out.size))
      clear hbz
      go_wp2_with fail
      go_ret
      exact ⟨rfl, HBZ.out⟩
theorem joins_bv (A : Option Addr) (c : Nat) (L : List BV) (w : World) (hc : L.length ≤ c) (hcm : c ≤ maxLen) (h : ES w w.heap.size A 1 (L.map fun b => [b.val])) (ho : ∀ y ∈ L, y.ok w) :
    Calls Try.prog 4 #[.slice A L.length c] w fun e w' => e = .returned (.bool true) ∧ Below w.heap.size w w' := by
  have h := joins_l A c (L.map (·.l)) w (by simpa using hc) hcm (ins_of h ho) (ins_max ho)
  rw [List.length_map] at h
  exact h
end Go.Proofs.Ytidooohgbiiikaa
