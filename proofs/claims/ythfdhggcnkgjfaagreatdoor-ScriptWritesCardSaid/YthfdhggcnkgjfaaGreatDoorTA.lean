/- The document's digits. -/
import Derived.Test.YthfdhggcnkgjfaaGreatDoorUD
namespace Go.Proofs.YthfdhggcnkgjfaaGreatDoor
open Go.RowKit
set_option linter.unusedVariables false
set_option linter.unusedSimpArgs false
/-- What is still to be written ahead. -/
def preB (b U : Nat) : List UInt8 := if U = 0 then [] else digB b U
theorem preB_step (b U : Nat) (hb : 2 ≤ b) (h : 0 < U) : digB b U = preB b (U / b) ++ [hexc (U % b)] := by
  unfold preB
  by_cases h2 : U < b
  · rw [digB_small h2, Nat.div_eq_of_lt h2, if_pos rfl, Nat.mod_eq_of_lt h2]; rfl
  · rw [digB_big hb h2, if_neg]
    have := Nat.div_pos (Nat.le_of_not_lt h2) (by omega)
    omega
theorem sign16 : ∀ i : Fin 16, ((⟨#[48, 49, 50, 51, 52, 53, 54, 55, 56, 57, 97, 98, 99, 100, 101, 102]⟩ : ByteArray).extract i.val (i.val + 1)).data.toList = [hexc i.val] := by decide +kernel
theorem sign16_at {n : Nat} (h : n < 16) : ((⟨#[48, 49, 50, 51, 52, 53, 54, 55, 56, 57, 97, 98, 99, 100, 101, 102]⟩ : ByteArray).extract n (n + 1)).data.toList = [hexc n] := sign16 ⟨n, h⟩
set_option maxRecDepth 20000 in
set_option maxHeartbeats 8000000 in
theorem refDigits_any (n b : Nat) (hn : n < 18446744073709551616) (hb : b = 10 ∨ b = 16) (w : World) : Calls Tryz.prog 48 #[.int .u64 (n : Int), .int .u64 (b : Int)] w (WordR w (digB b n)) := by
  have n0 : (0 : Int) ≤ (n : Int) := Int.natCast_nonneg _
  have n1 : (n : Int) ≤ 18446744073709551615 := by omega
  have b0 : (1 : Int) ≤ (b : Int) := by omega
  have b1 : (b : Int) ≤ 16 := by omega
  have bz : ¬ (b : Int) = 0 := by omega
  go_enter Tryz.func48, Tryz.ntmps48
  go_wp2_with fail
  go_loopw [0, 6] (fun u v wr => ∃ (U : Nat) (y : ByteArray), u = .int .u64 (U : Int) ∧ v = .string y ∧ U < 18446744073709551616 ∧ y.size ≤ 20 ∧ Hid ((y.data.toList = [] ∧ U = n) ∨ (y.data.toList ≠ [] ∧ digB b n = preB b U ++ y.data.toList)) ∧ Hid (U * 10 ^ y.size ≤ n) ∧ Hid (Kept (fun _ => False) w wr)) (fun u v _ => (intOf u).toNat + (match v with | .string y => if y.size = 0 then 1 else 0 | _ => 0))
  case atStart => exact ⟨n, ⟨#[]⟩, rfl, rfl, hn, by decide, Lib.hid (.inl ⟨rfl, rfl⟩), Lib.hid (by show n * 10 ^ 0 ≤ n; omega), Lib.hid (Kept.refl _ _)⟩
  case round =>
    obtain ⟨U, y, rfl, rfl, hU, hys, HR, HP, HKW⟩ := hrel
    have U0 : (0 : Int) ≤ (U : Int) := Int.natCast_nonneg _
    have U1 : (U : Int) ≤ 18446744073709551615 := by omega
    by_cases hU1 : 0 < U
    · have hys2 : y.size ≤ 19 := by
        have h1 := HP.out
        rcases Nat.lt_or_ge y.size 20 with h | h
        · omega
        · have h2 : 10 ^ 20 ≤ 10 ^ y.size := Nat.pow_le_pow_right (by omega) h
          have h3 : 1 * 10 ^ y.size ≤ U * 10 ^ y.size := Nat.mul_le_mul_right _ hU1
          have h4 : (10 ^ 20 : Nat) = 100000000000000000000 := rfl
          omega
      have hmN : U % b < 16 := Nat.lt_of_lt_of_le (Nat.mod_lt _ (by omega)) (by omega)
      obtain ⟨m, hmE⟩ : ∃ m, U % b = m := ⟨_, rfl⟩
      obtain ⟨q, hqE⟩ : ∃ q, U / b = q := ⟨_, rfl⟩
      have hmI : (U : Int) % (b : Int) = (m : Int) := by rw [← hmE]; exact (Int.natCast_emod U b).symm
      have hqI : (U : Int) / (b : Int) = (q : Int) := by rw [← hqE]; exact (Int.natCast_ediv U b).symm
      rw [hmE] at hmN
      have HSG := Lib.hid (sign16_at hmN)
      have HME := Lib.hid hmE
      have HQE := Lib.hid hqE
      have m0 : (0 : Int) ≤ (m : Int) := Int.natCast_nonneg _
      have m1 : (m : Int) ≤ 15 := by omega
      have q0 : (0 : Int) ≤ (q : Int) := Int.natCast_nonneg _
      have qN : q ≤ U := by rw [← hqE]; exact Nat.div_le_self _ _
      have q1 : (q : Int) ≤ 18446744073709551615 := by omega
      clear hmE hqE
      go_upto_region 4 with fail
      refine wp_region_kept 11 [(8, fun v u => ∃ y : ByteArray, v = .string y ∧ y.data.toList = [hexc (m)]), (10, fun v u => ∃ z : ByteArray, v = .string z ∧ z.data.toList = hexc (m) :: y.data.toList)] ?st ?ne rfl (by kernel_rfl) (by kernel_rfl) ?_
      case st =>
        intro p hp
        simp only [List.mem_cons, List.not_mem_nil, or_false] at hp
        rcases hp with rfl | rfl
        · intro v u u' h hk; exact h
        · intro v u u' h hk; exact h
      case ne =>
        intro p hp
        simp only [List.mem_cons, List.not_mem_nil, or_false] at hp
        rcases hp with rfl | rfl
        · exact ⟨_, _, Kept.refl _ _, ⟨#[hexc (m)]⟩, rfl, rfl⟩
        · exact ⟨_, _, Kept.refl _ _, ⟨(hexc (m) :: y.data.toList).toArray⟩, rfl, rfl⟩
      simp only [List.take_succ_cons, List.take_zero, List.drop_succ_cons, List.drop_zero]
      intro G pick hR hp1 hp2
      repeat (first | (refine wpR_det hp2 rfl ((hR.rel _).trans rfl) rfl ?_; intro K hK; go_big_quiet_op; go_big_quiet_on) | (refine wpR_ptr hp2 rfl ((hR.rel _).trans rfl) rfl rfl ?_; intro K hK; go_big_quiet_op; go_big_quiet_on) | (refine wpR_skip pick rfl ?_; intro K hK; go_big_quiet_op; go_big_quiet_on))
      refine wpR_rel pick rfl ((hR.rel _).trans rfl) ((hR.turns _).trans rfl) ?_ ?_
      · intro u hu
        have hk := hR.since hu.1
        have hks := hk.size
        have g1 : (0 : Int) ≤ (m : Int) + 1 := by omega
        have g2 : (m : Int) + 1 ≤ 16 := by omega
        have g3 : (m : Int) ≤ (m : Int) + 1 := by omega
        have g4 : (0 : Int) ≤ (m : Int) + 1 ∧ (m : Int) + 1 ≤ 16 := ⟨g1, g2⟩
        unfold relAt
        go_simp
        exact ⟨hR.same, hR.put 0 rfl rfl ⟨_, rfl, by first | exact HSG.out | (simpa using HSG.out)⟩⟩
      intro v hv
      obtain ⟨u, _, hu⟩ := hv
      obtain ⟨y1, rfl, hy1⟩ := hR.get 0 rfl hu
      clear hu
      have HY1 := Lib.hid hy1
      clear hy1
      intro K hK
      go_big_quiet_op
      go_big_quiet_on
      repeat (first | (refine wpR_det hp2 rfl ((hR.rel _).trans rfl) rfl ?_; intro K hK; go_big_quiet_op; go_big_quiet_on) | (refine wpR_ptr hp2 rfl ((hR.rel _).trans rfl) rfl rfl ?_; intro K hK; go_big_quiet_op; go_big_quiet_on) | (refine wpR_skip pick rfl ?_; intro K hK; go_big_quiet_op; go_big_quiet_on))
      refine wpR_rel pick rfl ((hR.rel _).trans rfl) ((hR.turns _).trans rfl) ?_ ?_
      · intro u hu
        have hk := hR.since hu.1
        have hks := hk.size
        have hz : ¬ (9223372036854775807 < y1.size + y.size) := by rw [Lib.size_eq y1, HY1.out]; simp; omega
        unfold relAt
        go_simp
        exact ⟨hR.same, hR.put 1 rfl rfl ⟨_, rfl, by rw [cat_data, HY1.out]; rfl⟩⟩
      intro v hv
      obtain ⟨u, _, hu⟩ := hv
      obtain ⟨z, rfl, hz1⟩ := hR.get 1 rfl hu
      clear hu
      have HZ1 := Lib.hid hz1
      clear hz1
      intro K hK
      go_big_quiet_op
      go_big_quiet_on
      repeat (first | (refine wpR_det hp2 rfl ((hR.rel _).trans rfl) rfl ?_; intro K hK; go_big_quiet_op; go_big_quiet_on) | (refine wpR_ptr hp2 rfl ((hR.rel _).trans rfl) rfl rfl ?_; intro K hK; go_big_quiet_op; go_big_quiet_on) | (refine wpR_skip pick rfl ?_; intro K hK; go_big_quiet_op; go_big_quiet_on))
      refine wpR_nil ?_
      intro w2 hk2 hF hM
      clear hF hM hp1 hp2 hR
      have HKX := Lib.hid hk2
      clear hk2
      go_wp2_with fail
      go_roundw
      case rel =>
        refine ⟨q, z, rfl, rfl, by rw [← HQE.out]; exact Nat.lt_of_le_of_lt (Nat.div_le_self _ _) hU, by rw [Lib.size_eq, HZ1.out, List.length_cons, ← Lib.size_eq]; omega, Lib.hid (.inr ⟨by rw [HZ1.out]; simp, ?_⟩), Lib.hid ?_, ?_⟩
        · rw [HZ1.out, ← HQE.out, ← HME.out]
          rcases HR.out with ⟨h1, h2⟩ | ⟨h1, h2⟩
          · rw [h1, ← h2, preB_step b U (by omega) hU1]
          · rw [h2, show preB b U = digB b U by unfold preB; rw [if_neg (by omega)], preB_step b U (by omega) hU1, List.append_assoc]; rfl
        · rw [show z.size = y.size + 1 by rw [Lib.size_eq, HZ1.out, List.length_cons, ← Lib.size_eq], Nat.pow_succ]
          refine Nat.le_trans ?_ HP.out
          rw [← HQE.out, Nat.mul_comm (10 ^ y.size) 10, ← Nat.mul_assoc]
          refine Nat.mul_le_mul_right _ ?_
          have h1 : U / b * b ≤ U := Nat.div_mul_le_self U b
          have h2 : U / b * 10 ≤ U / b * b := Nat.mul_le_mul_left _ (by omega)
          omega
        · exact Lib.hid (HKW.out.trans HKX.out)
      case measure =>
        have hzs : z.size = y.size + 1 := by rw [Lib.size_eq, HZ1.out, List.length_cons, ← Lib.size_eq]
        have hq : q < U := by rw [← HQE.out]; exact Nat.div_lt_self hU1 (by omega)
        simp only [intOf, hzs]
        simp
        omega
    by_cases hy0 : y.data.toList = []
    · obtain rfl : U = 0 := by omega
      have hq : y.toList.isEmpty = true := by rw [Lib.toList_data, hy0]; rfl
      have hn0 : n = 0 := by
        rcases HR.out with ⟨_, h⟩ | ⟨h, _⟩
        · exact h.symm
        · exact absurd hy0 h
      have HN := Lib.hid hn0
      have HY0 := Lib.hid hy0
      have hys0 : y.size = 0 := by rw [Lib.size_eq, hy0]; rfl
      have HS0 := Lib.hid hys0
      have HE0 := Lib.hid (sign16_at (n := 0) (by omega))
      clear hn0 hy0 hys0
      go_upto_region 4 with fail
      refine wp_region_kept 11 [(8, fun v u => ∃ y : ByteArray, v = .string y ∧ y.data.toList = [hexc (0)]), (10, fun v u => ∃ z : ByteArray, v = .string z ∧ z.data.toList = hexc (0) :: y.data.toList)] ?st ?ne rfl (by kernel_rfl) (by kernel_rfl) ?_
      case st =>
        intro p hp
        simp only [List.mem_cons, List.not_mem_nil, or_false] at hp
        rcases hp with rfl | rfl
        · intro v u u' h hk; exact h
        · intro v u u' h hk; exact h
      case ne =>
        intro p hp
        simp only [List.mem_cons, List.not_mem_nil, or_false] at hp
        rcases hp with rfl | rfl
        · exact ⟨_, _, Kept.refl _ _, ⟨#[hexc (0)]⟩, rfl, rfl⟩
        · exact ⟨_, _, Kept.refl _ _, ⟨(hexc (0) :: y.data.toList).toArray⟩, rfl, rfl⟩
      simp only [List.take_succ_cons, List.take_zero, List.drop_succ_cons, List.drop_zero]
      intro G pick hR hp1 hp2
      repeat (first | (refine wpR_det hp2 rfl ((hR.rel _).trans rfl) rfl ?_; intro K hK; go_big_quiet_op; go_big_quiet_on) | (refine wpR_ptr hp2 rfl ((hR.rel _).trans rfl) rfl rfl ?_; intro K hK; go_big_quiet_op; go_big_quiet_on) | (refine wpR_skip pick rfl ?_; intro K hK; go_big_quiet_op; go_big_quiet_on))
      refine wpR_rel pick rfl ((hR.rel _).trans rfl) ((hR.turns _).trans rfl) ?_ ?_
      · intro u hu
        have hk := hR.since hu.1
        have hks := hk.size
        unfold relAt
        go_simp
        exact ⟨hR.same, hR.put 0 rfl rfl ⟨_, rfl, by first | exact HE0.out | (simpa using HE0.out)⟩⟩
      intro v hv
      obtain ⟨u, _, hu⟩ := hv
      obtain ⟨y1, rfl, hy1⟩ := hR.get 0 rfl hu
      clear hu
      have HY1 := Lib.hid hy1
      clear hy1
      intro K hK
      go_big_quiet_op
      go_big_quiet_on
      repeat (first | (refine wpR_det hp2 rfl ((hR.rel _).trans rfl) rfl ?_; intro K hK; go_big_quiet_op; go_big_quiet_on) | (refine wpR_ptr hp2 rfl ((hR.rel _).trans rfl) rfl rfl ?_; intro K hK; go_big_quiet_op; go_big_quiet_on) | (refine wpR_skip pick rfl ?_; intro K hK; go_big_quiet_op; go_big_quiet_on))
      refine wpR_rel pick rfl ((hR.rel _).trans rfl) ((hR.turns _).trans rfl) ?_ ?_
      · intro u hu
        have hk := hR.since hu.1
        have hks := hk.size
        have hz : ¬ (9223372036854775807 < y1.size + y.size) := by rw [Lib.size_eq y1, HY1.out]; simp; omega
        unfold relAt
        go_simp
        exact ⟨hR.same, hR.put 1 rfl rfl ⟨_, rfl, by rw [cat_data, HY1.out]; rfl⟩⟩
      intro v hv
      obtain ⟨u, _, hu⟩ := hv
      obtain ⟨z, rfl, hz1⟩ := hR.get 1 rfl hu
      clear hu
      have HZ1 := Lib.hid hz1
      clear hz1
      intro K hK
      go_big_quiet_op
      go_big_quiet_on
      repeat (first | (refine wpR_det hp2 rfl ((hR.rel _).trans rfl) rfl ?_; intro K hK; go_big_quiet_op; go_big_quiet_on) | (refine wpR_ptr hp2 rfl ((hR.rel _).trans rfl) rfl rfl ?_; intro K hK; go_big_quiet_op; go_big_quiet_on) | (refine wpR_skip pick rfl ?_; intro K hK; go_big_quiet_op; go_big_quiet_on))
      refine wpR_nil ?_
      intro w2 hk2 hF hM
      clear hF hM hp1 hp2 hR
      have HKX := Lib.hid hk2
      clear hk2
      go_wp2_with fail
      go_roundw
      case rel =>
        refine ⟨0, z, rfl, rfl, by omega, by rw [Lib.size_eq, HZ1.out, List.length_cons, ← Lib.size_eq, HS0.out]; omega, Lib.hid (.inr ⟨by rw [HZ1.out]; simp, ?_⟩), Lib.hid (by omega), Lib.hid (HKW.out.trans HKX.out)⟩
        rw [HZ1.out, HY0.out, HN.out, digB_small (by omega)]
        rfl
      case measure =>
        have hzs : z.size = 1 := by rw [Lib.size_eq, HZ1.out, List.length_cons, ← Lib.size_eq, HS0.out]
        have hys : y.size = 0 := HS0.out
        simp only [intOf, hzs, hys]
        simp
    · have hU0 : U = 0 := by omega
      subst hU0
      have hne : y.data.toList ≠ [] := hy0
      have hq : y.toList.isEmpty = false := by
        rw [Lib.toList_data]
        cases hy : y.data.toList with
        | nil => exact absurd hy hne
        | cons a l => rfl
      have HF := Lib.hid (show y.data.toList = digB b n by
        rcases HR.out with ⟨h, _⟩ | ⟨_, h⟩
        · exact absurd h hne
        · rw [h]; rfl)
      clear hne hy0
      go_wp2_with fail
      go_ret
      exact ⟨y, rfl, HF.out, HKW.out⟩
set_option maxRecDepth 20000 in
theorem refDig_any (n : Nat) (hn : n < 9223372036854775808) (w : World) : Calls Tryz.prog 46 #[.int .i64 (n : Int)] w (WordR w (numT (n : Int))) := by
  have n0 : (0 : Int) ≤ (n : Int) := Int.natCast_nonneg _
  have n1 : (n : Int) ≤ 9223372036854775807 := by omega
  have HD := Lib.hid (refDigits_any n 10 (by omega) (.inl rfl) w)
  rw [← numT_nat] at HD
  generalize numT (n : Int) = t at HD ⊢
  go_enter Tryz.func46, Tryz.ntmps46
  go_wp2_with fail
  refine HD.out.mono ?_
  rintro e w1 ⟨y, rfl, hy, hk⟩
  have HY := Lib.hid hy
  clear hy
  go_wp2_with fail
  go_ret
  exact ⟨y, rfl, HY.out, hk⟩
/-- Numbers, a blank ahead of each. -/
def numsT (ns : List Nat) : List UInt8 := (ns.map fun (n : Nat) => 32 :: numT (n : Int)).flatten
theorem numsT_snoc (ns : List Nat) (n : Nat) : numsT (ns ++ [n]) = numsT ns ++ 32 :: numT (n : Int) := by simp [numsT]
theorem numT_lenZ {n : Nat} (h : n < 9223372036854775808) : (numT (n : Int)).length ≤ 20 := numT_len ⟨by omega, by omega⟩
theorem numsT_len : ∀ (ns : List Nat), (∀ n ∈ ns, n < 9223372036854775808) → (numsT ns).length ≤ 21 * ns.length
  | [], _ => by simp [numsT]
  | n :: ns, h => by
    have h1 := numT_lenZ (h n (by simp))
    have h2 := numsT_len ns fun x hx => h x (List.mem_cons_of_mem _ hx)
    have e : numsT (n :: ns) = (32 :: numT (n : Int)) ++ numsT ns := by simp [numsT]
    rw [e, List.length_append, List.length_cons, List.length_cons]
    omega
set_option maxRecDepth 20000 in
set_option maxHeartbeats 4000000 in
theorem nums_any (ns : List Nat) (g c : Nat) (w : World) (hl : ns.length ≤ 10) (hc : ns.length ≤ c) (hn : ∀ n ∈ ns, n < 9223372036854775808) (hg : g < w.heap.size) (hat : ∀ k (hk : k < ns.length), w.cell? ⟨g, k, none⟩ = some (.int .i64 (ns[k] : Int))) :
    Calls Tryz.prog 25 #[.slice (some ⟨g, 0, none⟩) ns.length c] w (WordR w (numsT ns)) := by
  have HA := Lib.hid hat
  have HN := Lib.hid hn
  clear hat hn
  go_enter Tryz.func25, Tryz.ntmps25
  go_wp2_with fail
  go_loopw [3, 4] (fun v n wr => ∃ (k : Nat) (y : ByteArray), k ≤ ns.length ∧ n = .int .i64 (k : Int) ∧ v = .string y ∧ Hid (y.data.toList = numsT (ns.take k)) ∧ Hid (Kept (fun _ => False) w wr)) (fun _ n _ => ns.length - (intOf n).toNat)
  case atStart => exact ⟨0, _, by omega, rfl, rfl, Lib.hid rfl, Lib.hid (Kept.refl _ _)⟩
  case round =>
    obtain ⟨k, y, hk, rfl, rfl, HY, HK⟩ := hrel
    have k0 : (0 : Int) ≤ (k : Int) := Int.natCast_nonneg _
    by_cases hlt : k < ns.length
    · have kI : (k : Int) < (ns.length : Int) := by omega
      obtain ⟨x, hx⟩ : ∃ x, ns[k] = x := ⟨_, rfl⟩
      have HX := Lib.hid (HN.out x (by rw [← hx]; exact List.getElem_mem hlt))
      have c0 : wr.cell? ⟨g, k, none⟩ = some (.int .i64 (x : Int)) := by
        rw [HK.out.cell hg (fun h => h), HA.out k hlt, hx]
      have HTK := Lib.hid (show ns.take (k + 1) = ns.take k ++ [x] by rw [List.take_succ_eq_append_getElem hlt, hx])
      have HYL := Lib.hid (show y.size ≤ 210 by
        rw [Lib.size_eq, HY.out]
        have h1 := numsT_len (ns.take k) fun n h => HN.out n (List.mem_of_mem_take h)
        rw [List.length_take] at h1
        omega)
      have hyl := HYL.out
      have hz1 : ¬ (9223372036854775807 < y.size + 1) := by omega
      have HD := Lib.hid (fun W => refDig_any x HX.out W)
      clear hx
      go_wp2_with fail
      refine (HD.out wr).mono ?_
      rintro e w1 ⟨z, rfl, hz, hk1⟩
      have HZ := Lib.hid hz
      have HK1 := Lib.hid (HK.out.trans hk1)
      have hzl : z.size ≤ 20 := by rw [Lib.size_eq, hz]; exact numT_lenZ HX.out
      have hz2 : ¬ (9223372036854775807 < y.size + 1 + z.size) := by omega
      clear hz hk1
      go_wp2_with fail
      go_roundw
      case rel => exact ⟨k + 1, _, by omega, by go_num, rfl, Lib.hid (by rw [HTK.out, numsT_snoc, cat_data, cat_data, HY.out, HZ.out]; simp), HK1⟩
      case measure => simp [intOf] <;> omega
    · obtain rfl : k = ns.length := by omega
      have kI : ¬ ((ns.length : Int) < (ns.length : Int)) := by omega
      have HF := Lib.hid (show y.data.toList = numsT ns by rw [HY.out, List.take_length])
      go_wp2_with fail
      go_ret
      exact ⟨y, rfl, HF.out, HK.out⟩
end Go.Proofs.YthfdhggcnkgjfaaGreatDoor
