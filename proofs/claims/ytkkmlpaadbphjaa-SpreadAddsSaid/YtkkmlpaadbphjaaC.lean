/- The law SpreadAdds, walked. -/
import Derived.Test.YtkkmlpaadbphjaaB
namespace Go.Proofs.Ytkkmlpaadbphjaa
open Go.RowKit
set_option linter.unusedVariables false

theorem Try.info5 : (Try.prog.info? 5).map (fun i => (i.zero, i.size, i.bytes)) = some (some (.int .u8 0), 1, 1) := by kernel_rfl
/-- Byte by byte, exclusive-or. -/
def xors (a b : List UInt8) : List UInt8 := List.zipWith (· ^^^ ·) a b
theorem xors_length (a b : List UInt8) : (xors a b).length = min a.length b.length := by simp [xors]
theorem xors_take (a b : List UInt8) (k : Nat) (ha : k < a.length) (hb : k < b.length) : (xors a b).take (k + 1) = (xors a b).take k ++ [a[k] ^^^ b[k]] := by
  rw [List.take_succ_eq_append_getElem (by rw [xors_length]; omega)]
  simp [xors]
theorem kb_xors (a b : List UInt8) (k : Nat) (ha : k < a.length) (hb : k < b.length) : kb (xors a b) k = kb a k ^^^ kb b k := by
  simp [kb, List.getD_eq_getElem?_getD, ha, hb, xors, List.getElem?_zipWith]
theorem kb_take (a : List UInt8) (n k : Nat) (h : k < n) : kb (a.take n) k = kb a k := by
  simp [kb, List.getD_eq_getElem?_getD, h]
theorem adds_law (key a b : List UInt8) (n : Nat) (hn : n = min a.length b.length) : sm key (xors a b) n = sm key (a.take n) n ^^^ sm key (b.take n) n := by
  rw [sm_xor key a b (xors a b) n (fun k hk => kb_xors a b k (by omega) (by omega)), sm_congr key a (a.take n) n (fun k hk => (kb_take a n k hk).symm), sm_congr key b (b.take n) n (fun k hk => (kb_take b n k hk).symm)]
theorem sm_comm_eq (key a b : List UInt8) (n : Nat) (hn : n = min a.length b.length) :
    bits .xor .u32 (sm key (a.take n) n : Int) (sm key (b.take n) n : Int) = (sm key (xors a b) n : Int) := by
  rw [u32_xor_nat _ _ (sm_lt _ _ _) (sm_lt _ _ _), adds_law key a b n hn]
theorem xor_byte (x y : UInt8) : bits .xor .u8 (x.toNat : Int) (y.toNat : Int) = ((x ^^^ y).toNat : Int) := by
  rw [u8_xor_nat _ _ x.toNat_lt y.toNat_lt]; simp

theorem adds_long (A B C : Option Addr) (a b c n k m : Nat) (w : World) (h : 60 < n ∨ (n ≤ 60 ∧ 100 < k) ∨ (n ≤ 60 ∧ k ≤ 100 ∧ 100 < m)) (hn : n ≤ maxLen) (hk : k ≤ maxLen) (hm : m ≤ maxLen) :
    Calls Try.prog 3 #[.slice A n a, .slice B k b, .slice C m c] w fun e w' => e = .returned (.bool true) ∧ Below w.heap.size w w' := by
  unfold maxLen at hn hk hm
  rcases h with h | ⟨h1, h2⟩ | ⟨h1, h2, h3⟩
  all_goals
    go_enter Try.func3, Try.ntmps3
    go_wp2_with fail
    refine (awake_any w).mono ?_
    rintro e w1 ⟨rfl, hb⟩
    go_wp2_with fail
    go_ret
    exact ⟨rfl, hb⟩

set_option maxRecDepth 100000 in
set_option maxHeartbeats 4000000 in
theorem adds_any (A B C : Option Addr) (ca cb cc : Nat) (key a b : List UInt8) (w : World) (hk : key.length ≤ 60) (ha : a.length ≤ 100) (hb : b.length ≤ 100) (hac : a.length ≤ cb) (hbc : b.length ≤ cc) (hcbm : cb ≤ maxLen) (hccm : cc ≤ maxLen)
    (hA : BS w w.heap.size A key) (hB : BS w w.heap.size B a) (hC : BS w w.heap.size C b) :
    Calls Try.prog 3 #[.slice A key.length ca, .slice B a.length cb, .slice C b.length cc] w fun e w' => e = .returned (.bool true) ∧ Below w.heap.size w w' := by
  unfold maxLen at hcbm hccm
  have HA := Lib.hid hA
  have HB := Lib.hid hB
  have HC := Lib.hid hC
  have h5 := Try.info5
  obtain ⟨n, hn⟩ : ∃ n, n = min a.length b.length := ⟨_, rfl⟩
  have n1 : n ≤ a.length := by omega
  have n2 : n ≤ b.length := by omega
  have HN := Lib.hid hn
  have HXL := Lib.hid (show (xors a b).length = n by rw [xors_length, hn])
  have HAL := Lib.hid (show (a.take n).length = n by simp; omega)
  have HBL := Lib.hid (show (b.take n).length = n by simp; omega)
  have HEQ := Lib.hid (sm_comm_eq key a b n hn)
  clear hA hB hC hn
  go_enter Try.func3, Try.ntmps3
  go_upto_region 3 with fail
  go_cut [7] (fun s wx => s = .int .i64 (n : Int) ∧ w = wx)
  case first =>
    go_wp2_with fail
    all_goals
      go_meet
      have := HN.out
      exact ⟨congrArg (Value.int .i64) (by omega), rfl⟩
  case rest =>
    obtain ⟨rfl, rfl⟩ := hcut
    go_wp2_with fail
    go_loopg [8, 9] (n + 1) (fun g v i wr => ∃ k : Nat, k + g = n + 1 ∧ k ≤ n ∧ i = .int .i64 (k : Int) ∧ Row wr w.heap.size 5 v (bcs ((xors a b).take k)) ∧ Below w.heap.size w wr)
    case atStart => exact ⟨0, by omega, by omega, rfl, Row.nil _ _ _, Below.refl _ _⟩
    case round =>
      obtain ⟨k, hgk, hkn, rfl, hrow, hbw⟩ := hrel
      have HGK := Lib.hid hgk
      have HR := Lib.hid hrow
      have HBW := Lib.hid hbw
      have hsw := hbw.size
      obtain ⟨vA, vc, hve, hv1, hv2⟩ := hrow.shape
      subst hve
      have HTL := Lib.hid (show (bcs ((xors a b).take k)).length = k by rw [bcs_length, List.length_take, HXL.out]; omega)
      clear hgk hrow hbw
      by_cases hlt : k < n
      · obtain ⟨b1, o1, hb1, rfl, hca⟩ := (HB.out.below HBW.out).at (show k < a.length by omega)
        have c1 := hca k (by omega)
        obtain ⟨b2, o2, hb2, rfl, hcb⟩ := (HC.out.below HBW.out).at (show k < b.length by omega)
        have c2 := hcb k (by omega)
        have HST := Lib.hid (xors_take a b k (by omega) (by omega))
        have hx := xor_byte a[k] b[k]
        generalize a[k] = x at c1 HST hx
        generalize b[k] = y at c2 HST hx
        obtain ⟨z, hz⟩ : ∃ z, x ^^^ y = z := ⟨_, rfl⟩
        rw [hz] at hx HST
        have kI1 : (k : Int) < (a.length : Int) := by omega
        have kI2 : (k : Int) < (b.length : Int) := by omega
        have kI0 : (0 : Int) ≤ (k : Int) := by omega
        have hbw1 : b1 < wr.heap.size := by omega
        have hbw2 : b2 < wr.heap.size := by omega
        clear hca hcb hz
        go_wp2_with fail
        refine wp_region_kept 11 [(10, fun v u => ∃ g, v = .slice (some ⟨g, 0, none⟩) 1 1 ∧ wr.heap.size ≤ g ∧ Blk u g 5 #[.int .u8 (z.toNat : Int)])] ?st ?ne rfl (by kernel_rfl) (by kernel_rfl) ?_
        case st =>
          intro p hp
          simp only [List.mem_cons, List.not_mem_nil, or_false] at hp
          subst hp
          · rintro v u u' ⟨g, rfl, hg, h⟩ hk; exact ⟨g, rfl, hg, h.kept hk (fun h => h)⟩
        case ne =>
          intro p hp
          simp only [List.mem_cons, List.not_mem_nil, or_false] at hp
          subst hp
          · exact ⟨_, _, (Kept.refl _ _).alloc _, wr.heap.size, rfl, Nat.le_refl _, Blk.new _ _ _⟩
        simp only [List.take_succ_cons, List.take_zero, List.drop_succ_cons, List.drop_zero]
        intro G pick hR hp1 hp2
        have pc1 : ∀ u, (pick u).cell? ⟨b1, o1 + k, none⟩ = some (.int .u8 (x.toNat : Int)) := fun u => ((hp1 u).cell hbw1 (fun h => h) _).trans c1
        have pc2 : ∀ u, (pick u).cell? ⟨b2, o2 + k, none⟩ = some (.int .u8 (y.toNat : Int)) := fun u => ((hp1 u).cell hbw2 (fun h => h) _).trans c2
        repeat (first | (refine wpR_det hp2 rfl ((hR.rel _).trans rfl) rfl ?_; intro K hK; go_big_quiet_op; go_big_quiet_on) | (refine wpR_skip pick rfl ?_; intro K hK; go_big_quiet_op; go_big_quiet_on))
        refine wpR_rel pick rfl ((hR.rel _).trans rfl) ((hR.turns _).trans rfl) ?_ ?_
        · intro u hu
          have hk := hR.since hu.1
          have hks := hk.size
          unfold relAt
          go_simp
          exact ⟨hR.into0 ((Kept.refl _ _).alloc _), hR.put 0 rfl rfl ⟨_, rfl, hks, Blk.new _ _ _⟩⟩
        intro v hv
        obtain ⟨u, _, hu⟩ := hv
        obtain ⟨g, rfl, hg, -⟩ := hR.get 0 rfl hu
        clear hu
        intro K hK
        go_big_quiet_op
        go_big_quiet_on
        repeat (first | (refine wpR_det hp2 rfl ((hR.rel _).trans rfl) rfl ?_; intro K hK; go_big_quiet_op; go_big_quiet_on) | (refine wpR_skip pick rfl ?_; intro K hK; go_big_quiet_op; go_big_quiet_on))
        refine wpR_nil ?_
        intro w2 hk2 hF hM
        obtain ⟨g', e, -, hblk⟩ := (hR.get 0 rfl (hF _ _ (Got.upd_self _ _ _)))
        obtain rfl : g = g' := by injection e with e; injection e with e; injection e
        have HBL2 := Lib.hid hblk
        have HR2 := Lib.hid (HR.out.kept hk2 (fun _ _ h => h))
        have HB2 := Lib.hid (HBW.out.trans (hk2.below hsw (fun _ h => h.elim)))
        have hs2 := hk2.size
        clear e hblk hF hM hk2 pc1 pc2 hp1 hp2 hR
        go_wp2_with (at_builtin; refine wpList_append_row rfl (.tmp 34) (.tmp 44) 22 rfl w.heap.size 5 (.int .u8 0) 1 Try.underlying22 h5 rfl _ (bcs ((xors a b).take k)) rfl (some ⟨g, 0, none⟩) 1 1 [.int .u8 (z.toNat : Int)] rfl rfl HR2.out ?a2 ?a6 ?a3 ?a4 ?a5 ?_)
        case a2 => exact .inr ⟨_, rfl, fun j u hu => by rw [Addr.add_lit, Nat.zero_add, HBL2.out.cell j]; simpa using hu⟩
        case a6 => intro u hu; simp at hu; subst hu; rfl
        case a3 => rw [HTL.out]; unfold maxLen; simp; omega
        case a4 => rw [HTL.out]; simp; omega
        case a5 => omega
        intro v1 w3 hrow hgr _
        have HR3 := Lib.hid (show Row w3 w.heap.size 5 v1 (bcs ((xors a b).take (k + 1))) by rw [HST.out, bcs_append]; exact hrow)
        have HB3 := Lib.hid (HB2.out.trans (below_grown hgr (fun i e => (HR2.out.lt i e).1) (by omega)))
        clear hrow hgr
        go_wp2_with fail
        go_roundg (gk - 1)
        case measure => have := HGK.out; omega
        case rel => exact ⟨k + 1, by have := HGK.out; omega, by omega, by go_num, HR3.out, HB3.out⟩
      · obtain rfl : k = n := by omega
        have hY := HR.out.byt
        rw [List.take_of_length_le (by rw [HXL.out]; omega)] at hY
        have HY := Lib.hid hY
        rw [HTL.out]
        have HA1 := Lib.hid (HA.out.onB HBW.out (Nat.le_refl _))
        have HB1 := Lib.hid (HB.out.onB HBW.out (Nat.le_refl _))
        have HC1 := Lib.hid (HC.out.onB HBW.out (Nat.le_refl _))
        clear hY
        go_wp2_with fail
        refine wp_region_kept 19 [(2, fun v _ => v = .int .u32 (sm key (xors a b) k : Int)), (7, fun v _ => v = .int .u32 (sm key (a.take k) k : Int)), (12, fun v _ => v = .int .u32 (sm key (b.take k) k : Int)), (16, fun v _ => v = .bool true)] ?st ?ne rfl (by kernel_rfl) (by kernel_rfl) ?_
        case st =>
          intro p hp
          simp only [List.mem_cons, List.not_mem_nil, or_false] at hp
          rcases hp with rfl | rfl | rfl | rfl
          · intro v u u' h hk; exact h
          · intro v u u' h hk; exact h
          · intro v u u' h hk; exact h
          · intro v u u' h hk; exact h
        case ne =>
          intro p hp
          simp only [List.mem_cons, List.not_mem_nil, or_false] at hp
          rcases hp with rfl | rfl | rfl | rfl
          · exact ⟨_, _, Kept.refl _ _, rfl⟩
          · exact ⟨_, _, Kept.refl _ _, rfl⟩
          · exact ⟨_, _, Kept.refl _ _, rfl⟩
          · exact ⟨_, _, Kept.refl _ _, rfl⟩
        simp only [List.take_succ_cons, List.take_zero, List.drop_succ_cons, List.drop_zero]
        intro G pick hR hp1 hp2
        repeat (first | (refine wpR_det hp2 rfl ((hR.rel _).trans rfl) rfl ?_; intro K hK; go_big_quiet_op; go_big_quiet_on) | (refine wpR_skip pick rfl ?_; intro K hK; go_big_quiet_op; go_big_quiet_on))
        refine wpR_rel pick rfl ((hR.rel _).trans rfl) ((hR.turns _).trans rfl) ?_ ?_
        · intro u hu
          have hk := hR.since hu.1
          have hks := hk.size
          obtain ⟨A', c', e, -, -, hbs⟩ := HY.out.on0 hk
          obtain ⟨rfl, rfl⟩ : vA = A' ∧ vc = c' := by injection e with e1 _ e3; exact ⟨e1, e3⟩
          have hA2 := HA1.out.on hk (fun _ _ h => h)
          clear e
          unfold relAt
          go_simp
          have hz := sum_any A vA ca vc key (xors a b) u (by omega) (by rw [HXL.out]; omega) hA2 hbs
          rw [HXL.out] at hz
          refine hz.mono ?_
          rintro e w' ⟨rfl, rfl⟩
          exact ⟨_, rfl, hR.same, hR.put 0 rfl rfl rfl⟩
        intro v hv
        obtain ⟨u, _, hu⟩ := hv
        obtain rfl := hR.get 0 rfl hu
        clear hu
        intro K hK
        go_big_quiet_op
        go_big_quiet_on
        repeat (first | (refine wpR_det hp2 rfl ((hR.rel _).trans rfl) rfl ?_; intro K hK; go_big_quiet_op; go_big_quiet_on) | (refine wpR_skip pick rfl ?_; intro K hK; go_big_quiet_op; go_big_quiet_on))
        refine wpR_rel pick rfl ((hR.rel _).trans rfl) ((hR.turns _).trans rfl) ?_ ?_
        · intro u hu
          have hk := hR.since hu.1
          have hks := hk.size
          have hA2 := HA1.out.on hk (fun _ _ h => h)
          have hB2 := HB1.out.on hk (fun _ _ h => h)
          unfold relAt
          go_simp
          have hz := sum_any A B ca cb key (a.take k) u (by omega) (by rw [HAL.out]; omega) hA2 (hB2.take_ k)
          rw [HAL.out] at hz
          refine hz.mono ?_
          rintro e w' ⟨rfl, rfl⟩
          exact ⟨_, rfl, hR.same, hR.put 1 rfl rfl rfl⟩
        intro v hv
        obtain ⟨u, _, hu⟩ := hv
        obtain rfl := hR.get 1 rfl hu
        clear hu
        intro K hK
        go_big_quiet_op
        go_big_quiet_on
        repeat (first | (refine wpR_det hp2 rfl ((hR.rel _).trans rfl) rfl ?_; intro K hK; go_big_quiet_op; go_big_quiet_on) | (refine wpR_skip pick rfl ?_; intro K hK; go_big_quiet_op; go_big_quiet_on))
        refine wpR_rel pick rfl ((hR.rel _).trans rfl) ((hR.turns _).trans rfl) ?_ ?_
        · intro u hu
          have hk := hR.since hu.1
          have hks := hk.size
          have hA2 := HA1.out.on hk (fun _ _ h => h)
          have hC2 := HC1.out.on hk (fun _ _ h => h)
          unfold relAt
          go_simp
          have hz := sum_any A C ca cc key (b.take k) u (by omega) (by rw [HBL.out]; omega) hA2 (hC2.take_ k)
          rw [HBL.out] at hz
          refine hz.mono ?_
          rintro e w' ⟨rfl, rfl⟩
          exact ⟨_, rfl, hR.same, hR.put 2 rfl rfl rfl⟩
        intro v hv
        obtain ⟨u, _, hu⟩ := hv
        obtain rfl := hR.get 2 rfl hu
        clear hu
        have hEQ := HEQ.out
        intro K hK
        go_big_quiet_op
        go_big_quiet_on
        repeat (first | (refine wpR_det hp2 rfl ((hR.rel _).trans rfl) rfl ?_; intro K hK; go_big_quiet_op; go_big_quiet_on) | (refine wpR_skip pick rfl ?_; intro K hK; go_big_quiet_op; go_big_quiet_on))
        refine wpR_rel pick rfl ((hR.rel _).trans rfl) ((hR.turns _).trans rfl) ?_ ?_
        · intro u hu
          have hk := hR.since hu.1
          have hks := hk.size
          unfold relAt
          go_simp
          refine (awake_any u).mono ?_
          rintro e w' ⟨rfl, hb⟩
          exact ⟨_, rfl, hR.intoB hb, hR.put 3 rfl rfl rfl⟩
        intro v hv
        obtain ⟨u, _, hu⟩ := hv
        obtain rfl := hR.get 3 rfl hu
        clear hu
        intro K hK
        go_big_quiet_op
        go_big_quiet_on
        repeat (first | (refine wpR_det hp2 rfl ((hR.rel _).trans rfl) rfl ?_; intro K hK; go_big_quiet_op; go_big_quiet_on) | (refine wpR_skip pick rfl ?_; intro K hK; go_big_quiet_op; go_big_quiet_on))
        refine wpR_nil ?_
        intro w2 hk2 hF hM
        have HB4 := Lib.hid (HBW.out.trans (hk2.below hsw (fun _ h => h.elim)))
        clear hF hk2 hM
        go_wp2_with fail
        go_ret
        exact ⟨rfl, HB4.out⟩
theorem adds_l (A B C : Option Addr) (ca cb cc : Nat) (key a b : List UInt8) (w : World) (h1 : key.length ≤ ca) (h2 : ca ≤ maxLen) (h3 : a.length ≤ cb) (h4 : cb ≤ maxLen) (h5 : b.length ≤ cc) (h6 : cc ≤ maxLen)
    (hA : BS w w.heap.size A key) (hB : BS w w.heap.size B a) (hC : BS w w.heap.size C b) :
    Calls Try.prog 3 #[.slice A key.length ca, .slice B a.length cb, .slice C b.length cc] w fun e w' => e = .returned (.bool true) ∧ Below w.heap.size w w' := by
  by_cases h : 60 < key.length ∨ (key.length ≤ 60 ∧ 100 < a.length) ∨ (key.length ≤ 60 ∧ a.length ≤ 100 ∧ 100 < b.length)
  · exact adds_long A B C ca cb cc _ _ _ w h (by omega) (by omega) (by omega)
  · exact adds_any A B C ca cb cc key a b w (by omega) (by omega) (by omega) h3 h5 h4 h6 hA hB hC
end Go.Proofs.Ytkkmlpaadbphjaa
