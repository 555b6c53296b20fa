/- The law OctetPuts, walked. -/
import Derived.Test.YtncejkmjognmlaaB
namespace Go.Proofs.Ytncejkmjognmlaa
open Go.RowKit
set_option linter.unusedVariables false

set_option maxHeartbeats 1000000 in
theorem awake_any (w : World) : Calls Try.prog 5 #[] w fun e w' => e = .returned (.bool true) ∧ Below w.heap.size w w' := by
  go_enter Try.func5, Try.ntmps5
  go_wp2_with fail
  refine (put_nil 4 258 _ (by omega) (by omega) (by omega)).mono ?_
  rintro e w1 ⟨rfl, hO, hb⟩
  rw [show digs 4 258 = [0, 0, 1, 2] by decide] at hO
  have HO := Lib.hid hO.bs
  have HB := Lib.hid hb
  have hs := hb.size
  clear hO hb
  go_wp2_with fail
  refine (equal_any _ _ 4 4 [0, 0, 1, 2] [0, 0, 1, 2] _ ((HO.out.alloc (Nat.le_refl _) _).more (by simp)) (Own.of_blk (l := [0, 0, 1, 2]) (Blk.new _ _ _) (by decide)).bs).mono ?_
  rintro e w2 ⟨rfl, rfl⟩
  go_wp2_with fail
  go_ret
  exact ⟨rfl, HB.out.alloc hs _⟩
theorem decide_none {p : Prop} [Decidable p] (h : p) : (decide p) = true := decide_eq_true h

theorem Bys.on0 {u u' : World} {g : Nat} {vs : List Value} {ls : List (List UInt8)} (h : Bys u g vs ls) (hk : Kept (fun _ => False) u u') : Bys u' g vs ls :=
  ⟨h.1, Nat.lt_of_lt_of_le h.2.1 hk.size, fun k h1 h2 => ⟨(hk.cell h.2.1 (fun h => h) k).trans (h.2.2 k h1 h2).1, (h.2.2 k h1 h2).2.on0 hk⟩⟩
set_option maxRecDepth 100000 in
set_option maxHeartbeats 4000000 in
/-- The slices are short, the place is there. -/
theorem puts_in (A C : Option Addr) (c d at_ k : Nat) (l m : List UInt8) (M : Int) (w : World) (hl : l.length ≤ 1000) (hm : m.length ≤ 1000) (hlc : l.length ≤ c) (hcm : c ≤ maxLen) (hA : BS w w.heap.size A l) (hC : BS w w.heap.size C m)
    (m0 : 0 ≤ M) (m1 : M < 18446744073709551616) (k1 : 1 ≤ k) (k8 : k ≤ 8) (hat : at_ + k ≤ l.length) :
    Calls Try.prog 3 #[.slice A l.length c, .int .i64 (at_ : Int), .int .u64 M, .int .i64 (k : Int), .slice C m.length d] w fun e w' => e = .returned (.bool true) ∧ Below w.heap.size w w' := by
  have HA := Lib.hid hA
  have HC := Lib.hid hC
  have HD := Lib.hid (digs_length k M)
  have HLD := Lib.hid (show (l ++ digs k M).length = l.length + k by rw [List.length_append, digs_length])
  have HFL := Lib.hid (fin_length l at_ k M hat)
  clear hA hC
  go_enter Try.func3, Try.ntmps3
  go_wp2_with fail
  refine (set_ok A c at_ k l M w (by omega) HA.out m0 m1 k1 k8 hat).mono ?_
  rintro e w1 ⟨rfl, hO, hb⟩
  have HX := Lib.hid (show Byt w1 (.slice (some ⟨w.heap.size, 0, none⟩) l.length l.length) (fin l at_ k M) by have := hO.byt; rwa [fin_length _ _ _ _ hat] at this)
  have hs := hb.size
  have HB := Lib.hid hb
  have HA1 := Lib.hid (HA.out.onB hb (Nat.le_refl _))
  have HC1 := Lib.hid (HC.out.onB hb (Nat.le_refl _))
  clear hO hb
  go_wp2_with fail
  refine wp_region_kept 13 (fun _ => False) [(8, fun v u => Byt u v (digs k M)), (9, fun v u => Byt u v (fin l at_ k M)), (10, fun v _ => v = .string ⟨(fin l at_ k M).toArray⟩)] ?st (by kernel_rfl) (by kernel_rfl) ?_
  case st =>
    intro p hp
    simp only [List.mem_cons, List.not_mem_nil, or_false] at hp
    rcases hp with rfl | rfl | rfl
    · intro v u u' h hk; exact h.on0 hk
    · intro v u u' h hk; exact h.on0 hk
    · intro v u u' h hk; exact h
  simp only [List.take_succ_cons, List.take_zero, List.drop_succ_cons, List.drop_zero]
  intro G pick hR hp1 hp2
  have hc1 : ∀ u, (convert 22 9 (.slice (some ⟨w.heap.size, 0, none⟩) l.length l.length)).run Try.prog (pick u) = .ok (.string ⟨(fin l at_ k M).toArray⟩) (pick u) := fun u => by
    obtain ⟨A', c', e, _, _, hbs⟩ := HX.out.on0 (hp1 u)
    injection e with e1 e2 e3
    subst e1 e3
    rw [e2]
    exact hbs.conv Try.underlying22 Try.underlying5 Try.underlying9
  repeat (first | (refine wpR_det hp2 rfl ((hR.rel _).trans rfl) rfl ?_; intro K hK; go_big_quiet_op; go_big_quiet_on) | (refine wpR_skip pick rfl ?_; intro K hK; go_big_quiet_op; go_big_quiet_on))
  refine wpR_rel pick rfl ((hR.rel _).trans rfl) ?_ ?_
  · intro u hu
    have hk := hR.since hu.1
    have hks := hk.size
    unfold relAt
    go_simp
    refine (refBytes_any k M k u m0 m1 (by omega)).mono ?_
    rintro e w' ⟨rfl, hO, hb⟩
    have hy := hO.byt
    rw [HD.out] at hy
    exact ⟨_, rfl, hR.intoB hb, hR.put 0 rfl rfl hy⟩
  intro v hv
  obtain ⟨u, _, hu⟩ := hv.get
  obtain ⟨A8, c8, rfl, -, -, -⟩ := hR.get 0 rfl hu
  clear hu
  rw [HD.out]
  intro K hK
  go_big_quiet_op
  go_big_quiet_on
  clear hv
  repeat (first | (refine wpR_det hp2 rfl ((hR.rel _).trans rfl) rfl ?_; intro K hK; go_big_quiet_op; go_big_quiet_on) | (refine wpR_skip pick rfl ?_; intro K hK; go_big_quiet_op; go_big_quiet_on))
  refine wpR_rel pick rfl ((hR.rel _).trans rfl) ?_ ?_
  · intro u hu
    have hk := hR.since hu.1
    have hks := hk.size
    have h8 := (hR.get 0 rfl (hu.2 _ _ (Got.upd_self _ _ _) (by kernel_rfl)))
    obtain ⟨A', c', e, -, -, hbs⟩ := h8
    obtain ⟨rfl, rfl⟩ : A8 = A' ∧ c8 = c' := by injection e with e1 _ e3; exact ⟨e1, e3⟩
    have hA2 := HA1.out.on hk (fun _ _ h => h)
    clear e
    unfold relAt
    go_simp
    have hz := refSet_any A A8 c c8 at_ l (digs k M) u (by omega) hA2 hbs (by rw [HD.out]; exact hat) (by rw [HD.out]; omega)
    rw [HD.out, over_fin] at hz
    refine hz.mono ?_
    rintro e w' ⟨v, rfl, hy, hb⟩
    exact ⟨_, rfl, hR.intoB hb, hR.put 1 rfl rfl hy⟩
  intro v hv
  obtain ⟨u, _, hu⟩ := hv.get
  obtain ⟨A9, c9, rfl, -, -, -⟩ := hR.get 1 rfl hu
  clear hu
  rw [HFL.out]
  intro K hK
  go_big_quiet_op
  go_big_quiet_on
  clear hv
  repeat (first | (refine wpR_det hp2 rfl ((hR.rel _).trans rfl) rfl ?_; intro K hK; go_big_quiet_op; go_big_quiet_on) | (refine wpR_skip pick rfl ?_; intro K hK; go_big_quiet_op; go_big_quiet_on))
  refine wpR_rel pick rfl ((hR.rel _).trans rfl) ?_ ?_
  · intro u hu
    have hk := hR.since hu.1
    have hks := hk.size
    have h9 := (hR.get 1 rfl (hu.2 _ _ (Got.upd_self _ _ _) (by kernel_rfl)))
    obtain ⟨A', c', e, -, -, hbs⟩ := h9
    obtain ⟨rfl, rfl⟩ : A9 = A' ∧ c9 = c' := by injection e with e1 _ e3; exact ⟨e1, e3⟩
    have hcv := hbs.conv (P := Try.prog) (c := c9) Try.underlying22 Try.underlying5 Try.underlying9
    rw [HFL.out] at hcv
    clear e hbs
    unfold relAt
    go_simp
    exact ⟨hR.same, hR.put 2 rfl rfl rfl⟩
  intro v hv
  obtain ⟨u, _, hu⟩ := hv.get
  obtain rfl := hR.get 2 rfl hu
  clear hu
  intro K hK
  go_big_quiet_op
  go_big_quiet_on
  clear hv
  repeat (first | (refine wpR_det hp2 rfl ((hR.rel _).trans rfl) rfl ?_; intro K hK; go_big_quiet_op; go_big_quiet_on) | (refine wpR_skip pick rfl ?_; intro K hK; go_big_quiet_op; go_big_quiet_on))
  refine wpR_nil ?_
  intro w2 hk2 hF
  have HA3 := Lib.hid (HA1.out.on hk2 (fun _ _ h => h))
  have HC3 := Lib.hid (HC1.out.on hk2 (fun _ _ h => h))
  have HB3 := Lib.hid (HB.out.trans (hk2.below hs (fun _ h => h.elim)))
  have hs3 : w.heap.size ≤ w2.heap.size := Nat.le_trans hs hk2.size
  clear hF hk2 HA1 HC1 HB HX hp1 hp2 hR
  rename Hid (BS w2 w2.heap.size A l) => HA1
  rename Hid (BS w2 w2.heap.size C m) => HC1
  go_wp2_with fail
  refine wp_region_kept 33 (fun _ => False) [(3, fun v u => Byt u v (l ++ digs k M)), (4, fun v _ => v = .string ⟨(l ++ digs k M).toArray⟩), (8, fun v u => Byt u v (digs k M)), (9, fun v u => ∃ g v1, v = .slice (some ⟨g, 0, none⟩) 2 2 ∧ Bys u g [.slice A l.length c, v1] [l, digs k M]), (10, fun v u => Byt u v (l ++ digs k M)), (11, fun v _ => v = .string ⟨(l ++ digs k M).toArray⟩), (16, fun v _ => v = .bool (l == m)), (27, fun v _ => v = .bool true), (30, fun v _ => v = .bool true)] ?st (by kernel_rfl) (by kernel_rfl) ?_
  case st =>
    intro p hp
    simp only [List.mem_cons, List.not_mem_nil, or_false] at hp
    rcases hp with rfl | rfl | rfl | rfl | rfl | rfl | rfl | rfl | rfl
    · intro v u u' h hk; exact h.on0 hk
    · intro v u u' h hk; exact h
    · intro v u u' h hk; exact h.on0 hk
    · rintro v u u' ⟨g, v1, rfl, h⟩ hk; exact ⟨g, v1, rfl, h.on0 hk⟩
    · intro v u u' h hk; exact h.on0 hk
    · intro v u u' h hk; exact h
    · intro v u u' h hk; exact h
    · intro v u u' h hk; exact h
    · intro v u u' h hk; exact h
  simp only [List.take_succ_cons, List.take_zero, List.drop_succ_cons, List.drop_zero]
  intro G pick hR hp1 hp2
  have hcA : ∀ u, (convert 22 9 (.slice A l.length c)).run Try.prog (pick u) = .ok (.string ⟨l.toArray⟩) (pick u) := fun u => (HA1.out.on (hp1 u) (fun _ _ h => h)).conv Try.underlying22 Try.underlying5 Try.underlying9
  have hcC : ∀ u, (convert 22 9 (.slice C m.length d)).run Try.prog (pick u) = .ok (.string ⟨m.toArray⟩) (pick u) := fun u => (HC1.out.on (hp1 u) (fun _ _ h => h)).conv Try.underlying22 Try.underlying5 Try.underlying9
  repeat (first | (refine wpR_det hp2 rfl ((hR.rel _).trans rfl) rfl ?_; intro K hK; go_big_quiet_op; go_big_quiet_on) | (refine wpR_skip pick rfl ?_; intro K hK; go_big_quiet_op; go_big_quiet_on))
  refine wpR_rel pick rfl ((hR.rel _).trans rfl) ?_ ?_
  · intro u hu
    have hk := hR.since hu.1
    have hks := hk.size
    have hA2 := HA1.out.on hk (fun _ _ h => h)
    unfold relAt
    go_simp
    refine (put_any A c k l M k u (by omega) hA2 m0 m1 (by omega)).mono ?_
    rintro e w' ⟨rfl, hO, hb⟩
    have hy := hO.byt
    rw [HLD.out] at hy
    exact ⟨_, rfl, hR.intoB hb, hR.put 0 rfl rfl hy⟩
  intro v hv
  obtain ⟨u, _, hu⟩ := hv.get
  obtain ⟨A3, c3, rfl, -, -, -⟩ := hR.get 0 rfl hu
  clear hu
  rw [HLD.out]
  intro K hK
  go_big_quiet_op
  go_big_quiet_on
  clear hv
  repeat (first | (refine wpR_det hp2 rfl ((hR.rel _).trans rfl) rfl ?_; intro K hK; go_big_quiet_op; go_big_quiet_on) | (refine wpR_skip pick rfl ?_; intro K hK; go_big_quiet_op; go_big_quiet_on))
  refine wpR_rel pick rfl ((hR.rel _).trans rfl) ?_ ?_
  · intro u hu
    have hk := hR.since hu.1
    have hks := hk.size
    obtain ⟨A', c', e, -, -, hbs⟩ := (hR.get 0 rfl (hu.2 _ _ (Got.upd_self _ _ _) (by kernel_rfl)))
    obtain ⟨rfl, rfl⟩ : A3 = A' ∧ c3 = c' := by injection e with e1 _ e3; exact ⟨e1, e3⟩
    have hcv := hbs.conv (P := Try.prog) (c := c3) Try.underlying22 Try.underlying5 Try.underlying9
    rw [HLD.out] at hcv
    clear e hbs
    unfold relAt
    go_simp
    exact ⟨hR.same, hR.put 1 rfl rfl (by simp)⟩
  intro v hv
  obtain ⟨u, _, hu⟩ := hv.get
  obtain rfl := hR.get 1 rfl hu
  clear hu
  intro K hK
  go_big_quiet_op
  go_big_quiet_on
  clear hv
  repeat (first | (refine wpR_det hp2 rfl ((hR.rel _).trans rfl) rfl ?_; intro K hK; go_big_quiet_op; go_big_quiet_on) | (refine wpR_skip pick rfl ?_; intro K hK; go_big_quiet_op; go_big_quiet_on))
  refine wpR_rel pick rfl ((hR.rel _).trans rfl) ?_ ?_
  · intro u hu
    have hk := hR.since hu.1
    have hks := hk.size
    unfold relAt
    go_simp
    refine (refBytes_any k M k u m0 m1 (by omega)).mono ?_
    rintro e w' ⟨rfl, hO, hb⟩
    have hy := hO.byt
    rw [HD.out] at hy
    exact ⟨_, rfl, hR.intoB hb, hR.put 2 rfl rfl hy⟩
  intro v hv
  obtain ⟨u, _, hu⟩ := hv.get
  obtain ⟨A8, c8, rfl, -, -, -⟩ := hR.get 2 rfl hu
  clear hu
  rw [HD.out]
  intro K hK
  go_big_quiet_op
  go_big_quiet_on
  clear hv
  repeat (first | (refine wpR_det hp2 rfl ((hR.rel _).trans rfl) rfl ?_; intro K hK; go_big_quiet_op; go_big_quiet_on) | (refine wpR_skip pick rfl ?_; intro K hK; go_big_quiet_op; go_big_quiet_on))
  refine wpR_rel pick rfl ((hR.rel _).trans rfl) ?_ ?_
  · intro u hu
    have hk := hR.since hu.1
    have hks := hk.size
    have hA2 := HA1.out.on hk (fun _ _ h => h)
    have hB8 := (hR.get 2 rfl (hu.2 _ _ (Got.upd_self _ _ _) (by kernel_rfl)))
    unfold relAt
    go_simp
    refine ⟨hR.into ((Kept.refl _ _).alloc _), hR.put 3 rfl rfl ⟨u.heap.size, .slice A8 k c8, rfl, rfl, by simp, fun i h h' => ?_⟩⟩
    have ha : Byt (u.alloc (.cells #[.slice A l.length c, .slice A8 k c8] 22)) (.slice A l.length c) l := ⟨A, c, rfl, hlc, hcm, (hA2.alloc (Nat.le_refl _) _).more (by simp)⟩
    have hb : Byt (u.alloc (.cells #[.slice A l.length c, .slice A8 k c8] 22)) (.slice A8 k c8) (digs k M) := hB8.onB ((Below.refl _ _).alloc (Nat.le_refl _) _)
    match i, h with
    | 0, _ => exact ⟨(Blk.new u 22 #[.slice A l.length c, .slice A8 k c8]).cell 0, ha⟩
    | 1, _ => exact ⟨(Blk.new u 22 #[.slice A l.length c, .slice A8 k c8]).cell 1, hb⟩
  intro v hv
  obtain ⟨u, _, hu⟩ := hv.get
  obtain ⟨g9, v9, rfl, -⟩ := hR.get 3 rfl hu
  clear hu
  intro K hK
  go_big_quiet_op
  go_big_quiet_on
  clear hv
  repeat (first | (refine wpR_det hp2 rfl ((hR.rel _).trans rfl) rfl ?_; intro K hK; go_big_quiet_op; go_big_quiet_on) | (refine wpR_skip pick rfl ?_; intro K hK; go_big_quiet_op; go_big_quiet_on))
  refine wpR_rel pick rfl ((hR.rel _).trans rfl) ?_ ?_
  · intro u hu
    have hk := hR.since hu.1
    have hks := hk.size
    obtain ⟨g', v1, e, hys⟩ := (hR.get 3 rfl (hu.2 _ _ (Got.upd_self _ _ _) (by kernel_rfl)))
    obtain rfl : g9 = g' := by injection e with e; injection e with e; injection e
    clear e
    unfold relAt
    go_simp
    have hz := refJoin_any g9 2 [.slice A l.length c, v1] [l, digs k M] u hys (by simp) (by simp [HD.out]; omega)
    rw [show [l, digs k M].flatten = l ++ digs k M by simp] at hz
    refine hz.mono ?_
    rintro e w' ⟨v, rfl, hy, hb⟩
    exact ⟨_, rfl, hR.intoB hb, hR.put 4 rfl rfl hy⟩
  intro v hv
  obtain ⟨u, _, hu⟩ := hv.get
  obtain ⟨A10, c10, rfl, -, -, -⟩ := hR.get 4 rfl hu
  clear hu
  rw [HLD.out]
  intro K hK
  go_big_quiet_op
  go_big_quiet_on
  clear hv
  repeat (first | (refine wpR_det hp2 rfl ((hR.rel _).trans rfl) rfl ?_; intro K hK; go_big_quiet_op; go_big_quiet_on) | (refine wpR_skip pick rfl ?_; intro K hK; go_big_quiet_op; go_big_quiet_on))
  refine wpR_rel pick rfl ((hR.rel _).trans rfl) ?_ ?_
  · intro u hu
    have hk := hR.since hu.1
    have hks := hk.size
    obtain ⟨A', c', e, -, -, hbs⟩ := (hR.get 4 rfl (hu.2 _ _ (Got.upd_self _ _ _) (by kernel_rfl)))
    obtain ⟨rfl, rfl⟩ : A10 = A' ∧ c10 = c' := by injection e with e1 _ e3; exact ⟨e1, e3⟩
    have hcv := hbs.conv (P := Try.prog) (c := c10) Try.underlying22 Try.underlying5 Try.underlying9
    rw [HLD.out] at hcv
    clear e hbs
    unfold relAt
    go_simp
    exact ⟨hR.same, hR.put 5 rfl rfl (by simp)⟩
  intro v hv
  obtain ⟨u, _, hu⟩ := hv.get
  obtain rfl := hR.get 5 rfl hu
  clear hu
  intro K hK
  go_big_quiet_op
  go_big_quiet_on
  clear hv
  repeat (first | (refine wpR_det hp2 rfl ((hR.rel _).trans rfl) rfl ?_; intro K hK; go_big_quiet_op; go_big_quiet_on) | (refine wpR_skip pick rfl ?_; intro K hK; go_big_quiet_op; go_big_quiet_on))
  refine wpR_rel pick rfl ((hR.rel _).trans rfl) ?_ ?_
  · intro u hu
    have hk := hR.since hu.1
    have hks := hk.size
    have hA2 := HA1.out.on hk (fun _ _ h => h)
    have hC2 := HC1.out.on hk (fun _ _ h => h)
    unfold relAt
    go_simp
    refine (equal_any A C c d l m u hA2 hC2).mono ?_
    rintro e w' ⟨rfl, rfl⟩
    exact ⟨_, rfl, hR.same, hR.put 6 rfl rfl rfl⟩
  intro v hv
  obtain ⟨u, _, hu⟩ := hv.get
  obtain rfl := hR.get 6 rfl hu
  clear hu
  intro K hK
  go_big_quiet_op
  go_big_quiet_on
  clear hv
  repeat (first | (refine wpR_det hp2 rfl ((hR.rel _).trans rfl) rfl ?_; intro K hK; go_big_quiet_op; go_big_quiet_on) | (refine wpR_skip pick rfl ?_; intro K hK; go_big_quiet_op; go_big_quiet_on))
  refine wpR_rel pick rfl ((hR.rel _).trans rfl) ?_ ?_
  · intro u hu
    have hk := hR.since hu.1
    have hks := hk.size
    have hA2 := HA1.out.on hk (fun _ _ h => h)
    unfold relAt
    go_simp
    refine (equal_any A A c c l l u hA2 hA2).mono ?_
    rintro e w' ⟨rfl, rfl⟩
    exact ⟨_, rfl, hR.same, hR.put 7 rfl rfl (by simp)⟩
  intro v hv
  obtain ⟨u, _, hu⟩ := hv.get
  obtain rfl := hR.get 7 rfl hu
  clear hu
  intro K hK
  go_big_quiet_op
  go_big_quiet_on
  clear hv
  repeat (first | (refine wpR_det hp2 rfl ((hR.rel _).trans rfl) rfl ?_; intro K hK; go_big_quiet_op; go_big_quiet_on) | (refine wpR_skip pick rfl ?_; intro K hK; go_big_quiet_op; go_big_quiet_on))
  refine wpR_rel pick rfl ((hR.rel _).trans rfl) ?_ ?_
  · intro u hu
    have hk := hR.since hu.1
    have hks := hk.size
    unfold relAt
    go_simp
    refine (awake_any u).mono ?_
    rintro e w' ⟨rfl, hb⟩
    exact ⟨_, rfl, hR.intoB hb, hR.put 8 rfl rfl rfl⟩
  intro v hv
  obtain ⟨u, _, hu⟩ := hv.get
  obtain rfl := hR.get 8 rfl hu
  clear hu
  intro K hK
  go_big_quiet_op
  go_big_quiet_on
  clear hv
  repeat (first | (refine wpR_det hp2 rfl ((hR.rel _).trans rfl) rfl ?_; intro K hK; go_big_quiet_op; go_big_quiet_on) | (refine wpR_skip pick rfl ?_; intro K hK; go_big_quiet_op; go_big_quiet_on))
  refine wpR_nil ?_
  intro w4 hk2 hF
  have HB4 := Lib.hid (HB3.out.trans (hk2.below hs3 (fun _ h => h.elim)))
  clear hF hk2
  go_wp2_with fail
  go_ret
  exact ⟨rfl, HB4.out⟩

set_option maxRecDepth 100000 in
set_option maxHeartbeats 4000000 in
/-- The slices are short, the place is not there. -/
theorem puts_no (A C : Option Addr) (c d k : Nat) (l m : List UInt8) (M at_ sz : Int) (w : World) (hl : l.length ≤ 1000) (hm : m.length ≤ 1000) (hlc : l.length ≤ c) (hcm : c ≤ maxLen) (hA : BS w w.heap.size A l) (hC : BS w w.heap.size C m)
    (m0 : 0 ≤ M) (m1 : M < 18446744073709551616) (hk : (k : Int) = max 0 (min sz 8)) (s0 : -9223372036854775808 ≤ sz) (s1 : sz ≤ 9223372036854775807)
    (h : sz < 1 ∨ (1 ≤ sz ∧ 8 < sz) ∨ (1 ≤ sz ∧ sz ≤ 8 ∧ at_ < 0) ∨ (1 ≤ sz ∧ sz ≤ 8 ∧ 0 ≤ at_ ∧ (l.length : Int) < sz) ∨ (1 ≤ sz ∧ sz ≤ 8 ∧ 0 ≤ at_ ∧ sz ≤ (l.length : Int) ∧ (l.length : Int) - sz < at_)) :
    Calls Try.prog 3 #[.slice A l.length c, .int .i64 at_, .int .u64 M, .int .i64 sz, .slice C m.length d] w fun e w' => e = .returned (.bool true) ∧ Below w.heap.size w w' := by
  have HA1 := Lib.hid hA
  have HC1 := Lib.hid hC
  have HD := Lib.hid (digs_length k M)
  have HLD := Lib.hid (show (l ++ digs k M).length = l.length + k by rw [List.length_append, digs_length])
  have HKZ := Lib.hid hk
  have HH := Lib.hid h
  have k8 : k ≤ 8 := by omega
  clear hA hC hk h
  go_enter Try.func3, Try.ntmps3
  go_wp2_with fail
  refine (set_no A c l.length at_ M sz w HH.out (by omega)).mono ?_
  rintro e w1 ⟨rfl, rfl⟩
  go_upto_region 4 with fail
  go_cut [13] (fun s wx => s = .bool false ∧ w = wx)
  case first =>
    rcases HH.out with h | ⟨h1, h2⟩ | ⟨h1, h2, h3⟩ | ⟨h1, h2, h3, h4⟩ | ⟨h1, h2, h3, h4, h5⟩
    all_goals
      go_wp2_with fail
      go_meet
      exact ⟨congrArg Value.bool (by first | rfl | (simp; omega)), rfl⟩
  case rest =>
    obtain ⟨rfl, rfl⟩ := hcut
    go_wp2_with fail
    refine wp_region_kept 13 (fun _ => False) [] ?st (by kernel_rfl) (by kernel_rfl) ?_
    case st => intro p hp; cases hp
    simp only [List.take_succ_cons, List.take_zero, List.drop_succ_cons, List.drop_zero]
    intro G pick hR hp1 hp2
    repeat (first | (refine wpR_det hp2 rfl ((hR.rel _).trans rfl) rfl ?_; intro K hK; go_big_quiet_op; go_big_quiet_on) | (refine wpR_skip pick rfl ?_; intro K hK; go_big_quiet_op; go_big_quiet_on))
    refine wpR_nil ?_
    intro w2 hk2 hF
    have HA3 := Lib.hid (HA1.out.on hk2 (fun _ _ h => h))
    have HC3 := Lib.hid (HC1.out.on hk2 (fun _ _ h => h))
    have HB3 := Lib.hid (hk2.below (Nat.le_refl _) (fun _ h => h.elim))
    have hs3 : w.heap.size ≤ w2.heap.size := hk2.size
    clear hF hk2 HA1 HC1 hp1 hp2 hR
    rename Hid (BS w2 w2.heap.size A l) => HA1
    rename Hid (BS w2 w2.heap.size C m) => HC1
    go_wp2_with fail
    refine wp_region_kept 33 (fun _ => False) [(3, fun v u => Byt u v (l ++ digs k M)), (4, fun v _ => v = .string ⟨(l ++ digs k M).toArray⟩), (8, fun v u => Byt u v (digs k M)), (9, fun v u => ∃ g v1, v = .slice (some ⟨g, 0, none⟩) 2 2 ∧ Bys u g [.slice A l.length c, v1] [l, digs k M]), (10, fun v u => Byt u v (l ++ digs k M)), (11, fun v _ => v = .string ⟨(l ++ digs k M).toArray⟩), (16, fun v _ => v = .bool (l == m)), (27, fun v _ => v = .bool true), (30, fun v _ => v = .bool true)] ?st (by kernel_rfl) (by kernel_rfl) ?_
    case st =>
      intro p hp
      simp only [List.mem_cons, List.not_mem_nil, or_false] at hp
      rcases hp with rfl | rfl | rfl | rfl | rfl | rfl | rfl | rfl | rfl
      · intro v u u' h hk; exact h.on0 hk
      · intro v u u' h hk; exact h
      · intro v u u' h hk; exact h.on0 hk
      · rintro v u u' ⟨g, v1, rfl, h⟩ hk; exact ⟨g, v1, rfl, h.on0 hk⟩
      · intro v u u' h hk; exact h.on0 hk
      · intro v u u' h hk; exact h
      · intro v u u' h hk; exact h
      · intro v u u' h hk; exact h
      · intro v u u' h hk; exact h
    simp only [List.take_succ_cons, List.take_zero, List.drop_succ_cons, List.drop_zero]
    intro G pick hR hp1 hp2
    have hcA : ∀ u, (convert 22 9 (.slice A l.length c)).run Try.prog (pick u) = .ok (.string ⟨l.toArray⟩) (pick u) := fun u => (HA1.out.on (hp1 u) (fun _ _ h => h)).conv Try.underlying22 Try.underlying5 Try.underlying9
    have hcC : ∀ u, (convert 22 9 (.slice C m.length d)).run Try.prog (pick u) = .ok (.string ⟨m.toArray⟩) (pick u) := fun u => (HC1.out.on (hp1 u) (fun _ _ h => h)).conv Try.underlying22 Try.underlying5 Try.underlying9
    repeat (first | (refine wpR_det hp2 rfl ((hR.rel _).trans rfl) rfl ?_; intro K hK; go_big_quiet_op; go_big_quiet_on) | (refine wpR_skip pick rfl ?_; intro K hK; go_big_quiet_op; go_big_quiet_on))
    refine wpR_rel pick rfl ((hR.rel _).trans rfl) ?_ ?_
    · intro u hu
      have hk := hR.since hu.1
      have hks := hk.size
      have hA2 := HA1.out.on hk (fun _ _ h => h)
      unfold relAt
      go_simp
      refine (put_any A c k l M sz u (by omega) hA2 m0 m1 HKZ.out).mono ?_
      rintro e w' ⟨rfl, hO, hb⟩
      have hy := hO.byt
      rw [HLD.out] at hy
      exact ⟨_, rfl, hR.intoB hb, hR.put 0 rfl rfl hy⟩
    intro v hv
    obtain ⟨u, _, hu⟩ := hv.get
    obtain ⟨A3, c3, rfl, -, -, -⟩ := hR.get 0 rfl hu
    clear hu
    rw [HLD.out]
    intro K hK
    go_big_quiet_op
    go_big_quiet_on
    clear hv
    repeat (first | (refine wpR_det hp2 rfl ((hR.rel _).trans rfl) rfl ?_; intro K hK; go_big_quiet_op; go_big_quiet_on) | (refine wpR_skip pick rfl ?_; intro K hK; go_big_quiet_op; go_big_quiet_on))
    refine wpR_rel pick rfl ((hR.rel _).trans rfl) ?_ ?_
    · intro u hu
      have hk := hR.since hu.1
      have hks := hk.size
      obtain ⟨A', c', e, -, -, hbs⟩ := (hR.get 0 rfl (hu.2 _ _ (Got.upd_self _ _ _) (by kernel_rfl)))
      obtain ⟨rfl, rfl⟩ : A3 = A' ∧ c3 = c' := by injection e with e1 _ e3; exact ⟨e1, e3⟩
      have hcv := hbs.conv (P := Try.prog) (c := c3) Try.underlying22 Try.underlying5 Try.underlying9
      rw [HLD.out] at hcv
      clear e hbs
      unfold relAt
      go_simp
      exact ⟨hR.same, hR.put 1 rfl rfl (by simp)⟩
    intro v hv
    obtain ⟨u, _, hu⟩ := hv.get
    obtain rfl := hR.get 1 rfl hu
    clear hu
    intro K hK
    go_big_quiet_op
    go_big_quiet_on
    clear hv
    repeat (first | (refine wpR_det hp2 rfl ((hR.rel _).trans rfl) rfl ?_; intro K hK; go_big_quiet_op; go_big_quiet_on) | (refine wpR_skip pick rfl ?_; intro K hK; go_big_quiet_op; go_big_quiet_on))
    refine wpR_rel pick rfl ((hR.rel _).trans rfl) ?_ ?_
    · intro u hu
      have hk := hR.since hu.1
      have hks := hk.size
      unfold relAt
      go_simp
      refine (refBytes_any k M sz u m0 m1 HKZ.out).mono ?_
      rintro e w' ⟨rfl, hO, hb⟩
      have hy := hO.byt
      rw [HD.out] at hy
      exact ⟨_, rfl, hR.intoB hb, hR.put 2 rfl rfl hy⟩
    intro v hv
    obtain ⟨u, _, hu⟩ := hv.get
    obtain ⟨A8, c8, rfl, -, -, -⟩ := hR.get 2 rfl hu
    clear hu
    rw [HD.out]
    intro K hK
    go_big_quiet_op
    go_big_quiet_on
    clear hv
    repeat (first | (refine wpR_det hp2 rfl ((hR.rel _).trans rfl) rfl ?_; intro K hK; go_big_quiet_op; go_big_quiet_on) | (refine wpR_skip pick rfl ?_; intro K hK; go_big_quiet_op; go_big_quiet_on))
    refine wpR_rel pick rfl ((hR.rel _).trans rfl) ?_ ?_
    · intro u hu
      have hk := hR.since hu.1
      have hks := hk.size
      have hA2 := HA1.out.on hk (fun _ _ h => h)
      have hB8 := (hR.get 2 rfl (hu.2 _ _ (Got.upd_self _ _ _) (by kernel_rfl)))
      unfold relAt
      go_simp
      refine ⟨hR.into ((Kept.refl _ _).alloc _), hR.put 3 rfl rfl ⟨u.heap.size, .slice A8 k c8, rfl, rfl, by simp, fun i h h' => ?_⟩⟩
      have ha : Byt (u.alloc (.cells #[.slice A l.length c, .slice A8 k c8] 22)) (.slice A l.length c) l := ⟨A, c, rfl, hlc, hcm, (hA2.alloc (Nat.le_refl _) _).more (by simp)⟩
      have hb : Byt (u.alloc (.cells #[.slice A l.length c, .slice A8 k c8] 22)) (.slice A8 k c8) (digs k M) := hB8.onB ((Below.refl _ _).alloc (Nat.le_refl _) _)
      match i, h with
      | 0, _ => exact ⟨(Blk.new u 22 #[.slice A l.length c, .slice A8 k c8]).cell 0, ha⟩
      | 1, _ => exact ⟨(Blk.new u 22 #[.slice A l.length c, .slice A8 k c8]).cell 1, hb⟩
    intro v hv
    obtain ⟨u, _, hu⟩ := hv.get
    obtain ⟨g9, v9, rfl, -⟩ := hR.get 3 rfl hu
    clear hu
    intro K hK
    go_big_quiet_op
    go_big_quiet_on
    clear hv
    repeat (first | (refine wpR_det hp2 rfl ((hR.rel _).trans rfl) rfl ?_; intro K hK; go_big_quiet_op; go_big_quiet_on) | (refine wpR_skip pick rfl ?_; intro K hK; go_big_quiet_op; go_big_quiet_on))
    refine wpR_rel pick rfl ((hR.rel _).trans rfl) ?_ ?_
    · intro u hu
      have hk := hR.since hu.1
      have hks := hk.size
      obtain ⟨g', v1, e, hys⟩ := (hR.get 3 rfl (hu.2 _ _ (Got.upd_self _ _ _) (by kernel_rfl)))
      obtain rfl : g9 = g' := by injection e with e; injection e with e; injection e
      clear e
      unfold relAt
      go_simp
      have hz := refJoin_any g9 2 [.slice A l.length c, v1] [l, digs k M] u hys (by simp) (by simp [HD.out]; omega)
      rw [show [l, digs k M].flatten = l ++ digs k M by simp] at hz
      refine hz.mono ?_
      rintro e w' ⟨v, rfl, hy, hb⟩
      exact ⟨_, rfl, hR.intoB hb, hR.put 4 rfl rfl hy⟩
    intro v hv
    obtain ⟨u, _, hu⟩ := hv.get
    obtain ⟨A10, c10, rfl, -, -, -⟩ := hR.get 4 rfl hu
    clear hu
    rw [HLD.out]
    intro K hK
    go_big_quiet_op
    go_big_quiet_on
    clear hv
    repeat (first | (refine wpR_det hp2 rfl ((hR.rel _).trans rfl) rfl ?_; intro K hK; go_big_quiet_op; go_big_quiet_on) | (refine wpR_skip pick rfl ?_; intro K hK; go_big_quiet_op; go_big_quiet_on))
    refine wpR_rel pick rfl ((hR.rel _).trans rfl) ?_ ?_
    · intro u hu
      have hk := hR.since hu.1
      have hks := hk.size
      obtain ⟨A', c', e, -, -, hbs⟩ := (hR.get 4 rfl (hu.2 _ _ (Got.upd_self _ _ _) (by kernel_rfl)))
      obtain ⟨rfl, rfl⟩ : A10 = A' ∧ c10 = c' := by injection e with e1 _ e3; exact ⟨e1, e3⟩
      have hcv := hbs.conv (P := Try.prog) (c := c10) Try.underlying22 Try.underlying5 Try.underlying9
      rw [HLD.out] at hcv
      clear e hbs
      unfold relAt
      go_simp
      exact ⟨hR.same, hR.put 5 rfl rfl (by simp)⟩
    intro v hv
    obtain ⟨u, _, hu⟩ := hv.get
    obtain rfl := hR.get 5 rfl hu
    clear hu
    intro K hK
    go_big_quiet_op
    go_big_quiet_on
    clear hv
    repeat (first | (refine wpR_det hp2 rfl ((hR.rel _).trans rfl) rfl ?_; intro K hK; go_big_quiet_op; go_big_quiet_on) | (refine wpR_skip pick rfl ?_; intro K hK; go_big_quiet_op; go_big_quiet_on))
    refine wpR_rel pick rfl ((hR.rel _).trans rfl) ?_ ?_
    · intro u hu
      have hk := hR.since hu.1
      have hks := hk.size
      have hA2 := HA1.out.on hk (fun _ _ h => h)
      have hC2 := HC1.out.on hk (fun _ _ h => h)
      unfold relAt
      go_simp
      refine (equal_any A C c d l m u hA2 hC2).mono ?_
      rintro e w' ⟨rfl, rfl⟩
      exact ⟨_, rfl, hR.same, hR.put 6 rfl rfl rfl⟩
    intro v hv
    obtain ⟨u, _, hu⟩ := hv.get
    obtain rfl := hR.get 6 rfl hu
    clear hu
    intro K hK
    go_big_quiet_op
    go_big_quiet_on
    clear hv
    repeat (first | (refine wpR_det hp2 rfl ((hR.rel _).trans rfl) rfl ?_; intro K hK; go_big_quiet_op; go_big_quiet_on) | (refine wpR_skip pick rfl ?_; intro K hK; go_big_quiet_op; go_big_quiet_on))
    refine wpR_rel pick rfl ((hR.rel _).trans rfl) ?_ ?_
    · intro u hu
      have hk := hR.since hu.1
      have hks := hk.size
      have hA2 := HA1.out.on hk (fun _ _ h => h)
      unfold relAt
      go_simp
      refine (equal_any A A c c l l u hA2 hA2).mono ?_
      rintro e w' ⟨rfl, rfl⟩
      exact ⟨_, rfl, hR.same, hR.put 7 rfl rfl (by simp)⟩
    intro v hv
    obtain ⟨u, _, hu⟩ := hv.get
    obtain rfl := hR.get 7 rfl hu
    clear hu
    intro K hK
    go_big_quiet_op
    go_big_quiet_on
    clear hv
    repeat (first | (refine wpR_det hp2 rfl ((hR.rel _).trans rfl) rfl ?_; intro K hK; go_big_quiet_op; go_big_quiet_on) | (refine wpR_skip pick rfl ?_; intro K hK; go_big_quiet_op; go_big_quiet_on))
    refine wpR_rel pick rfl ((hR.rel _).trans rfl) ?_ ?_
    · intro u hu
      have hk := hR.since hu.1
      have hks := hk.size
      unfold relAt
      go_simp
      refine (awake_any u).mono ?_
      rintro e w' ⟨rfl, hb⟩
      exact ⟨_, rfl, hR.intoB hb, hR.put 8 rfl rfl rfl⟩
    intro v hv
    obtain ⟨u, _, hu⟩ := hv.get
    obtain rfl := hR.get 8 rfl hu
    clear hu
    intro K hK
    go_big_quiet_op
    go_big_quiet_on
    clear hv
    repeat (first | (refine wpR_det hp2 rfl ((hR.rel _).trans rfl) rfl ?_; intro K hK; go_big_quiet_op; go_big_quiet_on) | (refine wpR_skip pick rfl ?_; intro K hK; go_big_quiet_op; go_big_quiet_on))
    refine wpR_nil ?_
    intro w4 hk2 hF
    have HB4 := Lib.hid (HB3.out.trans (hk2.below hs3 (fun _ h => h.elim)))
    clear hF hk2
    go_wp2_with fail
    go_ret
    exact ⟨rfl, HB4.out⟩

set_option maxHeartbeats 1000000 in
/-- A slice is long. -/
theorem puts_long (A C : Option Addr) (c d n k : Nat) (M at_ sz : Int) (w : World) (h : 1000 < n ∨ (n ≤ 1000 ∧ 1000 < k)) (hn : n ≤ maxLen) (hk : k ≤ maxLen) :
    Calls Try.prog 3 #[.slice A n c, .int .i64 at_, .int .u64 M, .int .i64 sz, .slice C k d] w fun e w' => e = .returned (.bool true) ∧ Below w.heap.size w w' := by
  unfold maxLen at hn hk
  rcases h with h | ⟨h1, h2⟩
  all_goals
    go_enter Try.func3, Try.ntmps3
    go_wp2_with fail
    refine (awake_any w).mono ?_
    rintro e w1 ⟨rfl, hb⟩
    go_wp2_with fail
    go_ret
    exact ⟨rfl, hb⟩
theorem puts_l (A C : Option Addr) (c d : Nat) (l m : List UInt8) (M at_ sz : Int) (w : World) (hlc : l.length ≤ c) (hcm : c ≤ maxLen) (hmd : m.length ≤ d) (hdm : d ≤ maxLen) (hA : BS w w.heap.size A l) (hC : BS w w.heap.size C m)
    (m0 : 0 ≤ M) (m1 : M ≤ 18446744073709551615) (s0 : -9223372036854775808 ≤ sz) (s1 : sz ≤ 9223372036854775807) :
    Calls Try.prog 3 #[.slice A l.length c, .int .i64 at_, .int .u64 M, .int .i64 sz, .slice C m.length d] w fun e w' => e = .returned (.bool true) ∧ Below w.heap.size w w' := by
  by_cases h : 1000 < l.length ∨ (l.length ≤ 1000 ∧ 1000 < m.length)
  · exact puts_long A C c d _ _ M at_ sz w h (by omega) (by omega)
  · by_cases hin : 1 ≤ sz ∧ sz ≤ 8 ∧ 0 ≤ at_ ∧ sz ≤ (l.length : Int) ∧ at_ ≤ (l.length : Int) - sz
    · obtain ⟨k, rfl⟩ := Int.eq_ofNat_of_zero_le (show 0 ≤ sz by omega)
      obtain ⟨a, rfl⟩ := Int.eq_ofNat_of_zero_le hin.2.2.1
      exact puts_in A C c d a k l m M w (by omega) (by omega) hlc hcm hA hC m0 (by omega) (by omega) (by omega) (by omega)
    · exact puts_no A C c d (max 0 (min sz 8)).toNat l m M at_ sz w (by omega) (by omega) hlc hcm hA hC m0 (by omega) (by omega) s0 s1 (by omega)
end Go.Proofs.Ytncejkmjognmlaa
