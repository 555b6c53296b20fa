/- heap's Remove; a queue's methods. -/
import Derived.Test.YtikakdcjbnbacaaE
namespace Go.Proofs.Ytikakdcjbnbacaa
open Go.RowKit
set_option linter.unusedVariables false
def remL (H : List It) (i n : Nat) : List It := if n = i then H else fixL (swapL H i n) i n
theorem remL_len (H : List It) (i n : Nat) : (remL H i n).length = H.length := by
  unfold remL; split
  · rfl
  · rw [fixL_len, swapL_len]
set_option maxHeartbeats 4000000 in
theorem hrem_any (qb base : Nat) (v : Value) (H : List It) (i n : Nat) (w : World) (h : QuS qb base v H w) (hn : H.length = n + 1) (hi : i ≤ n) (hl : H.length ≤ 10000) (hb : base ≤ w.heap.size) :
    Calls Try.prog 29 #[.iface 61 (.pointer (some ⟨qb, 0, none⟩)), .int .i64 (i : Int)] w fun e w' => e = .returned (BI (ix (remL H i n) n)) ∧ QuP qb base v ((remL H i n).take n) w w' := by
  obtain ⟨A, c, rfl, -, -⟩ := h.shape
  have HKL := Lib.hid (show (remL H i n).length = n + 1 by rw [remL_len, hn])
  have hml := meth_Len h.blk
  have HQ := Lib.hid h
  have HLN := Lib.hid hn
  rw [hn] at hl hml HQ ⊢
  have hsub : ((n + 1 : Nat) : Int) - 1 = (n : Int) := by omega
  have hn1 : (n : Int) + 1 - 1 = (n : Int) := by omega
  clear h hn
  by_cases hni : n = i
  · subst hni
    have hRE : remL H n n = H := by unfold remL; rw [if_pos rfl]
    rw [hRE] at HKL ⊢
    clear hRE
    go_enter Try.func29, Try.ntmps29
    go_wp2_with fail
    refine (len_pile _ _ _ _).mono ?_
    rintro e wa ⟨rfl, rfl⟩
    clear hml
    have hPO := pop_pile qb base _ ((H).take n) (ix (H) n) w (by rw [← snoc_eq _ n HKL.out]; exact HQ.out) (by simp; omega) (by omega)
    have HPO := Lib.hid hPO
    have hmp := meth_pop (some ⟨qb, 0, none⟩) w
    clear hPO
    go_wp2_with fail
    refine HPO.out.mono ?_
    rintro e w3 ⟨rfl, hPN⟩
    have HPN := Lib.hid hPN
    clear hPN HPO hmp
    go_wp2_with fail
    go_ret
    exact ⟨rfl, HPN.out⟩
  · have hne : ((n : Int) == (i : Int)) = false := by simp; omega
    have hin : i < n := by omega
    have HRE := Lib.hid (show remL H i n = fixL (swapL H i n) i n by unfold remL; rw [if_neg hni])
    have hms := meth_Swap HQ.out.blk
    have HSW := Lib.hid (swap_n qb base A c H (n + 1) i n HLN.out (by omega) (by omega) w (by omega) HQ.out)
    have hKl : (swapL H i n).length = n + 1 := by rw [swapL_len, HLN.out]
    obtain ⟨K, hK⟩ : ∃ K, swapL H i n = K := ⟨_, rfl⟩
    rw [hK] at HSW hKl HRE
    rw [HRE.out] at HKL ⊢
    clear hK hni HRE
    have HKN := Lib.hid hKl
    clear hKl
    go_enter Try.func29, Try.ntmps29
    go_wp2_with fail
    refine (len_pile _ _ _ _).mono ?_
    rintro e wa ⟨rfl, rfl⟩
    clear hml
    go_wp2_with fail
    refine HSW.out.mono ?_
    rintro e w1 ⟨rfl, hQ1, hk1⟩
    have hs1 := hk1.size
    have HK1 := Lib.hid (own_in (qb := qb) hk1)
    have HDN := Lib.hid (down_any qb base _ K i n w1 hQ1 (by rw [HKN.out]; omega) (by rw [HKN.out]; omega) (by rw [HKN.out]; omega))
    obtain ⟨b, hbb⟩ : ∃ b, decide (i < (downL K i n).2) = b := ⟨_, rfl⟩
    have HBB := Lib.hid hbb
    rw [hbb] at HDN
    clear hbb hQ1 hk1 HSW hms
    go_wp2_with fail
    refine HDN.out.mono ?_
    rintro e w2 ⟨rfl, hQ2, hk2⟩
    have hs2 := hk2.size
    have HQ2 := Lib.hid hQ2
    have HK2 := Lib.hid (HK1.out.trans (own_in (qb := qb) hk2))
    clear hQ2 hk2 HDN HK1
    cases b with
    | true =>
      have HE := Lib.hid (show fixL K i n = (downL K i n).1 by unfold fixL; rw [if_pos (of_decide_eq_true HBB.out)])
      rw [HE.out] at HKL
      have hPO := pop_pile qb base _ (((downL K i n).1).take n) (ix ((downL K i n).1) n) w2 (by rw [← snoc_eq _ n HKL.out]; exact HQ2.out) (by simp; omega) (by omega)
      have HPO := Lib.hid hPO
      have hmp := meth_pop (some ⟨qb, 0, none⟩) w2
      clear hPO
      go_wp2_with fail
      refine HPO.out.mono ?_
      rintro e w3 ⟨rfl, hPN⟩
      have HPN := Lib.hid hPN
      clear hPN HPO hmp
      go_wp2_with fail
      go_ret
      rw [HE.out]
      exact ⟨rfl, QuP.then HK2.out (fun g hg => .inl hg) HPN.out (by omega)⟩
    | false =>
      have HE := Lib.hid (show fixL K i n = upL (downL K i n).1 i by unfold fixL; rw [if_neg (of_decide_eq_false HBB.out)])
      rw [HE.out] at HKL
      have hlen : (downL K i n).1.length = n + 1 := by rw [downL_len n _ _ _ rfl, HKN.out]
      have HUP := Lib.hid (up_any qb base _ (downL K i n).1 i w2 HQ2.out (by rw [hlen]; omega) (by rw [hlen]; omega))
      clear hlen
      go_wp2_with fail
      refine HUP.out.mono ?_
      rintro e w4 ⟨rfl, hQ4, hk4⟩
      have hs4 := hk4.size
      have HQ4 := Lib.hid hQ4
      have HK4 := Lib.hid (HK2.out.trans (own_in (qb := qb) hk4))
      clear hQ4 hk4 HUP
      have hPO := pop_pile qb base _ ((upL (downL K i n).1 i).take n) (ix (upL (downL K i n).1 i) n) w4 (by rw [← snoc_eq _ n HKL.out]; exact HQ4.out) (by simp; omega) (by omega)
      have HPO := Lib.hid hPO
      have hmp := meth_pop (some ⟨qb, 0, none⟩) w4
      clear hPO
      go_wp2_with fail
      refine HPO.out.mono ?_
      rintro e w5 ⟨rfl, hPN⟩
      have HPN := Lib.hid hPN
      clear hPN HPO hmp
      go_wp2_with fail
      go_ret
      rw [HE.out]
      exact ⟨rfl, QuP.then HK4.out (fun g hg => .inl hg) HPN.out (by omega)⟩
/-! ### A queue's own methods -/
theorem qlen_none (w : World) : Calls Try.prog 15 #[.pointer none] w fun e w' => e = .returned (.int .i64 0) ∧ w = w' := by
  go_enter Try.func15, Try.ntmps15
  go_wp2_with fail
  go_ret
  exact ⟨rfl, rfl⟩
theorem qlen_any (qb base : Nat) (v : Value) (H : List It) (w : World) (h : QuS qb base v H w) : Calls Try.prog 15 #[.pointer (some ⟨qb, 0, none⟩)] w fun e w' => e = .returned (.int .i64 (H.length : Int)) ∧ w = w' := by
  obtain ⟨A, c, rfl, -, -⟩ := h.shape
  have c0 := h.blk.cell
  have lt := h.blk.lt
  clear h
  go_enter Try.func15, Try.ntmps15
  go_wp2_with fail
  refine (len_pile _ _ _ _).mono ?_
  rintro e w1 ⟨rfl, rfl⟩
  go_wp2_with fail
  go_ret
  exact ⟨rfl, rfl⟩
theorem qpush_none (x : It) (w : World) : Calls Try.prog 10 #[.pointer none, .agg #[.int .u64 x.w, .int .i64 x.id]] w fun e w' => e = .returned (.tuple #[]) ∧ Below w.heap.size w w' := by
  go_enter Try.func10, Try.ntmps10
  go_wp2_with fail
  go_end0
  exact ⟨rfl, (Below.refl _ _).alloc (Nat.le_refl _) _⟩
set_option maxHeartbeats 2000000 in
theorem qpush_any (qb base : Nat) (v : Value) (H : List It) (x : It) (w : World) (h : QuS qb base v H w) (hl : H.length ≤ 10000) (hb : base ≤ w.heap.size) :
    Calls Try.prog 10 #[.pointer (some ⟨qb, 0, none⟩), .agg #[.int .u64 x.w, .int .i64 x.id]] w fun e w' => e = .returned (.tuple #[]) ∧ QuP qb base v (upL (H ++ [x]) H.length) w w' := by
  have HQ := Lib.hid h
  have qlt := h.blk.lt
  clear h
  go_enter Try.func10, Try.ntmps10
  go_upto_region 2 with fail
  obtain ⟨w1, hw1⟩ : ∃ w1 : World, w1 = w.alloc (.cells #[.int .u64 x.w, .int .i64 x.id] 42) := ⟨_, rfl⟩
  have HK1 := Lib.hid (show Kept (fun _ => False) w w1 by rw [hw1]; exact (Kept.refl _ _).alloc _)
  have HX1 := Lib.hid (show Blk w1 w.heap.size 42 #[.int .u64 x.w, .int .i64 x.id] by rw [hw1]; exact Blk.new _ _ _)
  rw [← hw1]
  clear hw1
  obtain ⟨xb, hxb⟩ : ∃ xb, w.heap.size = xb := ⟨_, rfl⟩
  rw [hxb] at HX1 ⊢
  clear hxb
  have hs1 := HK1.out.size
  have x0 := HX1.out.cell 0
  have x1 := HX1.out.cell 1
  simp at x0 x1
  have xlt := HX1.out.lt
  refine wp_region_kept 6 [] ?st ?ne rfl (by kernel_rfl) (by kernel_rfl) ?_
  case st => intro p hp; cases hp
  case ne => intro p hp; cases hp
  simp only [List.take_succ_cons, List.take_zero, List.drop_succ_cons, List.drop_zero]
  intro G pick hR hp1 hp2
  have p0 : ∀ u, (pick u).cell? ⟨xb, 0, none⟩ = some (.int .u64 x.w) := fun u => ((hp1 u).cell xlt (fun h => h) _).trans x0
  have p1 : ∀ u, (pick u).cell? ⟨xb, 1, none⟩ = some (.int .i64 x.id) := fun u => ((hp1 u).cell xlt (fun h => h) _).trans x1
  repeat (first | (refine wpR_det hp2 rfl ((hR.rel _).trans rfl) rfl ?_; intro K hK; go_big_quiet_op; go_big_quiet_on) | (refine wpR_ptr hp2 rfl ((hR.rel _).trans rfl) rfl rfl ?_; intro K hK; go_big_quiet_op; go_big_quiet_on) | (refine wpR_skip pick rfl ?_; intro K hK; go_big_quiet_op; go_big_quiet_on))
  refine wpR_nil ?_
  intro w2 hk2 hF hM
  have HQ2 := Lib.hid (HQ.out.on0 (HK1.out.trans hk2))
  have HK2 := Lib.hid (HK1.out.trans hk2)
  have hs2 := hk2.size
  clear hF hM hk2 hp1 hp2 hR p0 p1 x0 x1 xlt HX1 HK1
  have HPU := Lib.hid (hpush_any qb base v H x w2 HQ2.out hl (by omega))
  unfold BI at HPU
  go_wp2_with fail
  refine HPU.out.mono ?_
  rintro e w3 ⟨rfl, hP⟩
  have HP := Lib.hid hP
  clear hP HPU
  go_wp2_with fail
  go_end0
  exact ⟨rfl, QuP.then (HK2.out.mono (fun _ _ h => h.elim)) (fun g hg => .inl hg) HP.out (by omega)⟩
end Go.Proofs.Ytikakdcjbnbacaa
