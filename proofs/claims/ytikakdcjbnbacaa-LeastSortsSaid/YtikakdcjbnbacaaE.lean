/- heap's Push, Pop, Fix, Remove at a pile. -/
import Derived.Test.YtikakdcjbnbacaaD
namespace Go.Proofs.Ytikakdcjbnbacaa
open Go.RowKit
set_option linter.unusedVariables false
theorem QuP.refl {qb base : Nat} {v : Value} {H : List It} {w : World} (h : QuS qb base v H w) : QuP qb base v H w w := ⟨v, h, Kept.refl _ _, fun g hg => .inl hg⟩
theorem QuP.onB {qb base : Nat} {v : Value} {H : List It} {w w1 w2 : World} (h : QuP qb base v H w w1) (hb : Below w1.heap.size w1 w2) : QuP qb base v H w w2 := by
  obtain ⟨v', h1, h2, h3⟩ := h
  exact ⟨v', h1.onB hb, h2.trans (Kept.ofB hb), h3⟩
/-- A call in place, behind another. -/
theorem QuP.in_ {qb base : Nat} {v v' : Value} {H' : List It} {w w1 w2 : World} (hk : Kept (QOwn qb v) w w1) (hf : ∀ g, v'.ownBlock = some g → v.ownBlock = some g ∨ w.heap.size ≤ g)
    (h2 : QuS qb base v' H' w2) (hk2 : Kept (fun i => v'.ownBlock = some i) w1 w2) : QuP qb base v H' w w2 :=
  ⟨v', h2, hk.then hk2 (fun i hi hv => by rcases hf i hv with h | h; exact .inr h; omega), hf⟩
theorem QuP.then {qb base : Nat} {v v' : Value} {H' : List It} {w w1 w2 : World} (hk : Kept (QOwn qb v) w w1) (hf : ∀ g, v'.ownBlock = some g → v.ownBlock = some g ∨ w.heap.size ≤ g)
    (h2 : QuP qb base v' H' w1 w2) (hs : w.heap.size ≤ w1.heap.size) : QuP qb base v H' w w2 := by
  obtain ⟨v2, h3, h4, h5⟩ := h2
  refine ⟨v2, h3, hk.then h4 (fun i hi hv => ?_), fun g hg => ?_⟩
  · rcases hv with hv | hv
    · exact .inl hv
    · rcases hf i hv with h | h
      · exact .inr h
      · omega
  · rcases h5 g hg with h | h
    · exact hf g h
    · exact .inr (by omega)
theorem own_in {qb : Nat} {v : Value} {w w' : World} (h : Kept (fun i => v.ownBlock = some i) w w') : Kept (QOwn qb v) w w' := h.mono (fun _ _ h => .inr h)
def BI (x : It) : Value := .iface 42 (.agg #[.int .u64 x.w, .int .i64 x.id])
set_option maxHeartbeats 2000000 in
theorem hpush_any (qb base : Nat) (v : Value) (H : List It) (x : It) (w : World) (h : QuS qb base v H w) (hl : H.length ≤ 10000) (hb : base ≤ w.heap.size) :
    Calls Try.prog 22 #[.iface 61 (.pointer (some ⟨qb, 0, none⟩)), BI x] w fun e w' => e = .returned (.tuple #[]) ∧ QuP qb base v (upL (H ++ [x]) H.length) w w' := by
  have HPU := Lib.hid (push_pile qb base v H x w h (by omega) hb)
  have hmp := meth_push (some ⟨qb, 0, none⟩) w
  unfold BI
  clear h
  go_enter Try.func22, Try.ntmps22
  go_wp2_with fail
  refine HPU.out.mono ?_
  rintro e w1 ⟨rfl, v1, hQ1, hk1, hf1⟩
  obtain ⟨A, c, rfl, -, -⟩ := hQ1.shape
  have hml := meth_Len hQ1.blk
  have HUP := Lib.hid (up_any qb base _ (H ++ [x]) H.length w1 hQ1 (by simp) (by simp; omega))
  have HK1 := Lib.hid hk1
  have HF1 := Lib.hid hf1
  rw [show (H ++ [x]).length = H.length + 1 by simp] at hml HF1 HUP
  have hwr : IntKind.i64.wrap (((H.length + 1 : Nat) : Int) - 1) = (H.length : Int) := by rw [IntWalk.i64_in _ (by omega)]; omega
  have hsub : ((H.length + 1 : Nat) : Int) - 1 = (H.length : Int) := by omega
  clear hQ1 hk1 hf1 hmp HPU
  go_wp2_with fail
  refine (len_pile _ _ _ _).mono ?_
  rintro e w2 ⟨rfl, rfl⟩
  clear hml
  go_wp2_with fail
  refine HUP.out.mono ?_
  rintro e w2 ⟨rfl, hQ2, hk2⟩
  have HQ2 := Lib.hid hQ2
  have HK2 := Lib.hid hk2
  clear hQ2 hk2 HUP
  go_wp2_with fail
  go_end0
  exact ⟨rfl, QuP.in_ HK1.out HF1.out HQ2.out HK2.out⟩
theorem snoc_eq (K : List It) (n : Nat) (h : K.length = n + 1) : K = K.take n ++ [ix K n] := by
  rw [ix_eq K n (by omega), ← List.take_succ_eq_append_getElem (by omega), List.take_of_length_le (by omega)]
def popK (H : List It) (n : Nat) : List It := (downL (swapL H 0 n) 0 n).1
theorem popK_len (H : List It) (n : Nat) : (popK H n).length = H.length := by unfold popK; rw [downL_len n _ _ _ rfl, swapL_len]
set_option maxHeartbeats 4000000 in
theorem hpop_any (qb base : Nat) (v : Value) (H : List It) (n : Nat) (w : World) (h : QuS qb base v H w) (hn : H.length = n + 1) (hl : H.length ≤ 10000) (hb : base ≤ w.heap.size) :
    Calls Try.prog 25 #[.iface 61 (.pointer (some ⟨qb, 0, none⟩))] w fun e w' => e = .returned (BI (ix (popK H n) n)) ∧ QuP qb base v ((popK H n).take n) w w' := by
  obtain ⟨A, c, rfl, -, -⟩ := h.shape
  have hml := meth_Len h.blk
  have hms := meth_Swap h.blk
  have HSW := Lib.hid (swap_n qb base A c H (n + 1) 0 n hn (by omega) (by omega) w (by omega) (by rw [hn] at h; exact h))
  have HLN := Lib.hid hn
  rw [hn] at hl hml hms ⊢
  have hsub : ((n + 1 : Nat) : Int) - 1 = (n : Int) := by omega
  have hn1 : (n : Int) + 1 - 1 = (n : Int) := by omega
  clear h hn
  go_enter Try.func25, Try.ntmps25
  go_wp2_with fail
  refine (len_pile _ _ _ _).mono ?_
  rintro e wa ⟨rfl, rfl⟩
  clear hml
  go_wp2_with fail
  refine HSW.out.mono ?_
  rintro e w1 ⟨rfl, hQ1, hk1⟩
  have hs1 := hk1.size
  have HK1 := Lib.hid (own_in (qb := qb) hk1)
  have hdn := down_any qb base _ (swapL H 0 n) 0 n w1 hQ1 (by rw [swapL_len, HLN.out]; omega) (by rw [swapL_len, HLN.out]; omega) (by rw [swapL_len, HLN.out]; omega)
  have HDN := Lib.hid hdn
  clear hdn hQ1 hk1 HSW hms
  go_wp2_with fail
  refine HDN.out.mono ?_
  rintro e w2 ⟨rfl, hQ2, hk2⟩
  have hs2 := hk2.size
  have HK2 := Lib.hid (HK1.out.trans (own_in (qb := qb) hk2))
  have hQ2' : QuS qb base (.slice A (n + 1) c) (popK H n) w2 := hQ2
  have hPO := pop_pile qb base _ ((popK H n).take n) (ix (popK H n) n) w2 (by rw [← snoc_eq _ n (by rw [popK_len, HLN.out])]; exact hQ2') (by simp; omega) (by omega)
  have HPO := Lib.hid hPO
  have hmp := meth_pop (some ⟨qb, 0, none⟩) w2
  clear hQ2 hQ2' hk2 HDN HK1 hPO
  go_wp2_with fail
  refine HPO.out.mono ?_
  rintro e w3 ⟨rfl, hP3⟩
  have HP3 := Lib.hid hP3
  clear hP3 HPO hmp
  go_wp2_with fail
  go_ret
  exact ⟨rfl, QuP.then HK2.out (fun g hg => .inl hg) HP3.out (by omega)⟩
def fixL (H : List It) (i m : Nat) : List It := if i < (downL H i m).2 then (downL H i m).1 else upL (downL H i m).1 i
theorem fixL_len (H : List It) (i m : Nat) : (fixL H i m).length = H.length := by
  unfold fixL; split
  · rw [downL_len m _ _ _ rfl]
  · rw [upL_len, downL_len m _ _ _ rfl]
set_option maxHeartbeats 4000000 in
theorem hfix_any (qb base : Nat) (v : Value) (H : List It) (i : Nat) (w : World) (h : QuS qb base v H w) (hi : i < H.length) (hl : H.length ≤ 10000) :
    Calls Try.prog 28 #[.iface 61 (.pointer (some ⟨qb, 0, none⟩)), .int .i64 (i : Int)] w fun e w' => e = .returned (.tuple #[]) ∧ QuS qb base v (fixL H i H.length) w' ∧ Kept (fun i => v.ownBlock = some i) w w' := by
  obtain ⟨A, c, rfl, -, -⟩ := h.shape
  have hml := meth_Len h.blk
  have HDN := Lib.hid (down_any qb base _ H i H.length w h hi (Nat.le_refl _) (by omega))
  obtain ⟨n, hn⟩ : ∃ n, H.length = n := ⟨_, rfl⟩
  have HLN := Lib.hid hn
  rw [hn] at HDN hml hi hl ⊢
  obtain ⟨b, hb⟩ : ∃ b, decide (i < (downL H i n).2) = b := ⟨_, rfl⟩
  have HB := Lib.hid hb
  rw [hb] at HDN
  clear h hn hb
  go_enter Try.func28, Try.ntmps28
  go_wp2_with fail
  refine (len_pile _ _ _ _).mono ?_
  rintro e wa ⟨rfl, rfl⟩
  clear hml
  go_wp2_with fail
  refine HDN.out.mono ?_
  rintro e w1 ⟨rfl, hQ1, hk1⟩
  have HK1 := Lib.hid hk1
  have HQ1 := Lib.hid hQ1
  clear hk1 hQ1 HDN
  cases b with
  | true =>
    have HE := Lib.hid (show fixL H i n = (downL H i n).1 by unfold fixL; rw [if_pos (of_decide_eq_true HB.out)])
    go_wp2_with fail
    go_end0
    rw [HE.out]
    exact ⟨rfl, HQ1.out, HK1.out⟩
  | false =>
    have HE := Lib.hid (show fixL H i n = upL (downL H i n).1 i by unfold fixL; rw [if_neg (of_decide_eq_false HB.out)])
    have hlen : (downL H i n).1.length = n := by rw [downL_len n _ _ _ rfl, HLN.out]
    have HUP := Lib.hid (up_any qb base _ (downL H i n).1 i w1 HQ1.out (by rw [hlen]; exact hi) (by rw [hlen]; omega))
    clear hlen
    go_wp2_with fail
    refine HUP.out.mono ?_
    rintro e w2 ⟨rfl, hQ2, hk2⟩
    have HQ2 := Lib.hid hQ2
    have HK2 := Lib.hid (HK1.out.trans hk2)
    clear hQ2 hk2 HUP
    go_wp2_with fail
    go_end0
    rw [HE.out]
    exact ⟨rfl, HQ2.out, HK2.out⟩
end Go.Proofs.Ytikakdcjbnbacaa
