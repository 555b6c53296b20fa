/- heap's up and down. -/
import Derived.Test.YtikakdcjbnbacaaC
import Derived.Deep.DeepCutAuto
namespace Go.Proofs.Ytikakdcjbnbacaa
open Go.RowKit
set_option linter.unusedVariables false
def ix (H : List It) (k : Nat) : It := H.getD k ⟨0, 0⟩
theorem ix_eq (H : List It) (k : Nat) (h : k < H.length) : ix H k = H[k] := by unfold ix; rw [List.getD_eq_getElem?_getD, List.getElem?_eq_getElem h]; rfl
/-- What 'up' makes of the items. -/
def upL (H : List It) (j : Nat) : List It :=
  if h : j = 0 then H else if ltB (ix H j) (ix H ((j - 1) / 2)) then upL (swapL H ((j - 1) / 2) j) ((j - 1) / 2) else H
termination_by j
decreasing_by omega
/-- Where 'down' ends, and what it makes of the items. -/
def kid (H : List It) (i n : Nat) : Nat := if 2 * i + 2 < n ∧ ltB (ix H (2 * i + 2)) (ix H (2 * i + 1)) = true then 2 * i + 2 else 2 * i + 1
def downL (H : List It) (i n : Nat) : List It × Nat :=
  if h : n ≤ 2 * i + 1 then (H, i) else if ltB (ix H (kid H i n)) (ix H i) then downL (swapL H i (kid H i n)) (kid H i n) n else (H, i)
termination_by n - i
decreasing_by unfold kid; split <;> omega
theorem upL_len (H : List It) (j : Nat) : (upL H j).length = H.length := by
  induction j using Nat.strongRecOn generalizing H with
  | _ j ih =>
    unfold upL
    split
    · rfl
    · split
      · rw [ih _ (by omega), swapL_len]
      · rfl
theorem downL_len (n : Nat) : ∀ (m : Nat) (H : List It) (i : Nat), n - i = m → (downL H i n).1.length = H.length := by
  intro m
  induction m using Nat.strongRecOn with
  | _ m ih =>
    intro H i hm
    unfold downL
    split
    · rfl
    · split
      · rw [ih (n - kid H i n) (by unfold kid; split <;> omega) _ _ rfl, swapL_len]
      · rfl
theorem less_n (A : Option Addr) (c : Nat) (K : List It) (n k i : Nat) (hn : K.length = n) (hk : k < n) (hi : i < n) (w : World) (hl : n ≤ 100000) (hE : ES w w.heap.size A 2 (K.map It.cs)) :
    Calls Try.prog 48 #[.slice A n c, .int .i64 (k : Int), .int .i64 (i : Int)] w fun e w' => e = .returned (.bool (ltB (ix K k) (ix K i))) ∧ Below w.heap.size w w' := by
  subst hn
  rw [ix_eq K k hk, ix_eq K i hi]
  exact less_any A c K k i hk hi w hl hE
theorem row_es {w : World} {base e sz n c : Nat} {A : Option Addr} {L : List (List Value)} (h : RowN w base e sz (.slice A n c) L) : ES w w.heap.size A sz L := by
  obtain ⟨A', c', hv, -, -, he⟩ := h.es
  injection hv with e1 e2 e3
  rw [e1]; exact he
theorem QuS.onB {qb base : Nat} {v : Value} {H : List It} {w w' : World} (h : QuS qb base v H w) (hk : Below w.heap.size w w') : QuS qb base v H w' := h.on0 (Kept.ofB hk)
theorem swap_n (qb base : Nat) (A : Option Addr) (c : Nat) (K : List It) (n i j : Nat) (hn : K.length = n) (hi : i < n) (hj : j < n) (w : World) (hl : n ≤ 100000) (h : QuS qb base (.slice A n c) K w) :
    Calls Try.prog 49 #[.slice A n c, .int .i64 (i : Int), .int .i64 (j : Int)] w fun e w' => e = .returned (.tuple #[]) ∧ QuS qb base (.slice A n c) (swapL K i j) w' ∧ Kept (fun i => (Value.slice A n c).ownBlock = some i) w w' := by
  subst hn
  obtain ⟨g, c', e, -, -, -⟩ := h.row.at (i := i) (by simpa using hi)
  injection e with e1 e2 e3
  subst e1
  refine (swap_any g c base K i j hi hj w hl h.row).mono ?_
  rintro e w' ⟨rfl, hR, hK⟩
  refine ⟨rfl, ⟨h.blk.kept hK (fun e => h.ne (by rw [e]; rfl)), hR, h.lo⟩, hK.mono (fun k _ e => by rw [e]; rfl)⟩
set_option maxHeartbeats 4000000 in
theorem up_any (qb base : Nat) (v : Value) (H : List It) (j : Nat) (w : World) (h : QuS qb base v H w) (hj : j < H.length) (hl : H.length ≤ 100000) :
    Calls Try.prog 30 #[.iface 61 (.pointer (some ⟨qb, 0, none⟩)), .int .i64 (j : Int)] w fun e w' => e = .returned (.tuple #[]) ∧ QuS qb base v (upL H j) w' ∧ Kept (fun i => v.ownBlock = some i) w w' := by
  obtain ⟨A, c, rfl, hc, hcm⟩ := h.shape
  obtain ⟨n, hn⟩ : ∃ n, H.length = n := ⟨_, rfl⟩
  have HQ := Lib.hid h
  have HN := Lib.hid hn
  rw [hn] at hj hl hc HQ ⊢
  clear h hn
  go_enter Try.func30, Try.ntmps30
  go_wp2_with fail
  go_loopw [1] (fun t wr => ∃ (k : Nat) (K : List It), k < n ∧ t = .int .i64 (k : Int) ∧ Hid (K.length = n) ∧ Hid (QuS qb base (.slice A n c) K wr) ∧ Hid (upL K k = upL H j) ∧ Hid (Kept (fun i => (Value.slice A n c).ownBlock = some i) w wr)) (fun t _ => (intOf t).toNat)
  case atStart => exact ⟨j, H, hj, rfl, HN, HQ, Lib.hid rfl, Lib.hid (Kept.refl _ _)⟩
  case round =>
    obtain ⟨k, K, hk, rfl, HKN, HQK, HUP, HKK⟩ := hrel
    have HML := Lib.hid (meth_Less HQK.out.blk)
    by_cases hk0 : k = 0
    · subst hk0
      have HE := Lib.hid (show K = upL H j by rw [← HUP.out]; unfold upL; simp)
      go_wp2_with fail
      go_end0
      rw [← HE.out]
      exact ⟨rfl, HQK.out, HKK.out⟩
    · have hk1 : (1 : Int) ≤ (k : Int) := by omega
      obtain ⟨i, hi⟩ : ∃ i, (k - 1) / 2 = i := ⟨_, rfl⟩
      have hiI : ((k : Int) - 1) / 2 = (i : Int) := by omega
      have hik : i < k := by omega
      have hne : ((i : Int) == (k : Int)) = false := by simp; omega
      have hin : i < n := by omega
      have HI := Lib.hid hi
      have hml := HML.out
      clear hi
      have HLS := Lib.hid (less_n A c K n k i HKN.out hk hin wr hl (row_es HQK.out.row))
      obtain ⟨b, hb⟩ : ∃ b, ltB (ix K k) (ix K i) = b := ⟨_, rfl⟩
      have HB := Lib.hid hb
      rw [hb] at HLS
      clear hb
      go_wp2_with fail
      refine HLS.out.mono ?_
      rintro e w1 ⟨rfl, hb1⟩
      have HQ1 := Lib.hid (HQK.out.onB hb1)
      have HK1 := Lib.hid (HKK.out.trans (Kept.ofB hb1))
      clear hml HML HLS hb1 HQK HKK
      cases b with
      | false =>
        have HE := Lib.hid (show K = upL H j by rw [← HUP.out]; unfold upL; rw [dif_neg hk0, HI.out, HB.out]; simp)
        go_wp2_with fail
        go_end0
        rw [← HE.out]
        exact ⟨rfl, HQ1.out, HK1.out⟩
      | true =>
        have HE := Lib.hid (show upL (swapL K i k) i = upL H j by rw [← HUP.out]; (conv => rhs; unfold upL); rw [dif_neg hk0, HI.out, HB.out]; simp)
        have hms := meth_Swap HQ1.out.blk
        have HSW := Lib.hid (swap_n qb base A c K n i k HKN.out hin hk w1 hl HQ1.out)
        have HKL := Lib.hid (show (swapL K i k).length = n by rw [swapL_len, HKN.out])
        go_wp2_with fail
        refine HSW.out.mono ?_
        rintro e w2 ⟨rfl, hQ2, hk2⟩
        have HQ2 := Lib.hid hQ2
        have HK2 := Lib.hid (HK1.out.trans hk2)
        clear hms HSW hQ2 hk2 HQ1 HK1
        go_wp2_with fail
        go_roundw
        case rel => exact ⟨i, swapL K i k, hin, rfl, HKL, HQ2, HE, HK2⟩
        case measure => simp [intOf]; omega
set_option maxHeartbeats 4000000 in
theorem down_any (qb base : Nat) (v : Value) (H : List It) (i m : Nat) (w : World) (h : QuS qb base v H w) (hi : i < H.length) (hm : m ≤ H.length) (hl : H.length ≤ 100000) :
    Calls Try.prog 31 #[.iface 61 (.pointer (some ⟨qb, 0, none⟩)), .int .i64 (i : Int), .int .i64 (m : Int)] w fun e w' => e = .returned (.bool (decide (i < (downL H i m).2))) ∧ QuS qb base v (downL H i m).1 w' ∧ Kept (fun i => v.ownBlock = some i) w w' := by
  obtain ⟨A, c, rfl, hc, hcm⟩ := h.shape
  obtain ⟨n, hn⟩ : ∃ n, H.length = n := ⟨_, rfl⟩
  have HQ := Lib.hid h
  have HN := Lib.hid hn
  rw [hn] at hi hm hl hc HQ ⊢
  clear h hn
  go_enter Try.func31, Try.ntmps31
  go_wp2_with fail
  go_loopw [7] (fun t wr => ∃ (k : Nat) (K : List It), k < n ∧ t = .int .i64 (k : Int) ∧ Hid (K.length = n) ∧ Hid (QuS qb base (.slice A n c) K wr) ∧ Hid (downL K k m = downL H i m) ∧ Hid (Kept (fun i => (Value.slice A n c).ownBlock = some i) w wr)) (fun t _ => n - (intOf t).toNat)
  case atStart => exact ⟨i, H, hi, rfl, HN, HQ, Lib.hid rfl, Lib.hid (Kept.refl _ _)⟩
  case round =>
    obtain ⟨k, K, hk, rfl, HKN, HQK, HDN, HKK⟩ := hrel
    obtain ⟨j1, hj1⟩ : ∃ j1, 2 * k + 1 = j1 := ⟨_, rfl⟩
    have h1 : 2 * (k : Int) + 1 = (j1 : Int) := by omega
    have HJ1 := Lib.hid hj1
    have hkj : k < j1 := by omega
    clear hj1
    by_cases hout : m ≤ j1
    · have HE := Lib.hid (show (K, k) = downL H i m by rw [← HDN.out]; unfold downL; rw [dif_pos (by rw [HJ1.out]; exact hout)])
      have houtI : (m : Int) ≤ (j1 : Int) := by omega
      go_wp2_with fail
      go_ret
      rw [← HE.out]
      exact ⟨rfl, HQK.out, HKK.out⟩
    · have houtI : ¬ (m : Int) ≤ (j1 : Int) := by omega
      have hj0 : ¬ (j1 : Int) < 0 := by omega
      have hj1m : j1 < m := by omega
      obtain ⟨j2, hj2⟩ : ∃ j2, j1 + 1 = j2 := ⟨_, rfl⟩
      have h2 : (j1 : Int) + 1 = (j2 : Int) := by omega
      have HJ2 := Lib.hid (show 2 * k + 2 = j2 by have := HJ1.out; omega)
      clear hj2
      by_cases hjm : j2 < m
      · have hjmI : (j2 : Int) < (m : Int) := by omega
        have hml := meth_Less HQK.out.blk
        have HLS := Lib.hid (less_n A c K n j2 j1 HKN.out (by omega) (by omega) wr hl (row_es HQK.out.row))
        obtain ⟨b, hb⟩ : ∃ b, ltB (ix K j2) (ix K j1) = b := ⟨_, rfl⟩
        have HB := Lib.hid hb
        rw [hb] at HLS
        clear hb
        go_wp2_with fail
        refine HLS.out.mono ?_
        rintro e w1 ⟨rfl, hb1⟩
        have HQ1 := Lib.hid (HQK.out.onB hb1)
        have HK1 := Lib.hid (HKK.out.trans (Kept.ofB hb1))
        clear hml HLS hb1 HQK HKK
        cases b with
        | false =>
          have HKD := Lib.hid (show kid K k m = j1 by unfold kid; rw [HJ2.out, HJ1.out, HB.out, if_neg (by simp)])
          have hml2 := meth_Less HQ1.out.blk
          have HLS2 := Lib.hid (less_n A c K n j1 k HKN.out (by omega) hk w1 hl (row_es HQ1.out.row))
          obtain ⟨b2, hb2⟩ : ∃ b2, ltB (ix K j1) (ix K k) = b2 := ⟨_, rfl⟩
          have HB2 := Lib.hid hb2
          rw [hb2] at HLS2
          clear hb2
          go_wp2_with fail
          refine HLS2.out.mono ?_
          rintro e w3 ⟨rfl, hb3⟩
          have HQ3 := Lib.hid (HQ1.out.onB hb3)
          have HK3 := Lib.hid (HK1.out.trans (Kept.ofB hb3))
          clear hml2 HLS2 hb3 HQ1 HK1
          cases b2 with
          | false =>
            have HE := Lib.hid (show (K, k) = downL H i m by rw [← HDN.out]; unfold downL; rw [dif_neg (by rw [HJ1.out]; exact hout), HKD.out, HB2.out]; simp)
            go_wp2_with fail
            go_ret
            rw [← HE.out]
            exact ⟨rfl, HQ3.out, HK3.out⟩
          | true =>
            have HE := Lib.hid (show downL (swapL K k j1) j1 m = downL H i m by rw [← HDN.out]; (conv => rhs; unfold downL); rw [dif_neg (by rw [HJ1.out]; exact hout), HKD.out, HB2.out]; simp)
            have hms := meth_Swap HQ3.out.blk
            have HSW := Lib.hid (swap_n qb base A c K n k j1 HKN.out hk (by omega) w3 hl HQ3.out)
            have HKL := Lib.hid (show (swapL K k j1).length = n by rw [swapL_len, HKN.out])
            go_wp2_with fail
            refine HSW.out.mono ?_
            rintro e w4 ⟨rfl, hQ4, hk4⟩
            have HQ4 := Lib.hid hQ4
            have HK4 := Lib.hid (HK3.out.trans hk4)
            clear hms HSW hQ4 hk4 HQ3 HK3
            go_wp2_with fail
            go_roundw
            case rel => exact ⟨j1, swapL K k j1, by omega, rfl, HKL, HQ4, HE, HK4⟩
            case measure => simp [intOf]; omega
        | true =>
          have HKD := Lib.hid (show kid K k m = j2 by unfold kid; rw [HJ2.out, HJ1.out, HB.out, if_pos ⟨hjm, rfl⟩])
          have hml2 := meth_Less HQ1.out.blk
          have HLS2 := Lib.hid (less_n A c K n j2 k HKN.out (by omega) hk w1 hl (row_es HQ1.out.row))
          obtain ⟨b2, hb2⟩ : ∃ b2, ltB (ix K j2) (ix K k) = b2 := ⟨_, rfl⟩
          have HB2 := Lib.hid hb2
          rw [hb2] at HLS2
          clear hb2
          go_wp2_with fail
          refine HLS2.out.mono ?_
          rintro e w3 ⟨rfl, hb3⟩
          have HQ3 := Lib.hid (HQ1.out.onB hb3)
          have HK3 := Lib.hid (HK1.out.trans (Kept.ofB hb3))
          clear hml2 HLS2 hb3 HQ1 HK1
          cases b2 with
          | false =>
            have HE := Lib.hid (show (K, k) = downL H i m by rw [← HDN.out]; unfold downL; rw [dif_neg (by rw [HJ1.out]; exact hout), HKD.out, HB2.out]; simp)
            go_wp2_with fail
            go_ret
            rw [← HE.out]
            exact ⟨rfl, HQ3.out, HK3.out⟩
          | true =>
            have HE := Lib.hid (show downL (swapL K k j2) j2 m = downL H i m by rw [← HDN.out]; (conv => rhs; unfold downL); rw [dif_neg (by rw [HJ1.out]; exact hout), HKD.out, HB2.out]; simp)
            have hms := meth_Swap HQ3.out.blk
            have HSW := Lib.hid (swap_n qb base A c K n k j2 HKN.out hk (by omega) w3 hl HQ3.out)
            have HKL := Lib.hid (show (swapL K k j2).length = n by rw [swapL_len, HKN.out])
            go_wp2_with fail
            refine HSW.out.mono ?_
            rintro e w4 ⟨rfl, hQ4, hk4⟩
            have HQ4 := Lib.hid hQ4
            have HK4 := Lib.hid (HK3.out.trans hk4)
            clear hms HSW hQ4 hk4 HQ3 HK3
            go_wp2_with fail
            go_roundw
            case rel => exact ⟨j2, swapL K k j2, by omega, rfl, HKL, HQ4, HE, HK4⟩
            case measure => simp [intOf]; omega
      · have hjmI : ¬ (j2 : Int) < (m : Int) := by omega
        have HKD := Lib.hid (show kid K k m = j1 by unfold kid; rw [HJ2.out, HJ1.out, if_neg (fun e => hjm e.1)])
        have hml2 := meth_Less HQK.out.blk
        have HLS2 := Lib.hid (less_n A c K n j1 k HKN.out (by omega) hk wr hl (row_es HQK.out.row))
        obtain ⟨b2, hb2⟩ : ∃ b2, ltB (ix K j1) (ix K k) = b2 := ⟨_, rfl⟩
        have HB2 := Lib.hid hb2
        rw [hb2] at HLS2
        clear hb2
        go_wp2_with fail
        refine HLS2.out.mono ?_
        rintro e w3 ⟨rfl, hb3⟩
        have HQ3 := Lib.hid (HQK.out.onB hb3)
        have HK3 := Lib.hid (HKK.out.trans (Kept.ofB hb3))
        clear hml2 HLS2 hb3 HQK HKK
        cases b2 with
        | false =>
          have HE := Lib.hid (show (K, k) = downL H i m by rw [← HDN.out]; unfold downL; rw [dif_neg (by rw [HJ1.out]; exact hout), HKD.out, HB2.out]; simp)
          go_wp2_with fail
          go_ret
          rw [← HE.out]
          exact ⟨rfl, HQ3.out, HK3.out⟩
        | true =>
          have HE := Lib.hid (show downL (swapL K k j1) j1 m = downL H i m by rw [← HDN.out]; (conv => rhs; unfold downL); rw [dif_neg (by rw [HJ1.out]; exact hout), HKD.out, HB2.out]; simp)
          have hms := meth_Swap HQ3.out.blk
          have HSW := Lib.hid (swap_n qb base A c K n k j1 HKN.out hk (by omega) w3 hl HQ3.out)
          have HKL := Lib.hid (show (swapL K k j1).length = n by rw [swapL_len, HKN.out])
          go_wp2_with fail
          refine HSW.out.mono ?_
          rintro e w4 ⟨rfl, hQ4, hk4⟩
          have HQ4 := Lib.hid hQ4
          have HK4 := Lib.hid (HK3.out.trans hk4)
          clear hms HSW hQ4 hk4 HQ3 HK3
          go_wp2_with fail
          go_roundw
          case rel => exact ⟨j1, swapL K k j1, by omega, rfl, HKL, HQ4, HE, HK4⟩
          case measure => simp [intOf]; omega
end Go.Proofs.Ytikakdcjbnbacaa
