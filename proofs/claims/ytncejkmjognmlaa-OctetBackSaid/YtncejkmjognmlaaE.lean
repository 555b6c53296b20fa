/- The law OctetBack, walked. -/
import Derived.Test.YtncejkmjognmlaaD
import Derived.Test.YtncejkmjognmlaaNums
import Derived.Deep.LoopGhost
namespace Go.Proofs.Ytncejkmjognmlaa
open Go.RowKit
set_option linter.unusedVariables false

/-- A slice of bytes that does not lie in block rb. -/
def BytN (w : World) (rb : Nat) (v : Value) (l : List UInt8) : Prop := ∃ A c, v = .slice A l.length c ∧ BS w w.heap.size A l ∧ (l = [] ∨ ∀ a, A = some a → a.block ≠ rb)
theorem BytN.on {w w' : World} {rb : Nat} {v : Value} {l : List UInt8} (h : BytN w rb v l) (hk : Kept (· = rb) w w') : BytN w' rb v l := by
  obtain ⟨A, c, rfl, h1, h2⟩ := h
  exact ⟨A, c, rfl, h1.turn hk h2, h2⟩
theorem refBytes_n (k rb : Nat) (M sz : Int) (w : World) (m0 : 0 ≤ M) (m1 : M < 18446744073709551616) (hk : (k : Int) = max 0 (min sz 8)) (hrb : rb < w.heap.size) :
    Calls Try.prog 8 #[.int .u64 M, .int .i64 sz] w fun e w' => ∃ v, e = .returned v ∧ BytN w' rb v (digs k M) ∧ Below w.heap.size w w' :=
  (refBytes_any k M sz w m0 m1 hk).mono fun e w' ⟨he, hO, hb⟩ => by
    refine ⟨_, he, ⟨some ⟨w.heap.size, 0, none⟩, k, by rw [digs_length], hO.bs, .inr fun a e => ?_⟩, hb⟩
    cases e; simp; omega
def ksOf (zs : List UInt8) (i : Nat) : Nat := (zs.getD i 0).toNat % 9
def msOf (l : List Int) (i : Nat) : Int := l.getD i 0
theorem ksOf_le (zs : List UInt8) (i : Nat) : ksOf zs i ≤ 8 := by unfold ksOf; omega
theorem ksOf_at (zs : List UInt8) (i : Nat) (h : i < zs.length) : ksOf zs i = zs[i].toNat % 9 := by unfold ksOf; simp [List.getD_eq_getElem?_getD, h]
theorem msOf_at (l : List Int) (i : Nat) (h : i < l.length) : msOf l i = l[i] := by unfold msOf; simp [List.getD_eq_getElem?_getD, h]

/-- Where the first loop ends. -/
def Ends (k a b : Nat) : Prop := (¬ k < a ∧ k ≤ b) ∨ (k < a ∧ ¬ k < b) ∨ (k < a ∧ k < b ∧ ¬ k < 50)

set_option maxRecDepth 100000 in
set_option maxHeartbeats 8000000 in
theorem back_any (A C : Option Addr) (c d : Nat) (l : List Int) (zs : List UInt8) (w : World) (hl : l.length ≤ 9223372036854775807) (hz : zs.length ≤ 9223372036854775807) (hA : NS w w.heap.size A .u64 l) (hC : BS w w.heap.size C zs) (hr : ∀ z ∈ l, 0 ≤ z ∧ z < 18446744073709551616) :
    Calls Try.prog 4 #[.slice A l.length c, .slice C zs.length d] w fun e w' => e = .returned (.bool true) ∧ Below w.heap.size w w' := by
  have HA := Lib.hid hA
  have HC := Lib.hid hC
  have HR := Lib.hid hr
  obtain ⟨ks, hks⟩ : ∃ ks, ks = ksOf zs := ⟨_, rfl⟩
  obtain ⟨Ms, hMs⟩ : ∃ Ms, Ms = msOf l := ⟨_, rfl⟩
  have HKS := Lib.hid hks
  have HMS := Lib.hid hMs
  have HK8 := Lib.hid (show ∀ i, ks i ≤ 8 from fun i => by rw [hks]; exact ksOf_le zs i)
  clear hA hC hr hks hMs
  go_enter Try.func4, Try.ntmps4
  go_wp2_with fail
  go_loopg [5, 6] 50 (fun g b i wr => ∃ k : Nat, k + g = 50 ∧ k ≤ l.length ∧ k ≤ zs.length ∧ i = .int .i64 (k : Int) ∧ Byt wr b (cat ks Ms k) ∧ Below w.heap.size w wr)
  case atStart => exact ⟨0, by omega, by omega, by omega, rfl, Byt.nil _, Below.refl _ _⟩
  case round =>
    obtain ⟨k, hgk, hkl, hkz, rfl, hby, hbw⟩ := hrel
    obtain ⟨bA, bc, rfl, hbl, hbm, hbs⟩ := hby
    have HGK := Lib.hid hgk
    have hk50 : k ≤ 50 := by omega
    have hsw := hbw.size
    have hcl := cat_length ks Ms HK8.out k
    have HBS := Lib.hid hbs
    have HBW := Lib.hid hbw
    clear hgk hbs hbw
    by_cases hlt : k < l.length ∧ k < zs.length ∧ k < 50
    · obtain ⟨h1, h2, h3⟩ := hlt
      obtain ⟨b, o, hb, rfl, hca⟩ := (HA.out.below HBW.out).at h1
      have c1 := hca k h1
      obtain ⟨b', o', hb', rfl, hcb⟩ := (HC.out.below HBW.out).at h2
      have c2 := hcb k h2
      have hMk := msOf_at l k h1
      rw [← HMS.out] at hMk
      have hKk := ksOf_at zs k h2
      rw [← HKS.out] at hKk
      have hr := HR.out l[k] (List.getElem_mem h1)
      rw [← hMk] at hr c1
      have HKK := Lib.hid hKk
      generalize zs[k] = x at c2 HKK
      have x0 := byte_le x
      have x1 : (0 : Int) ≤ (x.toNat : Int) := by omega
      have kI1 : (k : Int) < (l.length : Int) := by omega
      have kI2 : (k : Int) < (zs.length : Int) := by omega
      have kI0 : (0 : Int) ≤ (k : Int) := by omega
      have hbw' : b < wr.heap.size := by omega
      have hbw'' : b' < wr.heap.size := by omega
      obtain ⟨r0, r1⟩ := hr
      clear hca hcb hMk hKk
      go_wp2_with fail
      refine wp_region_kept 13 [(11, fun v u => Byt u v (cat ks Ms (k + 1)))] ?st ?ne rfl (by kernel_rfl) (by kernel_rfl) ?_
      case st =>
        intro p hp
        simp only [List.mem_cons, List.not_mem_nil, or_false] at hp
        subst hp
        · intro v u u' h hk; exact h.on0 hk
      case ne =>
        intro p hp
        simp only [List.mem_cons, List.not_mem_nil, or_false] at hp
        subst hp
        · exact Byt.some _ _ (by have := cat_length ks Ms HK8.out (k + 1); unfold maxLen; omega)
      simp only [List.take_succ_cons, List.take_zero, List.drop_succ_cons, List.drop_zero]
      intro G pick hR hp1 hp2
      have pc1 : ∀ u, (pick u).cell? ⟨b, o + k, none⟩ = some (.int .u64 (Ms k)) := fun u => ((hp1 u).cell hbw' (fun h => h) _).trans c1
      have pc2 : ∀ u, (pick u).cell? ⟨b', o' + k, none⟩ = some (.int .u8 (x.toNat : Int)) := fun u => ((hp1 u).cell hbw'' (fun h => h) _).trans c2
      repeat (first | (refine wpR_det hp2 rfl ((hR.rel _).trans rfl) rfl ?_; intro K hK; go_big_quiet_op; go_big_quiet_on) | (refine wpR_skip pick rfl ?_; intro K hK; go_big_quiet_op; go_big_quiet_on))
      refine wpR_rel pick rfl ((hR.rel _).trans rfl) ((hR.turns _).trans rfl) ?_ ?_
      · intro u hu
        have hk := hR.since hu.1
        have hks := hk.size
        have hB2 := HBS.out.on hk (fun _ _ h => h)
        unfold relAt
        go_simp
        refine (put_any bA bc (ks k) (cat ks Ms k) (Ms k) ((x.toNat : Int) % 9) u (by omega) hB2 r0 r1 (by rw [HKK.out]; omega)).mono ?_
        rintro e w' ⟨rfl, hO, hb⟩
        have hy := hO.byt
        rw [List.length_append, digs_length] at hy
        exact ⟨_, rfl, hR.intoB hb, hR.put 0 rfl rfl hy⟩
      intro v hv
      obtain ⟨u, _, hu⟩ := hv
      obtain ⟨A3, c3, rfl, -, -, -⟩ := hR.get 0 rfl hu
      clear hu
      intro K hK
      go_big_quiet_op
      go_big_quiet_on
      repeat (first | (refine wpR_det hp2 rfl ((hR.rel _).trans rfl) rfl ?_; intro K hK; go_big_quiet_op; go_big_quiet_on) | (refine wpR_skip pick rfl ?_; intro K hK; go_big_quiet_op; go_big_quiet_on))
      refine wpR_nil ?_
      intro w2 hk2 hF hM
      have HY := Lib.hid (hR.get 0 rfl (hF _ _ (Got.upd_self _ _ _)))
      have HB2 := Lib.hid (HBW.out.trans (hk2.below hsw (fun _ h => h.elim)))
      clear hF hk2 hM pc1 pc2 hp1 hp2 hR
      go_wp2_with fail
      go_roundg (gk - 1)
      case measure => have := HGK.out; omega
      case rel => exact ⟨k + 1, by have := HGK.out; omega, by omega, by omega, by go_num, HY.out, HB2.out⟩
    · have hends : Ends k l.length zs.length := by unfold Ends; omega
      have HE := Lib.hid hends
      obtain ⟨n, hn⟩ : ∃ n, n = k := ⟨_, rfl⟩
      have n1 : n ≤ l.length := by omega
      have n2 : n ≤ zs.length := by omega
      have n3 : n ≤ 50 := by omega
      clear hlt
      rcases hends with ⟨e1, -⟩ | ⟨e1, e2⟩ | ⟨e1, e2, e3⟩
      all_goals
        subst hn
        go_wp2_with fail
        refine (read_any bA bc (cat ks Ms n) wr (by omega) HBS.out).mono ?_
        rintro e w1 ⟨rb, rfl, hrb, hRd, hb1⟩
        have hs1 := hb1.size
        have HRD := Lib.hid hRd
        have HB1 := Lib.hid (HBW.out.trans (hb1.mono hsw))
        clear hRd hb1
        go_wp2_with fail
        go_loopg [8] (n + 1) (fun g i wx => ∃ k : Nat, k + g = n + 1 ∧ k ≤ n ∧ i = .int .i64 (k : Int) ∧ Rd wx rb (rest ks Ms n k) ∧ Kept (fun i => w.heap.size ≤ i) w wx)
        case atStart => exact ⟨0, by omega, by omega, rfl, by rw [rest_zero]; exact HRD.out, Kept.of_below HB1.out (fun i _ h => h)⟩
        case round =>
          obtain ⟨k, hgk, hkn, rfl, hRd, hKw⟩ := hrel
          have HGK := Lib.hid hgk
          have HRD := Lib.hid hRd
          have HKW := Lib.hid hKw
          have hrbl := hRd.lt
          have hswx := hKw.size
          have hlr := rest_le ks Ms n k HK8.out
          clear hgk hRd hKw
          by_cases hlt : k < n
          · have h1 : k < l.length := by omega
            have h2 : k < zs.length := by omega
            obtain ⟨b, o, hb, rfl, hca⟩ := (HA.out.kept HKW.out (Nat.le_refl _) (fun i hi h => by omega)).at h1
            have c1 := hca k h1
            obtain ⟨b', o', hb', rfl, hcb⟩ := (HC.out.kept HKW.out (Nat.le_refl _) (fun i hi h => by omega)).at h2
            have c2 := hcb k h2
            have hMk := msOf_at l k h1
            rw [← HMS.out] at hMk
            have hKk := ksOf_at zs k h2
            rw [← HKS.out] at hKk
            have hr := HR.out l[k] (List.getElem_mem h1)
            rw [← hMk] at hr c1
            have HKK := Lib.hid hKk
            generalize zs[k] = x at c2 HKK
            have x0 := byte_le x
            have x1 : (0 : Int) ≤ (x.toNat : Int) := by omega
            have kI1 : (k : Int) < (l.length : Int) := by omega
            have kI2 : (k : Int) < (zs.length : Int) := by omega
            have kI0 : (0 : Int) ≤ (k : Int) := by omega
            have hbw' : b < wr.heap.size := by omega
            have hbw'' : b' < wr.heap.size := by omega
            have hne1 : b ≠ rb := by omega
            have hne2 : b' ≠ rb := by omega
            obtain ⟨r0, r1⟩ := hr
            have HST := Lib.hid (rest_step ks Ms n k hlt)
            have HDL := Lib.hid (digs_length (ks k) (Ms k))
            have hk8 := HK8.out k
            have HNUM := Lib.hid (show ∀ u, Rd u rb (rest ks Ms n k) → Calls Try.prog 13 #[.pointer (some ⟨rb, 0, none⟩), .int .i64 ((x.toNat : Int) % 9)] u fun e w' => e = .returned (.int .u64 (num (digs (ks k) (Ms k)))) ∧ Rd w' rb (rest ks Ms n (k + 1)) ∧ Kept (· = rb) u w' from fun u hu => by
              have hz := num_any rb (ks k) (rest ks Ms n k) u (by omega) (by rw [HST.out, List.length_append, HDL.out]; omega) hk8 hu
              have e1 : (rest ks Ms n k).take (ks k) = digs (ks k) (Ms k) := by rw [HST.out, List.take_left' HDL.out]
              have e2 : (rest ks Ms n k).drop (ks k) = rest ks Ms n (k + 1) := by rw [HST.out, List.drop_left' HDL.out]
              have e3 : ((ks k : Nat) : Int) = (x.toNat : Int) % 9 := by rw [HKK.out]; omega
              rw [e1, e2, e3] at hz
              exact hz)
            clear hca hcb hMk hKk
            go_wp2_with fail
            refine wp_region_turn 21 (· = rb) [7] [(7, fun v u => v = .int .u64 (num (digs (ks k) (Ms k))) ∧ Rd u rb (rest ks Ms n (k + 1))), (18, fun v u => BytN u rb v (digs (ks k) (Ms k))), (19, fun v _ => v = .int .u64 (num (digs (ks k) (Ms k))))] ?st ?ne rfl (by kernel_rfl) (by kernel_rfl) (by kernel_rfl) ?_
            case st =>
              intro p hp
              simp only [List.mem_cons, List.not_mem_nil, or_false] at hp
              rcases hp with rfl | rfl | rfl
              · intro v u u' h hk; exact ⟨h.1, h.2.on0 hk⟩
              · intro v u u' h hk; exact h.on hk
              · intro v u u' h hk; exact h
            case ne =>
              intro p hp
              simp only [List.mem_cons, List.not_mem_nil, or_false] at hp
              rcases hp with rfl | rfl | rfl
              · obtain ⟨e, u, rfl, hR1, hK1⟩ := calls_some (HNUM.out wr HRD.out); exact ⟨_, u, hK1, rfl, hR1⟩
              · obtain ⟨e, u, v, rfl, hy, hb⟩ := calls_some (refBytes_n (ks k) rb (Ms k) ((x.toNat : Int) % 9) wr r0 r1 (by rw [HKK.out]; omega) hrbl); exact ⟨v, u, Kept.ofB hb, hy⟩
              · exact ⟨_, _, Kept.refl _ _, rfl⟩
            simp only [List.take_succ_cons, List.take_zero, List.drop_succ_cons, List.drop_zero]
            intro G pick hR hp1 hp2
            have pc1 : ∀ u, (pick u).cell? ⟨b, o + k, none⟩ = some (.int .u64 (Ms k)) := fun u => ((hp1 u).cell hbw' hne1 _).trans c1
            have pc2 : ∀ u, (pick u).cell? ⟨b', o' + k, none⟩ = some (.int .u8 (x.toNat : Int)) := fun u => ((hp1 u).cell hbw'' hne2 _).trans c2
            repeat (first | (refine wpR_det hp2 rfl ((hR.rel _).trans rfl) rfl ?_; intro K hK; go_big_quiet_op; go_big_quiet_on) | (refine wpR_skip pick rfl ?_; intro K hK; go_big_quiet_op; go_big_quiet_on))
            refine wpR_turn pick rfl ((hR.rel _).trans rfl) ((hR.turns _).trans rfl) ?_ ?_
            · intro u hu hM
              have hk := hR.since hu.1
              have hks := hk.size
              have hR0 := HRD.out.on0 (hR.first hM)
              unfold relAt
              go_simp
              refine (HNUM.out u hR0).mono ?_
              rintro e w' ⟨rfl, hR1, hK1⟩
              exact ⟨_, rfl, hR.into hK1, hR.put 0 rfl rfl ⟨rfl, hR1⟩⟩
            intro v hv
            obtain ⟨u, _, hu⟩ := hv
            obtain ⟨rfl, -⟩ := hR.get 0 rfl hu
            clear hu
            intro K hK
            go_big_quiet_op
            go_big_quiet_on
            repeat (first | (refine wpR_det hp2 rfl ((hR.rel _).trans rfl) rfl ?_; intro K hK; go_big_quiet_op; go_big_quiet_on) | (refine wpR_skip pick rfl ?_; intro K hK; go_big_quiet_op; go_big_quiet_on))
            refine wpR_rel pick rfl ((hR.rel _).trans rfl) ((hR.turns _).trans rfl) ?_ ?_
            · intro u hu
              have hk := hR.since hu.1
              have hks := hk.size
              unfold relAt
              go_simp
              refine (refBytes_n (ks k) rb (Ms k) ((x.toNat : Int) % 9) u r0 r1 (by rw [HKK.out]; omega) (by omega)).mono ?_
              rintro e w' ⟨v, rfl, hy, hb⟩
              exact ⟨_, rfl, hR.intoB hb, hR.put 1 rfl rfl hy⟩
            intro v hv
            obtain ⟨u, _, hu⟩ := hv
            obtain ⟨A8, c8, rfl, -, -⟩ := hR.get 1 rfl hu
            clear hu
            rw [HDL.out]
            intro K hK
            go_big_quiet_op
            go_big_quiet_on
            repeat (first | (refine wpR_det hp2 rfl ((hR.rel _).trans rfl) rfl ?_; intro K hK; go_big_quiet_op; go_big_quiet_on) | (refine wpR_skip pick rfl ?_; intro K hK; go_big_quiet_op; go_big_quiet_on))
            refine wpR_rel pick rfl ((hR.rel _).trans rfl) ((hR.turns _).trans rfl) ?_ ?_
            · intro u hu
              have hk := hR.since hu.1
              have hks := hk.size
              obtain ⟨A', c', e, hbs, -⟩ := (hR.get 1 rfl (hu.2 _ _ (Got.upd_self _ _ _) (by kernel_rfl)))
              obtain ⟨rfl, rfl⟩ : A8 = A' ∧ c8 = c' := by injection e with e1 _ e3; exact ⟨e1, e3⟩
              clear e
              unfold relAt
              go_simp
              have hz := refNum_any A8 c8 (digs (ks k) (Ms k)) u (by rw [HDL.out]; exact hk8) hbs
              rw [HDL.out] at hz
              refine hz.mono ?_
              rintro e w' ⟨rfl, rfl⟩
              exact ⟨_, rfl, hR.same, hR.put 2 rfl rfl rfl⟩
            intro v hv
            obtain ⟨u, _, hu⟩ := hv
            obtain rfl := hR.get 2 rfl hu
            clear hu
            intro K hK
            go_big_quiet_op
            go_big_quiet_on
            repeat (first | (refine wpR_det hp2 rfl ((hR.rel _).trans rfl) rfl ?_; intro K hK; go_big_quiet_op; go_big_quiet_on) | (refine wpR_skip pick rfl ?_; intro K hK; go_big_quiet_op; go_big_quiet_on))
            refine wpR_nil ?_
            intro w2 hk2 hF hM
            have HR1 := Lib.hid (hR.get 0 rfl hM).2
            have HK1 := Lib.hid (HKW.out.then hk2 (fun i hi h => by omega))
            clear hF hk2 hM pc1 pc2 hp1 hp2 hR
            go_wp2_with fail
            go_roundg (gk - 1)
            case measure => have := HGK.out; omega
            case rel => exact ⟨k + 1, by have := HGK.out; omega, by omega, by go_num, HR1.out, HK1.out⟩
          · obtain rfl : k = n := by omega
            have hR0 := HRD.out
            rw [rest_end] at hR0
            have HR0 := Lib.hid hR0
            clear hR0
            go_wp2_with fail
            refine (left_any rb [] _ HR0.out).mono ?_
            rintro e w2 ⟨rfl, rfl⟩
            go_wp2_with fail
            refine (bad_any rb [] _ HR0.out).mono ?_
            rintro e w2 ⟨rfl, rfl⟩
            go_wp2_with fail
            refine (awake_any _).mono ?_
            rintro e w2 ⟨rfl, hb2⟩
            go_wp2_with fail
            go_ret
            exact ⟨rfl, (HKW.out.then (Kept.of_below (S := fun i => w.heap.size ≤ i) hb2 (fun i _ h => by omega)) (fun i _ h => h)).below (Nat.le_refl _) (fun i h => h)⟩
end Go.Proofs.Ytncejkmjognmlaa
