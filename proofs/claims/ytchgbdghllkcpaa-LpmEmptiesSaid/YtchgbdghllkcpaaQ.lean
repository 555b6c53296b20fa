/- The reference's Find. -/
import Derived.Test.YtchgbdghllkcpaaO
namespace Go.Proofs.Ytchgbdghllkcpaa
open Go.RowKit
set_option linter.unusedVariables false
/-- An entry whose prefix the address has. -/
def Fits (a : Ad) (x : En) : Prop := x.a.six = a.six ∧ a.cut x.n = x.a
/-- The longest so far, of those ahead of k. -/
def FdS (l : List En) (a : Ad) (k : Nat) (z : Int) : Prop := (z = -1 ∧ ∀ i (hi : i < l.length), i < k → ¬ Fits a l[i]) ∨ ∃ (j : Nat) (hj : j < l.length), j < k ∧ z = (j : Int) ∧ Fits a l[j] ∧ ∀ i (hi : i < l.length), i < k → Fits a l[i] → l[i].n ≤ l[j].n
theorem FdS.zero (l : List En) (a : Ad) : FdS l a 0 (-1) := .inl ⟨rfl, fun i _ h => by omega⟩
theorem FdS.no {l : List En} {a : Ad} {k : Nat} {z : Int} {hk : k < l.length} (h : FdS l a k z) (hn : ¬ Fits a l[k]) : FdS l a (k + 1) z := by
  rcases h with ⟨h1, h2⟩ | ⟨j, hj, h1, h2, h3, h4⟩
  · refine .inl ⟨h1, fun i hi hik => ?_⟩
    by_cases e : i = k
    · subst e; exact hn
    · exact h2 i hi (by omega)
  · refine .inr ⟨j, hj, by omega, h2, h3, fun i hi hik hf => ?_⟩
    by_cases e : i = k
    · subst e; exact absurd hf hn
    · exact h4 i hi (by omega) hf
theorem FdS.up {l : List En} {a : Ad} {k : Nat} {z : Int} {hk : k < l.length} (h : FdS l a k z) (hf : Fits a l[k]) (hb : ∀ (j : Nat) (hj : j < l.length), z = (j : Int) → l[j].n < l[k].n) : FdS l a (k + 1) (k : Int) := by
  refine .inr ⟨k, hk, by omega, rfl, hf, fun i hi hik hfi => ?_⟩
  by_cases e : i = k
  · subst e; exact Int.le_refl _
  · rcases h with ⟨h1, h2⟩ | ⟨j, hj, h1, h2, h3, h4⟩
    · exact absurd hfi (h2 i hi (by omega))
    · have := h4 i hi (by omega) hfi
      have := hb j hj h2
      omega
theorem FdS.stay {l : List En} {a : Ad} {k j : Nat} {hk : k < l.length} (h : FdS l a k (j : Int)) (hb : ∀ (hj : j < l.length), l[k].n ≤ l[j].n) : FdS l a (k + 1) (j : Int) := by
  rcases h with ⟨h1, h2⟩ | ⟨j', hj, h1, h2, h3, h4⟩
  · omega
  · obtain rfl : j = j' := by omega
    refine .inr ⟨j, hj, by omega, rfl, h3, fun i hi hik hf => ?_⟩
    by_cases e : i = k
    · subst e; exact hb hj
    · exact h4 i hi (by omega) hf
def FdP (l : List En) (a : Ad) (w : World) (e : Ending) (w' : World) : Prop := ∃ z, e = .returned (.int .i64 z) ∧ FdS l a l.length z ∧ Below w.heap.size w w'
set_option maxHeartbeats 2000000 in
theorem refFind_no (A : Option Addr) (c : Nat) (l : List En) (a : Ad) (w : World) (hl : l.length ≤ 10000) (hr : ¬ a.right) :
    Calls Try.prog 16 #[.slice A l.length c, .agg #[.bool a.six, .int .u64 (a.hi : Int), .int .u64 (a.lo : Int)]] w fun e w' => e = .returned (.int .i64 (-1)) ∧ Below w.heap.size w w' := by
  have HR := Lib.hid (show decide a.right = false from decide_eq_false hr)
  have HRT := Lib.hid (fun u => refRight_any a u)
  rw [HR.out] at HRT
  clear hr
  go_enter Try.func16, Try.ntmps16
  go_wp2_with fail
  go_loopw [5, 6] (fun bv i wr => bv = .int .i64 (-1) ∧ i = .int .i64 0 ∧ wr = w.alloc (.cells #[.bool a.six, .int .u64 (a.hi : Int), .int .u64 (a.lo : Int)] 24)) (fun _ i _ => 0)
  case atStart => exact ⟨rfl, rfl, rfl⟩
  case round =>
    obtain ⟨rfl, rfl, rfl⟩ := hrel
    by_cases h0 : 0 < l.length
    · have h0I : (0 : Int) < (l.length : Int) := by omega
      go_wp2_with fail
      refine (HRT.out _).mono ?_
      rintro e w1 ⟨rfl, hb1⟩
      have HB1 := Lib.hid hb1
      clear hb1
      go_wp2_with fail
      go_ret
      exact ⟨rfl, bel1.trans (HB1.out.mono (by simp))⟩
    · have h0I : ¬ (0 : Int) < (l.length : Int) := by omega
      go_wp2_with fail
      go_ret
      exact ⟨rfl, bel1⟩
set_option maxHeartbeats 8000000 in
theorem refFind_yes (A : Option Addr) (c : Nat) (l : List En) (a : Ad) (w : World) (hw : a.wf) (hr : a.right) (hl : l.length ≤ 10000) (hE : ES w w.heap.size A 5 (l.map En.cs)) :
    Calls Try.prog 16 #[.slice A l.length c, .agg #[.bool a.six, .int .u64 (a.hi : Int), .int .u64 (a.lo : Int)]] w (FdP l a w) := by
  have HE := Lib.hid hE
  have HR := Lib.hid (show decide a.right = true from decide_eq_true hr)
  have HRT := Lib.hid (fun u => refRight_any a u)
  rw [HR.out] at HRT
  have HW := Lib.hid hw
  have HRR := Lib.hid hr
  clear hE hr hw
  obtain ⟨s0, h0, l0⟩ := a
  go_enter Try.func16, Try.ntmps16
  go_wp2_with fail
  obtain ⟨w1, hw1⟩ : ∃ w1 : World, w1 = w.alloc (.cells #[.bool s0, .int .u64 (h0 : Int), .int .u64 (l0 : Int)] 24) := ⟨_, rfl⟩
  have HX1 := Lib.hid (show Blk w1 w.heap.size 24 #[.bool s0, .int .u64 (h0 : Int), .int .u64 (l0 : Int)] by rw [hw1]; exact Blk.new _ _ _)
  have HB1 := Lib.hid (show Below w.heap.size w w1 by rw [hw1]; exact bel1)
  have hs1 : w.heap.size + 1 ≤ w1.heap.size := by rw [hw1]; simp
  have HBR := Lib.hid (show Below w1.heap.size w1 w1 from Below.refl _ _)
  rw [← hw1]
  clear hw1
  go_loopw [5, 6] (fun bv i wr => ∃ (k : Nat) (z : Int), k ≤ l.length ∧ i = .int .i64 (k : Int) ∧ bv = .int .i64 z ∧ Hid (FdS l ⟨s0, h0, l0⟩ k z) ∧ Hid (Below w.heap.size w wr ∧ Below w1.heap.size w1 wr)) (fun _ i _ => l.length - (intOf i).toNat)
  case atStart => exact ⟨0, -1, by omega, rfl, rfl, Lib.hid (FdS.zero _ _), Lib.hid ⟨HB1.out, HBR.out⟩⟩
  case round =>
    clear HBR
    obtain ⟨k, z, hk, rfl, rfl, HST, HBB⟩ := hrel
    have HB := Lib.hid HBB.out.1
    have HB' := Lib.hid HBB.out.2
    have hsr := HB.out.size
    have hsr' := HB'.out.size
    have HX := Lib.hid (HX1.out.below HB'.out HX1.out.lt)
    clear HBB
    by_cases hkl : k < l.length
    · have kI : (k : Int) < (l.length : Int) := by omega
      have x0 := HX.out.cell
      have xlt := HX.out.lt
      go_wp2_with fail
      refine (HRT.out _).mono ?_
      rintro e w3 ⟨rfl, hb3⟩
      have HB3 := Lib.hid (HB.out.trans (hb3.mono hsr))
      have HB3' := Lib.hid (HB'.out.trans (hb3.mono hsr'))
      have HX3 := Lib.hid (HX.out.below hb3 HX.out.lt)
      have hs3 := HB3.out.size
      have hs3' := HB3'.out.size
      clear hb3 x0 xlt HX
      obtain ⟨b, o, hb, rfl, hel⟩ := HE.out.at (k := k) (by simpa using hkl)
      have hel3 := hel.keep (w' := w3) (fun o => HB3.out.cell (p := ⟨b, o, none⟩) hb)
      obtain ⟨c0, c1, c2, c3, -⟩ := en_cells hel3 hkl
      have HEL := Lib.hid hel3
      have x0 := HX3.out.cell 0
      have x1 := HX3.out.cell 1
      have x2 := HX3.out.cell 2
      simp at x0 x1 x2
      have xlt := HX3.out.lt
      have blt : b < w3.heap.size := by omega
      obtain ⟨x, hx⟩ : ∃ x, l[k] = x := ⟨_, rfl⟩
      rw [hx] at c0 c1 c2 c3
      have HX := Lib.hid hx
      clear hel hx hel3
      obtain ⟨⟨s1, h1, l1⟩, n1, v1⟩ := x
      simp only at c0 c1 c2 c3
      by_cases es : s1 = s0
      · subst es
        obtain ⟨⟨sc, ch, cl⟩, hc⟩ : ∃ c, Ad.cut ⟨s1, h0, l0⟩ n1 = c := ⟨_, rfl⟩
        obtain rfl : s1 = sc := by symm; have := Ad.cutN_six ⟨s1, h0, l0⟩ (Ad.cl ⟨s1, h0, l0⟩ n1); rw [show Ad.cutN ⟨s1, h0, l0⟩ (Ad.cl ⟨s1, h0, l0⟩ n1) = Ad.cut ⟨s1, h0, l0⟩ n1 from rfl, hc] at this; exact this
        have HC := Lib.hid hc
        by_cases eh : ch = h1
        · subst eh
          by_cases el : cl = l1
          · subst el
            have HML := Lib.hid (show Fits ⟨s1, h0, l0⟩ l[k] by rw [HX.out]; exact ⟨rfl, hc⟩)
            clear hc
            rcases HST.out with ⟨rfl, hno⟩ | ⟨j, hj, hjk, rfl, hfj, hmx⟩
            · clear hno
              have HMX := Lib.hid (show ∀ (j : Nat) (hj : j < l.length), (-1 : Int) = (j : Int) → l[j].n < l[k].n from fun j _ h => by omega)
              go_upto_region 5 with fail
              refine wp_region_kept 41 [(16, fun v u => v = .agg #[.bool s1, .int .u64 (ch : Int), .int .u64 (cl : Int)])] ?st ?ne rfl (by kernel_rfl) (by kernel_rfl) ?_
              case st =>
                intro p hp
                simp only [List.mem_cons, List.not_mem_nil, or_false] at hp
                subst hp
                · intro v u u' h hk; exact h
              case ne =>
                intro p hp
                simp only [List.mem_cons, List.not_mem_nil, or_false] at hp
                subst hp
                · exact ⟨_, _, Kept.refl _ _, rfl⟩
              simp only [List.take_succ_cons, List.take_zero, List.drop_succ_cons, List.drop_zero]
              intro G pick hR hp1 hp2
              have p0 : ∀ u, (pick u).cell? ⟨b, o + k * 5, none⟩ = some (.bool s1) := fun u => ((hp1 u).cell blt (fun h => h) _).trans c0
              have p1 : ∀ u, (pick u).cell? ⟨b, o + k * 5 + 1, none⟩ = some (.int .u64 (ch : Int)) := fun u => ((hp1 u).cell blt (fun h => h) _).trans c1
              have p2 : ∀ u, (pick u).cell? ⟨b, o + k * 5 + 2, none⟩ = some (.int .u64 (cl : Int)) := fun u => ((hp1 u).cell blt (fun h => h) _).trans c2
              have p3 : ∀ u, (pick u).cell? ⟨b, o + k * 5 + 3, none⟩ = some (.int .i64 n1) := fun u => ((hp1 u).cell blt (fun h => h) _).trans c3
              have q0 : ∀ u, (pick u).cell? ⟨w.heap.size, 0, none⟩ = some (.bool s1) := fun u => ((hp1 u).cell xlt (fun h => h) _).trans x0
              have q1 : ∀ u, (pick u).cell? ⟨w.heap.size, 1, none⟩ = some (.int .u64 (h0 : Int)) := fun u => ((hp1 u).cell xlt (fun h => h) _).trans x1
              have q2 : ∀ u, (pick u).cell? ⟨w.heap.size, 2, none⟩ = some (.int .u64 (l0 : Int)) := fun u => ((hp1 u).cell xlt (fun h => h) _).trans x2
              repeat (first | (refine wpR_det hp2 rfl ((hR.rel _).trans rfl) rfl ?_; intro K hK; go_big_quiet_op; go_big_quiet_on) | (refine wpR_ptr hp2 rfl ((hR.rel _).trans rfl) rfl rfl ?_; intro K hK; go_big_quiet_op; go_big_quiet_on) | (refine wpR_skip pick rfl ?_; intro K hK; go_big_quiet_op; go_big_quiet_on))
              refine wpR_rel pick rfl ((hR.rel _).trans rfl) ((hR.turns _).trans rfl) ?_ ?_
              · intro u hu
                have hk := hR.since hu.1
                have hks := hk.size
                unfold relAt
                go_simp
                refine (refCut_any ⟨s1, h0, l0⟩ n1 u HW.out HRR.out).mono ?_
                rintro e w' ⟨rfl, hb'⟩
                exact ⟨_, rfl, hR.intoB hb', hR.put 0 rfl rfl (by rw [HC.out])⟩
              intro v hv
              obtain ⟨u, _, hu⟩ := hv
              obtain rfl := hR.get 0 rfl hu
              clear hu
              intro K hK
              go_big_quiet_op
              go_big_quiet_on
              repeat (first | (refine wpR_det hp2 rfl ((hR.rel _).trans rfl) rfl ?_; intro K hK; go_big_quiet_op; go_big_quiet_on) | (refine wpR_ptr hp2 rfl ((hR.rel _).trans rfl) rfl rfl ?_; intro K hK; go_big_quiet_op; go_big_quiet_on) | (refine wpR_skip pick rfl ?_; intro K hK; go_big_quiet_op; go_big_quiet_on))
              refine wpR_nil ?_
              intro w2 hk2 hF hM
              have HB2 := Lib.hid (HB3.out.trans (hk2.below hs3 (fun i h => h.elim)))
              have HB2x := Lib.hid (HB3'.out.trans (hk2.below hs3' (fun i h => h.elim)))
              clear hF hM hk2 hp1 hp2 hR p0 p1 p2 p3 q0 q1 q2 x0 x1 x2 c0 c1 c2 c3
              go_wp2_with fail
              go_roundw
              case rel => exact ⟨k + 1, (k : Int), by omega, by go_num, rfl, Lib.hid (HST.out.up HML.out HMX.out), Lib.hid ⟨HB2.out, HB2x.out⟩⟩
              case measure => simp [intOf]; omega
            · clear hfj hmx
              obtain ⟨-, -, -, d3, -⟩ := en_cells HEL.out hj
              obtain ⟨nj, hnj⟩ : ∃ n, l[j].n = n := ⟨_, rfl⟩
              rw [hnj] at d3
              have jI : ¬ (j : Int) < 0 := by omega
              have jL : (j : Int) < (l.length : Int) := by omega
              by_cases hgt : nj < n1
              · have HMX := Lib.hid (show ∀ (j' : Nat) (hj' : j' < l.length), (j : Int) = (j' : Int) → l[j'].n < l[k].n by
                  intro j' hj' h
                  obtain rfl : j = j' := by omega
                  rw [hnj, HX.out]; exact hgt)
                clear hnj
                go_upto_region 5 with fail
                refine wp_region_kept 41 [(16, fun v u => v = .agg #[.bool s1, .int .u64 (ch : Int), .int .u64 (cl : Int)])] ?st ?ne rfl (by kernel_rfl) (by kernel_rfl) ?_
                case st =>
                  intro p hp
                  simp only [List.mem_cons, List.not_mem_nil, or_false] at hp
                  subst hp
                  · intro v u u' h hk; exact h
                case ne =>
                  intro p hp
                  simp only [List.mem_cons, List.not_mem_nil, or_false] at hp
                  subst hp
                  · exact ⟨_, _, Kept.refl _ _, rfl⟩
                simp only [List.take_succ_cons, List.take_zero, List.drop_succ_cons, List.drop_zero]
                intro G pick hR hp1 hp2
                have p0 : ∀ u, (pick u).cell? ⟨b, o + k * 5, none⟩ = some (.bool s1) := fun u => ((hp1 u).cell blt (fun h => h) _).trans c0
                have p1 : ∀ u, (pick u).cell? ⟨b, o + k * 5 + 1, none⟩ = some (.int .u64 (ch : Int)) := fun u => ((hp1 u).cell blt (fun h => h) _).trans c1
                have p2 : ∀ u, (pick u).cell? ⟨b, o + k * 5 + 2, none⟩ = some (.int .u64 (cl : Int)) := fun u => ((hp1 u).cell blt (fun h => h) _).trans c2
                have p3 : ∀ u, (pick u).cell? ⟨b, o + k * 5 + 3, none⟩ = some (.int .i64 n1) := fun u => ((hp1 u).cell blt (fun h => h) _).trans c3
                have q0 : ∀ u, (pick u).cell? ⟨w.heap.size, 0, none⟩ = some (.bool s1) := fun u => ((hp1 u).cell xlt (fun h => h) _).trans x0
                have q1 : ∀ u, (pick u).cell? ⟨w.heap.size, 1, none⟩ = some (.int .u64 (h0 : Int)) := fun u => ((hp1 u).cell xlt (fun h => h) _).trans x1
                have q2 : ∀ u, (pick u).cell? ⟨w.heap.size, 2, none⟩ = some (.int .u64 (l0 : Int)) := fun u => ((hp1 u).cell xlt (fun h => h) _).trans x2
                have r3 : ∀ u, (pick u).cell? ⟨b, o + j * 5 + 3, none⟩ = some (.int .i64 nj) := fun u => ((hp1 u).cell blt (fun h => h) _).trans d3
                repeat (first | (refine wpR_det hp2 rfl ((hR.rel _).trans rfl) rfl ?_; intro K hK; go_big_quiet_op; go_big_quiet_on) | (refine wpR_ptr hp2 rfl ((hR.rel _).trans rfl) rfl rfl ?_; intro K hK; go_big_quiet_op; go_big_quiet_on) | (refine wpR_skip pick rfl ?_; intro K hK; go_big_quiet_op; go_big_quiet_on))
                refine wpR_rel pick rfl ((hR.rel _).trans rfl) ((hR.turns _).trans rfl) ?_ ?_
                · intro u hu
                  have hk := hR.since hu.1
                  have hks := hk.size
                  unfold relAt
                  go_simp
                  refine (refCut_any ⟨s1, h0, l0⟩ n1 u HW.out HRR.out).mono ?_
                  rintro e w' ⟨rfl, hb'⟩
                  exact ⟨_, rfl, hR.intoB hb', hR.put 0 rfl rfl (by rw [HC.out])⟩
                intro v hv
                obtain ⟨u, _, hu⟩ := hv
                obtain rfl := hR.get 0 rfl hu
                clear hu
                intro K hK
                go_big_quiet_op
                go_big_quiet_on
                repeat (first | (refine wpR_det hp2 rfl ((hR.rel _).trans rfl) rfl ?_; intro K hK; go_big_quiet_op; go_big_quiet_on) | (refine wpR_ptr hp2 rfl ((hR.rel _).trans rfl) rfl rfl ?_; intro K hK; go_big_quiet_op; go_big_quiet_on) | (refine wpR_skip pick rfl ?_; intro K hK; go_big_quiet_op; go_big_quiet_on))
                refine wpR_nil ?_
                intro w2 hk2 hF hM
                have HB2 := Lib.hid (HB3.out.trans (hk2.below hs3 (fun i h => h.elim)))
                have HB2x := Lib.hid (HB3'.out.trans (hk2.below hs3' (fun i h => h.elim)))
                clear hF hM hk2 hp1 hp2 hR p0 p1 p2 p3 q0 q1 q2 x0 x1 x2 c0 c1 c2 c3 r3 d3
                go_wp2_with fail
                go_roundw
                case rel => exact ⟨k + 1, (k : Int), by omega, by go_num, rfl, Lib.hid (HST.out.up HML.out HMX.out), Lib.hid ⟨HB2.out, HB2x.out⟩⟩
                case measure => simp [intOf]; omega
              · have HMX := Lib.hid (show ∀ (hj : j < l.length), l[k].n ≤ l[j].n from fun _ => by rw [hnj, HX.out]; show n1 ≤ nj; omega)
                clear hnj
                go_upto_region 5 with fail
                refine wp_region_kept 41 [(16, fun v u => v = .agg #[.bool s1, .int .u64 (ch : Int), .int .u64 (cl : Int)])] ?st ?ne rfl (by kernel_rfl) (by kernel_rfl) ?_
                case st =>
                  intro p hp
                  simp only [List.mem_cons, List.not_mem_nil, or_false] at hp
                  subst hp
                  · intro v u u' h hk; exact h
                case ne =>
                  intro p hp
                  simp only [List.mem_cons, List.not_mem_nil, or_false] at hp
                  subst hp
                  · exact ⟨_, _, Kept.refl _ _, rfl⟩
                simp only [List.take_succ_cons, List.take_zero, List.drop_succ_cons, List.drop_zero]
                intro G pick hR hp1 hp2
                have p0 : ∀ u, (pick u).cell? ⟨b, o + k * 5, none⟩ = some (.bool s1) := fun u => ((hp1 u).cell blt (fun h => h) _).trans c0
                have p1 : ∀ u, (pick u).cell? ⟨b, o + k * 5 + 1, none⟩ = some (.int .u64 (ch : Int)) := fun u => ((hp1 u).cell blt (fun h => h) _).trans c1
                have p2 : ∀ u, (pick u).cell? ⟨b, o + k * 5 + 2, none⟩ = some (.int .u64 (cl : Int)) := fun u => ((hp1 u).cell blt (fun h => h) _).trans c2
                have p3 : ∀ u, (pick u).cell? ⟨b, o + k * 5 + 3, none⟩ = some (.int .i64 n1) := fun u => ((hp1 u).cell blt (fun h => h) _).trans c3
                have q0 : ∀ u, (pick u).cell? ⟨w.heap.size, 0, none⟩ = some (.bool s1) := fun u => ((hp1 u).cell xlt (fun h => h) _).trans x0
                have q1 : ∀ u, (pick u).cell? ⟨w.heap.size, 1, none⟩ = some (.int .u64 (h0 : Int)) := fun u => ((hp1 u).cell xlt (fun h => h) _).trans x1
                have q2 : ∀ u, (pick u).cell? ⟨w.heap.size, 2, none⟩ = some (.int .u64 (l0 : Int)) := fun u => ((hp1 u).cell xlt (fun h => h) _).trans x2
                have r3 : ∀ u, (pick u).cell? ⟨b, o + j * 5 + 3, none⟩ = some (.int .i64 nj) := fun u => ((hp1 u).cell blt (fun h => h) _).trans d3
                repeat (first | (refine wpR_det hp2 rfl ((hR.rel _).trans rfl) rfl ?_; intro K hK; go_big_quiet_op; go_big_quiet_on) | (refine wpR_ptr hp2 rfl ((hR.rel _).trans rfl) rfl rfl ?_; intro K hK; go_big_quiet_op; go_big_quiet_on) | (refine wpR_skip pick rfl ?_; intro K hK; go_big_quiet_op; go_big_quiet_on))
                refine wpR_rel pick rfl ((hR.rel _).trans rfl) ((hR.turns _).trans rfl) ?_ ?_
                · intro u hu
                  have hk := hR.since hu.1
                  have hks := hk.size
                  unfold relAt
                  go_simp
                  refine (refCut_any ⟨s1, h0, l0⟩ n1 u HW.out HRR.out).mono ?_
                  rintro e w' ⟨rfl, hb'⟩
                  exact ⟨_, rfl, hR.intoB hb', hR.put 0 rfl rfl (by rw [HC.out])⟩
                intro v hv
                obtain ⟨u, _, hu⟩ := hv
                obtain rfl := hR.get 0 rfl hu
                clear hu
                intro K hK
                go_big_quiet_op
                go_big_quiet_on
                repeat (first | (refine wpR_det hp2 rfl ((hR.rel _).trans rfl) rfl ?_; intro K hK; go_big_quiet_op; go_big_quiet_on) | (refine wpR_ptr hp2 rfl ((hR.rel _).trans rfl) rfl rfl ?_; intro K hK; go_big_quiet_op; go_big_quiet_on) | (refine wpR_skip pick rfl ?_; intro K hK; go_big_quiet_op; go_big_quiet_on))
                refine wpR_nil ?_
                intro w2 hk2 hF hM
                have HB2 := Lib.hid (HB3.out.trans (hk2.below hs3 (fun i h => h.elim)))
                have HB2x := Lib.hid (HB3'.out.trans (hk2.below hs3' (fun i h => h.elim)))
                clear hF hM hk2 hp1 hp2 hR p0 p1 p2 p3 q0 q1 q2 x0 x1 x2 c0 c1 c2 c3 r3 d3
                go_wp2_with fail
                go_roundw
                case rel => exact ⟨k + 1, (j : Int), by omega, by go_num, rfl, Lib.hid (HST.out.stay HMX.out), Lib.hid ⟨HB2.out, HB2x.out⟩⟩
                case measure => simp [intOf]; omega
          · have HNM := Lib.hid (show ¬ Fits ⟨s1, h0, l0⟩ ⟨⟨s1, ch, l1⟩, n1, v1⟩ from fun h => el (by have := h.2; simp only at this; rw [hc] at this; injection this))
            have elB : ((cl : Int) == (l1 : Int)) = false := beq_eq_false_iff_ne.2 (by omega)
            clear el hc
            go_upto_region 5 with fail
            refine wp_region_kept 41 [(16, fun v u => v = .agg #[.bool s1, .int .u64 (ch : Int), .int .u64 (cl : Int)])] ?st ?ne rfl (by kernel_rfl) (by kernel_rfl) ?_
            case st =>
              intro p hp
              simp only [List.mem_cons, List.not_mem_nil, or_false] at hp
              subst hp
              · intro v u u' h hk; exact h
            case ne =>
              intro p hp
              simp only [List.mem_cons, List.not_mem_nil, or_false] at hp
              subst hp
              · exact ⟨_, _, Kept.refl _ _, rfl⟩
            simp only [List.take_succ_cons, List.take_zero, List.drop_succ_cons, List.drop_zero]
            intro G pick hR hp1 hp2
            have p0 : ∀ u, (pick u).cell? ⟨b, o + k * 5, none⟩ = some (.bool s1) := fun u => ((hp1 u).cell blt (fun h => h) _).trans c0
            have p1 : ∀ u, (pick u).cell? ⟨b, o + k * 5 + 1, none⟩ = some (.int .u64 (ch : Int)) := fun u => ((hp1 u).cell blt (fun h => h) _).trans c1
            have p2 : ∀ u, (pick u).cell? ⟨b, o + k * 5 + 2, none⟩ = some (.int .u64 (l1 : Int)) := fun u => ((hp1 u).cell blt (fun h => h) _).trans c2
            have p3 : ∀ u, (pick u).cell? ⟨b, o + k * 5 + 3, none⟩ = some (.int .i64 n1) := fun u => ((hp1 u).cell blt (fun h => h) _).trans c3
            have q0 : ∀ u, (pick u).cell? ⟨w.heap.size, 0, none⟩ = some (.bool s1) := fun u => ((hp1 u).cell xlt (fun h => h) _).trans x0
            have q1 : ∀ u, (pick u).cell? ⟨w.heap.size, 1, none⟩ = some (.int .u64 (h0 : Int)) := fun u => ((hp1 u).cell xlt (fun h => h) _).trans x1
            have q2 : ∀ u, (pick u).cell? ⟨w.heap.size, 2, none⟩ = some (.int .u64 (l0 : Int)) := fun u => ((hp1 u).cell xlt (fun h => h) _).trans x2
            repeat (first | (refine wpR_det hp2 rfl ((hR.rel _).trans rfl) rfl ?_; intro K hK; go_big_quiet_op; go_big_quiet_on) | (refine wpR_ptr hp2 rfl ((hR.rel _).trans rfl) rfl rfl ?_; intro K hK; go_big_quiet_op; go_big_quiet_on) | (refine wpR_skip pick rfl ?_; intro K hK; go_big_quiet_op; go_big_quiet_on))
            refine wpR_rel pick rfl ((hR.rel _).trans rfl) ((hR.turns _).trans rfl) ?_ ?_
            · intro u hu
              have hk := hR.since hu.1
              have hks := hk.size
              unfold relAt
              go_simp
              refine (refCut_any ⟨s1, h0, l0⟩ n1 u HW.out HRR.out).mono ?_
              rintro e w' ⟨rfl, hb'⟩
              exact ⟨_, rfl, hR.intoB hb', hR.put 0 rfl rfl (by rw [HC.out])⟩
            intro v hv
            obtain ⟨u, _, hu⟩ := hv
            obtain rfl := hR.get 0 rfl hu
            clear hu
            intro K hK
            go_big_quiet_op
            go_big_quiet_on
            repeat (first | (refine wpR_det hp2 rfl ((hR.rel _).trans rfl) rfl ?_; intro K hK; go_big_quiet_op; go_big_quiet_on) | (refine wpR_ptr hp2 rfl ((hR.rel _).trans rfl) rfl rfl ?_; intro K hK; go_big_quiet_op; go_big_quiet_on) | (refine wpR_skip pick rfl ?_; intro K hK; go_big_quiet_op; go_big_quiet_on))
            refine wpR_nil ?_
            intro w2 hk2 hF hM
            have HB2 := Lib.hid (HB3.out.trans (hk2.below hs3 (fun i h => h.elim)))
            have HB2x := Lib.hid (HB3'.out.trans (hk2.below hs3' (fun i h => h.elim)))
            clear hF hM hk2 hp1 hp2 hR p0 p1 p2 p3 q0 q1 q2 x0 x1 x2 c0 c1 c2 c3
            go_wp2_with fail
            go_roundw
            case rel => exact ⟨k + 1, z, by omega, by go_num, rfl, Lib.hid (HST.out.no (by rw [HX.out]; exact HNM.out)), Lib.hid ⟨HB2.out, HB2x.out⟩⟩
            case measure => simp [intOf]; omega
        · have HNM := Lib.hid (show ¬ Fits ⟨s1, h0, l0⟩ ⟨⟨s1, h1, l1⟩, n1, v1⟩ from fun h => eh (by have := h.2; simp only at this; rw [hc] at this; injection this))
          have ehB : ((ch : Int) == (h1 : Int)) = false := beq_eq_false_iff_ne.2 (by omega)
          clear eh hc
          go_upto_region 5 with fail
          refine wp_region_kept 41 [(16, fun v u => v = .agg #[.bool s1, .int .u64 (ch : Int), .int .u64 (cl : Int)])] ?st ?ne rfl (by kernel_rfl) (by kernel_rfl) ?_
          case st =>
            intro p hp
            simp only [List.mem_cons, List.not_mem_nil, or_false] at hp
            subst hp
            · intro v u u' h hk; exact h
          case ne =>
            intro p hp
            simp only [List.mem_cons, List.not_mem_nil, or_false] at hp
            subst hp
            · exact ⟨_, _, Kept.refl _ _, rfl⟩
          simp only [List.take_succ_cons, List.take_zero, List.drop_succ_cons, List.drop_zero]
          intro G pick hR hp1 hp2
          have p0 : ∀ u, (pick u).cell? ⟨b, o + k * 5, none⟩ = some (.bool s1) := fun u => ((hp1 u).cell blt (fun h => h) _).trans c0
          have p1 : ∀ u, (pick u).cell? ⟨b, o + k * 5 + 1, none⟩ = some (.int .u64 (h1 : Int)) := fun u => ((hp1 u).cell blt (fun h => h) _).trans c1
          have p2 : ∀ u, (pick u).cell? ⟨b, o + k * 5 + 2, none⟩ = some (.int .u64 (l1 : Int)) := fun u => ((hp1 u).cell blt (fun h => h) _).trans c2
          have p3 : ∀ u, (pick u).cell? ⟨b, o + k * 5 + 3, none⟩ = some (.int .i64 n1) := fun u => ((hp1 u).cell blt (fun h => h) _).trans c3
          have q0 : ∀ u, (pick u).cell? ⟨w.heap.size, 0, none⟩ = some (.bool s1) := fun u => ((hp1 u).cell xlt (fun h => h) _).trans x0
          have q1 : ∀ u, (pick u).cell? ⟨w.heap.size, 1, none⟩ = some (.int .u64 (h0 : Int)) := fun u => ((hp1 u).cell xlt (fun h => h) _).trans x1
          have q2 : ∀ u, (pick u).cell? ⟨w.heap.size, 2, none⟩ = some (.int .u64 (l0 : Int)) := fun u => ((hp1 u).cell xlt (fun h => h) _).trans x2
          repeat (first | (refine wpR_det hp2 rfl ((hR.rel _).trans rfl) rfl ?_; intro K hK; go_big_quiet_op; go_big_quiet_on) | (refine wpR_ptr hp2 rfl ((hR.rel _).trans rfl) rfl rfl ?_; intro K hK; go_big_quiet_op; go_big_quiet_on) | (refine wpR_skip pick rfl ?_; intro K hK; go_big_quiet_op; go_big_quiet_on))
          refine wpR_rel pick rfl ((hR.rel _).trans rfl) ((hR.turns _).trans rfl) ?_ ?_
          · intro u hu
            have hk := hR.since hu.1
            have hks := hk.size
            unfold relAt
            go_simp
            refine (refCut_any ⟨s1, h0, l0⟩ n1 u HW.out HRR.out).mono ?_
            rintro e w' ⟨rfl, hb'⟩
            exact ⟨_, rfl, hR.intoB hb', hR.put 0 rfl rfl (by rw [HC.out])⟩
          intro v hv
          obtain ⟨u, _, hu⟩ := hv
          obtain rfl := hR.get 0 rfl hu
          clear hu
          intro K hK
          go_big_quiet_op
          go_big_quiet_on
          repeat (first | (refine wpR_det hp2 rfl ((hR.rel _).trans rfl) rfl ?_; intro K hK; go_big_quiet_op; go_big_quiet_on) | (refine wpR_ptr hp2 rfl ((hR.rel _).trans rfl) rfl rfl ?_; intro K hK; go_big_quiet_op; go_big_quiet_on) | (refine wpR_skip pick rfl ?_; intro K hK; go_big_quiet_op; go_big_quiet_on))
          refine wpR_nil ?_
          intro w2 hk2 hF hM
          have HB2 := Lib.hid (HB3.out.trans (hk2.below hs3 (fun i h => h.elim)))
          have HB2x := Lib.hid (HB3'.out.trans (hk2.below hs3' (fun i h => h.elim)))
          clear hF hM hk2 hp1 hp2 hR p0 p1 p2 p3 q0 q1 q2 x0 x1 x2 c0 c1 c2 c3
          go_wp2_with fail
          go_roundw
          case rel => exact ⟨k + 1, z, by omega, by go_num, rfl, Lib.hid (HST.out.no (by rw [HX.out]; exact HNM.out)), Lib.hid ⟨HB2.out, HB2x.out⟩⟩
          case measure => simp [intOf]; omega
      · have HNM := Lib.hid (show ¬ Fits ⟨s0, h0, l0⟩ ⟨⟨s1, h1, l1⟩, n1, v1⟩ from fun h => es h.1)
        have esB : (s1 == s0) = false := beq_eq_false_iff_ne.2 es
        clear es
        go_upto_region 5 with fail
        refine wp_region_kept 41 [] ?st ?ne rfl (by kernel_rfl) (by kernel_rfl) ?_
        case st => intro p hp; cases hp
        case ne => intro p hp; cases hp
        simp only [List.take_succ_cons, List.take_zero, List.drop_succ_cons, List.drop_zero]
        intro G pick hR hp1 hp2
        have p0 : ∀ u, (pick u).cell? ⟨b, o + k * 5, none⟩ = some (.bool s1) := fun u => ((hp1 u).cell blt (fun h => h) _).trans c0
        have p1 : ∀ u, (pick u).cell? ⟨b, o + k * 5 + 1, none⟩ = some (.int .u64 (h1 : Int)) := fun u => ((hp1 u).cell blt (fun h => h) _).trans c1
        have p2 : ∀ u, (pick u).cell? ⟨b, o + k * 5 + 2, none⟩ = some (.int .u64 (l1 : Int)) := fun u => ((hp1 u).cell blt (fun h => h) _).trans c2
        have p3 : ∀ u, (pick u).cell? ⟨b, o + k * 5 + 3, none⟩ = some (.int .i64 n1) := fun u => ((hp1 u).cell blt (fun h => h) _).trans c3
        have q0 : ∀ u, (pick u).cell? ⟨w.heap.size, 0, none⟩ = some (.bool s0) := fun u => ((hp1 u).cell xlt (fun h => h) _).trans x0
        have q1 : ∀ u, (pick u).cell? ⟨w.heap.size, 1, none⟩ = some (.int .u64 (h0 : Int)) := fun u => ((hp1 u).cell xlt (fun h => h) _).trans x1
        have q2 : ∀ u, (pick u).cell? ⟨w.heap.size, 2, none⟩ = some (.int .u64 (l0 : Int)) := fun u => ((hp1 u).cell xlt (fun h => h) _).trans x2
        repeat (first | (refine wpR_det hp2 rfl ((hR.rel _).trans rfl) rfl ?_; intro K hK; go_big_quiet_op; go_big_quiet_on) | (refine wpR_ptr hp2 rfl ((hR.rel _).trans rfl) rfl rfl ?_; intro K hK; go_big_quiet_op; go_big_quiet_on) | (refine wpR_skip pick rfl ?_; intro K hK; go_big_quiet_op; go_big_quiet_on))
        refine wpR_nil ?_
        intro w2 hk2 hF hM
        have HB2 := Lib.hid (HB3.out.trans (hk2.below hs3 (fun i h => h.elim)))
        have HB2x := Lib.hid (HB3'.out.trans (hk2.below hs3' (fun i h => h.elim)))
        clear hF hM hk2 hp1 hp2 hR p0 p1 p2 p3 q0 q1 q2 x0 x1 x2 c0 c1 c2 c3
        go_wp2_with fail
        go_roundw
        case rel => exact ⟨k + 1, z, by omega, by go_num, rfl, Lib.hid (HST.out.no (by rw [HX.out]; exact HNM.out)), Lib.hid ⟨HB2.out, HB2x.out⟩⟩
        case measure => simp [intOf]; omega
    · obtain rfl : k = l.length := by omega
      have hkn : ¬ (l.length : Int) < (l.length : Int) := by omega
      go_wp2_with fail
      go_ret
      exact ⟨_, rfl, HST.out, HB.out⟩
end Go.Proofs.Ytchgbdghllkcpaa
