/- seek, Get, Len, bare. -/
import Derived.Test.YtchgbdghllkcpaaH
namespace Go.Proofs.Ytchgbdghllkcpaa
open Go.RowKit
set_option linter.unusedVariables false
theorem len_any (tb base : Nat) (M : Bool → Path → Option Int) (sz : Int) (w : World) (hT : TabS tb base M sz w) : Calls Try.prog 20 #[.pointer (some ⟨tb, 0, none⟩)] w fun e w' => e = .returned (.int .i64 sz) ∧ w = w' := by
  obtain ⟨N, H, V, hT, -⟩ := hT
  have c0 := hT.size
  have clt := hT.tab.lt
  clear hT
  go_enter Try.func20, Try.ntmps20
  go_wp2_with fail
  go_ret
  exact ⟨rfl, rfl⟩
theorem bare_any (ab ao : Nat) (h : Bool) (c0 c1 : Option Nat) (w : World) (hlt : ab < w.heap.size) (h0 : w.cell? ⟨ab, ao, none⟩ = some (pv c0)) (h1 : w.cell? ⟨ab, ao + 1, none⟩ = some (pv c1)) (h2 : w.cell? ⟨ab, ao + 2, none⟩ = some (.bool h)) :
    Calls Try.prog 33 #[.pointer (some ⟨ab, ao, none⟩)] w fun e w' => e = .returned (.bool (!h && c0.isNone && c1.isNone)) ∧ w = w' := by
  cases h with
  | true =>
    go_enter Try.func33, Try.ntmps33
    go_wp2_with fail
    go_ret
    exact ⟨rfl, rfl⟩
  | false =>
    cases c0 with
    | some b =>
      replace h0 : w.cell? ⟨ab, ao, none⟩ = some (.pointer (some ⟨b, 0, none⟩)) := h0
      go_enter Try.func33, Try.ntmps33
      go_wp2_with fail
      go_ret
      exact ⟨rfl, rfl⟩
    | none =>
      replace h0 : w.cell? ⟨ab, ao, none⟩ = some (.pointer none) := h0
      cases c1 with
      | some b =>
        replace h1 : w.cell? ⟨ab, ao + 1, none⟩ = some (.pointer (some ⟨b, 0, none⟩)) := h1
        go_enter Try.func33, Try.ntmps33
        go_wp2_with fail
        go_ret
        exact ⟨rfl, rfl⟩
      | none =>
        replace h1 : w.cell? ⟨ab, ao + 1, none⟩ = some (.pointer none) := h1
        go_enter Try.func33, Try.ntmps33
        go_wp2_with fail
        go_ret
        exact ⟨rfl, rfl⟩
set_option maxHeartbeats 4000000 in
theorem seek_no (tb : Nat) (a : Ad) (n : Int) (w : World) (hw : a.wf) (hP : ¬ rightP a n) : Calls Try.prog 32 #[.pointer (some ⟨tb, 0, none⟩), .agg #[.bool a.six, .int .u64 (a.hi : Int), .int .u64 (a.lo : Int), .int .i64 n]] w fun e w' => e = .returned (.pointer none) ∧ Below w.heap.size w w' := by
  have HPR := Lib.hid (fun u => prefRight_any a n u hw)
  have HD := Lib.hid (show decide (rightP a n) = false from decide_eq_false hP)
  rw [HD.out] at HPR
  clear hP hw
  go_enter Try.func32, Try.ntmps32
  go_wp2_with fail
  refine (HPR.out _).mono ?_
  rintro e w1 ⟨rfl, hb1⟩
  have HB1 := Lib.hid hb1
  clear hb1
  go_wp2_with fail
  go_ret
  exact ⟨rfl, bel1.trans (HB1.out.mono (by simp))⟩
def SeekP (tb : Nat) (N : Bool → Path → Option Nat) (H : Bool → Path → Bool) (f : Bool) (p : Path) (w : World) (e : Ending) (w' : World) : Prop :=
  (H f p = false ∧ e = .returned (.pointer none) ∨ H f p = true ∧ ∃ ab ao, e = .returned (.pointer (some ⟨ab, ao, none⟩)) ∧ AtN tb N f p ab ao) ∧ Below w.heap.size w w'
set_option maxHeartbeats 16000000 in
set_option maxRecDepth 100000 in
theorem seek_yes (tb base : Nat) (N : Bool → Path → Option Nat) (H : Bool → Path → Bool) (V : Bool → Path → Int) (sz : Int) (a : Ad) (m : Nat) (w : World) (hw : a.wf) (hP : rightP a (m : Int)) (hm : m ≤ a.bits) (hT : Tri tb base N H V sz w) :
    Calls Try.prog 32 #[.pointer (some ⟨tb, 0, none⟩), .agg #[.bool a.six, .int .u64 (a.hi : Int), .int .u64 (a.lo : Int), .int .i64 (m : Int)]] w (SeekP tb N H a.six (a.path m) w) := by
  have HPR := Lib.hid (fun u => prefRight_any a m u hw)
  have HD := Lib.hid (show decide (rightP a (m : Int)) = true from decide_eq_true hP)
  rw [HD.out] at HPR
  have hm128 : m ≤ 128 := by unfold Ad.bits at hm; split at hm <;> omega
  have HW := Lib.hid hw
  have HM := Lib.hid hm
  have HT := Lib.hid hT
  clear hP hw hm hT
  go_enter Try.func32, Try.ntmps32
  go_wp2_with fail
  refine (HPR.out _).mono ?_
  rintro e w1 ⟨rfl, hb1⟩
  have HX1 := Lib.hid (show Blk w1 w.heap.size 29 #[.bool a.six, .int .u64 (a.hi : Int), .int .u64 (a.lo : Int), .int .i64 (m : Int)] from (Blk.new w 29 _).below hb1 (by simp))
  have HB1 := Lib.hid (show Below w.heap.size w w1 from bel1.trans (hb1.mono (by simp)))
  have HT1 := Lib.hid ((HT.out.onB bel1).onB hb1)
  clear hb1 HT HPR HD
  obtain ⟨pb, hpb⟩ : ∃ pb, w.heap.size = pb := ⟨_, rfl⟩
  rw [hpb] at HX1 HB1 ⊢
  have HPB := Lib.hid hpb
  clear hpb
  have x0 := HX1.out.cell
  have xlt := HX1.out.lt
  go_wp2_with fail
  refine (root_any tb a w1).mono ?_
  rintro e w0 ⟨rfl, hb2⟩
  have HX0 := Lib.hid (HX1.out.below hb2 HX1.out.lt)
  have HT0 := Lib.hid (HT1.out.onB hb2)
  have HB0 := Lib.hid (HB1.out.trans (hb2.mono (by omega)))
  have hs0 : pb + 1 ≤ w0.heap.size := by have := hb2.size; omega
  clear hb2 HX1 HB1 HT1 x0 xlt
  have HBR := Lib.hid (show Below w0.heap.size w0 w0 from Below.refl _ _)
  have x0 := HX0.out.cell
  have xlt := HX0.out.lt
  go_wp2_with fail
  clear x0 xlt
  go_loopw [5, 6] (fun at_ iv wr => ∃ (k : Nat) (p : Option Addr), k ≤ m ∧ iv = .int .i64 (k : Int) ∧ at_ = .pointer p ∧ Hid ((∃ ab ao, p = some ⟨ab, ao, none⟩ ∧ AtN tb N a.six (a.path k) ab ao) ∨ (p = none ∧ N a.six (a.path k) = none ∧ 0 < k)) ∧ Hid (Below w0.heap.size w0 wr)) (fun _ iv _ => m - (intOf iv).toNat)
  case atStart => exact ⟨0, _, by omega, rfl, rfl, Lib.hid (.inl ⟨tb, _, rfl, AtN.root⟩), HBR⟩
  case round =>
    clear HBR
    obtain ⟨k, p, hk, rfl, rfl, HP, HB⟩ := hrel
    have hsr := HB.out.size
    have HTr := Lib.hid (HT0.out.onB HB.out)
    have HX := Lib.hid (HX0.out.below HB.out HX0.out.lt)
    have x0 := HX.out.cell 0
    have x1 := HX.out.cell 1
    have x2 := HX.out.cell 2
    have x3 := HX.out.cell 3
    simp at x0 x1 x2 x3
    have xlt := HX.out.lt
    rcases HP.out with ⟨ab, ao, rfl, hA⟩ | ⟨rfl, hNk, hk0⟩
    · have HA := Lib.hid hA
      clear hA HP
      have HC := Lib.hid (HTr.out.cells HA.out)
      have clt := HC.out.2.2.2.2.2.1
      by_cases hkm : k < m
      · have kI : (k : Int) < (m : Int) := by omega
        have hbit := fun u => bit_any a k u HW.out (by have := HM.out; omega)
        obtain ⟨b, hbv⟩ : ∃ b, a.bit k = b := ⟨_, rfl⟩
        have HBV := Lib.hid hbv
        rw [hbv] at hbit
        clear hbv
        cases b with
        | false =>
          rw [show bI false = 0 from rfl] at hbit
          have HBT := Lib.hid hbit
          clear hbit
          cases hN : N a.six (a.path k ++ [false]) with
          | none =>
            have cc : wr.cell? ⟨ab, ao, none⟩ = some (.pointer none) := by have := HC.out.1; rw [hN] at this; exact this
            have HN := Lib.hid hN
            clear hN
            go_upto_region 7 with fail
            refine wp_region_kept 10 [(4, fun v u => v = .int .i64 0)] ?st ?ne rfl (by kernel_rfl) (by kernel_rfl) ?_
            case st =>
              intro p hp
              simp only [List.mem_cons, List.not_mem_nil, or_false] at hp
              subst hp
              · intro v u u' h hk; exact h
            case ne =>
              intro p hp
              simp only [List.mem_cons, List.not_mem_nil, or_false] at hp
              subst hp
              · exact ⟨_, _, Kept.refl _ _, rfl⟩
            simp only [List.take_succ_cons, List.take_zero, List.drop_succ_cons, List.drop_zero]
            intro G pick hR hp1 hp2
            have p0 : ∀ u, (pick u).cell? ⟨pb, 0, none⟩ = some (.bool a.six) := fun u => ((hp1 u).cell xlt (fun h => h) _).trans x0
            have p1 : ∀ u, (pick u).cell? ⟨pb, 1, none⟩ = some (.int .u64 (a.hi : Int)) := fun u => ((hp1 u).cell xlt (fun h => h) _).trans x1
            have p2 : ∀ u, (pick u).cell? ⟨pb, 2, none⟩ = some (.int .u64 (a.lo : Int)) := fun u => ((hp1 u).cell xlt (fun h => h) _).trans x2
            have pc : ∀ u, (pick u).cell? ⟨ab, ao, none⟩ = some (.pointer none) := fun u => ((hp1 u).cell clt (fun h => h) _).trans cc
            repeat (first | (refine wpR_det hp2 rfl ((hR.rel _).trans rfl) rfl ?_; intro K hK; go_big_quiet_op; go_big_quiet_on) | (refine wpR_ptr hp2 rfl ((hR.rel _).trans rfl) rfl rfl ?_; intro K hK; go_big_quiet_op; go_big_quiet_on) | (refine wpR_skip pick rfl ?_; intro K hK; go_big_quiet_op; go_big_quiet_on))
            refine wpR_rel pick rfl ((hR.rel _).trans rfl) ((hR.turns _).trans rfl) ?_ ?_
            · intro u hu
              have hk := hR.since hu.1
              have hks := hk.size
              unfold relAt
              go_simp
              refine (HBT.out u).mono ?_
              rintro e w' ⟨rfl, hb'⟩
              exact ⟨_, rfl, hR.intoB hb', hR.put 0 rfl rfl rfl⟩
            intro v hv
            obtain ⟨u, _, hu⟩ := hv
            obtain rfl := hR.get 0 rfl hu
            clear hu
            intro K hK
            go_big_quiet_op
            go_big_quiet_on
            repeat (first | (refine wpR_det hp2 rfl ((hR.rel _).trans rfl) rfl ?_; intro K hK; go_big_quiet_op; go_big_quiet_on) | (refine wpR_ptr hp2 rfl ((hR.rel _).trans rfl) rfl rfl ?_; intro K hK; go_big_quiet_op; go_big_quiet_on) | (refine wpR_skip pick rfl ?_; intro K hK; go_big_quiet_op; go_big_quiet_on))
            refine wpR_nil ?_
            intro w5 hk2 hF hM
            have HB5 := Lib.hid (HB.out.trans (hk2.below (by omega) (fun i h => h.elim)))
            clear hF hM hk2 hp1 hp2 hR p0 p1 p2 pc x0 x1 x2 x3 cc
            go_wp2_with fail
            go_roundw
            case rel => exact ⟨k + 1, _, by omega, by go_num, rfl, Lib.hid (.inr ⟨rfl, by rw [Ad.path_succ, HBV.out]; exact HN.out, by omega⟩), HB5⟩
            case measure => simp [intOf]; omega
          | some cb =>
            have cc : wr.cell? ⟨ab, ao, none⟩ = some (.pointer (some ⟨cb, 0, none⟩)) := by have := HC.out.1; rw [hN] at this; exact this
            have HN := Lib.hid hN
            clear hN
            go_upto_region 7 with fail
            refine wp_region_kept 10 [(4, fun v u => v = .int .i64 0)] ?st ?ne rfl (by kernel_rfl) (by kernel_rfl) ?_
            case st =>
              intro p hp
              simp only [List.mem_cons, List.not_mem_nil, or_false] at hp
              subst hp
              · intro v u u' h hk; exact h
            case ne =>
              intro p hp
              simp only [List.mem_cons, List.not_mem_nil, or_false] at hp
              subst hp
              · exact ⟨_, _, Kept.refl _ _, rfl⟩
            simp only [List.take_succ_cons, List.take_zero, List.drop_succ_cons, List.drop_zero]
            intro G pick hR hp1 hp2
            have p0 : ∀ u, (pick u).cell? ⟨pb, 0, none⟩ = some (.bool a.six) := fun u => ((hp1 u).cell xlt (fun h => h) _).trans x0
            have p1 : ∀ u, (pick u).cell? ⟨pb, 1, none⟩ = some (.int .u64 (a.hi : Int)) := fun u => ((hp1 u).cell xlt (fun h => h) _).trans x1
            have p2 : ∀ u, (pick u).cell? ⟨pb, 2, none⟩ = some (.int .u64 (a.lo : Int)) := fun u => ((hp1 u).cell xlt (fun h => h) _).trans x2
            have pc : ∀ u, (pick u).cell? ⟨ab, ao, none⟩ = some (.pointer (some ⟨cb, 0, none⟩)) := fun u => ((hp1 u).cell clt (fun h => h) _).trans cc
            repeat (first | (refine wpR_det hp2 rfl ((hR.rel _).trans rfl) rfl ?_; intro K hK; go_big_quiet_op; go_big_quiet_on) | (refine wpR_ptr hp2 rfl ((hR.rel _).trans rfl) rfl rfl ?_; intro K hK; go_big_quiet_op; go_big_quiet_on) | (refine wpR_skip pick rfl ?_; intro K hK; go_big_quiet_op; go_big_quiet_on))
            refine wpR_rel pick rfl ((hR.rel _).trans rfl) ((hR.turns _).trans rfl) ?_ ?_
            · intro u hu
              have hk := hR.since hu.1
              have hks := hk.size
              unfold relAt
              go_simp
              refine (HBT.out u).mono ?_
              rintro e w' ⟨rfl, hb'⟩
              exact ⟨_, rfl, hR.intoB hb', hR.put 0 rfl rfl rfl⟩
            intro v hv
            obtain ⟨u, _, hu⟩ := hv
            obtain rfl := hR.get 0 rfl hu
            clear hu
            intro K hK
            go_big_quiet_op
            go_big_quiet_on
            repeat (first | (refine wpR_det hp2 rfl ((hR.rel _).trans rfl) rfl ?_; intro K hK; go_big_quiet_op; go_big_quiet_on) | (refine wpR_ptr hp2 rfl ((hR.rel _).trans rfl) rfl rfl ?_; intro K hK; go_big_quiet_op; go_big_quiet_on) | (refine wpR_skip pick rfl ?_; intro K hK; go_big_quiet_op; go_big_quiet_on))
            refine wpR_nil ?_
            intro w5 hk2 hF hM
            have HB5 := Lib.hid (HB.out.trans (hk2.below (by omega) (fun i h => h.elim)))
            clear hF hM hk2 hp1 hp2 hR p0 p1 p2 pc x0 x1 x2 x3 cc
            go_wp2_with fail
            go_roundw
            case rel => exact ⟨k + 1, _, by omega, by go_num, rfl, Lib.hid (.inl ⟨cb, 0, rfl, by rw [Ad.path_succ, HBV.out]; exact AtN.child HN.out⟩), HB5⟩
            case measure => simp [intOf]; omega
        | true =>
          rw [show bI true = 1 from rfl] at hbit
          have HBT := Lib.hid hbit
          clear hbit
          cases hN : N a.six (a.path k ++ [true]) with
          | none =>
            have cc : wr.cell? ⟨ab, ao + 1, none⟩ = some (.pointer none) := by have := HC.out.2.1; rw [hN] at this; exact this
            have HN := Lib.hid hN
            clear hN
            go_upto_region 7 with fail
            refine wp_region_kept 10 [(4, fun v u => v = .int .i64 1)] ?st ?ne rfl (by kernel_rfl) (by kernel_rfl) ?_
            case st =>
              intro p hp
              simp only [List.mem_cons, List.not_mem_nil, or_false] at hp
              subst hp
              · intro v u u' h hk; exact h
            case ne =>
              intro p hp
              simp only [List.mem_cons, List.not_mem_nil, or_false] at hp
              subst hp
              · exact ⟨_, _, Kept.refl _ _, rfl⟩
            simp only [List.take_succ_cons, List.take_zero, List.drop_succ_cons, List.drop_zero]
            intro G pick hR hp1 hp2
            have p0 : ∀ u, (pick u).cell? ⟨pb, 0, none⟩ = some (.bool a.six) := fun u => ((hp1 u).cell xlt (fun h => h) _).trans x0
            have p1 : ∀ u, (pick u).cell? ⟨pb, 1, none⟩ = some (.int .u64 (a.hi : Int)) := fun u => ((hp1 u).cell xlt (fun h => h) _).trans x1
            have p2 : ∀ u, (pick u).cell? ⟨pb, 2, none⟩ = some (.int .u64 (a.lo : Int)) := fun u => ((hp1 u).cell xlt (fun h => h) _).trans x2
            have pc : ∀ u, (pick u).cell? ⟨ab, ao + 1, none⟩ = some (.pointer none) := fun u => ((hp1 u).cell clt (fun h => h) _).trans cc
            repeat (first | (refine wpR_det hp2 rfl ((hR.rel _).trans rfl) rfl ?_; intro K hK; go_big_quiet_op; go_big_quiet_on) | (refine wpR_ptr hp2 rfl ((hR.rel _).trans rfl) rfl rfl ?_; intro K hK; go_big_quiet_op; go_big_quiet_on) | (refine wpR_skip pick rfl ?_; intro K hK; go_big_quiet_op; go_big_quiet_on))
            refine wpR_rel pick rfl ((hR.rel _).trans rfl) ((hR.turns _).trans rfl) ?_ ?_
            · intro u hu
              have hk := hR.since hu.1
              have hks := hk.size
              unfold relAt
              go_simp
              refine (HBT.out u).mono ?_
              rintro e w' ⟨rfl, hb'⟩
              exact ⟨_, rfl, hR.intoB hb', hR.put 0 rfl rfl rfl⟩
            intro v hv
            obtain ⟨u, _, hu⟩ := hv
            obtain rfl := hR.get 0 rfl hu
            clear hu
            intro K hK
            go_big_quiet_op
            go_big_quiet_on
            repeat (first | (refine wpR_det hp2 rfl ((hR.rel _).trans rfl) rfl ?_; intro K hK; go_big_quiet_op; go_big_quiet_on) | (refine wpR_ptr hp2 rfl ((hR.rel _).trans rfl) rfl rfl ?_; intro K hK; go_big_quiet_op; go_big_quiet_on) | (refine wpR_skip pick rfl ?_; intro K hK; go_big_quiet_op; go_big_quiet_on))
            refine wpR_nil ?_
            intro w5 hk2 hF hM
            have HB5 := Lib.hid (HB.out.trans (hk2.below (by omega) (fun i h => h.elim)))
            clear hF hM hk2 hp1 hp2 hR p0 p1 p2 pc x0 x1 x2 x3 cc
            go_wp2_with fail
            go_roundw
            case rel => exact ⟨k + 1, _, by omega, by go_num, rfl, Lib.hid (.inr ⟨rfl, by rw [Ad.path_succ, HBV.out]; exact HN.out, by omega⟩), HB5⟩
            case measure => simp [intOf]; omega
          | some cb =>
            have cc : wr.cell? ⟨ab, ao + 1, none⟩ = some (.pointer (some ⟨cb, 0, none⟩)) := by have := HC.out.2.1; rw [hN] at this; exact this
            have HN := Lib.hid hN
            clear hN
            go_upto_region 7 with fail
            refine wp_region_kept 10 [(4, fun v u => v = .int .i64 1)] ?st ?ne rfl (by kernel_rfl) (by kernel_rfl) ?_
            case st =>
              intro p hp
              simp only [List.mem_cons, List.not_mem_nil, or_false] at hp
              subst hp
              · intro v u u' h hk; exact h
            case ne =>
              intro p hp
              simp only [List.mem_cons, List.not_mem_nil, or_false] at hp
              subst hp
              · exact ⟨_, _, Kept.refl _ _, rfl⟩
            simp only [List.take_succ_cons, List.take_zero, List.drop_succ_cons, List.drop_zero]
            intro G pick hR hp1 hp2
            have p0 : ∀ u, (pick u).cell? ⟨pb, 0, none⟩ = some (.bool a.six) := fun u => ((hp1 u).cell xlt (fun h => h) _).trans x0
            have p1 : ∀ u, (pick u).cell? ⟨pb, 1, none⟩ = some (.int .u64 (a.hi : Int)) := fun u => ((hp1 u).cell xlt (fun h => h) _).trans x1
            have p2 : ∀ u, (pick u).cell? ⟨pb, 2, none⟩ = some (.int .u64 (a.lo : Int)) := fun u => ((hp1 u).cell xlt (fun h => h) _).trans x2
            have pc : ∀ u, (pick u).cell? ⟨ab, ao + 1, none⟩ = some (.pointer (some ⟨cb, 0, none⟩)) := fun u => ((hp1 u).cell clt (fun h => h) _).trans cc
            repeat (first | (refine wpR_det hp2 rfl ((hR.rel _).trans rfl) rfl ?_; intro K hK; go_big_quiet_op; go_big_quiet_on) | (refine wpR_ptr hp2 rfl ((hR.rel _).trans rfl) rfl rfl ?_; intro K hK; go_big_quiet_op; go_big_quiet_on) | (refine wpR_skip pick rfl ?_; intro K hK; go_big_quiet_op; go_big_quiet_on))
            refine wpR_rel pick rfl ((hR.rel _).trans rfl) ((hR.turns _).trans rfl) ?_ ?_
            · intro u hu
              have hk := hR.since hu.1
              have hks := hk.size
              unfold relAt
              go_simp
              refine (HBT.out u).mono ?_
              rintro e w' ⟨rfl, hb'⟩
              exact ⟨_, rfl, hR.intoB hb', hR.put 0 rfl rfl rfl⟩
            intro v hv
            obtain ⟨u, _, hu⟩ := hv
            obtain rfl := hR.get 0 rfl hu
            clear hu
            intro K hK
            go_big_quiet_op
            go_big_quiet_on
            repeat (first | (refine wpR_det hp2 rfl ((hR.rel _).trans rfl) rfl ?_; intro K hK; go_big_quiet_op; go_big_quiet_on) | (refine wpR_ptr hp2 rfl ((hR.rel _).trans rfl) rfl rfl ?_; intro K hK; go_big_quiet_op; go_big_quiet_on) | (refine wpR_skip pick rfl ?_; intro K hK; go_big_quiet_op; go_big_quiet_on))
            refine wpR_nil ?_
            intro w5 hk2 hF hM
            have HB5 := Lib.hid (HB.out.trans (hk2.below (by omega) (fun i h => h.elim)))
            clear hF hM hk2 hp1 hp2 hR p0 p1 p2 pc x0 x1 x2 x3 cc
            go_wp2_with fail
            go_roundw
            case rel => exact ⟨k + 1, _, by omega, by go_num, rfl, Lib.hid (.inl ⟨cb, 0, rfl, by rw [Ad.path_succ, HBV.out]; exact AtN.child HN.out⟩), HB5⟩
            case measure => simp [intOf]; omega
      · obtain rfl : k = m := by omega
        have kI : ¬ (k : Int) < (k : Int) := by omega
        obtain ⟨hh, hhe⟩ : ∃ h, H a.six (a.path k) = h := ⟨_, rfl⟩
        have c2 : wr.cell? ⟨ab, ao + 2, none⟩ = some (.bool hh) := by rw [← hhe]; exact HC.out.2.2.1
        have HHE := Lib.hid hhe
        clear hhe
        cases hh with
        | false =>
          go_wp2_with fail
          go_ret
          exact ⟨.inl ⟨HHE.out, rfl⟩, by rw [HPB.out]; exact HB0.out.trans (HB.out.mono (by omega))⟩
        | true =>
          go_wp2_with fail
          go_ret
          exact ⟨.inr ⟨HHE.out, ab, ao, rfl, HA.out⟩, by rw [HPB.out]; exact HB0.out.trans (HB.out.mono (by omega))⟩
    · have HHE := Lib.hid (show H a.six (a.path m) = false from by
        have := (HT0.out.deep hk0 hNk m hk).1
        exact HT0.out.has _ _ (fun e => by have := congrArg List.length e; rw [Ad.path_len] at this; simp at this; omega) this)
      clear hNk HP
      by_cases hkm : k < m
      · have kI : (k : Int) < (m : Int) := by omega
        go_wp2_with fail
        go_ret
        exact ⟨.inl ⟨HHE.out, rfl⟩, by rw [HPB.out]; exact HB0.out.trans (HB.out.mono (by omega))⟩
      · have kI : ¬ (k : Int) < (m : Int) := by omega
        go_wp2_with fail
        go_ret
        exact ⟨.inl ⟨HHE.out, rfl⟩, by rw [HPB.out]; exact HB0.out.trans (HB.out.mono (by omega))⟩
def GetP (o : Option Int) (w : World) (e : Ending) (w' : World) : Prop := e = .returned (.tuple #[.int .i64 (o.getD 0), .bool o.isSome]) ∧ Below w.heap.size w w'
set_option maxHeartbeats 4000000 in
theorem get_yes (tb base : Nat) (M : Bool → Path → Option Int) (sz : Int) (a : Ad) (m : Nat) (w : World) (hw : a.wf) (hP : rightP a (m : Int)) (hm : m ≤ a.bits) (hT : TabS tb base M sz w) :
    Calls Try.prog 19 #[.pointer (some ⟨tb, 0, none⟩), .agg #[.bool a.six, .int .u64 (a.hi : Int), .int .u64 (a.lo : Int), .int .i64 (m : Int)]] w (GetP (M a.six (a.path m)) w) := by
  obtain ⟨N, H, V, hT, rfl⟩ := hT
  have HSK := Lib.hid (fun u (h : Tri tb base N H V sz u) => seek_yes tb base N H V sz a m u hw hP hm h)
  have HT := Lib.hid hT
  clear hw hP hm hT
  go_enter Try.func19, Try.ntmps19
  go_wp2_with fail
  refine (HSK.out _ (HT.out.onB bel1)).mono ?_
  rintro e w1 ⟨hs, hb1⟩
  have HT1 := Lib.hid ((HT.out.onB bel1).onB hb1)
  have HB1 := Lib.hid (show Below w.heap.size w w1 from bel1.trans (hb1.mono (by simp)))
  clear hb1
  rcases hs with ⟨hH, rfl⟩ | ⟨hH, ab, ao, rfl, hA⟩
  · have HO := Lib.hid (show mapOf H V a.six (a.path m) = none by unfold mapOf; rw [hH]; rfl)
    clear hH
    go_wp2_with fail
    go_ret2
    exact ⟨by rw [HO.out]; rfl, HB1.out⟩
  · have HO := Lib.hid (show mapOf H V a.six (a.path m) = some (V a.six (a.path m)) by unfold mapOf; rw [hH]; rfl)
    have HC := Lib.hid (HT1.out.cells hA)
    obtain ⟨vv, hvv⟩ : ∃ v, V a.six (a.path m) = v := ⟨_, rfl⟩
    have c3 : w1.cell? ⟨ab, ao + 3, none⟩ = some (.int .i64 vv) := by rw [← hvv]; exact HC.out.2.2.2.1
    rw [hvv] at HO
    have clt := HC.out.2.2.2.2.2.1
    clear hH hA hvv
    go_wp2_with fail
    go_ret2
    exact ⟨by rw [HO.out]; rfl, HB1.out⟩
end Go.Proofs.Ytchgbdghllkcpaa
