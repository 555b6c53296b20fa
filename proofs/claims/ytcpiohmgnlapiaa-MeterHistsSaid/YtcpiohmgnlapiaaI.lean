/- The law MeterHists, walked. -/
import Derived.Test.YtcpiohmgnlapiaaH
import Derived.Test.YtcpiohmgnlapiaaRgRow
namespace Go.Proofs.Ytcpiohmgnlapiaa
open Go.RowKit
set_option linter.unusedVariables false

theorem NS.src {w : World} {B : Nat} {A : Option Addr} {k : IntKind} {l : List Int} (h : NS w B A k l) : Src w A (l.map (Value.int k)) := by
  rcases h with rfl | ⟨b, o, _, rfl, h2⟩
  · exact .inl rfl
  · refine .inr ⟨_, rfl, fun j u hu => ?_⟩
    rw [List.getElem?_map] at hu
    obtain ⟨x, hx, rfl⟩ := Option.map_eq_some_iff.1 hu
    obtain ⟨hj, rfl⟩ := List.getElem?_eq_some_iff.1 hx
    rw [Addr.add_lit]
    exact h2 j hj
theorem Row.ns {w : World} {base e : Nat} {k : IntKind} {v : Value} {l : List Int} (h : Row w base e v (l.map (Value.int k))) : ∃ A c, v = .slice A l.length c ∧ NS w w.heap.size A k l := by
  obtain ⟨A, c, hv, h1, h2⟩ := h.shape
  rw [List.length_map] at hv
  refine ⟨A, c, hv, ?_⟩
  by_cases h0 : l = []
  · exact .inl h0
  · obtain ⟨g, c', hv', _, hlt, hel⟩ := h.at (i := 0) (by simpa using List.length_pos_iff.2 h0)
    rw [hv] at hv'
    injection hv' with e1 _ _
    refine .inr ⟨g, 0, hlt, e1, fun j hj => ?_⟩
    rw [Nat.zero_add, hel j (by simpa using hj)]
    simp
theorem one_nums (k : IntKind) (l : List Int) : ∀ u ∈ l.map (Value.int k), u.oneCell' = true := by
  intro u hu; obtain ⟨_, _, rfl⟩ := List.mem_map.1 hu; rfl
theorem Try.info29h : (Try.prog.info? 29).map (fun i => (i.zero, i.size, i.bytes)) = some (some (.int .u64 0), 1, 8) := by kernel_rfl

theorem zero45 (w : World) : (zeroValue 45).run Try.prog w = .ok (.agg (hv (cnt []))) w := by kernel_rfl
set_option maxRecDepth 100000 in
theorem hists_long (A C : Option Addr) (n c m d : Nat) (p : Int) (w : World) (h : 100 < n ∨ (n ≤ 100 ∧ 100 < m)) (hn : n ≤ maxLen) (hm : m ≤ maxLen) :
    Calls Try.prog 5 #[.slice A n c, .slice C m d, .int .i64 p] w fun e w' => e = .returned (.bool true) ∧ Below w.heap.size w w' := by
  unfold maxLen at hn hm
  rcases h with h | ⟨h, h'⟩
  all_goals
    go_enter Try.func5, Try.ntmps5
    go_wp2_with fail
    refine (awake_any w).mono ?_
    rintro e w1 ⟨rfl, hb1⟩
    have hs1 := hb1.size
    have HB1 := Lib.hid hb1
    clear hb1
    go_wp2_with fail
    refine (awake_any w1).mono ?_
    rintro e w2 ⟨rfl, hb2⟩
    have HB2 := Lib.hid hb2
    clear hb2
    go_wp2_with fail
    go_ret
    exact ⟨rfl, HB1.out.trans (HB2.out.mono hs1)⟩

set_option maxRecDepth 100000 in
set_option maxHeartbeats 2000000 in
theorem hists_any (A C : Option Addr) (c d : Nat) (l m : List Int) (p : Int) (w : World) (hl : l.length ≤ 100) (hm : m.length ≤ 100) (hrl : ∀ x ∈ l, 0 ≤ x ∧ x < 18446744073709551616) (hrm : ∀ x ∈ m, 0 ≤ x ∧ x < 18446744073709551616)
    (hA : NS w w.heap.size A .u64 l) (hC : NS w w.heap.size C .u64 m) :
    Calls Try.prog 5 #[.slice A l.length c, .slice C m.length d, .int .i64 p] w fun e w' => e = .returned (.bool true) ∧ Below w.heap.size w w' := by
  have HA := Lib.hid hA
  have HC := Lib.hid hC
  have HRL := Lib.hid hrl
  have HRM := Lib.hid hrm
  have h29 := Try.info29h
  have hz45 := zero45
  clear hA hC hrl hrm
  go_enter Try.func5, Try.ntmps5
  go_wp2_with fail
  refine (awake_any w).mono ?_
  rintro e w1 ⟨rfl, hb1⟩
  have hs1 := hb1.size
  have HB1 := Lib.hid hb1
  clear hb1
  go_wp2_with fail
  go_loopw [9] (fun i wr => ∃ k : Nat, k ≤ l.length ∧ i = .int .i64 (k : Int) ∧ Hid (Blk wr w1.heap.size 45 (hv (cnt (l.take k)))) ∧ Hid (Blk wr (w1.heap.size + 1) 45 (hv (cnt []))) ∧ Hid (Kept (fun i => w1.heap.size ≤ i) w1 wr)) (fun i _ => l.length - (intOf i).toNat)
  case atStart => exact ⟨0, by omega, rfl, Lib.hid ((Blk.new _ _ _).alloc _), Lib.hid (Blk.new_ (by simp) _ _), Lib.hid (((Kept.refl _ _).alloc _).alloc _)⟩
  case round =>
    obtain ⟨k, hk, rfl, HBA, HBB, HK⟩ := hrel
    have hsr := HK.out.size
    have lA := HBA.out.lt
    have lB := HBB.out.lt
    by_cases hkl : k < l.length
    · obtain ⟨b, o, hb, rfl, hca⟩ := ((HA.out.below HB1.out).keep (fun b o hb => HK.out.cell (by omega) (by omega) o)).at hkl
      have c1 := hca k hkl
      have hx := HRL.out l[k] (List.getElem_mem hkl)
      have hcr := cnt_range (l.take k) (bl l[k].toNat)
      rw [List.length_take] at hcr
      have HAD := Lib.hid (add_any w1.heap.size (cnt (l.take k)) l[k] wr hx.1 hx.2 (by omega) (by omega) HBA.out)
      have HS := Lib.hid (show cnt (l.take (k + 1)) = upd (cnt (l.take k)) (bl l[k].toNat) (cnt (l.take k) (bl l[k].toNat) + 1) by rw [List.take_succ_eq_append_getElem hkl, cnt_snoc])
      have hkI : (k : Int) < (l.length : Int) := by omega
      have blt : b < wr.heap.size := by omega
      clear hca hcr
      generalize l[k] = x at *
      go_wp2_with fail
      refine HAD.out.mono ?_
      rintro e w2 ⟨⟨v, rfl⟩, hB2, hK2⟩
      have HB2 := Lib.hid hB2
      have HBB2 := Lib.hid (HBB.out.kept hK2 (by omega))
      have HK2 := Lib.hid (HK.out.then hK2 (fun i _ h => by omega))
      clear hB2 hK2
      go_wp2_with fail
      go_roundw
      case rel => exact ⟨k + 1, by omega, by go_num, Lib.hid (by rw [HS.out]; exact HB2.out), HBB2, HK2⟩
      case measure => simp [intOf]; omega
    · obtain rfl : k = l.length := by omega
      rw [List.take_length] at HBA
      go_wp2_with fail
      obtain ⟨w2, hw2⟩ : ∃ w2 : World, w2 = wr := ⟨_, rfl⟩
      subst hw2
      go_loopw [10] (fun i wr => ∃ k : Nat, k ≤ m.length ∧ i = .int .i64 (k : Int) ∧ Hid (Blk wr w1.heap.size 45 (hv (cnt l))) ∧ Hid (Blk wr (w1.heap.size + 1) 45 (hv (cnt (m.take k)))) ∧ Hid (Kept (fun i => w1.heap.size ≤ i) w1 wr)) (fun i _ => m.length - (intOf i).toNat)
      case atStart => exact ⟨0, by omega, rfl, HBA, HBB, HK⟩
      case round =>
        clear HBA HBB HK hsr lA lB
        obtain ⟨k, hk, rfl, HBA, HBB, HK⟩ := hrel
        have hsr := HK.out.size
        have lA := HBA.out.lt
        have lB := HBB.out.lt
        by_cases hkl : k < m.length
        · obtain ⟨b, o, hb, rfl, hca⟩ := ((HC.out.below HB1.out).keep (fun b o hb => HK.out.cell (by omega) (by omega) o)).at hkl
          have c1 := hca k hkl
          have hx := HRM.out m[k] (List.getElem_mem hkl)
          have hcr := cnt_range (m.take k) (bl m[k].toNat)
          rw [List.length_take] at hcr
          have HAD := Lib.hid (add_any (w1.heap.size + 1) (cnt (m.take k)) m[k] wr hx.1 hx.2 (by omega) (by omega) HBB.out)
          have HS := Lib.hid (show cnt (m.take (k + 1)) = upd (cnt (m.take k)) (bl m[k].toNat) (cnt (m.take k) (bl m[k].toNat) + 1) by rw [List.take_succ_eq_append_getElem hkl, cnt_snoc])
          have hkI : (k : Int) < (m.length : Int) := by omega
          have blt : b < wr.heap.size := by omega
          clear hca hcr
          generalize m[k] = x at *
          go_wp2_with fail
          refine HAD.out.mono ?_
          rintro e w3 ⟨⟨v, rfl⟩, hB2, hK2⟩
          have HB2 := Lib.hid hB2
          have HBB2 := Lib.hid (HBA.out.kept hK2 (by omega))
          have HK2 := Lib.hid (HK.out.then hK2 (fun i _ h => by omega))
          clear hB2 hK2
          go_wp2_with fail
          go_roundw
          case rel => exact ⟨k + 1, by omega, by go_num, HBB2, Lib.hid (by rw [HS.out]; exact HB2.out), HK2⟩
          case measure => simp [intOf]; omega
        · obtain rfl : k = m.length := by omega
          rw [List.take_length] at HBB
          go_wp2_with fail
          obtain ⟨w3, hw3⟩ : ∃ w3 : World, w3 = wr.alloc (.cells #[.int .i64 p, .int .i64 0, .int .i64 50, .int .i64 99, .int .i64 100] 3) := ⟨_, rfl⟩
          have HP := Lib.hid (show Blk w3 wr.heap.size 3 #[.int .i64 p, .int .i64 0, .int .i64 50, .int .i64 99, .int .i64 100] by rw [hw3]; exact Blk.new _ _ _)
          have HBA3 := Lib.hid (show Blk w3 w1.heap.size 45 (hv (cnt l)) by rw [hw3]; exact HBA.out.alloc _)
          have HBB3 := Lib.hid (show Blk w3 (w1.heap.size + 1) 45 (hv (cnt m)) by rw [hw3]; exact HBB.out.alloc _)
          have HK3 := Lib.hid (show Kept (fun i => w1.heap.size ≤ i) w1 w3 by rw [hw3]; exact HK.out.alloc _)
          have hs3 : wr.heap.size < w3.heap.size := HP.out.lt
          rw [← hw3]
          clear hw3 HBA HBB HK
          go_loop [12, 13, 14, 15, 16, 66] (fun _ _ _ _ _ i => ∃ k : Nat, k ≤ 5 ∧ i = .int .i64 (k : Int)) (fun _ _ _ _ _ i => 5 - (intOf i).toNat)
          case atStart => exact ⟨0, by omega, rfl⟩
          case round =>
            obtain ⟨k, hk5, rfl⟩ := hrel
            by_cases hk : k < 5
            · obtain ⟨x, hx⟩ : ∃ x, w3.cell? ⟨wr.heap.size, k, none⟩ = some (.int .i64 x) := by
                rw [HP.out.cell]
                have h5 : k = 0 ∨ k = 1 ∨ k = 2 ∨ k = 3 ∨ k = 4 := by omega
                rcases h5 with rfl | rfl | rfl | rfl | rfl <;> exact ⟨_, rfl⟩
              have hkI : (k : Int) < 5 := by omega
              go_wp2_with fail
              refine (below_any w1.heap.size l x w3 (by omega) HRL.out HBA3.out).mono ?_
              rintro e w4 ⟨rfl, rfl⟩
              go_wp2_with fail
              refine (refBelow_any A c l x w3 (by omega) HRL.out (((HA.out.below HB1.out).keep (fun b o hb => HK3.out.cell (by omega) (by omega) o)).more (by omega))).mono ?_
              rintro e w4 ⟨rfl, rfl⟩
              go_wp2_with fail
              go_round
              case rel => exact ⟨k + 1, by omega, by go_num⟩
              case measure => simp [intOf]; omega
            · obtain rfl : k = 5 := by omega
              go_wp2_with fail
              have HJ := Lib.hid (join_any w1.heap.size (w1.heap.size + 1) (cnt l) (cnt m) w3 (fun k => by have := cnt_range l k; omega) (fun k => by have := cnt_range m k; omega) HBA3.out HBB3.out (by omega))
              refine HJ.out.mono ?_
              rintro e w4 ⟨⟨v4, rfl⟩, hB4, hK4⟩
              rw [hv_jn] at hB4
              have hs4 := hK4.size
              have HBA4 := Lib.hid hB4
              have HBB4 := Lib.hid (HBB3.out.kept hK4 (by omega))
              have HK4 := Lib.hid (HK3.out.then hK4 (fun i _ h => by omega))
              clear hB4 hK4 HJ HBA3 HBB3 HK3 HP
              have HLM := Lib.hid (show (l ++ m).length = l.length + m.length by simp)
              have HRLM := Lib.hid (show ∀ x ∈ l ++ m, 0 ≤ x ∧ x < 18446744073709551616 from fun x hx => by
                rcases List.mem_append.1 hx with h | h
                · exact HRL.out x h
                · exact HRM.out x h)
              go_wp2_with fail
              refine (below_any w1.heap.size (l ++ m) p w4 (by rw [HLM.out]; omega) HRLM.out HBA4.out).mono ?_
              rintro e w5 ⟨rfl, rfl⟩
              have HL4 := Lib.hid (((HA.out.below HB1.out).keep (fun b o hb => HK4.out.cell (by omega) (by omega) o)).more (B' := w4.heap.size) (by omega))
              have HM4 := Lib.hid (((HC.out.below HB1.out).keep (fun b o hb => HK4.out.cell (by omega) (by omega) o)).more (B' := w4.heap.size) (by omega))
              go_wp2_with (at_builtin; refine wpList_append_row rfl (.tmp 101) (.tmp 102) 30 rfl w4.heap.size 29 (.int .u64 0) 8 Try.underlying30 h29 rfl _ [] rfl A l.length c (l.map (Value.int .u64)) rfl ?a0 ?a1 ?a2 (one_nums _ _) ?a3 ?a4 ?a5 ?_)
              case a0 => simp
              case a1 => exact Row.of_blk (cs := #[]) (Blk.new_ rfl _ _) (Nat.le_refl _) (by simp) rfl
              case a2 => exact (HL4.out.keep (fun b o hb => World.cell?_alloc_lt _ _ _ hb)).src
              case a3 => simp; unfold maxLen; omega
              case a4 => simp; omega
              case a5 => simp
              intro v5 w5 hrow5 hg5 _
              have hs5 : w4.heap.size ≤ w5.heap.size := by have := hg5.size; simp at this; omega
              have hk5 : Kept (fun i => w4.heap.size ≤ i) w4 w5 := ((Kept.refl _ _).alloc _).then (kept_grown (S := fun i => w4.heap.size ≤ i) hg5 (fun i e _ => by simp [Value.ownBlock] at e; omega)) (fun _ _ h => h)
              replace hrow5 : Row w5 w4.heap.size 29 v5 (l.map (Value.int .u64)) := hrow5
              have HR5 := Lib.hid hrow5
              have HK5 := Lib.hid hk5
              obtain ⟨A5, c5, hv5, _⟩ := Row.shape hrow5
              rw [List.length_map] at hv5
              subst hv5
              have HO5 := Lib.hid (fun i e => (hrow5.lt i e).1)
              clear hrow5 hg5 hk5
              go_wp2_with (at_builtin; refine wpList_append_row rfl (.tmp 103) (.tmp 104) 30 rfl w4.heap.size 29 (.int .u64 0) 8 Try.underlying30 h29 rfl _ (l.map (Value.int .u64)) rfl C m.length d (m.map (Value.int .u64)) rfl ?b0 HR5.out ?b2 (one_nums _ _) ?b3 ?b4 hs5 ?_)
              case b0 => simp
              case b2 => exact (HM4.out.kept HK5.out (Nat.le_refl _) (fun i hi h => by omega)).src
              case b3 => simp; unfold maxLen; omega
              case b4 => simp; omega
              intro v6 w6 hrow6 hg6 _
              rw [← List.map_append] at hrow6
              obtain ⟨A6, c6, hv6, hns6⟩ := hrow6.ns
              rw [HLM.out] at hv6
              subst hv6
              have hs6 : w4.heap.size ≤ w6.heap.size := by have := hg6.size; omega
              have HK6 := Lib.hid (HK5.out.then (kept_grown (S := fun i => w4.heap.size ≤ i) hg6 (fun i e _ => HO5.out i e)) (fun _ _ h => h))
              have HN6 := Lib.hid hns6
              have HBA6 := Lib.hid (HBA4.out.kept HK6.out (by have := HBA4.out.lt; omega))
              have HBB6 := Lib.hid (HBB4.out.kept HK6.out (by have := HBB4.out.lt; omega))
              have HK6' := Lib.hid (HK4.out.then HK6.out (fun i _ h => by omega))
              clear hrow6 hg6 hns6 HO5 HR5
              go_wp2_with fail
              have hz := refBelow_any A6 c6 (l ++ m) p w6 (by rw [HLM.out]; omega) HRLM.out HN6.out
              rw [HLM.out] at hz
              have HZ := Lib.hid hz
              clear hz
              refine HZ.out.mono ?_
              rintro e w7 ⟨rfl, rfl⟩
              go_wp2_with fail
              refine (add_nil 1 w6).mono ?_
              rintro e w7 ⟨⟨v7, rfl⟩, rfl⟩
              go_wp2_with fail
              refine (join_nil none _ w6 rfl).mono ?_
              rintro e w7 ⟨⟨v8, rfl⟩, rfl⟩
              go_wp2_with fail
              refine (below_nil 50 w6).mono ?_
              rintro e w7 ⟨rfl, rfl⟩
              have HT1 := Lib.hid (total_any w1.heap.size (cnt (l ++ m)) w6 (fun k => by have := psum_range (l ++ m) k; rw [HLM.out] at this; omega) (fun k => by have := cnt_range (l ++ m) k; rw [HLM.out] at this; omega) HBA6.out)
              have HT2 := Lib.hid (total_any (w1.heap.size + 1) (cnt m) w6 (fun k => by have := psum_range m k; omega) (fun k => by have := cnt_range m k; omega) HBB6.out)
              rw [psum_all _ HRLM.out, HLM.out] at HT1
              rw [psum_all _ HRM.out] at HT2
              rw [show ((l.length + m.length : Nat) : Int) = (l.length : Int) + (m.length : Int) by omega] at HT1
              go_wp2_with fail
              refine HT1.out.mono ?_
              rintro e w7 ⟨rfl, rfl⟩
              go_wp2_with fail
              refine HT2.out.mono ?_
              rintro e w7 ⟨rfl, rfl⟩
              go_wp2_with fail
              refine (total_nil w6).mono ?_
              rintro e w7 ⟨rfl, rfl⟩
              go_wp2_with fail
              refine (awake_any w6).mono ?_
              rintro e w7 ⟨rfl, hb7⟩
              have HB7 := Lib.hid hb7
              clear hb7
              go_wp2_with fail
              go_ret
              exact ⟨rfl, (HB1.out.trans (HK6'.out.below (by omega) (fun i h => by omega))).trans (HB7.out.mono (by omega))⟩
end Go.Proofs.Ytcpiohmgnlapiaa
