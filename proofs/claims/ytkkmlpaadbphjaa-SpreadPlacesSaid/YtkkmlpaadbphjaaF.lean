/- Contract of the reference's Without. -/
import Derived.Test.YtkkmlpaadbphjaaE
namespace Go.Proofs.Ytkkmlpaadbphjaa
open Go.RowKit
set_option linter.unusedVariables false

theorem Nms.cast {w : World} {v : Value} {l m : List Int} (h : Nms w v l) (e : l = m) : Nms w v m := e ▸ h
/-- The value v does not lie at or below block g. -/
def Above (g : Nat) (v : Value) : Prop := ∀ b, v.ownBlock = some b → g < b
theorem Above.next {g h : Nat} {v v1 : Value} (ha : Above g v) (hg : g < h) (e : v1.ownBlock = v.ownBlock ∨ v1.ownBlock = some h) : Above g v1 := by
  intro b hb
  rcases e with e | e
  · exact ha b (by rw [← e]; exact hb)
  · rw [e] at hb; injection hb with hb; omega

set_option maxRecDepth 100000 in
set_option maxHeartbeats 2000000 in
theorem refWithout_any (A C : Option Addr) (c d : Nat) (t ts : List Int) (gone : Int) (w : World) (htl : t.length ≤ 1000000) (htsl : ts.length ≤ 1000000) (hA : NS w w.heap.size A .i64 t) (hC : NS w w.heap.size C .i64 ts) :
    Calls Try.prog 14 #[.slice A t.length c, .int .i64 gone, .slice C ts.length d] w fun e w' => (∃ v r, e = .returned (.tuple #[v, .bool r]) ∧ (others ts gone = [] ∧ r = false ∧ v = .slice none 0 0 ∨ others ts gone ≠ [] ∧ r = true ∧ Nms w' v (rep t gone (others ts gone)))) ∧ Below w.heap.size w w' := by
  have HA := Lib.hid hA
  have HC := Lib.hid hC
  have h5 := Try.info3
  clear hA hC
  go_enter Try.func14, Try.ntmps14
  go_wp2_with fail
  go_loopw [8, 9] (fun v i wr => ∃ k : Nat, k ≤ ts.length ∧ i = .int .i64 (k : Int) ∧ Hid (Row wr w.heap.size 3 v (is (others (ts.take k) gone))) ∧ Hid (Below w.heap.size w wr)) (fun _ i _ => ts.length - (intOf i).toNat)
  case atStart => exact ⟨0, by omega, rfl, Lib.hid (Row.nil _ _ _), Lib.hid (Below.refl _ _)⟩
  case round =>
    obtain ⟨k, hk, rfl, HR, HB⟩ := hrel
    have hsw := HB.out.size
    have hol := others_le ts gone k hk
    obtain ⟨vA, vc, hve, _⟩ := HR.out.shape
    subst hve
    have HTL := Lib.hid (is_length (others (ts.take k) gone))
    by_cases hlt : k < ts.length
    · obtain ⟨b, o, hb, rfl, hca⟩ := (HC.out.below HB.out).at hlt
      have c1 := hca k hlt
      have HST := Lib.hid (others_take ts gone k hlt)
      generalize ts[k] = x at c1 HST
      have kI : (k : Int) < (ts.length : Int) := by omega
      have hbw : b < wr.heap.size := by omega
      clear hca
      by_cases hx : x = gone
      · have hx' : ((x : Int) != gone) = false := by rw [hx]; simp
        have HST2 := Lib.hid (show others (ts.take (k + 1)) gone = others (ts.take k) gone by rw [HST.out, if_pos hx, List.append_nil])
        clear hx
        go_wp2_with fail
        go_roundw
        case rel => exact ⟨k + 1, by omega, by go_num, by rw [HST2.out]; exact HR, HB⟩
        case measure => simp [intOf]; omega
      · have hx' : ((x : Int) != gone) = true := bne_iff_ne.2 hx
        have HST2 := Lib.hid (show others (ts.take (k + 1)) gone = others (ts.take k) gone ++ [x] by rw [HST.out, if_neg hx])
        clear hx
        go_wp2_with (at_builtin; refine wpList_append_row rfl (.tmp 26) (.tmp 31) 27 rfl w.heap.size 3 (.int .i64 0) 8 Try.underlying27 h5 rfl _ (is (others (ts.take k) gone)) rfl (some ⟨wr.heap.size, 0, none⟩) 1 1 [.int .i64 x] rfl rfl (HR.out.alloc _) ?a2 (one_one _ rfl) ?a3 ?a4 ?a5 ?_)
        case a2 => exact Src.new _ _ _ rfl
        case a3 => rw [HTL.out]; unfold maxLen; simp; omega
        case a4 => rw [HTL.out]; simp; omega
        case a5 => simp; omega
        intro v1 w1 hrow hgr _
        have HR1 := Lib.hid (show Row w1 w.heap.size 3 v1 (is (others (ts.take (k + 1)) gone)) by rw [HST2.out, is_append]; exact hrow)
        have HB1 := Lib.hid ((HB.out.alloc hsw (.cells #[.int .i64 x] 3)).trans (below_grown hgr (fun i e => (HR.out.lt i e).1) (by simp; omega)))
        clear hrow hgr
        go_wp2_with fail
        go_roundw
        case rel => exact ⟨k + 1, by omega, by go_num, HR1, HB1⟩
        case measure => simp [intOf]; omega
    · obtain rfl : k = ts.length := by omega
      have hRr := HR.out
      rw [List.take_of_length_le (Nat.le_refl _)] at hRr hol HTL ⊢
      obtain ⟨left, hleft⟩ : ∃ left, others ts gone = left := ⟨_, rfl⟩
      rw [hleft] at hRr hol HTL ⊢
      have HL := Lib.hid hleft
      have HRr := Lib.hid hRr
      rw [HTL.out]
      clear hleft hRr
      rcases Nat.eq_zero_or_pos left.length with h0 | h0
      · rw [h0]
        clear hol HTL
        obtain rfl : left = [] := List.eq_nil_of_length_eq_zero h0
        go_wp2_with fail
        go_ret2
        exact ⟨⟨_, _, rfl, .inl ⟨HL.out, rfl, rfl⟩⟩, HB.out⟩
      · have l0 : ((left.length : Int) == 0) = false := beq_eq_false_iff_ne.2 (by omega)
        obtain ⟨g2, c2, he2, hg2b, hg2, _⟩ := HRr.out.at (i := 0) (by rw [HTL.out]; exact h0)
        rw [HTL.out] at he2
        injection he2 with he3 _ he4
        subst he3 he4
        have hlN : left ≠ [] := List.length_pos_iff.1 h0
        go_wp2_with fail
        go_loopw [10, 11, 12, 13] (fun v n i _ wx => ∃ k : Nat, k ≤ t.length ∧ i = .int .i64 (k : Int) ∧ n = .int .i64 (cnt (t.take k) gone : Int) ∧ Hid (Row wx w.heap.size 3 v (is ((rep t gone left).take k))) ∧ Hid (Row wx w.heap.size 3 (.slice (some ⟨g2, 0, none⟩) left.length vc) (is left)) ∧ Hid (Above g2 v) ∧ Hid (Below w.heap.size w wx)) (fun _ _ i _ _ => t.length - (intOf i).toNat)
        case atStart => exact ⟨0, by omega, rfl, rfl, Lib.hid (Row.nil _ _ _), by have := HRr.out; rw [HTL.out] at this; exact Lib.hid this, Lib.hid (fun b hb => by cases hb), HB⟩
        case round =>
          clear HB
          obtain ⟨k, hk, rfl, rfl, HRS, HRL, HAB, HB⟩ := hrel
          have hsw' := HB.out.size
          have hcl := cnt_le t gone k
          obtain ⟨vA, vc', hve, _⟩ := HRS.out.shape
          subst hve
          have HTL2 := Lib.hid (show (is ((rep t gone left).take k)).length = k by rw [is_length, List.length_take, rep_length]; omega)
          obtain ⟨g', cap', e', _, hg2l, hcc⟩ := HRL.out.at (i := 0) (by rw [is_length]; exact h0)
          obtain rfl : g2 = g' := by injection e' with e'; injection e' with e'; injection e'
          clear e'
          by_cases hlt : k < t.length
          · obtain ⟨b, o, hb, rfl, hca⟩ := (HA.out.below HB.out).at hlt
            have c1 := hca k hlt
            have HST := Lib.hid (rep_take t gone left k hlt)
            have HCT := Lib.hid (cnt_take t gone k hlt)
            have HRY := Lib.hid (fun h => repAt_yes t gone left k hlt h h0)
            have HRN := Lib.hid (repAt_no t gone left k hlt)
            generalize t[k] = x at c1 HCT HRY HRN
            have kI : (k : Int) < (t.length : Int) := by omega
            have hbw : b < wr.heap.size := by omega
            clear hca
            by_cases hx : x = gone
            · have hx' : ((x : Int) == gone) = true := beq_iff_eq.2 hx
              have HCT2 := Lib.hid (HCT.out.trans (by rw [if_pos hx]))
              have hry := HRY.out hx
              have hmod : cnt (t.take k) gone % left.length < left.length := Nat.mod_lt _ h0
              have c2 := hcc (cnt (t.take k) gone % left.length) (by rw [is_length]; exact hmod)
              have eget : (is left)[cnt (t.take k) gone % left.length]'(by rw [is_length]; exact hmod) = .int .i64 left[cnt (t.take k) gone % left.length] := by simp [is]
              rw [eget, ← hry] at c2
              generalize repAt t gone left k = y at c2 HST
              generalize cnt (t.take k) gone = m at c2 hcl HCT2 hmod ⊢
              clear hx hry hcc eget HRY HRN HCT
              go_wp2_with (at_builtin; refine wpList_append_row rfl (.tmp 58) (.tmp 60) 27 rfl w.heap.size 3 (.int .i64 0) 8 Try.underlying27 h5 rfl _ (is ((rep t gone left).take k)) rfl (some ⟨wr.heap.size, 0, none⟩) 1 1 [.int .i64 y] rfl rfl (HRS.out.alloc _) ?a2 (one_one _ rfl) ?a3 ?a4 ?a5 ?_)
              case a2 => exact Src.new _ _ _ rfl
              case a3 => rw [HTL2.out]; unfold maxLen; simp; omega
              case a4 => rw [HTL2.out]; simp; omega
              case a5 => simp; omega
              intro v1 w1 hrow hgr hat
              have HR1 := Lib.hid (show Row w1 w.heap.size 3 v1 (is ((rep t gone left).take (k + 1))) by rw [HST.out, is_append]; exact hrow)
              have HL1 := Lib.hid ((HRL.out.alloc (.cells #[.int .i64 y] 3)).grown hgr (.inr (fun e => by have := HAB.out g2 e.symm; omega)))
              have HA1 := Lib.hid (HAB.out.next (h := wr.heap.size + 1) (by omega) (by simpa using hat))
              have HB1 := Lib.hid ((HB.out.alloc hsw' (.cells #[.int .i64 y] 3)).trans (below_grown hgr (fun i e => (HRS.out.lt i e).1) (by simp; omega)))
              clear hrow hgr hat
              go_wp2_with fail
              go_roundw
              case rel => exact ⟨k + 1, by omega, by go_num, by rw [HCT2.out]; go_num, HR1, HL1, HA1, HB1⟩
              case measure => simp [intOf]; omega
            · have hx' : ((x : Int) == gone) = false := beq_eq_false_iff_ne.2 hx
              have HCT2 := Lib.hid (HCT.out.trans (by rw [if_neg hx]))
              have hrn := HRN.out hx
              rw [hrn] at HST
              clear hx hrn hcc HRY HRN HCT
              go_wp2_with (at_builtin; refine wpList_append_row rfl (.tmp 58) (.tmp 60) 27 rfl w.heap.size 3 (.int .i64 0) 8 Try.underlying27 h5 rfl _ (is ((rep t gone left).take k)) rfl (some ⟨wr.heap.size, 0, none⟩) 1 1 [.int .i64 x] rfl rfl (HRS.out.alloc _) ?a2 (one_one _ rfl) ?a3 ?a4 ?a5 ?_)
              case a2 => exact Src.new _ _ _ rfl
              case a3 => rw [HTL2.out]; unfold maxLen; simp; omega
              case a4 => rw [HTL2.out]; simp; omega
              case a5 => simp; omega
              intro v1 w1 hrow hgr hat
              have HR1 := Lib.hid (show Row w1 w.heap.size 3 v1 (is ((rep t gone left).take (k + 1))) by rw [HST.out, is_append]; exact hrow)
              have HL1 := Lib.hid ((HRL.out.alloc (.cells #[.int .i64 x] 3)).grown hgr (.inr (fun e => by have := HAB.out g2 e.symm; omega)))
              have HA1 := Lib.hid (HAB.out.next (h := wr.heap.size + 1) (by omega) (by simpa using hat))
              have HB1 := Lib.hid ((HB.out.alloc hsw' (.cells #[.int .i64 x] 3)).trans (below_grown hgr (fun i e => (HRS.out.lt i e).1) (by simp; omega)))
              clear hrow hgr hat
              go_wp2_with fail
              go_roundw
              case rel => exact ⟨k + 1, by omega, by go_num, by rw [HCT2.out]; rfl, HR1, HL1, HA1, HB1⟩
              case measure => simp [intOf]; omega
          · obtain rfl : k = t.length := by omega
            go_wp2_with fail
            go_ret2
            refine ⟨⟨_, _, rfl, .inr ⟨by rw [HL.out]; exact hlN, rfl, ?_⟩⟩, HB.out⟩
            rw [HL.out]
            exact HRS.out.nms.cast (List.take_of_length_le (by rw [rep_length]; omega))
end Go.Proofs.Ytkkmlpaadbphjaa
