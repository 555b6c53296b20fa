/- Contracts of spread.Without, the reference's Places and Without. -/
import Derived.Test.YtkkmlpaadbphjaaD
namespace Go.Proofs.Ytkkmlpaadbphjaa
open Go.RowKit
set_option linter.unusedVariables false

theorem places_take (n : Nat) (t : List Int) (k : Nat) (h : k < n) (ht : 0 < t.length) : (places n t).take (k + 1) = (places n t).take k ++ [t[k % t.length]'(Nat.mod_lt _ ht)] := by
  rw [List.take_succ_eq_append_getElem (by rw [places_length]; exact h), places_get n t k h ht]
theorem one_one (x : Value) (hx : x.oneCell' = true) : ∀ u ∈ [x], u.oneCell' = true := by
  intro u hu; simp at hu; subst hu; exact hx

set_option maxHeartbeats 1000000 in
theorem refPlaces_any (A : Option Addr) (c n : Nat) (t : List Int) (w : World) (n2 : n ≤ 4096) (ht : 0 < t.length) (htl : t.length ≤ 1000000) (hA : NS w w.heap.size A .i64 t) :
    Calls Try.prog 12 #[.int .i64 (n : Int), .slice A t.length c] w fun e w' => ∃ v, e = .returned v ∧ Nms w' v (places n t) ∧ Below w.heap.size w w' := by
  have HA := Lib.hid hA
  have h5 := Try.info3
  clear hA
  go_enter Try.func12, Try.ntmps12
  go_wp2_with fail
  go_loopw [5, 6] (fun v i wr => ∃ k : Nat, k ≤ n ∧ i = .int .i64 (k : Int) ∧ Hid (Row wr w.heap.size 3 v (is ((places n t).take k))) ∧ Hid (Below w.heap.size w wr)) (fun _ i _ => n - (intOf i).toNat)
  case atStart => exact ⟨0, by omega, rfl, Lib.hid (Row.nil _ _ _), Lib.hid (Below.refl _ _)⟩
  case round =>
    obtain ⟨k, hk, rfl, HR, HB⟩ := hrel
    have hsw := HB.out.size
    by_cases hlt : k < n
    · have hkt : k % t.length < t.length := Nat.mod_lt _ ht
      obtain ⟨b, o, hb, rfl, hca⟩ := (HA.out.below HB.out).at hkt
      have c1 := hca _ hkt
      have HST := Lib.hid (places_take n t k hlt ht)
      generalize t[k % t.length] = x at c1 HST
      have kI : (k : Int) < (n : Int) := by omega
      have hbw : b < wr.heap.size := by omega
      have HTL := Lib.hid (show (is ((places n t).take k)).length = k by rw [is_length, List.length_take, places_length]; omega)
      obtain ⟨vA, vc, hve, _⟩ := HR.out.shape
      subst hve
      clear hca
      go_wp2_with (at_builtin; refine wpList_append_row rfl (.tmp 12) (.tmp 20) 27 rfl w.heap.size 3 (.int .i64 0) 8 Try.underlying27 h5 rfl _ (is ((places n t).take k)) rfl (some ⟨wr.heap.size, 0, none⟩) 1 1 [.int .i64 x] rfl rfl (HR.out.alloc _) ?a2 (one_one _ rfl) ?a3 ?a4 ?a5 ?_)
      case a2 => exact Src.new _ _ _ rfl
      case a3 => rw [HTL.out]; unfold maxLen; simp; omega
      case a4 => rw [HTL.out]; simp; omega
      case a5 => simp; omega
      intro v1 w1 hrow hgr _
      have HR1 := Lib.hid (show Row w1 w.heap.size 3 v1 (is ((places n t).take (k + 1))) by rw [HST.out, is_append]; exact hrow)
      have HB1 := Lib.hid ((HB.out.alloc hsw (.cells #[.int .i64 x] 3)).trans (below_grown hgr (fun i e => (HR.out.lt i e).1) (by simp; omega)))
      clear hrow hgr
      go_wp2_with fail
      go_roundw
      case rel => exact ⟨k + 1, by omega, by go_num, HR1, HB1⟩
      case measure => simp [intOf]; omega
    · go_wp2_with fail
      go_ret
      obtain rfl : k = n := by omega
      have := HR.out.nms
      rw [List.take_of_length_le (by rw [places_length]; omega)] at this
      exact ⟨_, rfl, this, HB.out⟩

/-- Those that are not gone. -/
def others (ts : List Int) (gone : Int) : List Int := ts.filter (· != gone)
theorem others_take (ts : List Int) (gone : Int) (k : Nat) (h : k < ts.length) : others (ts.take (k + 1)) gone = others (ts.take k) gone ++ if ts[k] = gone then [] else [ts[k]] := by
  unfold others
  rw [List.take_succ_eq_append_getElem h, List.filter_append, List.filter_cons]
  by_cases hh : ts[k] = gone <;> simp [hh]
theorem others_le (ts : List Int) (gone : Int) (k : Nat) (h : k ≤ ts.length) : (others (ts.take k) gone).length ≤ k := by
  have := List.length_filter_le (· != gone) (ts.take k)
  unfold others
  simp at this ⊢; omega
/-- Place k behind 'gone' goes. -/
def repAt (t : List Int) (gone : Int) (left : List Int) (k : Nat) : Int := if t.getD k 0 = gone then left.getD (cnt (t.take k) gone % left.length) 0 else t.getD k 0
def rep (t : List Int) (gone : Int) (left : List Int) : List Int := (List.range t.length).map (repAt t gone left)
theorem rep_length (t : List Int) (gone : Int) (left : List Int) : (rep t gone left).length = t.length := by simp [rep]
theorem rep_get (t : List Int) (gone : Int) (left : List Int) (k : Nat) (h : k < t.length) : (rep t gone left)[k]'(by rw [rep_length]; exact h) = repAt t gone left k := by simp [rep]
theorem rep_take (t : List Int) (gone : Int) (left : List Int) (k : Nat) (h : k < t.length) : (rep t gone left).take (k + 1) = (rep t gone left).take k ++ [repAt t gone left k] := by
  rw [List.take_succ_eq_append_getElem (by rw [rep_length]; exact h), rep_get t gone left k h]
theorem repAt_yes (t : List Int) (gone : Int) (left : List Int) (k : Nat) (h : k < t.length) (hg : t[k] = gone) (hl : 0 < left.length) : repAt t gone left k = left[cnt (t.take k) gone % left.length]'(Nat.mod_lt _ hl) := by
  unfold repAt
  rw [if_pos (by simp [List.getD_eq_getElem?_getD, h, hg])]
  simp [List.getD_eq_getElem?_getD, Nat.mod_lt _ hl]
theorem repAt_no (t : List Int) (gone : Int) (left : List Int) (k : Nat) (h : k < t.length) (hg : t[k] ≠ gone) : repAt t gone left k = t[k] := by
  unfold repAt
  rw [if_neg (by simp [List.getD_eq_getElem?_getD, h, hg])]
  simp [List.getD_eq_getElem?_getD, h]
/-- The first k places are turned. -/
def half (t : List Int) (gone : Int) (left : List Int) (k : Nat) : List Int := (rep t gone left).take k ++ t.drop k
theorem half_length (t : List Int) (gone : Int) (left : List Int) (k : Nat) (h : k ≤ t.length) : (half t gone left k).length = t.length := by simp [half, rep_length]; omega
theorem half_get (t : List Int) (gone : Int) (left : List Int) (k : Nat) (h : k < t.length) : (half t gone left k)[k]'(by rw [half_length _ _ _ _ (by omega)]; exact h) = t[k] := by
  have h1 : ((rep t gone left).take k).length = k := by simp [rep_length]; omega
  unfold half
  rw [List.getElem_append_right (by omega)]
  simp [h1]
theorem half_step (t : List Int) (gone : Int) (left : List Int) (k : Nat) (h : k < t.length) : (half t gone left k).set k (repAt t gone left k) = half t gone left (k + 1) := by
  have h1 : ((rep t gone left).take k).length = k := by simp [rep_length]; omega
  unfold half
  rw [List.set_append_right _ _ (by omega), h1, Nat.sub_self, List.drop_eq_getElem_cons h, List.set_cons_zero, rep_take _ _ _ _ h, List.append_assoc, List.singleton_append]
theorem half_keep (t : List Int) (gone : Int) (left : List Int) (k : Nat) (h : k < t.length) (hg : t[k] ≠ gone) : half t gone left k = half t gone left (k + 1) := by
  rw [← half_step t gone left k h, repAt_no t gone left k h hg]
  have := half_get t gone left k h
  conv => rhs; rw [← this]
  simp
theorem half_zero (t : List Int) (gone : Int) (left : List Int) : half t gone left 0 = t := by simp [half]
theorem half_end (t : List Int) (gone : Int) (left : List Int) : half t gone left t.length = rep t gone left := by simp [half, rep_length, List.take_of_length_le]

theorem results_agg_ret {g : Nat} : True := trivial
set_option maxRecDepth 100000 in
set_option maxHeartbeats 2000000 in
theorem without_any (A C : Option Addr) (c d : Nat) (t ts : List Int) (gone : Int) (w : World) (ht : 0 < t.length) (htl : t.length ≤ 1000000) (htsl : ts.length ≤ 1000000) (hA : NS w w.heap.size A .i64 t) (hC : NS w w.heap.size C .i64 ts) :
    Calls Try.prog 13 #[.agg #[.slice A t.length c], .int .i64 gone, .slice C ts.length d] w fun e w' => (∃ v r, e = .returned (.tuple #[.agg #[v], .int .i64 r]) ∧ (others ts gone = [] ∧ v = .slice none 0 0 ∧ r = 1 ∨ others ts gone ≠ [] ∧ r = 0 ∧ Nms w' v (rep t gone (others ts gone)))) ∧ Below w.heap.size w w' := by
  have HA := Lib.hid hA
  have HC := Lib.hid hC
  have h5 := Try.info3
  clear hA hC
  go_enter Try.func13, Try.ntmps13
  go_wp2_with fail
  go_loopw [8, 10, 17] (fun v _ i wr => ∃ k : Nat, k ≤ ts.length ∧ i = .int .i64 (k : Int) ∧ Hid (Row wr w.heap.size 3 v (is (others (ts.take k) gone))) ∧ Hid (Blk wr w.heap.size 29 #[.slice A t.length c]) ∧ Hid (Blk wr (w.heap.size + 1) 29 #[.slice none 0 0]) ∧ Hid (Below w.heap.size w wr)) (fun _ _ i _ => ts.length - (intOf i).toNat)
  case atStart => exact ⟨0, by omega, rfl, Lib.hid (Row.nil _ _ _), Lib.hid ((Blk.new _ _ _).alloc _), Lib.hid (Blk.new_ (by simp) _ _), Lib.hid (((Below.refl _ _).alloc (Nat.le_refl _) _).alloc (by simp) _)⟩
  case round =>
    obtain ⟨k, hk, rfl, HR, HT, HE, HB⟩ := hrel
    have hsw := HB.out.size
    have htlt := HE.out.lt
    have hol := others_le ts gone k hk
    obtain ⟨vA, vc, hve, _⟩ := HR.out.shape
    subst hve
    have HTL := Lib.hid (is_length (others (ts.take k) gone))
    by_cases hlt : k < ts.length
    · obtain ⟨b, o, hb, rfl, hca⟩ := (HC.out.below HB.out).at hlt
      have c1 := hca k hlt
      have HST := Lib.hid (others_take ts gone k hlt)
      generalize ts[k] = x at c1 HST
      have kI : (k : Int) < (ts.length : Int) := by omega
      have hbw : b < wr.heap.size := by omega
      clear hca
      by_cases hx : x = gone
      · have hx' : ((x : Int) != gone) = false := by rw [hx]; simp
        have HST2 := Lib.hid (show others (ts.take (k + 1)) gone = others (ts.take k) gone by rw [HST.out, if_pos hx, List.append_nil])
        clear hx
        go_wp2_with fail
        go_roundw
        case rel => exact ⟨k + 1, by omega, by go_num, by rw [HST2.out]; exact HR, HT, HE, HB⟩
        case measure => simp [intOf]; omega
      · have hx' : ((x : Int) != gone) = true := bne_iff_ne.2 hx
        have HST2 := Lib.hid (show others (ts.take (k + 1)) gone = others (ts.take k) gone ++ [x] by rw [HST.out, if_neg hx])
        clear hx
        go_wp2_with (at_builtin; refine wpList_append_row rfl (.tmp 24) (.tmp 26) 27 rfl w.heap.size 3 (.int .i64 0) 8 Try.underlying27 h5 rfl _ (is (others (ts.take k) gone)) rfl (some ⟨wr.heap.size, 0, none⟩) 1 1 [.int .i64 x] rfl rfl (HR.out.alloc _) ?a2 (one_one _ rfl) ?a3 ?a4 ?a5 ?_)
        case a2 => exact Src.new _ _ _ rfl
        case a3 => rw [HTL.out]; unfold maxLen; simp; omega
        case a4 => rw [HTL.out]; simp; omega
        case a5 => simp; omega
        intro v1 w1 hrow hgr _
        have HR1 := Lib.hid (show Row w1 w.heap.size 3 v1 (is (others (ts.take (k + 1)) gone)) by rw [HST2.out, is_append]; exact hrow)
        have HT1 := Lib.hid ((HT.out.alloc (.cells #[.int .i64 x] 3)).grown hgr (Ne.symm (HR.out.ne HT.out (by decide))))
        have HE1 := Lib.hid ((HE.out.alloc (.cells #[.int .i64 x] 3)).grown hgr (Ne.symm (HR.out.ne HE.out (by decide))))
        have HB1 := Lib.hid ((HB.out.alloc hsw (.cells #[.int .i64 x] 3)).trans (below_grown hgr (fun i e => (HR.out.lt i e).1) (by simp; omega)))
        clear hrow hgr
        go_wp2_with fail
        go_roundw
        case rel => exact ⟨k + 1, by omega, by go_num, HR1, HT1, HE1, HB1⟩
        case measure => simp [intOf]; omega
    · obtain rfl : k = ts.length := by omega
      have hRr := HR.out
      rw [List.take_of_length_le (Nat.le_refl _)] at hRr hol HTL ⊢
      obtain ⟨left, hleft⟩ : ∃ left, others ts gone = left := ⟨_, rfl⟩
      rw [hleft] at hRr hol HTL ⊢
      have HL := Lib.hid hleft
      have HRr := Lib.hid hRr
      have cT := HT.out.cell
      have cE := HE.out.cell
      have fE := HE.out.frozen
      rw [HTL.out]
      clear hleft hRr
      rcases Nat.eq_zero_or_pos left.length with h0 | h0
      · rw [h0]
        clear hol HTL
        obtain rfl : left = [] := List.eq_nil_of_length_eq_zero h0
        go_wp2_with fail
        refine bodyPost_ret (results_blk_tmp rfl _ _ _ _ _ _ rfl (HE.out.set_ 0 _) Try.underlying29 rfl (by kernel_rfl)) rfl ?_
        exact ⟨⟨_, _, rfl, .inl ⟨HL.out, rfl, rfl⟩⟩, HB.out.setCell (by show w.heap.size ≤ w.heap.size + 1; omega) _⟩
      · have l0 : ((left.length : Int) == 0) = false := beq_eq_false_iff_ne.2 (by omega)
        obtain ⟨g2, c2, he2, hg2b, hg2, _⟩ := HRr.out.at (i := 0) (by rw [HTL.out]; exact h0)
        rw [HTL.out] at he2
        injection he2 with he3 _ he4
        subst he3 he4
        have hlN : left ≠ [] := List.length_pos_iff.1 h0
        go_wp2_with fail
        refine (cloneI_any A c t wr htl ht (HA.out.kept (Kept.of_below HB.out (fun i _ h => h)) (Nat.le_refl _) (fun i hi h => by omega) |>.more hsw)).mono ?_
        rintro e w1 ⟨g, cap, rfl, hrow, hb1⟩
        have hg := (hrow.lt g rfl).1
        have hs1 := hb1.size
        have HRS := Lib.hid (hrow.more hsw)
        have HRL := Lib.hid (HRr.out.belowAll hb1)
        have HE1 := Lib.hid (HE.out.below hb1 htlt)
        have HB1 := Lib.hid (HB.out.trans (hb1.mono hsw))
        clear hrow hb1 cT cE fE
        go_wp2_with fail
        go_loopw [12, 13, 14, 38] (fun n _ _ i wx => ∃ k : Nat, k ≤ t.length ∧ i = .int .i64 (k : Int) ∧ n = .int .i64 (cnt (t.take k) gone : Int) ∧ Hid (Row wx w.heap.size 3 (.slice (some ⟨g, 0, none⟩) t.length cap) (is (half t gone left k))) ∧ Hid (Row wx w.heap.size 3 (.slice (some ⟨g2, 0, none⟩) left.length vc) (is left)) ∧ Hid (Blk wx (w.heap.size + 1) 29 #[.slice none 0 0]) ∧ Hid (Below w.heap.size w wx)) (fun _ _ _ i _ => t.length - (intOf i).toNat)
        case atStart => exact ⟨0, by omega, rfl, rfl, by rw [half_zero]; exact HRS, by have := HRL.out; rw [HTL.out] at this; exact Lib.hid this, HE1, HB1⟩
        case round =>
          clear HRS HRL HE1 HB1
          obtain ⟨k, hk, rfl, rfl, HRS, HRL, HE1, HB1⟩ := hrel
          have hcl := cnt_le t gone k
          by_cases hlt : k < t.length
          · have hhl := half_length t gone left k hk
            obtain ⟨g', cap', e', _, _, hcc⟩ := HRS.out.at (i := k) (by rw [is_length, hhl]; exact hlt)
            obtain rfl : g = g' := by injection e' with e'; injection e' with e'; injection e'
            have c1 := hcc k (by rw [is_length, hhl]; exact hlt)
            have hf1 := HRS.out.frozen (g := g) rfl k
            have eget : (is (half t gone left k))[k]'(by rw [is_length, hhl]; exact hlt) = .int .i64 t[k] := by
              have := half_get t gone left k hlt
              simp only [is, List.getElem_map, this]
            rw [eget] at c1
            have HCT := Lib.hid (cnt_take t gone k hlt)
            have HHK := Lib.hid (half_keep t gone left k hlt)
            have HHS := Lib.hid (half_step t gone left k hlt)
            have HRY := Lib.hid (fun h => repAt_yes t gone left k hlt h h0)
            generalize t[k] = x at c1 HCT HHK HRY
            have kI : (k : Int) < (t.length : Int) := by omega
            clear e' hcc eget hhl
            by_cases hx : x = gone
            · have hx' : ((x : Int) == gone) = true := beq_iff_eq.2 hx
              have HCT2 := Lib.hid (HCT.out.trans (by rw [if_pos hx]))
              have hry := HRY.out hx
              obtain ⟨g', cap', e', _, hg2l, hcc⟩ := HRL.out.at (i := 0) (by rw [is_length]; exact h0)
              obtain rfl : g2 = g' := by injection e' with e'; injection e' with e'; injection e'
              have hmod : cnt (t.take k) gone % left.length < left.length := Nat.mod_lt _ h0
              have c2 := hcc (cnt (t.take k) gone % left.length) (by rw [is_length]; exact hmod)
              have eget : (is left)[cnt (t.take k) gone % left.length]'(by rw [is_length]; exact hmod) = .int .i64 left[cnt (t.take k) gone % left.length] := by simp [is]
              rw [eget, ← hry] at c2
              have HST := Lib.hid HHS.out
              generalize repAt t gone left k = y at c2 HST
              generalize cnt (t.take k) gone = m at c2 hcl HCT2 hmod ⊢
              have hne : g2 ≠ g := by omega
              clear hx hry e' hcc eget HHS HRY HCT HHK
              go_wp2_with fail
              go_roundw
              case rel =>
                go_light
                refine ⟨k + 1, by omega, by go_num, by rw [HCT2.out]; go_num, Lib.hid ?_, Lib.hid (HRL.out.far (by simp [Value.ownBlock]; omega)), Lib.hid (HE1.out.far' (by omega)), Lib.hid (HB1.out.setCell (by show w.heap.size ≤ g; omega) _)⟩
                have := HRS.out.set (g := g) rfl k (.int .i64 y)
                rw [← HST.out]
                simpa [is, List.map_set] using this
              case measure => simp [intOf]; omega
            · have hx' : ((x : Int) == gone) = false := beq_eq_false_iff_ne.2 hx
              have HCT2 := Lib.hid (HCT.out.trans (by rw [if_neg hx]))
              have HHK2 := Lib.hid (HHK.out hx)
              clear hx
              go_wp2_with fail
              go_roundw
              case rel => exact ⟨k + 1, by omega, by go_num, by rw [HCT2.out]; rfl, by rw [← HHK2.out]; exact HRS, HRL, HE1, HB1⟩
              case measure => simp [intOf]; omega
          · obtain rfl : k = t.length := by omega
            have cE := HE1.out.cell
            have fE := HE1.out.frozen
            go_wp2_with fail
            refine bodyPost_ret (results_blk_tmp rfl _ _ _ _ _ _ rfl (HE1.out.set_ 0 _) Try.underlying29 rfl (by kernel_rfl)) rfl ?_
            refine ⟨⟨_, _, rfl, .inr ⟨by rw [HL.out]; exact hlN, rfl, ?_⟩⟩, HB1.out.setCell (by show w.heap.size ≤ w.heap.size + 1; omega) _⟩
            have hR := HRS.out
            rw [half_end] at hR
            rw [HL.out]
            have hR2 : Row _ w.heap.size 3 (.slice (some ⟨g, 0, none⟩) t.length cap) (is (rep t gone left)) := hR.far (b := w.heap.size + 1) (o := 0) (s := none) (u := .slice (some ⟨g, 0, none⟩) t.length cap) (by simp [Value.ownBlock]; omega)
            exact hR2.nms
end Go.Proofs.Ytkkmlpaadbphjaa
