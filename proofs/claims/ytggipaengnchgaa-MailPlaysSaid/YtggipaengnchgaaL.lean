/- Drop, Twice; the reference's Clear. -/
import Derived.Test.YtggipaengnchgaaK
import Derived.Test.YtggipaengnchgaaI
namespace Go.Proofs.Ytggipaengnchgaa
open Go.RowKit
set_option linter.unusedVariables false
theorem MlS.lose {mb base : Nat} {most lost : Int} {L : List Le} {w : World} (h : MlS mb base most lost L w) (n : Int) : MlS mb base most n L (w.setCell ⟨mb, 1, none⟩ (.int .i64 n)) := by
  obtain ⟨⟨LA, lc, h1, h2⟩, h3, h4⟩ := h
  exact ⟨⟨LA, lc, h1.set_to rfl, h2.far (h2.ne h1 (by decide))⟩, fun x hx => Row.far (h3 x hx) (Row.ne (h3 x hx) h1 (by decide)), h4⟩
theorem MlS.othLose {mb base : Nat} {most lost : Int} {L : List Le} {w0 w : World} (h : MlS mb base most lost L w) (ho : Oth w0 w) (u : Value) (o : Nat) : Oth w0 (w.setCell ⟨mb, o, none⟩ u) := by
  obtain ⟨⟨LA, lc, h1, h2⟩, h3, h4⟩ := h
  exact fun g t cs hb h5 h6 => (ho g t cs hb h5 h6).far (p := ⟨mb, o, none⟩) (fun e => by subst e; exact (ho _ t cs hb h5 h6).ne_ h1 h5 rfl) _
set_option maxHeartbeats 1000000 in
theorem drop_no (mb base : Nat) (most lost : Int) (L : List Le) (i : Int) (w : World) (h : MlS mb base most lost L w) (hi : i < 0 ∨ (L.length : Int) ≤ i) (hl : L.length ≤ 100000) :
    Calls Try.prog 14 #[.pointer (some ⟨mb, 0, none⟩), .int .i64 i] w fun e w' => e = .returned (.int .i64 6) ∧ Below w.heap.size w w' := by
  have HT := Lib.hid (take_no mb base most lost L i w h hi hl)
  clear h hi
  go_enter Try.func14, Try.ntmps14
  go_wp2_with fail
  refine HT.out.mono ?_
  rintro e w1 ⟨rfl, hb1⟩
  have HB := Lib.hid hb1
  have hs1 := hb1.size
  clear hb1 HT
  go_wp2_with fail
  go_ret
  exact ⟨rfl, HB.out.alloc hs1 _⟩
set_option maxHeartbeats 1000000 in
theorem drop_none (i : Int) (w : World) : Calls Try.prog 14 #[.pointer none, .int .i64 i] w fun e w' => e = .returned (.int .i64 6) ∧ Below w.heap.size w w' := by
  go_enter Try.func14, Try.ntmps14
  go_wp2_with fail
  refine (take_none i _).mono ?_
  rintro e w1 ⟨rfl, hb1⟩
  have HB := Lib.hid hb1
  have hs1 := hb1.size
  clear hb1
  go_wp2_with fail
  go_ret
  exact ⟨rfl, HB.out.alloc hs1 _⟩
set_option maxHeartbeats 2000000 in
theorem drop_ok (mb base : Nat) (most lost : Int) (L : List Le) (i : Nat) (w : World) (h : MlS mb base most lost L w) (hi : i < L.length) (hl : L.length ≤ 100000) (hba : base ≤ w.heap.size) (hlost : 0 ≤ lost ∧ lost ≤ 1000000000) :
    Calls Try.prog 14 #[.pointer (some ⟨mb, 0, none⟩), .int .i64 (i : Int)] w fun e w' => e = .returned (.int .i64 0) ∧ MlP mb base most (lost + 1) (L.eraseIdx i) w w' := by
  obtain ⟨l0, l1⟩ := hlost
  have hok := h.ok L[i] (List.getElem_mem hi)
  have hx : L[i]? = some L[i] := List.getElem?_eq_getElem hi
  have hlo := h.lo
  obtain ⟨⟨nd, bk, v, bl⟩, hxx⟩ : ∃ x, L[i] = x := ⟨_, rfl⟩
  rw [hxx] at hok hx
  obtain ⟨XA, xc, hv, -, -⟩ := (show Row w base 5 v (bcs bl) from hok).shape
  rw [bcs_length] at hv
  subst hv
  have HT := Lib.hid (take_ok mb base most lost L i _ w h hx hl hba)
  clear h hok hx hxx
  go_enter Try.func14, Try.ntmps14
  go_wp2_with fail
  refine HT.out.mono ?_
  rintro e w1 ⟨rfl, hP⟩
  have hs1 := hP.bel.size
  have HP := Lib.hid hP
  obtain ⟨⟨VA, vc, hB, hR⟩, -, -⟩ := hP.st
  have c1 := hB.cell
  have f1 := hB.frozen
  have lt1 := hB.lt
  clear hP hB hR HT
  go_wp2_with fail
  go_ret
  go_light
  exact ⟨rfl, ⟨(HP.out.st.lose _).on ((Kept.refl _ _).alloc _), (HP.out.st.othLose HP.out.oth _ _).trans (Oth.of0 ((Kept.refl _ _).alloc _)), (HP.out.bel.setCell hlo _).alloc (by simp; omega) _⟩⟩
theorem twice_none (i : Int) (w : World) : Calls Try.prog 15 #[.pointer none, .int .i64 i] w fun e w' => e = .returned (.int .i64 6) ∧ Below w.heap.size w w' := by
  go_enter Try.func15, Try.ntmps15
  go_wp2_with fail
  refine (has_none i _).mono ?_
  rintro e w1 ⟨rfl, rfl⟩
  go_wp2_with fail
  go_ret
  exact ⟨rfl, Below.refl _ _⟩
theorem twice_no (mb base : Nat) (most lost : Int) (L : List Le) (i : Int) (w : World) (h : MlS mb base most lost L w) (hi : i < 0 ∨ (L.length : Int) ≤ i) (hl : L.length ≤ 100000) :
    Calls Try.prog 15 #[.pointer (some ⟨mb, 0, none⟩), .int .i64 i] w fun e w' => e = .returned (.int .i64 6) ∧ Below w.heap.size w w' := by
  have HT := Lib.hid (has_no mb base most lost L i w h hi hl)
  clear h hi
  go_enter Try.func15, Try.ntmps15
  go_wp2_with fail
  refine HT.out.mono ?_
  rintro e w1 ⟨rfl, rfl⟩
  clear HT
  go_wp2_with fail
  go_ret
  exact ⟨rfl, Below.refl _ _⟩
set_option maxHeartbeats 2000000 in
theorem twice_full (mb base : Nat) (most lost : Int) (L : List Le) (i : Nat) (x : Le) (w : World) (h : MlS mb base most lost L w) (hx : L[i]? = some x) (hf : most ≤ (L.length : Int)) (hl : L.length ≤ 100000) (hba : base ≤ w.heap.size) (hlost : 0 ≤ lost ∧ lost ≤ 1000000000) :
    Calls Try.prog 15 #[.pointer (some ⟨mb, 0, none⟩), .int .i64 (i : Int)] w fun e w' => e = .returned (.int .i64 23) ∧ MlP mb base most (lost + 1) L w w' := by
  obtain ⟨hi, hxe⟩ := List.getElem?_eq_some_iff.1 hx
  have HN := Lib.hid (has_yes mb base most lost L (i : Int) w h (by omega) (by omega) hl)
  have HM := Lib.hid h
  obtain ⟨⟨LA, lc, hB, hR⟩, hO, hlo⟩ := h
  obtain ⟨g, c', e, hbg, hgl, hel⟩ := hR.at (i := i) (by simpa using hi)
  injection e with e1 e2 e3
  subst e1 e3
  have hi' : i < (L.map Le.cs).length := by simpa using hi
  have d0 := hel.get0 hi' (by omega)
  have d1 := hel.get hi' 1 (by omega)
  have d2 := hel.get hi' 2 (by omega)
  have hok := hO L[i] (List.getElem_mem hi)
  simp only [List.getElem_map, hxe] at d0 d1 d2 hok
  obtain ⟨nd, bk, v, bl⟩ := x
  have hok' : Row w base 5 v (bcs bl) := hok
  obtain ⟨XA, xc, hv, -, -⟩ := hok'.shape
  rw [bcs_length] at hv
  subst hv
  simp [Le.cs] at d0 d1 d2
  have c2 := hB.cell 2
  simp at c2
  have ml := hB.lt
  have iI : (i : Int) < (L.length : Int) := by omega
  have i0 : (0 : Int) ≤ (i : Int) := by omega
  have HBS := Lib.hid hok'.bs
  have HS := Lib.hid (send_full mb base most lost L nd bk XA xc bl w HM.out hf hl hlost hba)
  clear hB hR hO hel hok hxe hx e2 hi' hok' hf hlost
  go_enter Try.func15, Try.ntmps15
  go_wp2_with fail
  refine HN.out.mono ?_
  rintro e w1 ⟨rfl, rfl⟩
  go_wp2_with fail
  refine HS.out.mono ?_
  rintro e w2 ⟨rfl, hP⟩
  have HP := Lib.hid hP
  clear hP HS HN
  go_wp2_with fail
  go_ret
  exact ⟨rfl, HP.out⟩
set_option maxHeartbeats 2000000 in
theorem twice_ok (mb base : Nat) (most lost : Int) (L : List Le) (i : Nat) (x : Le) (w : World) (h : MlS mb base most lost L w) (hx : L[i]? = some x) (hf : (L.length : Int) < most) (hl : L.length ≤ 100000) (hba : base ≤ w.heap.size) (hbl : x.l.length ≤ 1000) :
    Calls Try.prog 15 #[.pointer (some ⟨mb, 0, none⟩), .int .i64 (i : Int)] w (Sent mb base most lost L x.node x.back x.l w) := by
  obtain ⟨hi, hxe⟩ := List.getElem?_eq_some_iff.1 hx
  have HN := Lib.hid (has_yes mb base most lost L (i : Int) w h (by omega) (by omega) hl)
  have HM := Lib.hid h
  obtain ⟨⟨LA, lc, hB, hR⟩, hO, hlo⟩ := h
  obtain ⟨g, c', e, hbg, hgl, hel⟩ := hR.at (i := i) (by simpa using hi)
  injection e with e1 e2 e3
  subst e1 e3
  have hi' : i < (L.map Le.cs).length := by simpa using hi
  have d0 := hel.get0 hi' (by omega)
  have d1 := hel.get hi' 1 (by omega)
  have d2 := hel.get hi' 2 (by omega)
  have hok := hO L[i] (List.getElem_mem hi)
  simp only [List.getElem_map, hxe] at d0 d1 d2 hok
  obtain ⟨nd, bk, v, bl⟩ := x
  have hok' : Row w base 5 v (bcs bl) := hok
  obtain ⟨XA, xc, hv, -, -⟩ := hok'.shape
  rw [bcs_length] at hv
  subst hv
  simp [Le.cs] at d0 d1 d2
  have c2 := hB.cell 2
  simp at c2
  have ml := hB.lt
  have iI : (i : Int) < (L.length : Int) := by omega
  have i0 : (0 : Int) ≤ (i : Int) := by omega
  have HBS := Lib.hid hok'.bs
  have HS := Lib.hid (send_ok mb base most lost L nd bk XA xc bl w HM.out hf hl hba hbl HBS.out)
  clear hB hR hO hel hok hxe hx e2 hi' hok' hf hbl
  go_enter Try.func15, Try.ntmps15
  go_wp2_with fail
  refine HN.out.mono ?_
  rintro e w1 ⟨rfl, rfl⟩
  go_wp2_with fail
  refine HS.out.mono ?_
  rintro e w2 ⟨rfl, hP⟩
  have HP := Lib.hid hP
  clear hP HS HN
  go_wp2_with fail
  go_ret
  exact ⟨rfl, HP.out⟩
set_option maxHeartbeats 2000000 in
theorem refClear_any (A : Option Addr) (c : Nat) (M : List LeV) (node most lost : Int) (w : World) (hlost : 0 ≤ lost ∧ lost ≤ 1000000000) (hl : M.length ≤ 1000) (hc : M.length ≤ c) (hcm : c ≤ maxLen) (hE : ES w w.heap.size A 3 (M.map LeV.cs)) :
    Calls Try.prog 17 #[.agg #[.int .i64 most, .slice A M.length c, .int .i64 lost], .int .i64 node] w (RefP2 most (lost + ((M.length : Int) - ((keepV M node).length : Int))) ((M.length : Int) - ((keepV M node).length : Int)) (keepV M node) w) := by
  obtain ⟨l0, l1⟩ := hlost
  unfold maxLen at hcm
  have HE := Lib.hid hE
  have hinf := Try.infoLeV
  clear hE
  go_enter Try.func17, Try.ntmps17
  go_wp2_with fail
  obtain ⟨w2, hw2⟩ : ∃ w2 : World, w2 = (w.alloc (.cells #[.int .i64 most, .slice A M.length c, .int .i64 lost] 40)).alloc (.cells #[.int .i64 0, .slice none 0 0, .int .i64 0] 40) := ⟨_, rfl⟩
  have HB2 := Lib.hid (show Below w.heap.size w w2 by rw [hw2]; exact bel_two)
  have HX := Lib.hid (show Blk w2 w.heap.size 40 #[.int .i64 most, .slice A M.length c, .int .i64 lost] by rw [hw2]; exact (Blk.new _ _ _).alloc _)
  have HY := Lib.hid (show Blk w2 (w.heap.size + 1) 40 #[.int .i64 0, .slice none 0 0, .int .i64 0] by rw [hw2]; exact Blk.new_ (by simp) _ _)
  rw [← hw2]
  have hz2 : w.heap.size + 2 = w2.heap.size := by rw [hw2]; simp
  clear hw2
  obtain ⟨H, hH0⟩ : ∃ H, w.heap.size = H := ⟨_, rfl⟩
  have HH0 := Lib.hid hH0
  rw [hH0] at hz2 HX HY HB2 ⊢
  have hH : H ≤ w2.heap.size := by omega
  clear hH0
  go_loopw [6, 7] (fun lv i wr => ∃ k : Nat, k ≤ M.length ∧ i = .int .i64 (k : Int) ∧ Hid (RowN wr H 28 3 lv ((keepV (M.take k) node).map LeV.cs)) ∧ Hid (Below H w wr) ∧ w2.heap.size ≤ wr.heap.size ∧ Hid (Blk wr H 40 #[.int .i64 most, .slice A M.length c, .int .i64 lost]) ∧ Hid (Blk wr (H + 1) 40 #[.int .i64 0, .slice none 0 0, .int .i64 0])) (fun _ i _ => M.length - (intOf i).toNat)
  case atStart => exact ⟨0, by omega, rfl, Lib.hid (RowN.nil _ _ _ _), HB2, Nat.le_refl _, HX, HY⟩
  case round =>
    clear HX HY HB2 hH
    obtain ⟨k, hk, rfl, HR, HB, hsr, HX, HY⟩ := hrel
    have cx := HX.out.cell 1
    simp at cx
    have lx := HX.out.lt
    have HKL := Lib.hid (keepV_len (M.take k) node)
    obtain ⟨hA', hcap, hve, -⟩ := HR.out.shape
    rw [List.length_map] at hve
    subst hve
    by_cases hkl : k < M.length
    · have hkI : (k : Int) < (M.length : Int) := by omega
      obtain ⟨b, o, hb, rfl, hel⟩ := HE.out.at (k := k) (by simpa using hkl)
      rw [HH0.out] at hb
      obtain ⟨c0, c1, c2⟩ := lev_cells (hel.keep (w' := wr) (fun o => HB.out.cell (p := ⟨b, o, none⟩) hb)) hkl
      have HSN := Lib.hid (keepV_snoc M node k hkl)
      obtain ⟨⟨nd, bk, XA, xc, l⟩, hxx⟩ : ∃ x, M[k] = x := ⟨_, rfl⟩
      rw [hxx] at c0 c1 c2 HSN
      simp only at c0 c1 c2
      have blt : b < wr.heap.size := by omega
      clear hel hxx
      by_cases hn : nd = node
      · have hn1 : (nd == node) = true := by simpa using hn
        have HRX := Lib.hid (show RowN wr H 28 3 (.slice hA' (keepV (M.take k) node).length hcap) ((keepV (M.take (k + 1)) node).map LeV.cs) by rw [HSN.out, if_pos hn, List.append_nil]; exact HR.out)
        clear hn HSN
        go_wp2_with fail
        go_roundw
        case rel => exact ⟨k + 1, by omega, by go_num, HRX, HB, hsr, HX, HY⟩
        case measure => simp [intOf]; omega
      · have hn1 : (nd == node) = false := by simpa using hn
        have HSN2 := Lib.hid (show keepV (M.take (k + 1)) node = keepV (M.take k) node ++ [⟨nd, bk, XA, xc, l⟩] by rw [HSN.out, if_neg hn])
        clear hn HSN
        go_wp2_with (at_builtin; refine wpList_append_rowN rfl (.tmp 24) (.tmp 30) 22 rfl H 28 (.agg #[.int .i64 0, .bool false, .slice none 0 0]) 3 40 Try.underlying22 hinf rfl (by omega) _ ((keepV (M.take k) node).map LeV.cs) rfl (some ⟨wr.heap.size, 0, none⟩) 1 1 [LeV.cs ⟨nd, bk, XA, xc, l⟩] rfl rfl ?a1 (fun y hy => by simp at hy; subst hy; rfl) ?a2 (lev_one _) ?a3 ?a4 ?a5 ?_)
        case a1 => exact HR.out.alloc _
        case a2 => exact Src.blk (cs := #[.int .i64 nd, .bool bk, .slice XA l.length xc]) (Blk.new _ _ _) rfl
        case a3 => have := HKL.out; rw [List.length_take] at this; simp; unfold maxLen; omega
        case a4 => have := HKL.out; rw [List.length_take] at this; simp; omega
        case a5 => simp; omega
        intro v5 w5 hr5 hg5 _
        have hs5 : wr.heap.size + 1 ≤ w5.heap.size := by have := hg5.size; simpa using this
        have HR5 := Lib.hid (show RowN w5 H 28 3 v5 ((keepV (M.take (k + 1)) node).map LeV.cs) by rw [HSN2.out, List.map_append]; exact hr5)
        have HB5 := Lib.hid ((HB.out.alloc (by omega) _).trans (below_grown hg5 (fun i e => (HR.out.lt i (ownBlock_len e)).1) (by simp; omega)))
        have HX5 := Lib.hid ((HX.out.alloc _).grown hg5 (fun e => HR.out.ne HX.out (by decide) (ownBlock_len e.symm)))
        have HY5 := Lib.hid ((HY.out.alloc _).grown hg5 (fun e => HR.out.ne HY.out (by decide) (ownBlock_len e.symm)))
        clear hr5 hg5
        go_wp2_with fail
        go_roundw
        case rel => exact ⟨k + 1, by omega, by go_num, HR5, HB5, by omega, HX5, HY5⟩
        case measure => simp [intOf]; omega
    · obtain rfl : k = M.length := by omega
      have hkI : ¬ (M.length : Int) < (M.length : Int) := by omega
      rw [List.take_length] at HR HKL ⊢
      have hkn := HKL.out
      obtain ⟨kn, hkn0⟩ : ∃ kn, (keepV M node).length = kn := ⟨_, rfl⟩
      have HKN := Lib.hid hkn0
      rw [hkn0] at hkn HR ⊢
      clear HKL hkn0
      have cx0 := HX.out.cell
      have fy := HY.out.frozen
      have cy := HY.out.cell
      have ly := HY.out.lt
      go_wp2_with fail
      refine bodyPost_ret (results_blk_tmp (P := Try.prog) Try.results17 _ _ (H + 1) 40 #[.int .i64 most, .slice hA' kn hcap, .int .i64 (lost + ((M.length : Int) - (kn : Int)))] _ rfl ?_ Try.underlying40 rfl (by kernel_rfl)) rfl ⟨hA', kn, hcap, by rw [HKN.out]; rfl, ?_, ?_⟩
      · go_light
        exact ((HY.out.set_ _ _).set_ _ _).set_to rfl
      · go_light
        rw [HH0.out]
        exact ((HR.out.far (HR.out.ne HY.out (by decide))).far (HR.out.ne HY.out (by decide))).far (HR.out.ne HY.out (by decide))
      · go_light
        rw [HH0.out]
        exact ((HB.out.setCell (Nat.le_succ H) _).setCell (Nat.le_succ H) _).setCell (Nat.le_succ H) _
end Go.Proofs.Ytggipaengnchgaa
