/- What made makes: a table and a list that hold the same. -/
import Derived.Test.YtchgbdghllkcpaaR
namespace Go.Proofs.Ytchgbdghllkcpaa
open Go.RowKit
set_option linter.unusedVariables false
theorem results_tmp3 {fn : Func} {p u v : Tmp} {P : Program} (h : fn.results = #[.tmp p, .tmp u, .tmp v]) (tmps : Array Value) (w : World) :
    (results fn tmps).run P w = .ok (.tuple #[tmps.getD p undef, tmps.getD u undef, tmps.getD v undef]) w := by
  simp [results, h]
structure AcE where
  kind : Int
  x : En
def AcE.cs (y : AcE) : List Value := [.int .i64 y.kind, .bool y.x.a.six, .int .u64 (y.x.a.hi : Int), .int .u64 (y.x.a.lo : Int), .int .i64 y.x.n, .int .i64 y.x.v]
theorem AcE.cs_len (x : AcE) : x.cs.length = 6 := rfl
theorem ac_cells {w : World} {b off k : Nat} {L : List AcE} (h : ElAt w b off 6 (L.map AcE.cs)) (hk : k < L.length) :
    w.cell? ⟨b, off + k * 6, none⟩ = some (.int .i64 L[k].kind) ∧ w.cell? ⟨b, off + k * 6 + 1, none⟩ = some (.bool L[k].x.a.six) ∧ w.cell? ⟨b, off + k * 6 + 2, none⟩ = some (.int .u64 (L[k].x.a.hi : Int)) ∧ w.cell? ⟨b, off + k * 6 + 3, none⟩ = some (.int .u64 (L[k].x.a.lo : Int)) ∧ w.cell? ⟨b, off + k * 6 + 4, none⟩ = some (.int .i64 L[k].x.n) ∧ w.cell? ⟨b, off + k * 6 + 5, none⟩ = some (.int .i64 L[k].x.v) := by
  have hk' : k < (L.map AcE.cs).length := by simpa using hk
  have h0 := h.get0 hk' (by omega)
  have h1 := h.get hk' 1 (by omega)
  have h2 := h.get hk' 2 (by omega)
  have h3 := h.get hk' 3 (by omega)
  have h4 := h.get hk' 4 (by omega)
  have h5 := h.get hk' 5 (by omega)
  simp [AcE.cs] at h0 h1 h2 h3 h4 h5
  exact ⟨h0, h1, h2, h3, h4, h5⟩
def MadeP (w : World) (e : Ending) (w' : World) : Prop := ∃ tb M R A c, e = .returned (.tuple #[.pointer (some ⟨tb, 0, none⟩), .slice A R.length c, .bool true]) ∧ MdS tb w.heap.size M R (.slice A R.length c) w' ∧ R.length ≤ 40 ∧ Below w.heap.size w w'
set_option maxHeartbeats 16000000 in
set_option maxRecDepth 100000 in
theorem made_any (A : Option Addr) (c : Nat) (l : List AcE) (w : World) (hl : l.length ≤ maxLen) (hw : ∀ y ∈ l, y.x.a.wf) (hE : ES w w.heap.size A 6 (l.map AcE.cs)) :
    Calls Try.prog 14 #[.slice A l.length c] w (MadeP w) := by
  have HE := Lib.hid hE
  have HWF := Lib.hid hw
  unfold maxLen at hl
  clear hE hw
  go_enter Try.func14, Try.ntmps14
  go_wp2_with fail
  obtain ⟨w1, hw1⟩ : ∃ w1 : World, w1 = w.alloc (.cells #[.int .i64 0, .pointer none, .pointer none, .bool false, .int .i64 0, .pointer none, .pointer none, .bool false, .int .i64 0] 62) := ⟨_, rfl⟩
  have HM1 := Lib.hid (show MdS w.heap.size w.heap.size (fun _ _ => none) [] (.slice none 0 0) w1 by rw [hw1]; exact ⟨TabS.empty w _ (Nat.le_refl _), RSE.nil _, TwE.nil⟩)
  have HB1 := Lib.hid (show Below w.heap.size w w1 by rw [hw1]; exact bel1)
  rw [← hw1]
  clear hw1
  obtain ⟨tb, htb⟩ : ∃ tb, w.heap.size = tb := ⟨_, rfl⟩
  have HM1 := Lib.hid (show MdS tb w.heap.size (fun _ _ => none) [] (.slice none 0 0) w1 by rw [← htb]; exact HM1.out)
  rw [htb]
  clear htb
  go_loopw [6, 7] (fun r i wr => ∃ (k : Nat) (M : Bool → Path → Option Int) (R : List En), k ≤ l.length ∧ k ≤ 40 ∧ R.length ≤ k ∧ i = .int .i64 (k : Int) ∧ Hid (MdS tb w.heap.size M R r wr) ∧ Hid (Below w.heap.size w wr)) (fun _ i _ => l.length - (intOf i).toNat)
  case atStart => exact ⟨0, _, [], by omega, by omega, by simp, rfl, HM1, HB1⟩
  case round =>
    clear HM1 HB1
    obtain ⟨k, M, R, hk, hk40, hRk, rfl, HM, HB⟩ := hrel
    have hsr := HB.out.size
    by_cases hend : ¬ k < l.length ∨ ¬ k < 40
    · have HEND := Lib.hid hend
      clear hend
      obtain ⟨rA, rc, rhe, -, -, -⟩ := HM.out.rs.get
      by_cases hkl : k < l.length
      · have kI : (k : Int) < (l.length : Int) := by omega
        have k40 : ¬ (k : Int) < 40 := by have := HEND.out; omega
        have HRE := Lib.hid rhe
        rw [rhe]
        clear rhe
        go_wp2_with fail
        refine bodyPost_ret (results_tmp3 (P := Try.prog) Try.results14 _ _) rfl ⟨tb, M, R, rA, rc, rfl, by rw [← HRE.out]; exact HM.out, by omega, HB.out⟩
      · have kI : ¬ (k : Int) < (l.length : Int) := by omega
        have HRE := Lib.hid rhe
        rw [rhe]
        clear rhe
        go_wp2_with fail
        refine bodyPost_ret (results_tmp3 (P := Try.prog) Try.results14 _ _) rfl ⟨tb, M, R, rA, rc, rfl, by rw [← HRE.out]; exact HM.out, by omega, HB.out⟩
    · have hkl : k < l.length := by omega
      have hk6 : k < 40 := by omega
      have kI : (k : Int) < (l.length : Int) := by omega
      have k40 : (k : Int) < 40 := by omega
      clear hend
      obtain ⟨b, o, hb0, rfl, hel⟩ := HE.out.at (k := k) (by simpa using hkl)
      have HEL := Lib.hid hel
      obtain ⟨y, hy⟩ : ∃ y, l[k] = y := ⟨_, rfl⟩
      have HX := Lib.hid hy
      have HAW := Lib.hid (show y.x.a.wf by rw [← hy]; exact HWF.out _ (List.getElem_mem hkl))
      clear hel hy
      obtain ⟨kd, a, n, v⟩ := y
      have HAW := Lib.hid (show a.wf from HAW.out)
      obtain ⟨e0, e1, e2, e3, e4, e5⟩ := ac_cells (HEL.out.keep (w' := wr) (fun o => HB.out.cell (p := ⟨b, o, none⟩) hb0)) hkl
      rw [HX.out] at e0 e1 e2 e3 e4 e5
      simp only at e0 e1 e2 e3 e4 e5
      have blt : b < wr.heap.size := by have := HB.out.size; omega
      by_cases hk1 : kd = 1
      · subst hk1
        have HTO := Lib.hid (fun u => to_any ⟨a, n, v⟩ u)
        go_wp2_with fail
        refine (HTO.out _).mono ?_
        rintro e w2 ⟨rfl, hb2⟩
        have HM2 := Lib.hid (HM.out.onB hb2)
        have HB2 := Lib.hid (HB.out.trans (hb2.mono HB.out.size))
        have hs2 := HB2.out.size
        clear hb2 HTO e0 e1 e2 e3 e4 e5
        by_cases hP : rightP a n
        · obtain ⟨m, rfl, hm⟩ := rightP_nat hP
          have HP := Lib.hid hP
          cases hM : M a.six (a.path m) with
          | none =>
            have HC := Lib.hid (drop_none tb w.heap.size M (R.length : Int) a m w2 HAW.out hP hm HM2.out.tab hM)
            have HMV := Lib.hid hM
            clear hP hM
            go_wp2_with fail
            refine HC.out.mono ?_
            rintro e w3 ⟨rfl, hb3⟩
            have HM3 := Lib.hid (HM2.out.onB hb3)
            have HB3 := Lib.hid (HB2.out.trans (hb3.mono HB2.out.size))
            clear hb3 HC
            obtain ⟨e0, e1, e2, e3, e4, e5⟩ := ac_cells (HEL.out.keep (w' := w3) (fun o => HB3.out.cell (p := ⟨b, o, none⟩) hb0)) hkl
            rw [HX.out] at e0 e1 e2 e3 e4 e5
            simp only at e0 e1 e2 e3 e4 e5
            have blt : b < w3.heap.size := by have := HB3.out.size; omega
            obtain ⟨rA, rc, rhe, hr1, hr2, hrE⟩ := HM3.out.rs.get
            have HRE := Lib.hid rhe
            have HRD := Lib.hid (refDrop_any rA rc R ⟨a, (m : Int), v⟩ w3 (by omega) hr1 hr2 hrE)
            rw [rhe]
            clear rhe hr1 hr2 hrE
            go_wp2_with fail
            refine HRD.out.mono ?_
            rintro e w4 h4
            clear e0 e1 e2 e3 e4 e5 HRD
            rcases h4 with ⟨hno, rfl, hb4⟩ | ⟨j, hj, hja, hjn, -⟩
            · have HM4 := Lib.hid (show MdS tb w.heap.size M R (.slice rA R.length rc) w4 from by rw [← HRE.out]; exact HM3.out.onB hb4)
              have HB4 := Lib.hid (HB3.out.trans (hb4.mono HB3.out.size))
              clear hno hb4
              have HLN := Lib.hid (len_any tb w.heap.size _ _ w4 HM4.out.tab)
              go_wp2_with fail
              refine HLN.out.mono ?_
              rintro e w9 ⟨rfl, rfl⟩
              clear HLN
              go_wp2_with fail
              go_roundw
              case rel => exact ⟨k + 1, _, _, by omega, by omega, by omega, by go_num, HM4, HB4⟩
              case measure => simp [intOf]; omega
            · exact absurd (HMV.out.symm.trans (show M a.six (a.path m) = some R[j].v by have := HM3.out.tw.mem _ (List.getElem_mem hj); rw [hja, hjn] at this; simpa using this)) (by simp)
          | some v0 =>
            have HC := Lib.hid (drop_yes tb w.heap.size M (R.length : Int) a m w2 HAW.out hP hm HM2.out.tab hs2 (by omega) (by omega) (by rw [hM]; rfl))
            have HMV := Lib.hid hM
            clear hP hM
            go_wp2_with fail
            refine HC.out.mono ?_
            rintro e w3 ⟨rfl, ht3, hb3, hk3⟩
            have HM3x := Lib.hid (And.intro ht3 HM2.out.tw)
            have HM3r := Lib.hid (HM2.out.rs.keptT hk3)
            have HB3 := Lib.hid (HB2.out.trans hb3)
            clear hb3 ht3 hk3 HC
            obtain ⟨e0, e1, e2, e3, e4, e5⟩ := ac_cells (HEL.out.keep (w' := w3) (fun o => HB3.out.cell (p := ⟨b, o, none⟩) hb0)) hkl
            rw [HX.out] at e0 e1 e2 e3 e4 e5
            simp only at e0 e1 e2 e3 e4 e5
            have blt : b < w3.heap.size := by have := HB3.out.size; omega
            obtain ⟨rA, rc, rhe, hr1, hr2, hrE⟩ := HM3r.out.get
            have HRE := Lib.hid rhe
            have HRD := Lib.hid (refDrop_any rA rc R ⟨a, (m : Int), v⟩ w3 (by omega) hr1 hr2 hrE)
            rw [rhe]
            clear rhe hr1 hr2 hrE
            go_wp2_with fail
            refine HRD.out.mono ?_
            rintro e w4 h4
            clear e0 e1 e2 e3 e4 e5 HRD
            rcases h4 with ⟨hno, -⟩ | ⟨j, hj, hja, hjn, A4, c4, rfl, hr4, hb4⟩
            · exact absurd (HM3x.out.2.none_of HAW.out HP.out hno) (by show ¬ M a.six (a.path ((m : Int).toNat)) = none; rw [Int.toNat_natCast, HMV.out]; simp)
            · have HLE := Lib.hid (show (R.eraseIdx j).length = R.length - 1 from List.length_eraseIdx_of_lt hj)
              have HM4 := Lib.hid (show MdS tb w.heap.size (upd M a.six (a.path m) none) (R.eraseIdx j) (.slice A4 (R.eraseIdx j).length c4) w4 from ⟨by rw [show (((R.eraseIdx j).length : Nat) : Int) = (R.length : Int) - 1 by rw [HLE.out]; omega]; exact HM3x.out.1.onB hb4, RSE.of_row hr4, HM3x.out.2.del (x := ⟨a, (m : Int), v⟩) hj hja hjn⟩)
              have HB4 := Lib.hid (HB3.out.trans (hb4.mono HB3.out.size))
              clear hb4 hr4
              have HLN := Lib.hid (len_any tb w.heap.size _ _ w4 HM4.out.tab)
              go_wp2_with fail
              refine HLN.out.mono ?_
              rintro e w9 ⟨rfl, rfl⟩
              clear HLN
              go_wp2_with fail
              go_roundw
              case rel => exact ⟨k + 1, _, _, by omega, by omega, by have := HLE.out; omega, by go_num, HM4, HB4⟩
              case measure => simp [intOf]; omega
        · have HC := Lib.hid (drop_no tb a n w2 HAW.out hP)
          have HP := Lib.hid hP
          clear hP
          go_wp2_with fail
          refine HC.out.mono ?_
          rintro e w3 ⟨rfl, hb3⟩
          have HM3 := Lib.hid (HM2.out.onB hb3)
          have HB3 := Lib.hid (HB2.out.trans (hb3.mono HB2.out.size))
          clear hb3 HC
          obtain ⟨e0, e1, e2, e3, e4, e5⟩ := ac_cells (HEL.out.keep (w' := w3) (fun o => HB3.out.cell (p := ⟨b, o, none⟩) hb0)) hkl
          rw [HX.out] at e0 e1 e2 e3 e4 e5
          simp only at e0 e1 e2 e3 e4 e5
          have blt : b < w3.heap.size := by have := HB3.out.size; omega
          obtain ⟨rA, rc, rhe, hr1, hr2, hrE⟩ := HM3.out.rs.get
          have HRE := Lib.hid rhe
          have HRD := Lib.hid (refDrop_any rA rc R ⟨a, n, v⟩ w3 (by omega) hr1 hr2 hrE)
          rw [rhe]
          clear rhe hr1 hr2 hrE
          go_wp2_with fail
          refine HRD.out.mono ?_
          rintro e w4 h4
          clear e0 e1 e2 e3 e4 e5 HRD
          rcases h4 with ⟨hno, rfl, hb4⟩ | ⟨j, hj, hja, hjn, -⟩
          · have HM4 := Lib.hid (show MdS tb w.heap.size M R (.slice rA R.length rc) w4 from by rw [← HRE.out]; exact HM3.out.onB hb4)
            have HB4 := Lib.hid (HB3.out.trans (hb4.mono HB3.out.size))
            clear hno hb4
            have HLN := Lib.hid (len_any tb w.heap.size _ _ w4 HM4.out.tab)
            go_wp2_with fail
            refine HLN.out.mono ?_
            rintro e w9 ⟨rfl, rfl⟩
            clear HLN
            go_wp2_with fail
            go_roundw
            case rel => exact ⟨k + 1, _, _, by omega, by omega, by omega, by go_num, HM4, HB4⟩
            case measure => simp [intOf]; omega
          · exact absurd ((decide_eq_false HP.out).symm.trans (show decide (rightP a n) = true from decide_eq_true (by have := (HM3.out.tw.ok _ (List.getElem_mem hj)).2; rw [hja, hjn] at this; exact this))) (by simp)
      · have hkB : (kd == 1) = false := beq_eq_false_iff_ne.2 hk1
        clear hk1
        have HTO := Lib.hid (fun u => to_any ⟨a, n, v⟩ u)
        go_upto_region 10 with fail
        refine wp_region_kept 13 [(6, fun v u => v = .agg #[.bool a.six, .int .u64 (a.hi : Int), .int .u64 (a.lo : Int), .int .i64 n])] ?st ?ne rfl (by kernel_rfl) (by kernel_rfl) ?_
        case st =>
          intro p hp
          simp only [List.mem_cons, List.not_mem_nil, or_false] at hp
          subst hp
          · intro v u u' h hk; exact h
        case ne =>
          intro p hp
          simp only [List.mem_cons, List.not_mem_nil, or_false] at hp
          subst hp
          · exact ⟨_, _, Kept.refl _ _, rfl⟩
        simp only [List.take_succ_cons, List.take_zero, List.drop_succ_cons, List.drop_zero]
        intro G pick hR hp1 hp2
        have p1 : ∀ u, (pick u).cell? ⟨b, o + k * 6 + 1, none⟩ = some (.bool a.six) := fun u => ((hp1 u).cell blt (fun h => h) _).trans e1
        have p2 : ∀ u, (pick u).cell? ⟨b, o + k * 6 + 2, none⟩ = some (.int .u64 (a.hi : Int)) := fun u => ((hp1 u).cell blt (fun h => h) _).trans e2
        have p3 : ∀ u, (pick u).cell? ⟨b, o + k * 6 + 3, none⟩ = some (.int .u64 (a.lo : Int)) := fun u => ((hp1 u).cell blt (fun h => h) _).trans e3
        have p4 : ∀ u, (pick u).cell? ⟨b, o + k * 6 + 4, none⟩ = some (.int .i64 n) := fun u => ((hp1 u).cell blt (fun h => h) _).trans e4
        have p5 : ∀ u, (pick u).cell? ⟨b, o + k * 6 + 5, none⟩ = some (.int .i64 v) := fun u => ((hp1 u).cell blt (fun h => h) _).trans e5
        repeat (first | (refine wpR_det hp2 rfl ((hR.rel _).trans rfl) rfl ?_; intro K hK; go_big_quiet_op; go_big_quiet_on) | (refine wpR_ptr hp2 rfl ((hR.rel _).trans rfl) rfl rfl ?_; intro K hK; go_big_quiet_op; go_big_quiet_on) | (refine wpR_skip pick rfl ?_; intro K hK; go_big_quiet_op; go_big_quiet_on))
        refine wpR_rel pick rfl ((hR.rel _).trans rfl) ((hR.turns _).trans rfl) ?_ ?_
        · intro u hu
          have hk := hR.since hu.1
          have hks := hk.size
          unfold relAt
          go_simp
          refine (HTO.out u).mono ?_
          rintro e w' ⟨rfl, hb'⟩
          exact ⟨_, rfl, hR.intoB hb', hR.put 0 rfl rfl rfl⟩
        intro v hv
        obtain ⟨u, _, hu⟩ := hv
        obtain rfl := hR.get 0 rfl hu
        clear hu
        intro K hK
        go_big_quiet_op
        go_big_quiet_on
        repeat (first | (refine wpR_det hp2 rfl ((hR.rel _).trans rfl) rfl ?_; intro K hK; go_big_quiet_op; go_big_quiet_on) | (refine wpR_ptr hp2 rfl ((hR.rel _).trans rfl) rfl rfl ?_; intro K hK; go_big_quiet_op; go_big_quiet_on) | (refine wpR_skip pick rfl ?_; intro K hK; go_big_quiet_op; go_big_quiet_on))
        refine wpR_nil ?_
        intro w2 hk2 hF hM
        have HB2 := Lib.hid (HB.out.trans (hk2.below hsr (fun i h => h.elim)))
        have HM2 := Lib.hid (HM.out.onB (hk2.below (Nat.le_refl _) (fun i h => h.elim)))
        have hs2 := HB2.out.size
        clear hF hM hk2 hp1 hp2 hR p1 p2 p3 p4 p5 e0 e1 e2 e3 e4 e5 HTO
        by_cases hP : rightP a n
        · obtain ⟨m, rfl, hm⟩ := rightP_nat hP
          have HP := Lib.hid hP
          have HC := Lib.hid (set_yes tb w.heap.size M (R.length : Int) a m v w2 HAW.out hP hm HM2.out.tab hs2 (by omega) (by omega))
          clear hP
          go_wp2_with fail
          refine HC.out.mono ?_
          rintro e w3 ⟨rfl, ht3, hb3, hk3⟩
          have HM3x := Lib.hid (And.intro ht3 HM2.out.tw)
          have HM3r := Lib.hid (HM2.out.rs.keptT hk3)
          have HB3 := Lib.hid (HB2.out.trans hb3)
          clear hb3 ht3 hk3 HC
          obtain ⟨e0, e1, e2, e3, e4, e5⟩ := ac_cells (HEL.out.keep (w' := w3) (fun o => HB3.out.cell (p := ⟨b, o, none⟩) hb0)) hkl
          rw [HX.out] at e0 e1 e2 e3 e4 e5
          simp only at e0 e1 e2 e3 e4 e5
          have blt : b < w3.heap.size := by have := HB3.out.size; omega
          obtain ⟨rA, rc, rhe, hr1, hr2, hrE⟩ := HM3r.out.get
          have HRD := Lib.hid (refSet_yes rA rc R ⟨a, (m : Int), v⟩ w3 HAW.out HP.out (by omega) hrE)
          rw [rhe]
          clear rhe hr1 hr2 hrE
          go_wp2_with fail
          refine HRD.out.mono ?_
          rintro e w4 h4
          clear e0 e1 e2 e3 e4 e5 HRD
          rcases h4 with ⟨hno, A4, c4, rfl, hr4, hb4⟩ | ⟨j, hj, hja, hjn, A4, c4, rfl, hr4, hb4⟩
          · have hMn : M a.six (a.path m) = none := by have := HM3x.out.2.none_of (x := ⟨a, (m : Int), v⟩) HAW.out HP.out hno; simpa using this
            simp only [List.length_append, List.length_cons, List.length_nil, Nat.zero_add] at hr4
            have HM4 := Lib.hid (show MdS tb w.heap.size (upd M a.six (a.path m) (some v)) (R ++ [(⟨a, (m : Int), v⟩ : En)]) (.slice A4 (R.length + 1) c4) w4 from ⟨by
              have h1 := HM3x.out.1.onB hb4
              rw [hMn] at h1
              rw [show (((R ++ [(⟨a, (m : Int), v⟩ : En)]).length : Nat) : Int) = (R.length : Int) + 1 by simp]
              exact h1, RSE.of_row hr4, HM3x.out.2.add (x := ⟨a, (m : Int), v⟩) HAW.out HP.out hno⟩)
            have HB4 := Lib.hid (HB3.out.trans (hb4.mono HB3.out.size))
            clear hb4 hr4 hno hMn
            have HLN := Lib.hid (len_any tb w.heap.size _ _ w4 HM4.out.tab)
            go_wp2_with fail
            refine HLN.out.mono ?_
            rintro e w9 ⟨rfl, rfl⟩
            clear HLN
            go_wp2_with fail
            go_roundw
            case rel => exact ⟨k + 1, _, R ++ [⟨a, (m : Int), v⟩], by omega, by omega, by simp; omega, by go_num, HM4, HB4⟩
            case measure => simp [intOf]; omega
          · have hMs : M a.six (a.path m) = some R[j].v := by have := HM3x.out.2.mem _ (List.getElem_mem hj); rw [hja, hjn] at this; simpa using this
            have HLE := Lib.hid (show (R.set j (⟨a, (m : Int), v⟩ : En)).length = R.length from List.length_set)
            rw [List.length_set] at hr4
            have HM4 := Lib.hid (show MdS tb w.heap.size (upd M a.six (a.path m) (some v)) (R.set j ⟨a, (m : Int), v⟩) (.slice A4 R.length c4) w4 from ⟨by
              have h1 := HM3x.out.1.onB hb4
              rw [hMs] at h1
              rw [HLE.out]
              exact h1, RSE.of_row hr4, HM3x.out.2.put (x := ⟨a, (m : Int), v⟩) hj hja hjn⟩)
            have HB4 := Lib.hid (HB3.out.trans (hb4.mono HB3.out.size))
            clear hb4 hr4 hMs
            have HLN := Lib.hid (len_any tb w.heap.size _ _ w4 HM4.out.tab)
            go_wp2_with fail
            refine HLN.out.mono ?_
            rintro e w9 ⟨rfl, rfl⟩
            clear HLN
            go_wp2_with fail
            go_roundw
            case rel => exact ⟨k + 1, _, R.set j ⟨a, (m : Int), v⟩, by omega, by omega, by have := HLE.out; omega, by go_num, HM4, HB4⟩
            case measure => simp [intOf]; omega
        · have HC := Lib.hid (set_no tb a n v w2 HAW.out hP)
          have HP := Lib.hid hP
          clear hP
          go_wp2_with fail
          refine HC.out.mono ?_
          rintro e w3 ⟨rfl, hb3⟩
          have HM3 := Lib.hid (HM2.out.onB hb3)
          have HB3 := Lib.hid (HB2.out.trans (hb3.mono HB2.out.size))
          clear hb3 HC
          obtain ⟨e0, e1, e2, e3, e4, e5⟩ := ac_cells (HEL.out.keep (w' := w3) (fun o => HB3.out.cell (p := ⟨b, o, none⟩) hb0)) hkl
          rw [HX.out] at e0 e1 e2 e3 e4 e5
          simp only at e0 e1 e2 e3 e4 e5
          have blt : b < w3.heap.size := by have := HB3.out.size; omega
          obtain ⟨rA, rc, rhe, -, -, -⟩ := HM3.out.rs.get
          have HRE := Lib.hid rhe
          have HRD := Lib.hid (refSet_no rA rc R ⟨a, n, v⟩ w3 HAW.out HP.out)
          rw [rhe]
          clear rhe
          go_wp2_with fail
          refine HRD.out.mono ?_
          rintro e w4 ⟨rfl, hb4⟩
          have HM4 := Lib.hid (show MdS tb w.heap.size M R (.slice rA R.length rc) w4 from by rw [← HRE.out]; exact HM3.out.onB hb4)
          have HB4 := Lib.hid (HB3.out.trans (hb4.mono HB3.out.size))
          clear hb4 HRD e0 e1 e2 e3 e4 e5
          have HLN := Lib.hid (len_any tb w.heap.size _ _ w4 HM4.out.tab)
          go_wp2_with fail
          refine HLN.out.mono ?_
          rintro e w9 ⟨rfl, rfl⟩
          clear HLN
          go_wp2_with fail
          go_roundw
          case rel => exact ⟨k + 1, _, _, by omega, by omega, by omega, by go_num, HM4, HB4⟩
          case measure => simp [intOf]; omega
end Go.Proofs.Ytchgbdghllkcpaa
