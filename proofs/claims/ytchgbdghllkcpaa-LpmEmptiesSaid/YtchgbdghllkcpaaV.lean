/- The law LpmEmpties, walked. -/
import Derived.Test.YtchgbdghllkcpaaU
namespace Go.Proofs.Ytchgbdghllkcpaa
open Go.RowKit
set_option linter.unusedVariables false
def lenV : Value → Nat
  | .slice _ n _ => n
  | _ => 0
theorem RSE.head {w : World} {v : Value} {x : En} {R : List En} (h : RSE w v (x :: R)) : ∃ b off c, v = .slice (some ⟨b, off, none⟩) (R.length + 1) c ∧ R.length + 1 ≤ c ∧ c ≤ maxLen ∧ b < w.heap.size ∧
    (w.cell? ⟨b, off, none⟩ = some (.bool x.a.six) ∧ w.cell? ⟨b, off + 1, none⟩ = some (.int .u64 (x.a.hi : Int)) ∧ w.cell? ⟨b, off + 2, none⟩ = some (.int .u64 (x.a.lo : Int)) ∧ w.cell? ⟨b, off + 3, none⟩ = some (.int .i64 x.n) ∧ w.cell? ⟨b, off + 4, none⟩ = some (.int .i64 x.v)) ∧
    RSE w (.slice (some ⟨b, off + 5, none⟩) R.length (c - 1)) R ∧ (R = [] → RSE w (.slice (some ⟨b, off, none⟩) 0 0) R) := by
  obtain ⟨A, c, hv, h1, h2, h3⟩ := h
  rcases h3 with h3 | ⟨b, off, cs, rfl, hb, hel⟩
  · cases h3
  · have hc := en_cells hel (k := 0) (by simp)
    simp at hc h1
    refine ⟨b, off, c, by simpa using hv, h1, h2, hb.lt, hc, ⟨_, _, rfl, by omega, by omega, .inr ⟨b, off + 5, cs, rfl, hb, ?_⟩⟩, fun h => ?_⟩
    · have := hel.drop 1 (by simp)
      simpa using this
    · subst h
      exact ⟨_, _, rfl, by simp, by omega, .inl rfl⟩
theorem TwE.empty {M : Bool → Path → Option Int} (h : TwE [] M) (f : Bool) (p : Path) : M f p = none := by
  cases hM : M f p with
  | none => rfl
  | some v => obtain ⟨x, hx, -⟩ := h.all _ _ _ hM; cases hx
structure EmS (w : World) (bm : Nat) (a : Ad) (wr : World) : Prop where
  bel : Below w.heap.size w wr
  sz : bm ≤ wr.heap.size
  box : Blk wr w.heap.size 24 #[.bool a.six, .int .u64 (a.hi : Int), .int .u64 (a.lo : Int)]
theorem EmS.onB {w : World} {bm : Nat} {a : Ad} {wr w' : World} (h : EmS w bm a wr) (hb : Below wr.heap.size wr w') : EmS w bm a w' := ⟨h.bel.trans (hb.mono h.bel.size), Nat.le_trans h.sz hb.size, h.box.below hb h.box.lt⟩
theorem EmS.drop {w : World} {bm : Nat} {a : Ad} {wr w' : World} (h : EmS w bm a wr) (hw : w.heap.size < bm) (hb : Below bm wr w') : EmS w bm a w' := ⟨h.bel.trans (hb.mono (Nat.le_of_lt hw)), Nat.le_trans h.sz hb.size, h.box.below hb hw⟩
set_option maxHeartbeats 16000000 in
set_option maxRecDepth 100000 in
theorem empties_any (A : Option Addr) (c : Nat) (l : List AcE) (a : Ad) (w : World) (hl : l.length ≤ maxLen) (hw : ∀ y ∈ l, y.x.a.wf) (ha : a.wf) (hE : ES w w.heap.size A 6 (l.map AcE.cs)) :
    Calls Try.prog 5 #[.slice A l.length c, .agg #[.bool a.six, .int .u64 (a.hi : Int), .int .u64 (a.lo : Int)]] w fun e w' => e = .returned (.bool true) ∧ Below w.heap.size w w' := by
  have HE := Lib.hid hE
  have HWF := Lib.hid hw
  have HAW := Lib.hid ha
  clear hE hw ha
  go_enter Try.func5, Try.ntmps5
  go_wp2_with fail
  obtain ⟨w1, hw1⟩ : ∃ w1 : World, w1 = w.alloc (.cells #[.bool a.six, .int .u64 (a.hi : Int), .int .u64 (a.lo : Int)] 24) := ⟨_, rfl⟩
  have HX1 := Lib.hid (show Blk w1 w.heap.size 24 #[.bool a.six, .int .u64 (a.hi : Int), .int .u64 (a.lo : Int)] by rw [hw1]; exact Blk.new _ _ _)
  have HB1 := Lib.hid (show Below w.heap.size w w1 by rw [hw1]; exact bel1)
  have hs1 : w.heap.size + 1 ≤ w1.heap.size := by rw [hw1]; simp
  rw [← hw1]
  clear hw1
  refine (awake_any w1).mono ?_
  rintro e w2 ⟨rfl, hb2⟩
  have HX2 := Lib.hid (HX1.out.below hb2 HX1.out.lt)
  have HB2 := Lib.hid (HB1.out.trans (hb2.mono HB1.out.size))
  have HMA := Lib.hid (made_any A c l w2 hl HWF.out (HE.out.onB HB2.out (Nat.le_refl _)))
  have hs2 : w.heap.size + 1 ≤ w2.heap.size := by have := hb2.size; omega
  clear hb2 HX1 HB1
  go_wp2_with fail
  refine HMA.out.mono ?_
  rintro e w3 ⟨tb, M, R, rA, rc, rfl, hM, hR40, hb3⟩
  obtain ⟨bm, hbm⟩ : ∃ bm, w2.heap.size = bm := ⟨_, rfl⟩
  rw [hbm] at hM hs2
  have HM3 := Lib.hid hM
  have HX3 := Lib.hid (HX2.out.below hb3 HX2.out.lt)
  have HB3 := Lib.hid (HB2.out.trans (hb3.mono HB2.out.size))
  have HBM3 := Lib.hid (show bm ≤ w3.heap.size by have := hb3.size; omega)
  clear hM hb3 HMA HX2 HB2 hbm
  have hwb : w.heap.size < bm := by omega
  go_wp2_with fail
  go_loopw [6] (fun r wr => ∃ (M : Bool → Path → Option Int) (R : List En), R.length ≤ 40 ∧ Hid (MdS tb bm M R r wr) ∧ Hid (EmS w bm a wr)) (fun r _ => lenV r)
  case atStart => exact ⟨M, R, hR40, HM3, Lib.hid ⟨HB3.out, HBM3.out, HX3.out⟩⟩
  case round =>
    clear HM3 HB3 HX3 HBM3 hR40
    obtain ⟨M, R, hR40, HM, HZ⟩ := hrel
    cases R with
    | nil =>
      obtain ⟨rA', rc', rhe, -, -, -⟩ := HM.out.rs.get
      subst rhe
      have HEM := Lib.hid HM.out.tw.empty
      by_cases hr : a.right
      · have HFI := Lib.hid (find_yes tb bm M 0 a wr HAW.out hr HM.out.tab)
        have HRR := Lib.hid hr
        clear hr
        have x0 := HZ.out.box.cell
        have xlt := HZ.out.box.lt
        go_wp2_with fail
        refine HFI.out.mono ?_
        rintro e w4 ⟨⟨sz, val, fd, hbest, rfl⟩, hb4⟩
        obtain rfl : fd = false := by
          rcases hbest with ⟨h1, -⟩ | ⟨-, j, -, -, h4, -⟩
          · exact h1
          · have := (HEM.out a.six (a.path j)).symm.trans h4
            cases this
        rw [if_neg (by decide)]
        have HM4 := Lib.hid (HM.out.onB hb4)
        have HB4 := Lib.hid (HZ.out.bel.trans (hb4.mono HZ.out.bel.size))
        clear hb4 hbest HFI x0 xlt
        go_wp2_with fail
        refine (len_any tb bm M 0 _ (HM4.out.tab.onB bel1)).mono ?_
        rintro e w6 ⟨rfl, rfl⟩
        have HBX := Lib.hid (HB4.out.alloc HB4.out.size (.cells #[.bool false, .int .u64 0, .int .u64 0, .int .i64 0] 29))
        go_wp2_with fail
        refine (awake_any _).mono ?_
        rintro e wz ⟨rfl, hbz⟩
        have HBZ := Lib.hid (HBX.out.trans (hbz.mono HBX.out.size))
        clear hbz
        go_wp2_with fail
        go_ret
        exact ⟨rfl, HBZ.out⟩
      · have HFI := Lib.hid (find_no tb a wr hr)
        clear hr
        have x0 := HZ.out.box.cell
        have xlt := HZ.out.box.lt
        go_wp2_with fail
        refine HFI.out.mono ?_
        rintro e w4 ⟨rfl, hb4⟩
        have HM4 := Lib.hid (HM.out.onB hb4)
        have HB4 := Lib.hid (HZ.out.bel.trans (hb4.mono HZ.out.bel.size))
        clear hb4 HFI x0 xlt
        go_wp2_with fail
        refine (len_any tb bm M 0 _ (HM4.out.tab.onB bel1)).mono ?_
        rintro e w6 ⟨rfl, rfl⟩
        have HBX := Lib.hid (HB4.out.alloc HB4.out.size (.cells #[.bool false, .int .u64 0, .int .u64 0, .int .i64 0] 29))
        go_wp2_with fail
        refine (awake_any _).mono ?_
        rintro e wz ⟨rfl, hbz⟩
        have HBZ := Lib.hid (HBX.out.trans (hbz.mono HBX.out.size))
        clear hbz
        go_wp2_with fail
        go_ret
        exact ⟨rfl, HBZ.out⟩
    | cons x R =>
      obtain ⟨b, o, c, hr, hlc, hcm, hb, ⟨c0, c1, c2, c3, c4⟩, hRS, hRS0⟩ := HM.out.rs.head
      subst hr
      have HOK := Lib.hid (HM.out.tw.ok x (by simp))
      have HMM := Lib.hid (HM.out.tw.mem x (by simp))
      have HDL := Lib.hid (HM.out.tw.del (j := 0) (x := x) (by simp) rfl rfl)
      have HRS := Lib.hid hRS
      have HRS0 := Lib.hid hRS0
      obtain ⟨⟨s, h, lo⟩, n, v⟩ := x
      simp only at c0 c1 c2 c3 c4
      unfold maxLen at hcm
      have hR40' : R.length + 1 ≤ 40 := by simpa using hR40
      have hgt : (0 : Int) < (R.length : Int) + 1 := by omega
      have h1l : (1 : Int) ≤ (R.length : Int) + 1 := by omega
      have hlcI : (R.length : Int) + 1 ≤ (c : Int) := by omega
      have HTWm := Lib.hid (show ∀ m : Nat, n = (m : Int) → TwE R (upd M s (Ad.path ⟨s, h, lo⟩ m) none) from fun m hm => by have := HDL.out; simp only [List.eraseIdx_cons_zero] at this; rw [hm] at this; simpa using this)
      have HT1 := Lib.hid (show TabS tb bm M ((R.length : Int) + 1) wr from by have := HM.out.tab; simpa using this)
      clear hRS hRS0
      by_cases hc1 : c = 1
      · subst hc1
        obtain rfl : R = [] := List.eq_nil_of_length_eq_zero (by omega)
        go_upto_region 8 with fail
        obtain ⟨w2, hw2⟩ : ∃ w2 : World, w2 = wr.alloc (.cells #[.bool s, .int .u64 (h : Int), .int .u64 (lo : Int), .int .i64 n, .int .i64 v] 42) := ⟨_, rfl⟩
        have HY2 := Lib.hid (show Blk w2 wr.heap.size 42 #[.bool s, .int .u64 (h : Int), .int .u64 (lo : Int), .int .i64 n, .int .i64 v] by rw [hw2]; exact Blk.new _ _ _)
        have HT2 := Lib.hid (show TabS tb bm M ((([] : List En).length : Int) + 1) w2 by rw [hw2]; exact HT1.out.onB bel1)
        have HR2 := Lib.hid (show RSE w2 (.slice (some ⟨b, o, none⟩) 0 0) [] by rw [hw2]; exact (HRS0.out rfl).onB bel1)
        have HZ2 := Lib.hid (show EmS w bm a w2 by rw [hw2]; exact HZ.out.onB bel1)
        rw [← hw2]
        clear hw2 c0 c1 c2 c3 c4
        have HTO := Lib.hid (fun u => to_any ⟨⟨s, h, lo⟩, n, v⟩ u)
        have y0 := HY2.out.cell
        have ylt := HY2.out.lt
        go_wp2_with fail
        refine (HTO.out _).mono ?_
        rintro e w4 ⟨rfl, hb4⟩
        have HT4 := Lib.hid (HT2.out.onB hb4)
        have HR4 := Lib.hid (HR2.out.onB hb4)
        have HZ4 := Lib.hid (HZ2.out.onB hb4)
        have hbm4 := HZ4.out.sz
        clear hb4 y0 ylt HTO
        obtain ⟨m, rfl, hm⟩ := rightP_nat HOK.out.2
        have HC := Lib.hid (drop_yes tb bm M ((([] : List En).length : Int) + 1) ⟨s, h, lo⟩ m w4 HOK.out.1 HOK.out.2 hm HT4.out hbm4 (by omega) (by omega) (by have := HMM.out; simp only [Int.toNat_natCast] at this; rw [this]; rfl))
        go_wp2_with fail
        refine HC.out.mono ?_
        rintro e w5 ⟨rfl, ht5, hb5, hk5⟩
        have HM5 := Lib.hid (show MdS tb bm _ [] (.slice (some ⟨b, o, none⟩) 0 0) w5 from ⟨by have h0 := ht5; rw [show (([] : List En).length : Int) + 1 - 1 = (([] : List En).length : Int) by omega] at h0; exact h0, HR4.out.keptT hk5, HTWm.out m rfl⟩)
        have HZ5 := Lib.hid (HZ4.out.drop hwb hb5)
        clear ht5 hb5 hk5 HC
        go_wp2_with fail
        go_loopw [9] (fun i wr => ∃ k : Nat, k ≤ ([] : List En).length ∧ i = .int .i64 (k : Int) ∧ Hid (MdS tb bm (upd M s (Ad.path ⟨s, h, lo⟩ m) none) [] (.slice (some ⟨b, o, none⟩) 0 0) wr) ∧ Hid (EmS w bm a wr)) (fun i _ => ([] : List En).length - (intOf i).toNat)
        case atStart => exact ⟨0, by omega, rfl, HM5, HZ5⟩
        case round =>
          clear HM5 HZ5
          obtain ⟨k, hk, rfl, HM6, HZ6⟩ := hrel
          by_cases hkl : k < ([] : List En).length
          · exact absurd hkl (by simp)
          · obtain rfl : k = ([] : List En).length := by omega
            have hkn : ¬ (([] : List En).length : Int) < (([] : List En).length : Int) := by omega
            go_wp2_with fail
            go_roundw
            case rel => exact ⟨_, [], by simp, HM6, HZ6⟩
            case measure => simp [lenV]
      · have hcne : ¬ c - 1 = 0 := by omega
        go_upto_region 8 with fail
        obtain ⟨w2, hw2⟩ : ∃ w2 : World, w2 = wr.alloc (.cells #[.bool s, .int .u64 (h : Int), .int .u64 (lo : Int), .int .i64 n, .int .i64 v] 42) := ⟨_, rfl⟩
        have HY2 := Lib.hid (show Blk w2 wr.heap.size 42 #[.bool s, .int .u64 (h : Int), .int .u64 (lo : Int), .int .i64 n, .int .i64 v] by rw [hw2]; exact Blk.new _ _ _)
        have HT2 := Lib.hid (show TabS tb bm M ((R.length : Int) + 1) w2 by rw [hw2]; exact HT1.out.onB bel1)
        have HR2 := Lib.hid (show RSE w2 (.slice (some ⟨b, o + 5, none⟩) R.length (c - 1)) R by rw [hw2]; exact (HRS.out).onB bel1)
        have HZ2 := Lib.hid (show EmS w bm a w2 by rw [hw2]; exact HZ.out.onB bel1)
        rw [← hw2]
        clear hw2 c0 c1 c2 c3 c4
        have HTO := Lib.hid (fun u => to_any ⟨⟨s, h, lo⟩, n, v⟩ u)
        have y0 := HY2.out.cell
        have ylt := HY2.out.lt
        go_wp2_with fail
        refine (HTO.out _).mono ?_
        rintro e w4 ⟨rfl, hb4⟩
        have HT4 := Lib.hid (HT2.out.onB hb4)
        have HR4 := Lib.hid (HR2.out.onB hb4)
        have HZ4 := Lib.hid (HZ2.out.onB hb4)
        have hbm4 := HZ4.out.sz
        clear hb4 y0 ylt HTO
        obtain ⟨m, rfl, hm⟩ := rightP_nat HOK.out.2
        have HC := Lib.hid (drop_yes tb bm M ((R.length : Int) + 1) ⟨s, h, lo⟩ m w4 HOK.out.1 HOK.out.2 hm HT4.out hbm4 (by omega) (by omega) (by have := HMM.out; simp only [Int.toNat_natCast] at this; rw [this]; rfl))
        go_wp2_with fail
        refine HC.out.mono ?_
        rintro e w5 ⟨rfl, ht5, hb5, hk5⟩
        have HM5 := Lib.hid (show MdS tb bm _ R (.slice (some ⟨b, o + 5, none⟩) R.length (c - 1)) w5 from ⟨by have h0 := ht5; rw [show (R.length : Int) + 1 - 1 = (R.length : Int) by omega] at h0; exact h0, HR4.out.keptT hk5, HTWm.out m rfl⟩)
        have HZ5 := Lib.hid (HZ4.out.drop hwb hb5)
        clear ht5 hb5 hk5 HC
        go_wp2_with fail
        go_loopw [9] (fun i wr => ∃ k : Nat, k ≤ R.length ∧ i = .int .i64 (k : Int) ∧ Hid (MdS tb bm (upd M s (Ad.path ⟨s, h, lo⟩ m) none) R (.slice (some ⟨b, o + 5, none⟩) R.length (c - 1)) wr) ∧ Hid (EmS w bm a wr)) (fun i _ => R.length - (intOf i).toNat)
        case atStart => exact ⟨0, by omega, rfl, HM5, HZ5⟩
        case round =>
          clear HM5 HZ5
          obtain ⟨k, hk, rfl, HM6, HZ6⟩ := hrel
          by_cases hkl : k < R.length
          · have kI : (k : Int) < (R.length : Int) := by omega
            obtain ⟨A', c', hve, -, -, hrE⟩ := HM6.out.rs.get
            injection hve with e1 e2 e3
            subst e1
            obtain ⟨b', o', hb', hab, hel⟩ := hrE.at (k := k) (by simpa using hkl)
            injection hab with hab
            injection hab with hab1 hab2
            subst hab1 hab2
            have HEL := Lib.hid hel
            obtain ⟨c0, c1, c2, c3, c4⟩ := en_cells hel hkl
            obtain ⟨y, hy⟩ : ∃ y, R[k] = y := ⟨_, rfl⟩
            rw [hy] at c0 c1 c2 c3 c4
            have HYY := Lib.hid hy
            have HOKk := Lib.hid (show y.a.wf ∧ rightP y.a y.n by rw [← hy]; exact HM6.out.tw.ok _ (List.getElem_mem hkl))
            have HMK := Lib.hid (show (upd M s (Ad.path ⟨s, h, lo⟩ m) none) y.a.six (y.a.path y.n.toNat) = some y.v by rw [← hy]; exact HM6.out.tw.mem _ (List.getElem_mem hkl))
            clear hel hy hrE e2 e3
            obtain ⟨ya, yn, yv⟩ := y
            simp only at c0 c1 c2 c3 c4
            have HTO := Lib.hid (fun u => to_any ⟨ya, yn, yv⟩ u)
            go_wp2_with fail
            refine (HTO.out _).mono ?_
            rintro e w7 ⟨rfl, hb7⟩
            have HM7 := Lib.hid (HM6.out.onB hb7)
            have HZ7 := Lib.hid (HZ6.out.onB hb7)
            have HE7 := Lib.hid (HEL.out.keep (w' := w7) (fun o => hb7.cell (p := ⟨b, o, none⟩) hb'))
            have hb7' : b < w7.heap.size := by have := hb7.size; omega
            clear hb7 HTO c0 c1 c2 c3 c4
            obtain ⟨m', rfl, hm'⟩ := rightP_nat HOKk.out.2
            have HGE := Lib.hid (get_yes tb bm _ (R.length : Int) ya m' w7 HOKk.out.1 HOKk.out.2 hm' HM7.out.tab)
            have HMv := Lib.hid (show (upd M s (Ad.path ⟨s, h, lo⟩ m) none) ya.six (ya.path m') = some yv by have := HMK.out; simpa using this)
            rw [HMv.out] at HGE
            go_wp2_with fail
            refine HGE.out.mono ?_
            rintro e w8 ⟨rfl, hb8⟩
            have HM8 := Lib.hid (HM7.out.onB hb8)
            have HZ8 := Lib.hid (HZ7.out.onB hb8)
            obtain ⟨-, -, -, -, d4⟩ := en_cells (HE7.out.keep (w' := w8) (fun o => hb8.cell (p := ⟨b, o, none⟩) hb7')) hkl
            rw [HYY.out] at d4
            simp only at d4
            have hb8' : b < w8.heap.size := by have := hb8.size; omega
            clear hb8 HGE
            simp only [Option.getD_some, Option.isSome_some]
            go_wp2_with fail
            go_roundw
            case rel => exact ⟨k + 1, by omega, by go_num, HM8, HZ8⟩
            case measure => simp [intOf]; omega
          · obtain rfl : k = R.length := by omega
            have hkn : ¬ (R.length : Int) < (R.length : Int) := by omega
            go_wp2_with fail
            go_roundw
            case rel => exact ⟨_, R, by omega, HM6, HZ6⟩
            case measure => simp [lenV]
end Go.Proofs.Ytchgbdghllkcpaa
