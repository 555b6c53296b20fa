/- The law SmoothPicks, walked. -/
import Derived.Test.YtfdlpgmoohlgeaaPlainP
import Derived.Test.YtfdlpgmoohlgeaaS
namespace Go.Proofs.Ytfdlpgmoohlgeaa
open Go.RowKit
set_option linter.unusedVariables false
/-- What the loop over the lists keeps. -/
structure PkS (sb base : Nat) (rv : Value) (R : List ShR) (k : Nat) (w0 w : World) : Prop where
  sm : SmS sb base (R.map ShR.sh) w0 w
  row : RowN w base 44 5 rv (R.map ShR.cs)
  len : R.length ≤ 30
  cr : CrB R (3100 * (k : Int))
  dist : DistR R
theorem PkS.below {sb base k : Nat} {rv : Value} {R : List ShR} {w0 w w' : World} (h : PkS sb base rv R k w0 w) (hb : Below w.heap.size w w') : PkS sb base rv R k w0 w' :=
  ⟨h.sm.below hb, h.row.belowAll hb, h.len, h.cr, h.dist⟩
theorem SmS.keptF {sb base : Nat} {S : List Sh} {w0 w w' : World} (h : SmS sb base S w0 w) (hk : Kept (fun _ => False) w w') : SmS sb base S w0 w' := by
  obtain ⟨⟨v, hB, hR⟩, hK⟩ := h
  exact ⟨⟨v, hB.kept hk (fun h => h), hR.kept hk (fun _ _ h => h)⟩, hK.then hk (fun _ _ h => h.elim)⟩
theorem PkS.belowK {sb base k : Nat} {rv : Value} {R : List ShR} {w0 w w' : World} (h : PkS sb base rv R k w0 w) (hk : Kept (fun _ => False) w w') : PkS sb base rv R k w0 w' :=
  ⟨h.sm.keptF hk, h.row.kept hk (fun _ _ h => h), h.len, h.cr, h.dist⟩
def ToV (u : World) (v : Value) (x : Cd) : Prop := ∃ A c, v = .slice A 1 c ∧ ES u u.heap.size A 4 ([x].map Cd.cs)
theorem ToV.is_ (w : World) (x : Cd) : ∃ v u, Kept (fun _ => False) w u ∧ ToV u v x :=
  ⟨_, _, (Kept.refl _ _).alloc (.cells #[.int .i64 x.slot, .int .i64 x.backend, .int .i64 x.weight, .int .u32 x.load] 34), some ⟨w.heap.size, 0, none⟩, 1, rfl, .inr ⟨_, 0, by simp, rfl, ElAt.of_blk (Blk.new _ _ _) (sz_map Cd.cs_len _) rfl⟩⟩
theorem PkS.next {sb base k : Nat} {rv : Value} {R : List ShR} {w0 w : World} (h : PkS sb base rv R k w0 w) : PkS sb base rv R (k + 1) w0 w :=
  ⟨h.sm, h.row, h.len, fun r hr => by have := h.cr r hr; omega, h.dist⟩
theorem SmS.alloc_ {sb base : Nat} {S : List Sh} {w0 w : World} (h : SmS sb base S w0 w) (o : Obj) : SmS sb base S w0 (w.alloc o) := by
  obtain ⟨⟨v, h1, h2⟩, h3⟩ := h
  exact ⟨⟨v, h1.alloc _, h2.alloc _⟩, h3.alloc _⟩
theorem row_es {w : World} {base e sz n c : Nat} {A : Option Addr} {L : List (List Value)} (h : RowN w base e sz (.slice A n c) L) : ES w w.heap.size A sz L := by
  obtain ⟨A', c', hv, -, -, he⟩ := h.es
  injection hv with e1 e2 e3
  rw [e1]; exact he
theorem PkS.owed {sb base k : Nat} {rv : Value} {R : List ShR} {w0 w : World} (h : PkS sb base rv R k w0 w) (x : Int) : Calls Try.prog 10 #[.pointer (some ⟨sb, 0, none⟩), .int .i64 x] w fun e w' => e = .returned (.int .i64 (owedI (R.map ShR.sh) x)) ∧ Below w.heap.size w w' := by
  obtain ⟨v, h1, h2⟩ := h.sm.ex
  exact owed_any sb base v _ x w (by have := h.len; simp; omega) h1 h2
theorem load_cd {w : World} {b off : Nat} {x : Cd} (h : ElAt w b off 4 ([x].map Cd.cs)) : w.cell? ⟨b, off, none⟩ = some (.int .i64 x.slot) ∧ w.cell? ⟨b, off + 1, none⟩ = some (.int .i64 x.backend) ∧ w.cell? ⟨b, off + 2, none⟩ = some (.int .i64 x.weight) ∧ w.cell? ⟨b, off + 3, none⟩ = some (.int .u32 x.load) := by
  have := cd_cells (l := [x]) h (k := 0) (by simp)
  simpa using this
set_option maxRecDepth 100000 in
set_option maxHeartbeats 4000000 in
theorem picks_any (A : Option Addr) (c : Nat) (L : List CdV) (bk : Int) (w : World) (hl : L.length ≤ maxLen) (hA : ES w w.heap.size A 1 (L.map CdV.cs)) (hEl : ∀ y ∈ L, y.l.length ≤ maxLen ∧ ES w w.heap.size y.A 4 (y.l.map Cd.cs)) :
    Calls Try.prog 4 #[.slice A L.length c, .int .i64 bk] w fun e w' => e = .returned (.bool true) ∧ Below w.heap.size w w' := by
  have HA := Lib.hid hA
  have HE := Lib.hid hEl
  unfold maxLen at hl
  clear hA hEl
  go_enter Try.func4, Try.ntmps4
  go_wp2_with fail
  refine (awake_any w).mono ?_
  rintro e w1 ⟨rfl, hb1⟩
  have hs1 := hb1.size
  have HB1 := Lib.hid hb1
  clear hb1
  go_wp2_with fail
  obtain ⟨w2, hw2⟩ : ∃ w2 : World, w2 = w1.alloc (.cells #[.slice none 0 0] 28) := ⟨_, rfl⟩
  have hs2 : w2.heap.size = w1.heap.size + 1 := by rw [hw2]; simp
  have HP2 := Lib.hid (show PkS w1.heap.size (w1.heap.size + 1) (.slice none 0 0) [] 0 w2 w2 from ⟨⟨⟨_, by rw [hw2]; exact Blk.new _ _ _, RowN.nil _ _ _ _⟩, Kept.refl _ _⟩, RowN.nil _ _ _ _, by simp, (fun r hr => by cases hr), List.Pairwise.nil⟩)
  have HB2 := Lib.hid (show Below w.heap.size w w2 by rw [hw2]; exact HB1.out.alloc hs1 _)
  rw [← hw2]
  clear hw2
  obtain ⟨sb, hsb⟩ : ∃ sb, w1.heap.size = sb := ⟨_, rfl⟩
  rw [hsb] at HP2 hs2 hs1 ⊢
  clear HB1 hsb
  go_loopw [6, 7, 8, 9, 10, 11, 12, 13] (fun r i _ _ _ _ _ _ wr => ∃ k : Nat, k ≤ L.length ∧ k ≤ 60 ∧ i = .int .i64 (k : Int) ∧ ∃ R, Hid (PkS sb (sb + 1) r R k w2 wr)) (fun _ i _ _ _ _ _ _ _ => 60 - (intOf i).toNat)
  case atStart => exact ⟨0, by omega, by omega, rfl, [], HP2⟩
  case round =>
    clear HP2
    obtain ⟨k, hk, hk60, rfl, R, HP⟩ := hrel
    have hsr := HP.out.sm.kept.size
    obtain ⟨WA, wcap, hv, -, -, -⟩ := HP.out.row.es
    rw [List.length_map] at hv
    subst hv
    by_cases hkl : k < L.length
    · by_cases hk6 : k < 60
      · have hkI : (k : Int) < (L.length : Int) := by omega
        have hk6I : (k : Int) < 60 := by omega
        obtain ⟨b, o, hb, rfl, hel⟩ := HA.out.at (k := k) (by simpa using hkl)
        have HK := Lib.hid (fun (b : Nat) (hb : b < w.heap.size) (o : Nat) => (show wr.cell? ⟨b, o, none⟩ = w.cell? ⟨b, o, none⟩ from (HP.out.sm.kept.cell (by omega) (by omega) o).trans (HB2.out.cell (p := ⟨b, o, none⟩) hb)))
        have c0 : wr.cell? ⟨b, o + k, none⟩ = some (.slice L[k].A L[k].l.length L[k].c) := by
          rw [HK.out b hb]
          have := hel.get0 (k := k) (by simpa using hkl) (by omega)
          simpa [CdV.cs, CdV.val] using this
        obtain ⟨hlm, hes⟩ := HE.out L[k] (List.getElem_mem hkl)
        have HES := Lib.hid ((hes.keep (fun b o hb => HK.out b hb o)).more (B' := wr.heap.size) (by omega))
        obtain ⟨⟨XA, xc, l⟩, hx⟩ : ∃ x, L[k] = x := ⟨_, rfl⟩
        rw [hx] at c0 hlm HES
        simp only at c0 hlm HES
        have blt : b < wr.heap.size := by omega
        have HRT := Lib.hid (rightL_any XA xc l wr hlm HES.out)
        unfold maxLen at hlm
        have HX0 := Lib.hid (show ES w w.heap.size XA 4 (l.map Cd.cs) by rw [hx] at hes; exact hes)
        clear hel hes hx HK
        go_wp2_with fail
        refine HRT.out.mono ?_
        rintro e w3 ⟨bb, rfl, hb3, hgood⟩
        have hs3 := hb3.size
        have HP3 := Lib.hid (HP.out.below hb3)
        have HE3 := Lib.hid (HES.out.onB hb3 (Nat.le_refl _))
        have c3 : w3.cell? ⟨b, o + k, none⟩ = some (.slice XA l.length xc) := (hb3.cell (p := ⟨b, o + k, none⟩) blt).trans c0
        clear hb3 HRT HES HP c0
        cases bb with
        | false =>
          clear hgood
          go_wp2_with fail
          go_roundw
          case rel => exact ⟨k + 1, by omega, by omega, by go_num, R, Lib.hid HP3.out.next⟩
          case measure => simp [intOf]; omega
        | true =>
          obtain ⟨hl30, hr, hds⟩ := hgood rfl
          have HWT := Lib.hid (rf_weight hr)
          have HDS := Lib.hid hds
          clear hgood hr hds
          have HTO := Lib.hid (toL_any XA xc l w3 (by omega) HE3.out)
          go_wp2_with fail
          refine HTO.out.mono ?_
          rintro e w4 ⟨TA, tc, rfl, hT, hTb, hb4⟩
          have hs4 := hb4.size
          have HP4 := Lib.hid (HP3.out.below hb4)
          have HE4 := Lib.hid (HE3.out.onB hb4 (Nat.le_refl _))
          have c4 : w4.cell? ⟨b, o + k, none⟩ = some (.slice XA l.length xc) := (hb4.cell (p := ⟨b, o + k, none⟩) (show b < _ by omega)).trans c3
          have HPK := Lib.hid (HP4.out.sm.pick (l := l) (A := TA) (c := tc) (3100 * (k : Int)) hl30 (by have := HP4.out.len; simp; omega) HWT.out HP4.out.cr.sh (by omega) (by omega) hT (by omega))
          clear HTO hT hTb hb4 c3 HE3 HP3
          go_wp2_with fail
          refine HPK.out.mono ?_
          rintro e w5 ⟨hS5, hs5, hoth, he⟩
          obtain ⟨rr, hB⟩ := HP4.out.sm.ex
          have HR5 := Lib.hid (HP4.out.row.past hB.1 (by decide) (by decide) hoth)
          have HK5 := Lib.hid (fun (b : Nat) (hb : b < w.heap.size) (o : Nat) => (show w5.cell? ⟨b, o, none⟩ = w4.cell? ⟨b, o, none⟩ from (hS5.kept.cell (by omega) (by omega) o).trans (HP4.out.sm.kept.cell (by omega) (by omega) o).symm))
          have HKW := Lib.hid (fun (b : Nat) (hb : b < w.heap.size) (o : Nat) => (show w5.cell? ⟨b, o, none⟩ = w.cell? ⟨b, o, none⟩ from (hS5.kept.cell (by omega) (by omega) o).trans (HB2.out.cell (p := ⟨b, o, none⟩) hb)))
          have c5 : w5.cell? ⟨b, o + k, none⟩ = some (.slice XA l.length xc) := (HK5.out b hb _).trans c4
          have HS5 := Lib.hid hS5
          have HEX := Lib.hid ((HX0.out.keep (fun b o hb => HKW.out b hb o)).more (B' := w5.heap.size) (by omega))
          have blt5 : b < w5.heap.size := by omega
          have bne5 : b ≠ w5.heap.size := by omega
          rcases he with ⟨h0, rfl⟩ | ⟨hne, x, hx, rfl⟩
          · clear hS5 hoth hB HPK c4
            have HE6 := Lib.hid (HEX.out.alloc (Nat.le_refl _) (.cells #[.int .i64 0, .int .i64 0, .int .i64 0, .int .u32 0] 34) |>.more (B' := (w5.alloc (.cells #[.int .i64 0, .int .i64 0, .int .i64 0, .int .u32 0] 34)).heap.size) (by simp))
            have HR6 := Lib.hid (HR5.out.alloc (.cells #[.int .i64 0, .int .i64 0, .int .i64 0, .int .u32 0] 34))
            have HPR := Lib.hid (refSpick_any WA XA wcap xc R l (w5.alloc (.cells #[.int .i64 0, .int .i64 0, .int .i64 0, .int .u32 0] 34)) (3100 * (k : Int)) hl30 (by have := HP4.out.len; omega) HWT.out HP4.out.cr (by omega) (by omega) (row_es HR6.out) HE6.out)
            go_wp2_with fail
            refine HPR.out.mono ?_
            intro e w7 hor
            obtain ⟨-, rfl, hb7⟩ := Or.resolve_right hor (fun h => h.1 h0)
            clear hor
            have hs7 : w5.heap.size + 1 ≤ w7.heap.size := by have := hb7.size; simpa using this
            have HP7 := Lib.hid (show PkS sb (sb + 1) (.slice WA R.length wcap) (nextR R l) (k + 1) w2 w7 from ⟨by rw [next_sh]; exact (HS5.out.alloc_ _).below hb7, by rw [nextR, if_pos h0]; exact HR6.out.belowAll hb7, next_len R l HP4.out.len hl30, by have := next_cr R l _ HP4.out.cr (by omega) HWT.out hl30; rw [show (3100 * ((k + 1 : Nat) : Int)) = 3100 * (k : Int) + 3100 by omega]; exact this, next_dist R l HP4.out.dist HDS.out⟩)
            have hc7 := ((Blk.new w5 34 #[.int .i64 0, .int .i64 0, .int .i64 0, .int .u32 0]).below hb7 (by simp)).cell
            have HNR := Lib.hid (show nextR R l = R by rw [nextR, if_pos h0])
            obtain ⟨R', hR'⟩ : ∃ R', nextR R l = R' := ⟨_, rfl⟩
            rw [hR'] at HP7 HNR
            obtain ⟨rn, hrn⟩ : ∃ n, R.length = n := ⟨_, rfl⟩
            have hRn : R'.length = rn := by rw [HNR.out, hrn]
            rw [hrn] at HP7 ⊢
            clear hb7 HPR HE6 HR6 HR5 HP4 HE4 HS5 HK5 hrn hR' HNR
            obtain ⟨cb, hcb⟩ : ∃ cb, w5.heap.size = cb := ⟨_, rfl⟩
            rw [hcb] at hc7 hs7 ⊢
            have cblt : cb < w7.heap.size := by omega
            obtain ⟨RA, hRA⟩ : ∃ RA, WA = RA := ⟨_, rfl⟩
            obtain ⟨rc, hrc⟩ : ∃ rc, wcap = rc := ⟨_, rfl⟩
            rw [hRA, hrc] at HP7 ⊢
            clear hRA hrc hcb
            go_upto_region 12 with fail
            refine wp_region_kept 29 [] ?st ?ne rfl (by kernel_rfl) (by kernel_rfl) ?_
            case st => intro p hp; cases hp
            case ne => intro p hp; cases hp
            simp only [List.take_succ_cons, List.take_zero, List.drop_succ_cons, List.drop_zero]
            intro G pick hR hp1 hp2
            have p0 : ∀ u, (pick u).cell? ⟨cb, 0, none⟩ = some (.int .i64 0) := fun u => ((hp1 u).cell cblt (fun h => h) _).trans (hc7 0)
            have p1 : ∀ u, (pick u).cell? ⟨cb, 1, none⟩ = some (.int .i64 0) := fun u => ((hp1 u).cell cblt (fun h => h) _).trans (hc7 1)
            have p2 : ∀ u, (pick u).cell? ⟨cb, 2, none⟩ = some (.int .i64 0) := fun u => ((hp1 u).cell cblt (fun h => h) _).trans (hc7 2)
            have p3 : ∀ u, (pick u).cell? ⟨cb, 3, none⟩ = some (.int .u32 0) := fun u => ((hp1 u).cell cblt (fun h => h) _).trans (hc7 3)
            repeat (first | (refine wpR_det hp2 rfl ((hR.rel _).trans rfl) rfl ?_; intro K hK; go_big_quiet_op; go_big_quiet_on) | (refine wpR_ptr hp2 rfl ((hR.rel _).trans rfl) rfl rfl ?_; intro K hK; go_big_quiet_op; go_big_quiet_on) | (refine wpR_skip pick rfl ?_; intro K hK; go_big_quiet_op; go_big_quiet_on))
            refine wpR_nil ?_
            intro w8 hk2 hF hM
            clear hF hM hp1 hp2 hR p0 p1 p2 p3 hc7
            have HP8 := Lib.hid (HP7.out.belowK hk2)
            have hs8 := hk2.size
            have hln := HP7.out.len
            clear hk2 HP7
            go_wp2_with fail
            go_loopw [12, 13] (fun wt m wx => ∃ j : Nat, j ≤ rn ∧ m = .int .i64 (j : Int) ∧ wt = .int .i64 (wantTo R' bk j) ∧ Hid (PkS sb (sb + 1) (.slice RA rn rc) R' (k + 1) w2 wx)) (fun _ m _ => rn - (intOf m).toNat)
            case atStart => exact ⟨0, by omega, rfl, rfl, HP8⟩
            case round =>
              clear HP8
              obtain ⟨j, hj, rfl, rfl, HP9⟩ := hrel
              by_cases hjn : j < rn
              · have hjR : j < R'.length := by omega
                obtain ⟨g, gc, hv, -, hglt, hel⟩ := HP9.out.row.at (i := j) (by simpa using hjR)
                injection hv with e1 e2 e3
                subst e1
                obtain ⟨-, s1, -, -, s4⟩ := sr_cells hel (k := j) (by simpa using hjR)
                simp only [Nat.zero_add] at s1 s4
                have HW := Lib.hid (want_succ R' bk j hjR HP9.out.dist)
                have HOW := Lib.hid (owed_own R' j hjR HP9.out.dist)
                obtain ⟨bb, hbb⟩ : ∃ y, R'[j].c.backend = y := ⟨_, rfl⟩
                obtain ⟨ow, how⟩ : ∃ y, R'[j].owed = y := ⟨_, rfl⟩
                rw [hbb] at s1 HW HOW
                rw [how] at s4 HW HOW
                have hjI : (j : Int) < (rn : Int) := by omega
                have hj0 : (0 : Int) ≤ (j : Int) := by omega
                clear hbb how hel e2 e3
                go_upto_region 18 with fail
                refine wp_region_kept 14 [(7, fun v u => v = .int .i64 ow)] ?st ?ne rfl (by kernel_rfl) (by kernel_rfl) ?_
                case st =>
                  intro p hp
                  simp only [List.mem_cons, List.not_mem_nil, or_false] at hp
                  subst hp
                  · intro v u u' h hk; exact h
                case ne =>
                  intro p hp
                  simp only [List.mem_cons, List.not_mem_nil, or_false] at hp
                  subst hp
                  · exact ⟨_, _, Kept.refl _ _, rfl⟩
                simp only [List.take_succ_cons, List.take_zero, List.drop_succ_cons, List.drop_zero]
                intro G pick hR hp1 hp2
                have p1 : ∀ u, (pick u).cell? ⟨g, j * 5 + 1, none⟩ = some (.int .i64 bb) := fun u => ((hp1 u).cell hglt (fun h => h) _).trans s1
                have p2 : ∀ u, (pick u).cell? ⟨g, j * 5 + 4, none⟩ = some (.int .i64 ow) := fun u => ((hp1 u).cell hglt (fun h => h) _).trans s4
                repeat (first | (refine wpR_det hp2 rfl ((hR.rel _).trans rfl) rfl ?_; intro K hK; go_big_quiet_op; go_big_quiet_on) | (refine wpR_ptr hp2 rfl ((hR.rel _).trans rfl) rfl rfl ?_; intro K hK; go_big_quiet_op; go_big_quiet_on) | (refine wpR_skip pick rfl ?_; intro K hK; go_big_quiet_op; go_big_quiet_on))
                refine wpR_rel pick rfl ((hR.rel _).trans rfl) ((hR.turns _).trans rfl) ?_ ?_
                · intro u hu
                  have hk := hR.since hu.1
                  have hks := hk.size
                  have hz := (HP9.out.belowK hk).owed bb
                  rw [HOW.out] at hz
                  unfold relAt
                  go_simp
                  refine hz.mono ?_
                  rintro e w' ⟨rfl, hb'⟩
                  exact ⟨_, rfl, hR.intoB hb', hR.put 0 rfl rfl rfl⟩
                intro v hv
                obtain ⟨u, _, hu⟩ := hv
                obtain rfl := hR.get 0 rfl hu
                clear hu
                intro K hK
                go_big_quiet_op
                go_big_quiet_on
                repeat (first | (refine wpR_det hp2 rfl ((hR.rel _).trans rfl) rfl ?_; intro K hK; go_big_quiet_op; go_big_quiet_on) | (refine wpR_ptr hp2 rfl ((hR.rel _).trans rfl) rfl rfl ?_; intro K hK; go_big_quiet_op; go_big_quiet_on) | (refine wpR_skip pick rfl ?_; intro K hK; go_big_quiet_op; go_big_quiet_on))
                refine wpR_nil ?_
                intro wA hk2 hF hM
                have HPA := Lib.hid (HP9.out.belowK hk2)
                have sa1 := (hk2.cell hglt (fun h => h) _).trans s1
                have sa4 := (hk2.cell hglt (fun h => h) _).trans s4
                have hga : g < wA.heap.size := by have := hk2.size; omega
                clear hF hM hk2 hp1 hp2 hR p1 p2 s1 s4 HP9
                by_cases hbk : bb = bk
                · subst hbk
                  rw [if_pos rfl] at HW
                  go_wp2_with fail
                  go_roundw
                  case rel => exact ⟨j + 1, by omega, by go_num, by rw [HW.out], HPA⟩
                  case measure => simp [intOf]; omega
                · rw [if_neg hbk] at HW
                  go_wp2_with fail
                  go_roundw
                  case rel => exact ⟨j + 1, by omega, by go_num, by rw [HW.out], HPA⟩
                  case measure => simp [intOf]; omega
              · obtain rfl : j = rn := by omega
                have HOW := Lib.hid (want_all R' bk)
                rw [hRn] at HOW
                have HZ := Lib.hid (HP9.out.owed bk)
                rw [← HOW.out] at HZ
                go_wp2_with fail
                refine HZ.out.mono ?_
                rintro e wB ⟨rfl, hbB⟩
                have HPB := Lib.hid (HP9.out.below hbB)
                clear hbB HZ HP9
                go_wp2_with fail
                go_roundw
                case rel => exact ⟨k + 1, by omega, by omega, by go_num, R', HPB⟩
                case measure => simp [intOf]; omega
          · clear hS5 hoth hB HPK c4
            obtain ⟨xs, xb, xw, xl⟩ := x
            have HE6 := Lib.hid (HEX.out.alloc (Nat.le_refl _) (.cells #[.int .i64 xs, .int .i64 xb, .int .i64 xw, .int .u32 xl] 34) |>.more (B' := (w5.alloc (.cells #[.int .i64 xs, .int .i64 xb, .int .i64 xw, .int .u32 xl] 34)).heap.size) (by simp))
            have HR6 := Lib.hid (HR5.out.alloc (.cells #[.int .i64 xs, .int .i64 xb, .int .i64 xw, .int .u32 xl] 34))
            have HPR := Lib.hid (refSpick_any WA XA wcap xc R l (w5.alloc (.cells #[.int .i64 xs, .int .i64 xb, .int .i64 xw, .int .u32 xl] 34)) (3100 * (k : Int)) hl30 (by have := HP4.out.len; omega) HWT.out HP4.out.cr (by omega) (by omega) (row_es HR6.out) HE6.out)
            go_wp2_with fail
            refine HPR.out.mono ?_
            rintro e w7 (⟨h0, -⟩ | ⟨-, v', rfl, hrow, hb7⟩)
            · exact absurd h0 hne
            have hs7 : w5.heap.size + 1 ≤ w7.heap.size := by have := hb7.size; simpa using this
            have hNR : nextR R l = rowR (heavy l) (crd (stepS (baseS (R.map ShR.sh) (heavy l)))) := by rw [nextR, if_neg hne]
            have HP7 := Lib.hid (show PkS sb (sb + 1) v' (nextR R l) (k + 1) w2 w7 from ⟨by rw [next_sh]; exact (HS5.out.alloc_ _).below hb7, by rw [hNR]; exact hrow.more (by simp; omega), next_len R l HP4.out.len hl30, by have := next_cr R l _ HP4.out.cr (by omega) HWT.out hl30; rw [show (3100 * ((k + 1 : Nat) : Int)) = 3100 * (k : Int) + 3100 by omega]; exact this, next_dist R l HP4.out.dist HDS.out⟩)
            have hc7 := ((Blk.new w5 34 #[.int .i64 xs, .int .i64 xb, .int .i64 xw, .int .u32 xl]).below hb7 (by simp)).cell
            obtain ⟨q, hq⟩ : ∃ q, stepB (baseS (R.map ShR.sh) (heavy l)) = q := ⟨_, rfl⟩
            rw [hq] at hx ⊢
            have hqh : q < (heavy l).length := (List.getElem?_eq_some_iff.1 hx).1
            have hqx : (heavy l)[q] = ⟨xs, xb, xw, xl⟩ := (List.getElem?_eq_some_iff.1 hx).2
            have hqR : ∃ (h : q < (nextR R l).length), ((nextR R l)[q]'h).c = ⟨xs, xb, xw, xl⟩ := by
              rw [hNR]
              exact ⟨by rw [rowR_len]; exact hqh, by rw [rowR_at _ _ _ hqh]; exact hqx⟩
            obtain ⟨R', hR'⟩ : ∃ R', nextR R l = R' := ⟨_, rfl⟩
            rw [hR'] at HP7 hqR
            obtain ⟨hqR, hqc⟩ := hqR
            obtain ⟨rg, rc, hv, -, hglt, hel⟩ := HP7.out.row.at (i := q) (by simpa using hqR)
            rw [List.length_map] at hv
            subst hv
            obtain ⟨d0, d1, d2, d3, -⟩ := sr_cells hel (k := q) (by simpa using hqR)
            rw [hqc] at d0 d1 d2 d3
            simp only [Nat.zero_add] at d0 d1 d2 d3
            obtain ⟨rn, hrn⟩ : ∃ n, R'.length = n := ⟨_, rfl⟩
            have hRn := hrn
            rw [hrn] at HP7 hqR ⊢
            have hqI : (q : Int) < (rn : Int) := by omega
            have hq0 : (0 : Int) ≤ (q : Int) := by omega
            have hrn30 : rn ≤ 30 := by rw [← hrn]; exact HP7.out.len
            clear hb7 HPR HE6 HR6 HR5 HP4 HE4 HS5 HK5 hrn hR' hNR hel hqc hqx hqh hq hx hrow hqR
            obtain ⟨cb, hcb⟩ : ∃ cb, w5.heap.size = cb := ⟨_, rfl⟩
            rw [hcb] at hc7 hs7 ⊢
            have cblt : cb < w7.heap.size := by omega
            clear hcb
            have rglt := hglt
            go_upto_region 12 with fail
            refine wp_region_kept 29 [(22, fun v u => ∃ g, v = .slice (some ⟨g, 0, none⟩) 1 1 ∧ Blk u g 33 #[.int .i64 xs, .int .i64 xb, .int .i64 xw, .int .u32 xl]), (23, fun v u => ToV u v ⟨xs, xb, xw, xl⟩), (25, fun v u => v = .agg #[.int .i64 xs, .int .i64 xb, .int .i64 xw, .int .u32 xl])] ?st ?ne rfl (by kernel_rfl) (by kernel_rfl) ?_
            case st =>
              intro p hp
              simp only [List.mem_cons, List.not_mem_nil, or_false] at hp
              rcases hp with rfl | rfl | rfl
              · rintro v u u' ⟨g, rfl, h⟩ hk; exact ⟨g, rfl, h.kept hk (fun h => h)⟩
              · rintro v u u' ⟨A, c, rfl, h⟩ hk; exact ⟨A, c, rfl, h.on hk (fun _ _ h => h)⟩
              · intro v u u' h hk; exact h
            case ne =>
              intro p hp
              simp only [List.mem_cons, List.not_mem_nil, or_false] at hp
              rcases hp with rfl | rfl | rfl
              · exact ⟨_, _, (Kept.refl _ _).alloc _, _, rfl, Blk.new _ _ _⟩
              · exact ToV.is_ _ _
              · exact ⟨_, _, Kept.refl _ _, rfl⟩
            simp only [List.take_succ_cons, List.take_zero, List.drop_succ_cons, List.drop_zero]
            intro G pick hR hp1 hp2
            have p0 : ∀ u, (pick u).cell? ⟨cb, 0, none⟩ = some (.int .i64 xs) := fun u => ((hp1 u).cell cblt (fun h => h) _).trans (hc7 0)
            have p1 : ∀ u, (pick u).cell? ⟨cb, 1, none⟩ = some (.int .i64 xb) := fun u => ((hp1 u).cell cblt (fun h => h) _).trans (hc7 1)
            have p2 : ∀ u, (pick u).cell? ⟨cb, 2, none⟩ = some (.int .i64 xw) := fun u => ((hp1 u).cell cblt (fun h => h) _).trans (hc7 2)
            have p3 : ∀ u, (pick u).cell? ⟨cb, 3, none⟩ = some (.int .u32 xl) := fun u => ((hp1 u).cell cblt (fun h => h) _).trans (hc7 3)
            have q0 : ∀ u, (pick u).cell? ⟨rg, q * 5, none⟩ = some (.int .i64 xs) := fun u => ((hp1 u).cell rglt (fun h => h) _).trans d0
            have q1 : ∀ u, (pick u).cell? ⟨rg, q * 5 + 1, none⟩ = some (.int .i64 xb) := fun u => ((hp1 u).cell rglt (fun h => h) _).trans d1
            have q2 : ∀ u, (pick u).cell? ⟨rg, q * 5 + 2, none⟩ = some (.int .i64 xw) := fun u => ((hp1 u).cell rglt (fun h => h) _).trans d2
            have q3 : ∀ u, (pick u).cell? ⟨rg, q * 5 + 3, none⟩ = some (.int .u32 xl) := fun u => ((hp1 u).cell rglt (fun h => h) _).trans d3
            repeat (first | (refine wpR_det hp2 rfl ((hR.rel _).trans rfl) rfl ?_; intro K hK; go_big_quiet_op; go_big_quiet_on) | (refine wpR_ptr hp2 rfl ((hR.rel _).trans rfl) rfl rfl ?_; intro K hK; go_big_quiet_op; go_big_quiet_on) | (refine wpR_skip pick rfl ?_; intro K hK; go_big_quiet_op; go_big_quiet_on))
            refine wpR_rel pick rfl ((hR.rel _).trans rfl) ((hR.turns _).trans rfl) ?_ ?_
            · intro u hu
              have hk := hR.since hu.1
              have hks := hk.size
              unfold relAt
              go_simp
              exact ⟨hR.into0 ((Kept.refl _ _).alloc _), hR.put 0 rfl rfl ⟨_, rfl, Blk.new _ _ _⟩⟩
            intro v hv
            obtain ⟨u, _, hu⟩ := hv
            obtain ⟨g, rfl, -⟩ := hR.get 0 rfl hu
            clear hu
            intro K hK
            go_big_quiet_op
            go_big_quiet_on
            repeat (first | (refine wpR_det hp2 rfl ((hR.rel _).trans rfl) rfl ?_; intro K hK; go_big_quiet_op; go_big_quiet_on) | (refine wpR_ptr hp2 rfl ((hR.rel _).trans rfl) rfl rfl ?_; intro K hK; go_big_quiet_op; go_big_quiet_on) | (refine wpR_skip pick rfl ?_; intro K hK; go_big_quiet_op; go_big_quiet_on))
            refine wpR_rel pick rfl ((hR.rel _).trans rfl) ((hR.turns _).trans rfl) ?_ ?_
            · intro u hu
              have hk := hR.since hu.1
              have hks := hk.size
              obtain ⟨g', e, hB⟩ := (hR.get 0 rfl (hu.2 _ _ (Got.upd_self _ _ _) (by kernel_rfl)))
              obtain rfl : g = g' := by injection e with e; injection e with e; injection e
              have hz := toL_any (some ⟨g, 0, none⟩) 1 [(⟨xs, xb, xw, xl⟩ : Cd)] u (by simp) (.inr ⟨g, 0, hB.lt, rfl, ElAt.of_blk hB (sz_map Cd.cs_len _) rfl⟩)
              simp only [List.length_cons, List.length_nil, Nat.zero_add] at hz
              clear e hB
              unfold relAt
              go_simp
              refine hz.mono ?_
              rintro e w' ⟨TA', tc', rfl, hT', -, hb'⟩
              exact ⟨_, rfl, hR.intoB hb', hR.put 1 rfl rfl ⟨_, _, rfl, hT'⟩⟩
            intro v hv
            obtain ⟨u, _, hu⟩ := hv
            obtain ⟨TA', tc', rfl, hTE⟩ := hR.get 1 rfl hu
            clear hu
            obtain ⟨tb, tof, -, rfl, -⟩ := hTE.at (k := 0) (by simp)
            clear hTE
            intro K hK
            go_big_quiet_op
            go_big_quiet_on
            repeat (first | (refine wpR_det hp2 rfl ((hR.rel _).trans rfl) rfl ?_; intro K hK; go_big_quiet_op; go_big_quiet_on) | (refine wpR_ptr hp2 rfl ((hR.rel _).trans rfl) rfl rfl ?_; intro K hK; go_big_quiet_op; go_big_quiet_on) | (refine wpR_skip pick rfl ?_; intro K hK; go_big_quiet_op; go_big_quiet_on))
            refine wpR_rel pick rfl ((hR.rel _).trans rfl) ((hR.turns _).trans rfl) ?_ ?_
            · intro u hu
              have hk := hR.since hu.1
              have hks := hk.size
              obtain ⟨A', c', e, hE⟩ := (hR.get 1 rfl (hu.2 _ _ (Got.upd_self _ _ _) (by kernel_rfl)))
              injection e with e1 e2 e3
              subst e1
              obtain ⟨tb', tof', -, e1, hel⟩ := hE.at (k := 0) (by simp)
              injection e1 with e1
              injection e1 with e1 e4
              subst e1 e4
              obtain ⟨l0, l1, l2, l3⟩ := load_cd hel
              clear hel hE
              unfold relAt
              go_simp
              exact ⟨hR.into0 (Kept.refl _ _), hR.put 2 rfl rfl rfl⟩
            intro v hv
            obtain ⟨u, _, hu⟩ := hv
            obtain rfl := hR.get 2 rfl hu
            clear hu
            intro K hK
            go_big_quiet_op
            go_big_quiet_on
            repeat (first | (refine wpR_det hp2 rfl ((hR.rel _).trans rfl) rfl ?_; intro K hK; go_big_quiet_op; go_big_quiet_on) | (refine wpR_ptr hp2 rfl ((hR.rel _).trans rfl) rfl rfl ?_; intro K hK; go_big_quiet_op; go_big_quiet_on) | (refine wpR_skip pick rfl ?_; intro K hK; go_big_quiet_op; go_big_quiet_on))
            refine wpR_nil ?_
            intro w8 hk2 hF hM
            clear hF hM hp1 hp2 hR p0 p1 p2 p3 q0 q1 q2 q3 hc7
            clear d0 d1 d2 d3
            obtain ⟨RA, hRA⟩ : ∃ RA : Option Addr, some ⟨rg, 0, none⟩ = RA := ⟨_, rfl⟩
            rw [hRA] at HP7 ⊢
            clear hRA
            have HP8 := Lib.hid (HP7.out.belowK hk2)
            have hs8 := hk2.size
            have hln := HP7.out.len
            clear hk2 HP7
            go_wp2_with fail
            go_loopw [12, 13] (fun wt m wx => ∃ j : Nat, j ≤ rn ∧ m = .int .i64 (j : Int) ∧ wt = .int .i64 (wantTo R' bk j) ∧ Hid (PkS sb (sb + 1) (.slice RA rn rc) R' (k + 1) w2 wx)) (fun _ m _ => rn - (intOf m).toNat)
            case atStart => exact ⟨0, by omega, rfl, rfl, HP8⟩
            case round =>
              clear HP8
              obtain ⟨j, hj, rfl, rfl, HP9⟩ := hrel
              by_cases hjn : j < rn
              · have hjR : j < R'.length := by omega
                obtain ⟨g, gc, hv, -, hglt, hel⟩ := HP9.out.row.at (i := j) (by simpa using hjR)
                injection hv with e1 e2 e3
                subst e1
                obtain ⟨-, s1, -, -, s4⟩ := sr_cells hel (k := j) (by simpa using hjR)
                simp only [Nat.zero_add] at s1 s4
                have HW := Lib.hid (want_succ R' bk j hjR HP9.out.dist)
                have HOW := Lib.hid (owed_own R' j hjR HP9.out.dist)
                obtain ⟨bb, hbb⟩ : ∃ y, R'[j].c.backend = y := ⟨_, rfl⟩
                obtain ⟨ow, how⟩ : ∃ y, R'[j].owed = y := ⟨_, rfl⟩
                rw [hbb] at s1 HW HOW
                rw [how] at s4 HW HOW
                have hjI : (j : Int) < (rn : Int) := by omega
                have hj0 : (0 : Int) ≤ (j : Int) := by omega
                clear hbb how hel e2 e3
                go_upto_region 18 with fail
                refine wp_region_kept 14 [(7, fun v u => v = .int .i64 ow)] ?st ?ne rfl (by kernel_rfl) (by kernel_rfl) ?_
                case st =>
                  intro p hp
                  simp only [List.mem_cons, List.not_mem_nil, or_false] at hp
                  subst hp
                  · intro v u u' h hk; exact h
                case ne =>
                  intro p hp
                  simp only [List.mem_cons, List.not_mem_nil, or_false] at hp
                  subst hp
                  · exact ⟨_, _, Kept.refl _ _, rfl⟩
                simp only [List.take_succ_cons, List.take_zero, List.drop_succ_cons, List.drop_zero]
                intro G pick hR hp1 hp2
                have p1 : ∀ u, (pick u).cell? ⟨g, j * 5 + 1, none⟩ = some (.int .i64 bb) := fun u => ((hp1 u).cell hglt (fun h => h) _).trans s1
                have p2 : ∀ u, (pick u).cell? ⟨g, j * 5 + 4, none⟩ = some (.int .i64 ow) := fun u => ((hp1 u).cell hglt (fun h => h) _).trans s4
                repeat (first | (refine wpR_det hp2 rfl ((hR.rel _).trans rfl) rfl ?_; intro K hK; go_big_quiet_op; go_big_quiet_on) | (refine wpR_ptr hp2 rfl ((hR.rel _).trans rfl) rfl rfl ?_; intro K hK; go_big_quiet_op; go_big_quiet_on) | (refine wpR_skip pick rfl ?_; intro K hK; go_big_quiet_op; go_big_quiet_on))
                refine wpR_rel pick rfl ((hR.rel _).trans rfl) ((hR.turns _).trans rfl) ?_ ?_
                · intro u hu
                  have hk := hR.since hu.1
                  have hks := hk.size
                  have hz := (HP9.out.belowK hk).owed bb
                  rw [HOW.out] at hz
                  unfold relAt
                  go_simp
                  refine hz.mono ?_
                  rintro e w' ⟨rfl, hb'⟩
                  exact ⟨_, rfl, hR.intoB hb', hR.put 0 rfl rfl rfl⟩
                intro v hv
                obtain ⟨u, _, hu⟩ := hv
                obtain rfl := hR.get 0 rfl hu
                clear hu
                intro K hK
                go_big_quiet_op
                go_big_quiet_on
                repeat (first | (refine wpR_det hp2 rfl ((hR.rel _).trans rfl) rfl ?_; intro K hK; go_big_quiet_op; go_big_quiet_on) | (refine wpR_ptr hp2 rfl ((hR.rel _).trans rfl) rfl rfl ?_; intro K hK; go_big_quiet_op; go_big_quiet_on) | (refine wpR_skip pick rfl ?_; intro K hK; go_big_quiet_op; go_big_quiet_on))
                refine wpR_nil ?_
                intro wA hk2 hF hM
                have HPA := Lib.hid (HP9.out.belowK hk2)
                have sa1 := (hk2.cell hglt (fun h => h) _).trans s1
                have sa4 := (hk2.cell hglt (fun h => h) _).trans s4
                have hga : g < wA.heap.size := by have := hk2.size; omega
                clear hF hM hk2 hp1 hp2 hR p1 p2 s1 s4 HP9
                by_cases hbk : bb = bk
                · subst hbk
                  rw [if_pos rfl] at HW
                  go_wp2_with fail
                  go_roundw
                  case rel => exact ⟨j + 1, by omega, by go_num, by rw [HW.out], HPA⟩
                  case measure => simp [intOf]; omega
                · rw [if_neg hbk] at HW
                  go_wp2_with fail
                  go_roundw
                  case rel => exact ⟨j + 1, by omega, by go_num, by rw [HW.out], HPA⟩
                  case measure => simp [intOf]; omega
              · obtain rfl : j = rn := by omega
                have HOW := Lib.hid (want_all R' bk)
                rw [hRn] at HOW
                have HZ := Lib.hid (HP9.out.owed bk)
                rw [← HOW.out] at HZ
                go_wp2_with fail
                refine HZ.out.mono ?_
                rintro e wB ⟨rfl, hbB⟩
                have HPB := Lib.hid (HP9.out.below hbB)
                clear hbB HZ HP9
                go_wp2_with fail
                go_roundw
                case rel => exact ⟨k + 1, by omega, by omega, by go_num, R', HPB⟩
                case measure => simp [intOf]; omega
      · obtain rfl : k = 60 := by omega
        go_wp2_with fail
        refine (spick_nil _ _ _ _).mono ?_
        rintro e wa ⟨rfl, hba⟩
        have HBA := Lib.hid hba
        have hsa := hba.size
        clear hba
        go_wp2_with fail
        refine (owed_nil _ _).mono ?_
        rintro e wb ⟨rfl, rfl⟩
        go_wp2_with fail
        refine (awake_any _).mono ?_
        rintro e wc7 ⟨rfl, hbc⟩
        have HBC := Lib.hid hbc
        clear hbc
        go_wp2_with fail
        have hsa' : wr.heap.size + 1 ≤ wa.heap.size := by simpa using hsa
        go_ret
        exact ⟨rfl, ((((HB2.out.trans (HP.out.sm.kept.below (by omega) (fun i h => by omega))).alloc (by omega) _).trans (HBA.out.mono (by simp; omega))).alloc (by omega) _).trans (HBC.out.mono (by simp; omega))⟩
    · obtain rfl : k = L.length := by omega
      go_wp2_with fail
      refine (spick_nil _ _ _ _).mono ?_
      rintro e wa ⟨rfl, hba⟩
      have HBA := Lib.hid hba
      have hsa := hba.size
      clear hba
      go_wp2_with fail
      refine (owed_nil _ _).mono ?_
      rintro e wb ⟨rfl, rfl⟩
      go_wp2_with fail
      refine (awake_any _).mono ?_
      rintro e wc7 ⟨rfl, hbc⟩
      have HBC := Lib.hid hbc
      clear hbc
      go_wp2_with fail
      have hsa' : wr.heap.size + 1 ≤ wa.heap.size := by simpa using hsa
      go_ret
      exact ⟨rfl, ((((HB2.out.trans (HP.out.sm.kept.below (by omega) (fun i h => by omega))).alloc (by omega) _).trans (HBA.out.mono (by simp; omega))).alloc (by omega) _).trans (HBC.out.mono (by simp; omega))⟩
end Go.Proofs.Ytfdlpgmoohlgeaa
