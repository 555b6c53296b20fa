/- The law PolicyChooses, walked. -/
import Derived.Test.YtpakfepjfcpjkaaR
import Derived.Test.YtpakfepjfcpjkaaK4
import Derived.Deep.RegionHeld3
import Derived.Deep.DeepCutAuto
namespace Go.Proofs.Ytpakfepjfcpjkaa
open Go.RowKit
set_option linter.unusedVariables false
theorem ac_cells {w : World} {b off k : Nat} {L : List AcV} (h : ElAt w b off 4 (L.map AcV.cs)) (hk : k < L.length) :
    w.cell? ⟨b, off + k * 4, none⟩ = some (.int .i64 L[k].way) ∧ w.cell? ⟨b, off + k * 4 + 1, none⟩ = some (.slice L[k].A L[k].l.length L[k].c) ∧ w.cell? ⟨b, off + k * 4 + 2, none⟩ = some (.int .u32 L[k].x) ∧ w.cell? ⟨b, off + k * 4 + 3, none⟩ = some (.int .u32 L[k].y) := by
  have hk' : k < (L.map AcV.cs).length := by simpa using hk
  have h0 := h.get0 hk' (by omega)
  have h1 := h.get hk' 1 (by omega)
  have h2 := h.get hk' 2 (by omega)
  have h3 := h.get hk' 3 (by omega)
  simp [AcV.cs] at h0 h1 h2 h3
  exact ⟨h0, h1, h2, h3⟩
def PtB (H : Nat) (v : Value) (u : World) : Prop := ∃ g, v = .pointer (some ⟨g, 0, none⟩) ∧ H ≤ g ∧ Blk u g 45 #[.int .i64 0, .int .i64 0, .int .i64 0, .int .u32 0]
theorem PtB.on {H : Nat} {S : Nat → Prop} {v : Value} {u u' : World} (h : PtB H v u) (hk : Kept S u u') (hS : ∀ i, S i → i < H) : PtB H v u' := by
  obtain ⟨g, e, h1, h2⟩ := h
  exact ⟨g, e, h1, h2.kept hk (fun e => by have := hS g e; omega)⟩
theorem cells_set {w : World} {g : Nat} {l : List Cd} {j : Nat} {z : Cd} (h : CellsAt w g 0 l) (hz : l[j]? = some z) : w.cell? ⟨g, j * 4, none⟩ = some (.int .i64 z.slot) ∧ w.cell? ⟨g, j * 4 + 1, none⟩ = some (.int .i64 z.backend) ∧ w.cell? ⟨g, j * 4 + 2, none⟩ = some (.int .i64 z.weight) ∧ w.cell? ⟨g, j * 4 + 3, none⟩ = some (.int .u32 z.load) := by
  obtain ⟨hj, rfl⟩ := List.getElem?_eq_some_iff.1 hz
  have := h j hj
  simpa using this
theorem tcb_ne {H : Nat} {u : World} {v : Value} {l : List Cd} {j : Nat} {z : Cd} (h : TCB H u v l) (hz : l[j]? = some z) : ∃ g c, v = .slice (some ⟨g, 0, none⟩) l.length c ∧ g < u.heap.size ∧ CellsAt u g 0 l := by
  rcases h.1 with ⟨rfl, -⟩ | ⟨-, g, c, rfl, h1, h2, -, -⟩
  · simp at hz
  · exact ⟨g, c, rfl, h1, h2⟩
theorem fits_yes (way : Int) (v : Value) (l : List Cd) (x y : Int) (z : Cd) (w : World) (hv : TCV w v l) (hl : l.length ≤ 30) (hr : rightFrom (-1) l = true) (hx : 0 ≤ x) (hx' : x ≤ 4294967295) (hy : 0 ≤ y) (hy' : y ≤ 4294967295) (hf : FitsP way l x y z) :
    Calls Try.prog 15 #[.int .i64 way, v, .int .u32 x, .int .u32 y, .agg #[.int .i64 z.slot, .int .i64 z.backend, .int .i64 z.weight, .int .u32 z.load]] w fun e w' => e = .returned (.bool true) ∧ Below w.heap.size w w' := by
  have := fits_u way v l x y z w hv hl hr hx hx' hy hy'
  refine this.mono ?_
  rintro e w' ⟨b, rfl, h1, h2⟩
  rw [h1.2 hf]
  exact ⟨rfl, h2⟩
set_option maxRecDepth 100000 in
set_option maxHeartbeats 8000000 in
theorem chooses_any (A : Option Addr) (c : Nat) (L : List AcV) (w : World) (hl : L.length ≤ maxLen) (hA : ES w w.heap.size A 4 (L.map AcV.cs)) (hW : ∀ a ∈ L, a.wf w) :
    Calls Try.prog 4 #[.slice A L.length c] w fun e w' => e = .returned (.bool true) ∧ Below w.heap.size w w' := by
  have HA := Lib.hid hA
  have HW := Lib.hid hW
  unfold maxLen at hl
  clear hA hW
  go_enter Try.func4, Try.ntmps4
  go_wp2_with fail
  refine (awake_any w).mono ?_
  rintro e w1 ⟨rfl, hb1⟩
  have hs1 := hb1.size
  have HB1 := Lib.hid hb1
  clear hb1
  go_upto_region 5 with fail
  obtain ⟨w2, hw2⟩ : ∃ w2 : World, w2 = (w1.alloc (.cells #[.int .i64 0, .slice none 0 0] 35)).alloc (.cells #[.int .i64 0, .slice none 0 0] 38) := ⟨_, rfl⟩
  have hs2 : w2.heap.size = w1.heap.size + 2 := by rw [hw2]; simp
  have HP2 := Lib.hid (show PcS w1.heap.size (w1.heap.size + 1) 0 [] 0 w w2 from ⟨⟨.slice none 0 0, .slice none 0 0, by rw [hw2]; exact (Blk.new _ _ _).alloc _, RowN.nil _ _ _ _, by rw [hw2]; exact Blk.new_ (by simp) _ _, RowN.nil _ _ _ _⟩, by rw [hw2]; exact (HB1.out.alloc hs1 _).alloc (by simp; omega) _, by simp, (fun r hr => by cases hr), hs1, by omega⟩)
  rw [← hw2]
  clear hw2
  obtain ⟨cb, hcb⟩ : ∃ cb, w1.heap.size = cb := ⟨_, rfl⟩
  rw [hcb] at HP2 hs2 hs1 ⊢
  clear HB1 hcb
  go_wp2_with fail
  go_loopw [5, 6, 7, 8, 9, 10] (fun i _ _ _ _ _ wr => ∃ k : Nat, k ≤ L.length ∧ k ≤ 60 ∧ i = .int .i64 (k : Int) ∧ ∃ n R, Hid (PcS cb (cb + 1) n R k w wr)) (fun i _ _ _ _ _ _ => 60 - (intOf i).toNat)
  case atStart => exact ⟨0, by omega, by omega, rfl, 0, [], HP2⟩
  case round =>
    clear HP2 hs2
    obtain ⟨k, hk, hk60, rfl, n, R, HP⟩ := hrel
    have hsr := HP.out.bel.size
    by_cases hkl : k < L.length
    · by_cases hk6 : k < 60
      · have hkI : (k : Int) < (L.length : Int) := by omega
        have hk6I : (k : Int) < 60 := by omega
        obtain ⟨b, o, hb, rfl, hel⟩ := HA.out.at (k := k) (by simpa using hkl)
        obtain ⟨c0, c1, c2, c3⟩ := ac_cells (hel.keep (w' := wr) (fun o => HP.out.bel.cell (p := ⟨b, o, none⟩) hb)) hkl
        obtain ⟨hlm, hes, hx, hx', hy, hy'⟩ := HW.out L[k] (List.getElem_mem hkl)
        obtain ⟨⟨way, XA, xc, l, x, y⟩, hxx⟩ : ∃ x, L[k] = x := ⟨_, rfl⟩
        rw [hxx] at c0 c1 c2 c3 hlm hes hx hx' hy hy'
        simp only at c0 c1 c2 c3 hlm hes hx hx' hy hy'
        have HES := Lib.hid ((hes.onB HP.out.bel (Nat.le_refl _)))
        have HE0 := Lib.hid hes
        have blt : b < wr.heap.size := by omega
        clear hel hes hxx
        have HLM := Lib.hid hlm
        unfold maxLen at hlm
        go_upto_region 9 with fail
        obtain ⟨w3, hw3⟩ : ∃ w3 : World, w3 = wr.alloc (.cells #[.int .i64 way, .slice XA l.length xc, .int .u32 x, .int .u32 y] 42) := ⟨_, rfl⟩
        have hk3 : Kept (fun _ => False) wr w3 := by rw [hw3]; exact (Kept.refl _ _).alloc _
        have HT3 := Lib.hid (show Blk w3 wr.heap.size 42 #[.int .i64 way, .slice XA l.length xc, .int .u32 x, .int .u32 y] by rw [hw3]; exact Blk.new _ _ _)
        have HP3 := Lib.hid (HP.out.on hk3)
        have HE3 := Lib.hid (HES.out.on hk3 (fun _ _ h => h))
        have hs3 : wr.heap.size + 1 ≤ w3.heap.size := by rw [hw3]; simp
        rw [← hw3]
        clear hw3 hk3 HP HES c0 c1 c2 c3 blt
        obtain ⟨tb, htb⟩ : ∃ tb, wr.heap.size = tb := ⟨_, rfl⟩
        rw [htb] at HT3 hs3 hsr ⊢
        clear htb
        have HRT := Lib.hid (rightL_any XA xc l w3 HLM.out HE3.out)
        have cT := HT3.out.cell
        have tlt : tb < w3.heap.size := by omega
        go_wp2_with fail
        refine HRT.out.mono ?_
        rintro e w4 ⟨bb, rfl, hb4, hgood⟩
        have hs4 := hb4.size
        have HP4 := Lib.hid (HP3.out.on (Kept.ofB hb4))
        have HE4 := Lib.hid (HE3.out.onB hb4 (Nat.le_refl _))
        have HT4 := Lib.hid (HT3.out.below hb4 HT3.out.lt)
        clear hb4 HRT HE3 HT3 HP3 cT tlt
        cases bb with
        | false =>
          clear hgood
          go_wp2_with fail
          go_roundw
          case rel => exact ⟨k + 1, by omega, by omega, by go_num, n, R, Lib.hid HP4.out.next⟩
          case measure => simp [intOf]; omega
        | true =>
          obtain ⟨hl30, hr, -⟩ := hgood rfl
          have HR := Lib.hid hr
          obtain ⟨oo, n', R', hboth⟩ := both_any way l x y n R (3100 * (k : Int)) hl30 hr hx hx' hy hy' HP4.out.len HP4.out.cr (by omega) (by omega)
          have HBO := Lib.hid hboth
          clear hgood hr hboth
          obtain ⟨sv, rv, hC, hSv, hRf, hRv⟩ := HP4.out.ex
          obtain ⟨RA, rcp, hv, -, -⟩ := hRv.shape
          rw [List.length_map] at hv
          subst hv
          have HBL := Lib.hid (fun u (hk : Kept (fun i => i = cb ∨ sv.ownBlock = some i) w4 u) => (show Below w.heap.size w u from HP4.out.bel.trans (hk.below (by omega) (fun i h => h.elim (fun h => by rw [h]; exact HP4.out.lc) (fun h => (hSv.lt i h).1)))))
          have HNR := Lib.hid (show ¬ (cb + 1 = cb ∨ sv.ownBlock = some (cb + 1)) from fun h => h.elim (fun h => by omega) (fun h => hSv.ne hRf (by decide) h))
          have HNV := Lib.hid (fun g (hg : (Value.slice RA R.length rcp).ownBlock = some g) => (show ¬ (g = cb ∨ sv.ownBlock = some g) from fun h => h.elim (fun h => by subst h; exact hRv.ne hC (by decide) hg) (fun h => by obtain ⟨cs, hB⟩ := hRv.blk hg; exact hSv.ne hB (by decide) h)))
          have HC := Lib.hid hC
          have HSV := Lib.hid hSv
          have HRF := Lib.hid hRf
          have HRV := Lib.hid hRv
          have HSB := Lib.hid (fun i (h : i = cb ∨ sv.ownBlock = some i) => (show i < w4.heap.size from h.elim (fun h => by rw [h]; exact hC.lt) (fun h => (hSv.lt i h).2)))
          have HST := Lib.hid (show ¬ (tb = cb ∨ sv.ownBlock = some tb) from fun h => h.elim (fun h => by subst h; exact (HT4.out.ne_ hC (by decide)) rfl) (fun h => hSv.ne HT4.out (by decide) h))
          clear hC hSv hRf hRv
          have t0 := HT4.out.cell 0
          have t1 := HT4.out.cell 1
          have t2 := HT4.out.cell 2
          have t3 := HT4.out.cell 3
          simp at t0 t1 t2 t3
          have tlt : tb < w4.heap.size := by omega
          cases oo with
          | none =>
            have HT13 := Lib.hid (fun (W : World) (hW : Kept (fun _ => False) w4 W) => (show Calls Try.prog 13 #[.slice XA l.length xc] W (fun e w' => ∃ v, e = .returned v ∧ Hid (TCB w4.heap.size w' v l) ∧ Hid (Kept (fun _ => False) W w') ∧ tb < w'.heap.size ∧ w4.heap.size ≤ w'.heap.size ∧ w'.cell? ⟨tb, 0, none⟩ = some (.int .i64 way) ∧ w'.cell? ⟨tb, 1, none⟩ = some (.slice XA l.length xc) ∧ w'.cell? ⟨tb, 2, none⟩ = some (.int .u32 x) ∧ w'.cell? ⟨tb, 3, none⟩ = some (.int .u32 y)) from (toB_any XA xc l w4.heap.size W hW.size (by omega) (HE4.out.on hW (fun _ _ h => h))).mono (by
              rintro e w' ⟨v, rfl, hT, hb'⟩
              have hk := hW.then (Kept.ofB (S := fun _ => False) hb') (fun _ _ h => h.elim)
              exact ⟨v, rfl, Lib.hid hT, Lib.hid (Kept.ofB hb'), by have := hk.size; omega, hk.size, (hk.cell tlt (fun h => h) _).trans t0, (hk.cell tlt (fun h => h) _).trans t1, (hk.cell tlt (fun h => h) _).trans t2, (hk.cell tlt (fun h => h) _).trans t3⟩)))
            have HC12 := Lib.hid (fun (W : World) (v : Value) (hT : TCB w4.heap.size W v l) (hW : Kept (fun _ => False) w4 W) => (show Calls Try.prog 12 #[.pointer (some ⟨cb, 0, none⟩), .int .i64 way, v, .int .u32 x, .int .u32 y] W (fun e w' => e = .returned (.tuple #[.agg #[.int .i64 0, .int .i64 0, .int .i64 0, .int .u32 0], .bool false]) ∧ Hid (∃ sv', Blk w' cb 35 #[.int .i64 n', sv'] ∧ RowN w' w.heap.size 72 3 sv' ((R'.map ShR.sh).map Sh.cs)) ∧ Hid (Kept (fun i => i = cb ∨ sv.ownBlock = some i) W w') ∧ Hid (Kept (fun i => i = cb ∨ sv.ownBlock = some i) w4 w') ∧ tb < w'.heap.size ∧ w'.cell? ⟨tb, 0, none⟩ = some (.int .i64 way) ∧ w'.cell? ⟨tb, 1, none⟩ = some (.slice XA l.length xc) ∧ w'.cell? ⟨tb, 2, none⟩ = some (.int .u32 x) ∧ w'.cell? ⟨tb, 3, none⟩ = some (.int .u32 y)) from (HBO.out.prog cb w.heap.size sv v W hT.1 (HC.out.kept hW (fun h => h)) (HSV.out.kept hW (fun _ _ h => h)) (by have := hW.size; omega)).mono (by
              rintro e w' ⟨rfl, sv', h1, h2, h3⟩
              have hk := (hW.mono (T := fun i => i = cb ∨ sv.ownBlock = some i) (fun _ _ h => h.elim)).trans h3
              exact ⟨rfl, Lib.hid ⟨sv', h1, h2⟩, Lib.hid h3, Lib.hid hk, by have := hk.size; omega, (hk.cell tlt HST.out _).trans t0, (hk.cell tlt HST.out _).trans t1, (hk.cell tlt HST.out _).trans t2, (hk.cell tlt HST.out _).trans t3⟩)))
            go_upto_region 10 with fail
            go_cut [7, 8] (fun p ok wx => ∃ xb : Nat, p = .pointer (some ⟨xb, 0, none⟩) ∧ ok = .bool false ∧ w4.heap.size ≤ xb ∧ Hid (Blk wx xb 45 #[.int .i64 0, .int .i64 0, .int .i64 0, .int .u32 0]) ∧ Hid (∃ sv', Blk wx cb 35 #[.int .i64 n', sv'] ∧ RowN wx w.heap.size 72 3 sv' ((R'.map ShR.sh).map Sh.cs)) ∧ Hid (Kept (fun i => i = cb ∨ sv.ownBlock = some i) w4 wx))
            case first =>
              go_region_held3 (fun w' => w'.cell? ⟨tb, 0, none⟩ = some (.int .i64 way) ∧ w'.cell? ⟨tb, 1, none⟩ = some (.slice XA l.length xc) ∧ w'.cell? ⟨tb, 2, none⟩ = some (.int .u32 x) ∧ w'.cell? ⟨tb, 3, none⟩ = some (.int .u32 y))
                (first
                  | (go_keep; done)
                  | (with_reducible exact ⟨m0, m1, m2, m3⟩)
                  | (with_reducible exact ⟨k0, k1, k2, k3⟩)
                  | (refine ⟨?_, ?_, ?_, ?_⟩
                     all_goals ((repeat rw [World.cell?_setCell_other _ _ _ _ (by intro e; injection e; omega)]); assumption)))
                (first
                  | (go_at_call 13; refine (HT13.out _ (by first | exact (Kept.refl _ _).drew | exact ((Kept.refl _ _).alloc _).drew | exact ((Kept.refl _ _).drew).alloc _)).mono ?_; rintro e w5 ⟨v5, rfl, hT5, hK5, hl5, hs5, k0, k1, k2, k3⟩; try (have hX5 : Blk w5 w4.heap.size 45 #[.int .i64 0, .int .i64 0, .int .i64 0, .int .u32 0] := Blk.kept (a := (w4.alloc (.cells #[.int .i64 0, .int .i64 0, .int .i64 0, .int .u32 0] 45)).drew) (Blk.new _ _ _) hK5.out (fun h => h); have cX5 := hX5.cell; have fX5 := hX5.frozen; have lX5 := hX5.lt; have HX5 := Lib.hid hX5; clear hX5))
                  | (go_at_call 12; refine (HC12.out _ _ (by first | exact hT5.out | exact hT5.out.on ((Kept.refl (fun _ => False) _).alloc _) (fun _ h => h.elim)) (by first | exact ((Kept.refl _ _).drew).trans hK5.out | exact (((Kept.refl _ _).alloc _).drew).trans hK5.out | exact ((((Kept.refl _ _).drew).trans hK5.out)).alloc _ | exact (((Kept.refl _ _).drew).alloc _).trans hK5.out)).mono ?_; rintro e w6 ⟨rfl, hC6, hK6, hK46, hl6, m0, m1, m2, m3⟩; first | (have hX6 : Blk w6 w4.heap.size 45 #[.int .i64 0, .int .i64 0, .int .i64 0, .int .u32 0] := HX5.out.kept hK6.out (fun e => by have := HSB.out _ e; omega); have cX6 := hX6.cell; have fX6 := hX6.frozen; have lX6 := hX6.lt; have HX6 := Lib.hid hX6; clear hX6) | (have hX6 : Blk w6 w5.heap.size 45 #[.int .i64 0, .int .i64 0, .int .i64 0, .int .u32 0] := Blk.kept (a := w5.alloc (.cells #[.int .i64 0, .int .i64 0, .int .i64 0, .int .u32 0] 45)) (Blk.new _ _ _) hK6.out (fun e => by have := HSB.out _ e; omega); have cX6 := hX6.cell; have fX6 := hX6.frozen; have lX6 := hX6.lt; have HX6 := Lib.hid hX6; clear hX6) | skip))
              · go_wp2_with fail
                go_meet
                go_light
                have hs46 := hK46.out.size
                obtain ⟨sv', h1, h2⟩ := hC6.out
                exact ⟨w6.heap.size, rfl, rfl, hs46, Lib.hid (Blk.new _ _ _), Lib.hid ⟨sv', h1.alloc _, h2.alloc _⟩, Lib.hid (hK46.out.alloc _)⟩
              · go_wp2_with fail
                go_meet
                go_light
                have hcl := HC.out.lt
                obtain ⟨sv', h1, h2⟩ := hC6.out
                have hn := h2.ne HX6.out (by decide)
                exact ⟨w5.heap.size, rfl, rfl, hs5, Lib.hid ((((HX6.out.set_ _ _).set_ _ _).set_ _ _).set_to rfl), Lib.hid ⟨sv', (((h1.far' (by omega)).far' (by omega)).far' (by omega)).far' (by omega), (((h2.far hn).far hn).far hn).far hn⟩, Lib.hid ((((hK46.out.setCell (.inr hs5) _).setCell (.inr hs5) _).setCell (.inr hs5) _).setCell (.inr hs5) _)⟩
              · go_wp2_with fail
                go_meet
                go_light
                have hcl := HC.out.lt
                obtain ⟨sv', h1, h2⟩ := hC6.out
                have hn := h2.ne HX6.out (by decide)
                exact ⟨w4.heap.size, rfl, rfl, Nat.le_refl _, Lib.hid ((((HX6.out.set_ _ _).set_ _ _).set_ _ _).set_to rfl), Lib.hid ⟨sv', (((h1.far' (by omega)).far' (by omega)).far' (by omega)).far' (by omega), (((h2.far hn).far hn).far hn).far hn⟩, Lib.hid ((((hK46.out.setCell (.inr (Nat.le_refl _)) _).setCell (.inr (Nat.le_refl _)) _).setCell (.inr (Nat.le_refl _)) _).setCell (.inr (Nat.le_refl _)) _)⟩
            case rest =>
              obtain ⟨xb, rfl, rfl, hxb, HX6, HS6, HK6⟩ := hcut
              obtain ⟨sv', hC6, hSV6⟩ := HS6.out
              obtain ⟨w6, hw6⟩ : ∃ w6 : World, w6 = wc := ⟨_, rfl⟩
              rw [← hw6] at HX6 hC6 hSV6 HK6 ⊢
              clear hw6 HS6 HT13 HC12
              have hs6 := HK6.out.size
              have HC6 := Lib.hid hC6
              have HSV6 := Lib.hid hSV6
              have HT6 := Lib.hid (HT4.out.kept HK6.out HST.out)
              have HRF6 := Lib.hid (HRF.out.kept HK6.out HNR.out)
              have HRV6 := Lib.hid (HRV.out.kept HK6.out HNV.out)
              have HB6 := Lib.hid (HBL.out w6 HK6.out)
              have hcl := HC.out.lt
              have hrl := HRF.out.lt
              clear hC6 hSV6 t0 t1 t2 t3 HT4 HC HSV HRF HRV HST HSB HBL HNR HNV HE4 HP4 HK6
              have HCL := Lib.hid (HBO.out.ref w.heap.size (.slice RA R.length rcp) XA xc w6 HRV6.out (by omega) (HE0.out.onB HB6.out (Nat.le_refl _)))
              have cT := HT6.out.cell
              have cF := HRF6.out.cell
              have lT := HT6.out.lt
              have lF := HRF6.out.lt
              go_wp2_with fail
              refine HCL.out.mono ?_
              rintro e w7 ⟨rv', kk, rfl, hko, hRV7, hb7⟩
              obtain ⟨RA', rcp', hv, -, -⟩ := hRV7.shape
              rw [List.length_map] at hv
              subst hv
              have hs7 := hb7.size
              have HX7 := Lib.hid (HX6.out.below hb7 HX6.out.lt)
              have HT7 := Lib.hid (HT6.out.below hb7 HT6.out.lt)
              have HRF7 := Lib.hid (HRF6.out.below hb7 HRF6.out.lt)
              have HC7 := Lib.hid (HC6.out.below hb7 HC6.out.lt)
              have HSV7 := Lib.hid (HSV6.out.belowAll hb7)
              have HRV7 := Lib.hid hRV7
              have HB7 := Lib.hid (bel2 HB6.out hb7)
              have HKO := Lib.hid hko
              clear hko hRV7 hb7 HCL HX6 HT6 HRF6 HC6 HSV6 HB6 HRV6 cT cF lT lF
              have cF := HRF7.out.cell
              have fF := HRF7.out.frozen
              have lF := HRF7.out.lt
              go_upto_region 13 with fail
              obtain ⟨w8, hw8⟩ : ∃ w8 : World, w8 = ((w7.setCell ⟨cb + 1, 0, none⟩ (.int .i64 n')).setCell ⟨cb + 1, 1, none⟩ (.slice RA' R'.length rcp')).alloc (.cells #[.int .i64 n', .slice RA' R'.length rcp'] 38) := ⟨_, rfl⟩
              have hs8 : w7.heap.size ≤ w8.heap.size := by rw [hw8]; simp [World.setCell]
              have hxc : xb ≠ cb + 1 := by omega
              have HX8 := Lib.hid (show Blk w8 xb 45 #[.int .i64 0, .int .i64 0, .int .i64 0, .int .u32 0] by rw [hw8]; exact ((HX7.out.far' hxc).far' hxc).alloc _)
              have HT8 := Lib.hid (show Blk w8 tb 42 #[.int .i64 way, .slice XA l.length xc, .int .u32 x, .int .u32 y] by have hn := HT7.out.ne_ HRF7.out (by decide); rw [hw8]; exact ((HT7.out.far' hn).far' hn).alloc _)
              have HP8 := Lib.hid (show PcS cb (cb + 1) n' R' (k + 1) w w8 from ⟨⟨sv', .slice RA' R'.length rcp', by rw [hw8]; exact ((HC7.out.far' (by omega)).far' (by omega)).alloc _, by have hn := HSV7.out.ne HRF7.out (by decide); rw [hw8]; exact ((HSV7.out.far hn).far hn).alloc _, by rw [hw8]; exact (((HRF7.out.set_ _ _).set_to rfl)).alloc _, by have hn := HRV7.out.ne HRF7.out (by decide); rw [hw8]; exact ((HRV7.out.far hn).far hn).alloc _⟩, by rw [hw8]; exact ((HB7.out.setCell (by simp; omega) _).setCell (by simp; omega) _).alloc (by simp [World.setCell]; omega) _, HBO.out.len, by have := HBO.out.cr; rw [show (3100 * ((k + 1 : Nat) : Int)) = 3100 * (k : Int) + 3100 by omega]; exact this, by omega, by omega⟩)
              rw [← hw8]
              clear hw8 cF fF lF HX7 HT7 HRF7 HC7 HSV7 HRV7 HB7
              have x0 := HX8.out.cell 0
              have x1 := HX8.out.cell 1
              have x2 := HX8.out.cell 2
              have x3 := HX8.out.cell 3
              have t0 := HT8.out.cell 0
              have t1 := HT8.out.cell 1
              have t2 := HT8.out.cell 2
              have t3 := HT8.out.cell 3
              simp at x0 x1 x2 x3 t0 t1 t2 t3
              have xlt := HX8.out.lt
              have tlt8 := HT8.out.lt
              obtain rfl : kk = -1 := by
                rcases HKO.out with ⟨-, h⟩ | ⟨_, _, h, -⟩
                · exact h
                · cases h
              clear HKO
              refine wp_region_kept 43 [] ?st ?ne rfl (by kernel_rfl) (by kernel_rfl) ?_
              case st => intro p hp; cases hp
              case ne => intro p hp; cases hp
              simp only [List.take_succ_cons, List.take_zero, List.drop_succ_cons, List.drop_zero]
              intro G pick hR hp1 hp2
              have p0 : ∀ u, (pick u).cell? ⟨xb, 0, none⟩ = some (.int .i64 0) := fun u => ((hp1 u).cell xlt (fun h => h) _).trans x0
              have p1 : ∀ u, (pick u).cell? ⟨xb, 1, none⟩ = some (.int .i64 0) := fun u => ((hp1 u).cell xlt (fun h => h) _).trans x1
              have p2 : ∀ u, (pick u).cell? ⟨xb, 2, none⟩ = some (.int .i64 0) := fun u => ((hp1 u).cell xlt (fun h => h) _).trans x2
              have p3 : ∀ u, (pick u).cell? ⟨xb, 3, none⟩ = some (.int .u32 0) := fun u => ((hp1 u).cell xlt (fun h => h) _).trans x3
              have q0 : ∀ u, (pick u).cell? ⟨tb, 0, none⟩ = some (.int .i64 way) := fun u => ((hp1 u).cell tlt8 (fun h => h) _).trans t0
              have q1 : ∀ u, (pick u).cell? ⟨tb, 1, none⟩ = some (.slice XA l.length xc) := fun u => ((hp1 u).cell tlt8 (fun h => h) _).trans t1
              have q2 : ∀ u, (pick u).cell? ⟨tb, 2, none⟩ = some (.int .u32 x) := fun u => ((hp1 u).cell tlt8 (fun h => h) _).trans t2
              have q3 : ∀ u, (pick u).cell? ⟨tb, 3, none⟩ = some (.int .u32 y) := fun u => ((hp1 u).cell tlt8 (fun h => h) _).trans t3
              repeat (first | (refine wpR_det hp2 rfl ((hR.rel _).trans rfl) rfl ?_; intro K hK; go_big_quiet_op; go_big_quiet_on) | (refine wpR_ptr hp2 rfl ((hR.rel _).trans rfl) rfl rfl ?_; intro K hK; go_big_quiet_op; go_big_quiet_on) | (refine wpR_skip pick rfl ?_; intro K hK; go_big_quiet_op; go_big_quiet_on))
              refine wpR_nil ?_
              intro w9 hk2 hF hM
              have HP9 := Lib.hid (HP8.out.on hk2)
              clear hF hM hk2 hp1 hp2 hR p0 p1 p2 p3 q0 q1 q2 q3
              go_wp2_with fail
              go_roundw
              case rel => exact ⟨k + 1, by omega, by omega, by go_num, n', R', HP9⟩
              case measure => simp [intOf]; omega
          | some z =>
            obtain ⟨z0, z1, z2, z3⟩ := z
            have HFT := Lib.hid (HBO.out.fits _ rfl)
            have HT13 := Lib.hid (fun (W : World) (hW : Kept (fun _ => False) w4 W) => (show Calls Try.prog 13 #[.slice XA l.length xc] W (fun e w' => ∃ v, e = .returned v ∧ Hid (TCB w4.heap.size w' v l) ∧ Hid (Kept (fun _ => False) W w') ∧ tb < w'.heap.size ∧ w4.heap.size ≤ w'.heap.size ∧ w'.cell? ⟨tb, 0, none⟩ = some (.int .i64 way) ∧ w'.cell? ⟨tb, 1, none⟩ = some (.slice XA l.length xc) ∧ w'.cell? ⟨tb, 2, none⟩ = some (.int .u32 x) ∧ w'.cell? ⟨tb, 3, none⟩ = some (.int .u32 y)) from (toB_any XA xc l w4.heap.size W hW.size (by omega) (HE4.out.on hW (fun _ _ h => h))).mono (by
              rintro e w' ⟨v, rfl, hT, hb'⟩
              have hk := hW.then (Kept.ofB (S := fun _ => False) hb') (fun _ _ h => h.elim)
              exact ⟨v, rfl, Lib.hid hT, Lib.hid (Kept.ofB hb'), by have := hk.size; omega, hk.size, (hk.cell tlt (fun h => h) _).trans t0, (hk.cell tlt (fun h => h) _).trans t1, (hk.cell tlt (fun h => h) _).trans t2, (hk.cell tlt (fun h => h) _).trans t3⟩)))
            have HC12 := Lib.hid (fun (W : World) (v : Value) (hT : TCB w4.heap.size W v l) (hW : Kept (fun _ => False) w4 W) => (show Calls Try.prog 12 #[.pointer (some ⟨cb, 0, none⟩), .int .i64 way, v, .int .u32 x, .int .u32 y] W (fun e w' => e = .returned (.tuple #[.agg #[.int .i64 z0, .int .i64 z1, .int .i64 z2, .int .u32 z3], .bool true]) ∧ Hid (∃ sv', Blk w' cb 35 #[.int .i64 n', sv'] ∧ RowN w' w.heap.size 72 3 sv' ((R'.map ShR.sh).map Sh.cs)) ∧ Hid (Kept (fun i => i = cb ∨ sv.ownBlock = some i) W w') ∧ Hid (Kept (fun i => i = cb ∨ sv.ownBlock = some i) w4 w') ∧ tb < w'.heap.size ∧ w'.cell? ⟨tb, 0, none⟩ = some (.int .i64 way) ∧ w'.cell? ⟨tb, 1, none⟩ = some (.slice XA l.length xc) ∧ w'.cell? ⟨tb, 2, none⟩ = some (.int .u32 x) ∧ w'.cell? ⟨tb, 3, none⟩ = some (.int .u32 y)) from (HBO.out.prog cb w.heap.size sv v W hT.1 (HC.out.kept hW (fun h => h)) (HSV.out.kept hW (fun _ _ h => h)) (by have := hW.size; omega)).mono (by
              rintro e w' ⟨rfl, sv', h1, h2, h3⟩
              have hk := (hW.mono (T := fun i => i = cb ∨ sv.ownBlock = some i) (fun _ _ h => h.elim)).trans h3
              exact ⟨rfl, Lib.hid ⟨sv', h1, h2⟩, Lib.hid h3, Lib.hid hk, by have := hk.size; omega, (hk.cell tlt HST.out _).trans t0, (hk.cell tlt HST.out _).trans t1, (hk.cell tlt HST.out _).trans t2, (hk.cell tlt HST.out _).trans t3⟩)))
            go_upto_region 10 with fail
            go_cut [7, 8] (fun p ok wx => ∃ xb : Nat, p = .pointer (some ⟨xb, 0, none⟩) ∧ ok = .bool true ∧ w4.heap.size ≤ xb ∧ Hid (Blk wx xb 45 #[.int .i64 z0, .int .i64 z1, .int .i64 z2, .int .u32 z3]) ∧ Hid (∃ sv', Blk wx cb 35 #[.int .i64 n', sv'] ∧ RowN wx w.heap.size 72 3 sv' ((R'.map ShR.sh).map Sh.cs)) ∧ Hid (Kept (fun i => i = cb ∨ sv.ownBlock = some i) w4 wx))
            case first =>
              go_region_held3 (fun w' => w'.cell? ⟨tb, 0, none⟩ = some (.int .i64 way) ∧ w'.cell? ⟨tb, 1, none⟩ = some (.slice XA l.length xc) ∧ w'.cell? ⟨tb, 2, none⟩ = some (.int .u32 x) ∧ w'.cell? ⟨tb, 3, none⟩ = some (.int .u32 y))
                (first
                  | (go_keep; done)
                  | (with_reducible exact ⟨m0, m1, m2, m3⟩)
                  | (with_reducible exact ⟨k0, k1, k2, k3⟩)
                  | (refine ⟨?_, ?_, ?_, ?_⟩
                     all_goals ((repeat rw [World.cell?_setCell_other _ _ _ _ (by intro e; injection e; omega)]); assumption)))
                (first
                  | (go_at_call 13; refine (HT13.out _ (by first | exact (Kept.refl _ _).drew | exact ((Kept.refl _ _).alloc _).drew | exact ((Kept.refl _ _).drew).alloc _)).mono ?_; rintro e w5 ⟨v5, rfl, hT5, hK5, hl5, hs5, k0, k1, k2, k3⟩; try (have hX5 : Blk w5 w4.heap.size 45 #[.int .i64 0, .int .i64 0, .int .i64 0, .int .u32 0] := Blk.kept (a := (w4.alloc (.cells #[.int .i64 0, .int .i64 0, .int .i64 0, .int .u32 0] 45)).drew) (Blk.new _ _ _) hK5.out (fun h => h); have cX5 := hX5.cell; have fX5 := hX5.frozen; have lX5 := hX5.lt; have HX5 := Lib.hid hX5; clear hX5))
                  | (go_at_call 12; refine (HC12.out _ _ (by first | exact hT5.out | exact hT5.out.on ((Kept.refl (fun _ => False) _).alloc _) (fun _ h => h.elim)) (by first | exact ((Kept.refl _ _).drew).trans hK5.out | exact (((Kept.refl _ _).alloc _).drew).trans hK5.out | exact ((((Kept.refl _ _).drew).trans hK5.out)).alloc _ | exact (((Kept.refl _ _).drew).alloc _).trans hK5.out)).mono ?_; rintro e w6 ⟨rfl, hC6, hK6, hK46, hl6, m0, m1, m2, m3⟩; first | (have hX6 : Blk w6 w4.heap.size 45 #[.int .i64 0, .int .i64 0, .int .i64 0, .int .u32 0] := HX5.out.kept hK6.out (fun e => by have := HSB.out _ e; omega); have cX6 := hX6.cell; have fX6 := hX6.frozen; have lX6 := hX6.lt; have HX6 := Lib.hid hX6; clear hX6) | (have hX6 : Blk w6 w5.heap.size 45 #[.int .i64 0, .int .i64 0, .int .i64 0, .int .u32 0] := Blk.kept (a := w5.alloc (.cells #[.int .i64 0, .int .i64 0, .int .i64 0, .int .u32 0] 45)) (Blk.new _ _ _) hK6.out (fun e => by have := HSB.out _ e; omega); have cX6 := hX6.cell; have fX6 := hX6.frozen; have lX6 := hX6.lt; have HX6 := Lib.hid hX6; clear hX6) | skip))
              · go_wp2_with fail
                go_meet
                go_light
                have hs46 := hK46.out.size
                obtain ⟨sv', h1, h2⟩ := hC6.out
                exact ⟨w6.heap.size, rfl, rfl, hs46, Lib.hid (Blk.new _ _ _), Lib.hid ⟨sv', h1.alloc _, h2.alloc _⟩, Lib.hid (hK46.out.alloc _)⟩
              · go_wp2_with fail
                go_meet
                go_light
                have hcl := HC.out.lt
                obtain ⟨sv', h1, h2⟩ := hC6.out
                have hn := h2.ne HX6.out (by decide)
                exact ⟨w5.heap.size, rfl, rfl, hs5, Lib.hid ((((HX6.out.set_ _ _).set_ _ _).set_ _ _).set_to rfl), Lib.hid ⟨sv', (((h1.far' (by omega)).far' (by omega)).far' (by omega)).far' (by omega), (((h2.far hn).far hn).far hn).far hn⟩, Lib.hid ((((hK46.out.setCell (.inr hs5) _).setCell (.inr hs5) _).setCell (.inr hs5) _).setCell (.inr hs5) _)⟩
              · go_wp2_with fail
                go_meet
                go_light
                have hcl := HC.out.lt
                obtain ⟨sv', h1, h2⟩ := hC6.out
                have hn := h2.ne HX6.out (by decide)
                exact ⟨w4.heap.size, rfl, rfl, Nat.le_refl _, Lib.hid ((((HX6.out.set_ _ _).set_ _ _).set_ _ _).set_to rfl), Lib.hid ⟨sv', (((h1.far' (by omega)).far' (by omega)).far' (by omega)).far' (by omega), (((h2.far hn).far hn).far hn).far hn⟩, Lib.hid ((((hK46.out.setCell (.inr (Nat.le_refl _)) _).setCell (.inr (Nat.le_refl _)) _).setCell (.inr (Nat.le_refl _)) _).setCell (.inr (Nat.le_refl _)) _)⟩
            case rest =>
              obtain ⟨xb, rfl, rfl, hxb, HX6, HS6, HK6⟩ := hcut
              obtain ⟨sv', hC6, hSV6⟩ := HS6.out
              obtain ⟨w6, hw6⟩ : ∃ w6 : World, w6 = wc := ⟨_, rfl⟩
              rw [← hw6] at HX6 hC6 hSV6 HK6 ⊢
              clear hw6 HS6 HT13 HC12
              have hs6 := HK6.out.size
              have HC6 := Lib.hid hC6
              have HSV6 := Lib.hid hSV6
              have HT6 := Lib.hid (HT4.out.kept HK6.out HST.out)
              have HRF6 := Lib.hid (HRF.out.kept HK6.out HNR.out)
              have HRV6 := Lib.hid (HRV.out.kept HK6.out HNV.out)
              have HB6 := Lib.hid (HBL.out w6 HK6.out)
              have hcl := HC.out.lt
              have hrl := HRF.out.lt
              clear hC6 hSV6 t0 t1 t2 t3 HT4 HC HSV HRF HRV HST HSB HBL HNR HNV HE4 HP4 HK6
              have HCL := Lib.hid (HBO.out.ref w.heap.size (.slice RA R.length rcp) XA xc w6 HRV6.out (by omega) (HE0.out.onB HB6.out (Nat.le_refl _)))
              have cT := HT6.out.cell
              have cF := HRF6.out.cell
              have lT := HT6.out.lt
              have lF := HRF6.out.lt
              go_wp2_with fail
              refine HCL.out.mono ?_
              rintro e w7 ⟨rv', kk, rfl, hko, hRV7, hb7⟩
              obtain ⟨RA', rcp', hv, -, -⟩ := hRV7.shape
              rw [List.length_map] at hv
              subst hv
              have hs7 := hb7.size
              have HX7 := Lib.hid (HX6.out.below hb7 HX6.out.lt)
              have HT7 := Lib.hid (HT6.out.below hb7 HT6.out.lt)
              have HRF7 := Lib.hid (HRF6.out.below hb7 HRF6.out.lt)
              have HC7 := Lib.hid (HC6.out.below hb7 HC6.out.lt)
              have HSV7 := Lib.hid (HSV6.out.belowAll hb7)
              have HRV7 := Lib.hid hRV7
              have HB7 := Lib.hid (bel2 HB6.out hb7)
              have HKO := Lib.hid hko
              clear hko hRV7 hb7 HCL HX6 HT6 HRF6 HC6 HSV6 HB6 HRV6 cT cF lT lF
              have cF := HRF7.out.cell
              have fF := HRF7.out.frozen
              have lF := HRF7.out.lt
              go_upto_region 13 with fail
              obtain ⟨w8, hw8⟩ : ∃ w8 : World, w8 = ((w7.setCell ⟨cb + 1, 0, none⟩ (.int .i64 n')).setCell ⟨cb + 1, 1, none⟩ (.slice RA' R'.length rcp')).alloc (.cells #[.int .i64 n', .slice RA' R'.length rcp'] 38) := ⟨_, rfl⟩
              have hs8 : w7.heap.size ≤ w8.heap.size := by rw [hw8]; simp [World.setCell]
              have hxc : xb ≠ cb + 1 := by omega
              have HX8 := Lib.hid (show Blk w8 xb 45 #[.int .i64 z0, .int .i64 z1, .int .i64 z2, .int .u32 z3] by rw [hw8]; exact ((HX7.out.far' hxc).far' hxc).alloc _)
              have HT8 := Lib.hid (show Blk w8 tb 42 #[.int .i64 way, .slice XA l.length xc, .int .u32 x, .int .u32 y] by have hn := HT7.out.ne_ HRF7.out (by decide); rw [hw8]; exact ((HT7.out.far' hn).far' hn).alloc _)
              have HP8 := Lib.hid (show PcS cb (cb + 1) n' R' (k + 1) w w8 from ⟨⟨sv', .slice RA' R'.length rcp', by rw [hw8]; exact ((HC7.out.far' (by omega)).far' (by omega)).alloc _, by have hn := HSV7.out.ne HRF7.out (by decide); rw [hw8]; exact ((HSV7.out.far hn).far hn).alloc _, by rw [hw8]; exact (((HRF7.out.set_ _ _).set_to rfl)).alloc _, by have hn := HRV7.out.ne HRF7.out (by decide); rw [hw8]; exact ((HRV7.out.far hn).far hn).alloc _⟩, by rw [hw8]; exact ((HB7.out.setCell (by simp; omega) _).setCell (by simp; omega) _).alloc (by simp [World.setCell]; omega) _, HBO.out.len, by have := HBO.out.cr; rw [show (3100 * ((k + 1 : Nat) : Int)) = 3100 * (k : Int) + 3100 by omega]; exact this, by omega, by omega⟩)
              rw [← hw8]
              clear hw8 cF fF lF HX7 HT7 HRF7 HC7 HSV7 HRV7 HB7
              have x0 := HX8.out.cell 0
              have x1 := HX8.out.cell 1
              have x2 := HX8.out.cell 2
              have x3 := HX8.out.cell 3
              have t0 := HT8.out.cell 0
              have t1 := HT8.out.cell 1
              have t2 := HT8.out.cell 2
              have t3 := HT8.out.cell 3
              simp at x0 x1 x2 x3 t0 t1 t2 t3
              have xlt := HX8.out.lt
              have tlt8 := HT8.out.lt
              obtain ⟨j, hj, rfl⟩ : ∃ j : Nat, l[j]? = some ⟨z0, z1, z2, z3⟩ ∧ kk = (j : Int) := by
                rcases HKO.out with ⟨h, -⟩ | ⟨j, z, h, e, hz⟩
                · cases h
                · injection h with h; rw [← h] at hz; exact ⟨j, hz, e⟩
              have HJ := Lib.hid hj
              have hjl := (List.getElem?_eq_some_iff.1 hj).1
              clear HKO hj
              have hjI : (j : Int) < (l.length : Int) := by omega
              have hj0 : (0 : Int) ≤ (j : Int) := by omega
              refine wp_region_kept 43 [(19, fun v u => TCB w8.heap.size u v l), (22, fun v u => v = .agg #[.int .i64 z0, .int .i64 z1, .int .i64 z2, .int .u32 z3]), (33, fun v u => TCB w8.heap.size u v l), (39, fun v u => v = .bool true)] ?st ?ne rfl (by kernel_rfl) (by kernel_rfl) ?_
              case st =>
                intro p hp
                simp only [List.mem_cons, List.not_mem_nil, or_false] at hp
                rcases hp with rfl | rfl | rfl | rfl
                · intro v u u' h hk; exact h.on hk (fun _ h => h.elim)
                · intro v u u' h hk; exact h
                · intro v u u' h hk; exact h.on hk (fun _ h => h.elim)
                · intro v u u' h hk; exact h
              case ne =>
                intro p hp
                simp only [List.mem_cons, List.not_mem_nil, or_false] at hp
                rcases hp with rfl | rfl | rfl | rfl
                · exact TCB.is_ _ _ _ (by omega)
                · exact ⟨_, _, Kept.refl _ _, rfl⟩
                · exact TCB.is_ _ _ _ (by omega)
                · exact ⟨_, _, Kept.refl _ _, rfl⟩
              simp only [List.take_succ_cons, List.take_zero, List.drop_succ_cons, List.drop_zero]
              intro G pick hR hp1 hp2
              have p0 : ∀ u, (pick u).cell? ⟨xb, 0, none⟩ = some (.int .i64 z0) := fun u => ((hp1 u).cell xlt (fun h => h) _).trans x0
              have p1 : ∀ u, (pick u).cell? ⟨xb, 1, none⟩ = some (.int .i64 z1) := fun u => ((hp1 u).cell xlt (fun h => h) _).trans x1
              have p2 : ∀ u, (pick u).cell? ⟨xb, 2, none⟩ = some (.int .i64 z2) := fun u => ((hp1 u).cell xlt (fun h => h) _).trans x2
              have p3 : ∀ u, (pick u).cell? ⟨xb, 3, none⟩ = some (.int .u32 z3) := fun u => ((hp1 u).cell xlt (fun h => h) _).trans x3
              have q0 : ∀ u, (pick u).cell? ⟨tb, 0, none⟩ = some (.int .i64 way) := fun u => ((hp1 u).cell tlt8 (fun h => h) _).trans t0
              have q1 : ∀ u, (pick u).cell? ⟨tb, 1, none⟩ = some (.slice XA l.length xc) := fun u => ((hp1 u).cell tlt8 (fun h => h) _).trans t1
              have q2 : ∀ u, (pick u).cell? ⟨tb, 2, none⟩ = some (.int .u32 x) := fun u => ((hp1 u).cell tlt8 (fun h => h) _).trans t2
              have q3 : ∀ u, (pick u).cell? ⟨tb, 3, none⟩ = some (.int .u32 y) := fun u => ((hp1 u).cell tlt8 (fun h => h) _).trans t3
              repeat (first | (refine wpR_det hp2 rfl ((hR.rel _).trans rfl) rfl ?_; intro K hK; go_big_quiet_op; go_big_quiet_on) | (refine wpR_ptr hp2 rfl ((hR.rel _).trans rfl) rfl rfl ?_; intro K hK; go_big_quiet_op; go_big_quiet_on) | (refine wpR_skip pick rfl ?_; intro K hK; go_big_quiet_op; go_big_quiet_on))
              refine wpR_rel pick rfl ((hR.rel _).trans rfl) ((hR.turns _).trans rfl) ?_ ?_
              · intro u hu
                have hk := hR.since hu.1
                have hks := hk.size
                have hz := toB_any XA xc l w8.heap.size u hks (by omega) (HE0.out.onB (belK HP8.out.bel hk) (Nat.le_refl _))
                unfold relAt
                go_simp
                refine hz.mono ?_
                rintro e w' ⟨v, rfl, hT, hb'⟩
                exact ⟨_, rfl, hR.intoB hb', hR.put 0 rfl rfl hT⟩
              intro v hv
              obtain ⟨u, _, hu⟩ := hv
              obtain hT := hR.get 0 rfl hu
              clear hu
              obtain ⟨tg, tgc, rfl, -, -⟩ := tcb_ne hT HJ.out
              clear hT
              intro K hK
              go_big_quiet_op
              go_big_quiet_on
              repeat (first | (refine wpR_det hp2 rfl ((hR.rel _).trans rfl) rfl ?_; intro K hK; go_big_quiet_op; go_big_quiet_on) | (refine wpR_ptr hp2 rfl ((hR.rel _).trans rfl) rfl rfl ?_; intro K hK; go_big_quiet_op; go_big_quiet_on) | (refine wpR_skip pick rfl ?_; intro K hK; go_big_quiet_op; go_big_quiet_on))
              refine wpR_rel pick rfl ((hR.rel _).trans rfl) ((hR.turns _).trans rfl) ?_ ?_
              · intro u hu
                have hk := hR.since hu.1
                have hks := hk.size
                obtain ⟨tg', tc', e, hlt, hel⟩ := tcb_ne (hR.get 0 rfl (hu.2 _ _ (Got.upd_self _ _ _) (by kernel_rfl))) HJ.out
                injection e with e1 e2 e3
                injection e1 with e1
                injection e1 with e1
                subst e1
                obtain ⟨l0, l1, l2, l3⟩ := cells_set hel HJ.out
                clear hel
                unfold relAt
                go_simp
                exact ⟨hR.into0 (Kept.refl _ _), hR.put 1 rfl rfl rfl⟩
              intro v hv
              obtain ⟨u, _, hu⟩ := hv
              obtain rfl := hR.get 1 rfl hu
              clear hu
              intro K hK
              go_big_quiet_op
              go_big_quiet_on
              repeat (first | (refine wpR_det hp2 rfl ((hR.rel _).trans rfl) rfl ?_; intro K hK; go_big_quiet_op; go_big_quiet_on) | (refine wpR_ptr hp2 rfl ((hR.rel _).trans rfl) rfl rfl ?_; intro K hK; go_big_quiet_op; go_big_quiet_on) | (refine wpR_skip pick rfl ?_; intro K hK; go_big_quiet_op; go_big_quiet_on))
              refine wpR_rel pick rfl ((hR.rel _).trans rfl) ((hR.turns _).trans rfl) ?_ ?_
              · intro u hu
                have hk := hR.since hu.1
                have hks := hk.size
                have hz := toB_any XA xc l w8.heap.size u hks (by omega) (HE0.out.onB (belK HP8.out.bel hk) (Nat.le_refl _))
                unfold relAt
                go_simp
                refine hz.mono ?_
                rintro e w' ⟨v, rfl, hT, hb'⟩
                exact ⟨_, rfl, hR.intoB hb', hR.put 2 rfl rfl hT⟩
              intro v hv
              obtain ⟨u, _, hu⟩ := hv
              obtain hT := hR.get 2 rfl hu
              clear hu
              clear hT
              intro K hK
              go_big_quiet_op
              go_big_quiet_on
              repeat (first | (refine wpR_det hp2 rfl ((hR.rel _).trans rfl) rfl ?_; intro K hK; go_big_quiet_op; go_big_quiet_on) | (refine wpR_ptr hp2 rfl ((hR.rel _).trans rfl) rfl rfl ?_; intro K hK; go_big_quiet_op; go_big_quiet_on) | (refine wpR_skip pick rfl ?_; intro K hK; go_big_quiet_op; go_big_quiet_on))
              refine wpR_rel pick rfl ((hR.rel _).trans rfl) ((hR.turns _).trans rfl) ?_ ?_
              · intro u hu
                have hk := hR.since hu.1
                have hks := hk.size
                have hz := fits_yes way _ l x y ⟨z0, z1, z2, z3⟩ u ((hR.get 2 rfl (hu.2 _ _ (Got.upd_self _ _ _) (by kernel_rfl)))).1 hl30 HR.out hx hx' hy hy' HFT.out
                unfold relAt
                go_simp
                refine hz.mono ?_
                rintro e w' ⟨rfl, hb'⟩
                exact ⟨_, rfl, hR.intoB hb', hR.put 3 rfl rfl rfl⟩
              intro v hv
              obtain ⟨u, _, hu⟩ := hv
              obtain rfl := hR.get 3 rfl hu
              clear hu
              intro K hK
              go_big_quiet_op
              go_big_quiet_on
              repeat (first | (refine wpR_det hp2 rfl ((hR.rel _).trans rfl) rfl ?_; intro K hK; go_big_quiet_op; go_big_quiet_on) | (refine wpR_ptr hp2 rfl ((hR.rel _).trans rfl) rfl rfl ?_; intro K hK; go_big_quiet_op; go_big_quiet_on) | (refine wpR_skip pick rfl ?_; intro K hK; go_big_quiet_op; go_big_quiet_on))
              refine wpR_nil ?_
              intro w9 hk2 hF hM
              have HP9 := Lib.hid (HP8.out.on hk2)
              clear hF hM hk2 hp1 hp2 hR p0 p1 p2 p3 q0 q1 q2 q3
              go_wp2_with fail
              go_roundw
              case rel => exact ⟨k + 1, by omega, by omega, by go_num, n', R', HP9⟩
              case measure => simp [intOf]; omega
      · obtain rfl : k = 60 := by omega
        have h60 : ¬ (60 : Int) < 60 := by omega
        have hkI : (60 : Int) < (L.length : Int) := by omega
        go_wp2_with fail
        refine (ch_none _ _ _ _ _).mono ?_
        rintro e wa ⟨rfl, hba⟩
        have hsa : wr.heap.size + 1 ≤ wa.heap.size := by have := hba.size; simpa using this
        have HBA := Lib.hid (show Below w.heap.size w wa from (HP.out.bel.alloc (by omega) _).trans (hba.mono (by simp; omega)))
        clear hba
        go_wp2_with fail
        refine (awake_any _).mono ?_
        rintro e wc7 ⟨rfl, hbc⟩
        have HBC := Lib.hid hbc
        clear hbc
        go_wp2_with fail
        go_ret
        exact ⟨rfl, (HBA.out.alloc (by omega) _).trans (HBC.out.mono (by simp; omega))⟩
    · obtain rfl : k = L.length := by omega
      have hkI : ¬ (L.length : Int) < (L.length : Int) := by omega
      go_wp2_with fail
      refine (ch_none _ _ _ _ _).mono ?_
      rintro e wa ⟨rfl, hba⟩
      have hsa : wr.heap.size + 1 ≤ wa.heap.size := by have := hba.size; simpa using this
      have HBA := Lib.hid (show Below w.heap.size w wa from (HP.out.bel.alloc (by omega) _).trans (hba.mono (by simp; omega)))
      clear hba
      go_wp2_with fail
      refine (awake_any _).mono ?_
      rintro e wc7 ⟨rfl, hbc⟩
      have HBC := Lib.hid hbc
      clear hbc
      go_wp2_with fail
      go_ret
      exact ⟨rfl, (HBA.out.alloc (by omega) _).trans (HBC.out.mono (by simp; omega))⟩
end Go.Proofs.Ytpakfepjfcpjkaa
