/- The law MailClears, walked. -/
import Derived.Test.YtggipaengnchgaaH
namespace Go.Proofs.Ytggipaengnchgaa
open Go.RowKit
set_option linter.unusedVariables false
/-- What the loop that sends keeps. -/
structure ClS (mb : Nat) (L : List LeV) (k : Nat) (node : Int) (lv : Value) (w wr : World) (ML : List Le) : Prop where
  ml : MlS mb mb 100 0 ML wr
  al : Alike ML (L.take k)
  row : RowN wr w.heap.size 28 3 lv ((keepV (L.take k) node).map LeV.cs)
  bel : Below w.heap.size w wr
  hb : mb ≤ wr.heap.size
theorem MlS.alloc {mb base : Nat} {most lost : Int} {L : List Le} {w : World} (h : MlS mb base most lost L w) (o : Obj) : MlS mb base most lost L (w.alloc o) := h.on ((Kept.refl _ _).alloc o)
theorem Row.bs {w : World} {base : Nat} {A : Option Addr} {c : Nat} {l : List UInt8} (h : Row w base 5 (.slice A l.length c) (bcs l)) : BS w w.heap.size A l := by
  obtain ⟨A', c', e, -, -, h1⟩ := h.byt
  injection e with e1 e2 e3
  rw [e1]; exact h1
theorem Row.on {w w' : World} {base e : Nat} {v : Value} {xs : List Value} (h : Row w base e v xs) (hk : Kept (fun _ => False) w w') : Row w' base e v xs := h.kept hk (fun _ _ h => h)
/-- An append to a list of the law's own leaves the mail as it is. -/
theorem MlS.row28 {mb base : Nat} {most lost : Int} {ML : List Le} {w w' : World} {o : Obj} {lv : Value} {b0 sz : Nat} {R : List (List Value)} (h : MlS mb base most lost ML w) (hR : RowN w b0 28 sz lv R) (hg : (w.alloc o).grownBy w' lv.ownBlock) : MlS mb base most lost ML w' := by
  have hk : Kept (fun i => lv.ownBlock = some i) w w' := ((Kept.refl _ w).alloc o).then (Kept.of_grown (S := fun i => lv.ownBlock = some i) hg (fun i _ e => e.symm)) (fun _ _ h => h)
  have hn : ∀ g t cs, Blk w g t cs → t ≠ 28 → ¬ lv.ownBlock = some g := fun g t cs hb ht e => by
    obtain ⟨cs', hb'⟩ := hR.blk e
    exact hb.ne_ hb' ht rfl
  obtain ⟨⟨LA, lc, h1, h2⟩, h3, h4⟩ := h
  refine ⟨⟨LA, lc, h1.kept hk (hn _ _ _ h1 (by decide)), h2.kept hk (fun g hg e => ?_)⟩, fun x hx => Row.kept (h3 x hx) hk (fun g hg e => ?_), h4⟩
  · obtain ⟨cs, hb⟩ := h2.blk hg; exact hn _ _ _ hb (by decide) e
  · obtain ⟨cs, hb⟩ := Row.blk (h3 x hx) hg; exact hn _ _ _ hb (by decide) e
set_option maxRecDepth 100000 in
set_option maxHeartbeats 4000000 in
theorem clears_any (A : Option Addr) (c : Nat) (L : List LeV) (node : Int) (w : World) (hl : L.length ≤ maxLen) (hA : ES w w.heap.size A 3 (L.map LeV.cs)) (hW : ∀ a ∈ L, a.wf w) :
    Calls Try.prog 3 #[.slice A L.length c, .int .i64 node] w fun e w' => e = .returned (.bool true) ∧ Below w.heap.size w w' := by
  have HA := Lib.hid hA
  have HW := Lib.hid hW
  unfold maxLen at hl
  have hinf := Try.infoLeV
  clear hA hW
  go_enter Try.func3, Try.ntmps3
  go_wp2_with fail
  refine (awake_any w).mono ?_
  rintro e w1 ⟨rfl, hb1⟩
  have hs1 := hb1.size
  have HB1 := Lib.hid hb1
  have HNW := Lib.hid (new_any 100 w1)
  clear hb1
  go_wp2_with fail
  refine HNW.out.mono ?_
  rintro e w2 ⟨rfl, hM, hb2⟩
  obtain ⟨mb, hmb⟩ : ∃ mb, w1.heap.size = mb := ⟨_, rfl⟩
  have HP2 := Lib.hid (show ClS mb L 0 node (.slice none 0 0) w w2 [] from ⟨by rw [← hmb]; exact hM, by rw [List.take_zero]; exact .nil, RowN.nil _ _ _ _, HB1.out.trans (hb2.mono (by omega)), by rw [← hmb]; exact hb2.size⟩)
  rw [hmb] at hs1 ⊢
  clear hM hb2 HNW HB1 hmb
  go_wp2_with fail
  go_loopw [6, 7] (fun lv i wr => ∃ k : Nat, k ≤ L.length ∧ k ≤ 60 ∧ i = .int .i64 (k : Int) ∧ ∃ ML, Hid (ClS mb L k node lv w wr ML)) (fun _ i _ => 60 - (intOf i).toNat)
  case atStart => exact ⟨0, by omega, by omega, rfl, [], HP2⟩
  case round =>
    clear HP2
    obtain ⟨k, hk, hk60, rfl, ML, HP⟩ := hrel
    have hsr := HP.out.bel.size
    by_cases hkK : k < L.length ∧ k < 60
    · obtain ⟨hkl, hk6⟩ := hkK
      have hkI : (k : Int) < (L.length : Int) := by omega
      have hk6I : (k : Int) < 60 := by omega
      obtain ⟨b, o, hb, rfl, hel⟩ := HA.out.at (k := k) (by simpa using hkl)
      obtain ⟨c0, c1, c2⟩ := lev_cells (hel.keep (w' := wr) (fun o => HP.out.bel.cell (p := ⟨b, o, none⟩) hb)) hkl
      have hok := BV.onB (HW.out L[k] (List.getElem_mem hkl)).2 HP.out.bel
      have HSN := Lib.hid (keepV_snoc L node k hkl)
      have HTK := Lib.hid (List.take_succ_eq_append_getElem hkl)
      have HEL := Lib.hid hel
      obtain ⟨⟨nd, bk, XA, xc, l⟩, hxx⟩ : ∃ x, L[k] = x := ⟨_, rfl⟩
      have HXX := Lib.hid hxx
      rw [hxx] at c0 c1 c2 hok HSN HTK
      simp only at c0 c1 c2 hok
      obtain ⟨hok1, hok2, hok3⟩ := hok
      unfold maxLen at hok2
      simp only at hok1 hok2 hok3
      have HES := Lib.hid hok3
      have blt : b < wr.heap.size := by omega
      clear hel hxx hok3
      by_cases h200 : l.length ≤ 200
      · have h2I : ¬ (200 : Int) < (l.length : Int) := by omega
        have hml : ML.length = k := by rw [HP.out.al.len]; simp; omega
        have HML := Lib.hid hml
        obtain ⟨hA', hcap, hve, -⟩ := HP.out.row.shape
        rw [List.length_map] at hve
        subst hve
        have HSZ := Lib.hid (fun (u : World) (hk : Kept (fun _ => False) wr u) => (show Calls Try.prog 7 #[.pointer (some ⟨mb, 0, none⟩), .agg #[.int .i64 nd, .bool bk, .slice XA l.length xc]] u (Sent mb mb 100 0 ML nd bk l u) from send_ok mb mb 100 0 ML nd bk XA xc l u (HP.out.ml.on hk) (by omega) (by omega) (by have := hk.size; have := HP.out.hb; omega) (by omega) (HES.out.on hk (fun _ _ h => h))))
        clear hml
        go_upto_region 10 with fail
        refine wp_region_kept 17 [] ?st ?ne rfl (by kernel_rfl) (by kernel_rfl) ?_
        case st => intro p hp; cases hp
        case ne => intro p hp; cases hp
        simp only [List.take_succ_cons, List.take_zero, List.drop_succ_cons, List.drop_zero]
        intro G pick hR hp1 hp2
        have p0 : ∀ u, (pick u).cell? ⟨b, o + k * 3, none⟩ = some (.int .i64 nd) := fun u => ((hp1 u).cell blt (fun h => h) _).trans c0
        have p1 : ∀ u, (pick u).cell? ⟨b, o + k * 3 + 1, none⟩ = some (.bool bk) := fun u => ((hp1 u).cell blt (fun h => h) _).trans c1
        have p2 : ∀ u, (pick u).cell? ⟨b, o + k * 3 + 2, none⟩ = some (.slice XA l.length xc) := fun u => ((hp1 u).cell blt (fun h => h) _).trans c2
        repeat (first | (refine wpR_det hp2 rfl ((hR.rel _).trans rfl) rfl ?_; intro K hK; go_big_quiet_op; go_big_quiet_on) | (refine wpR_ptr hp2 rfl ((hR.rel _).trans rfl) rfl rfl ?_; intro K hK; go_big_quiet_op; go_big_quiet_on) | (refine wpR_skip pick rfl ?_; intro K hK; go_big_quiet_op; go_big_quiet_on))
        refine wpR_nil ?_
        intro w2 hk2 hF hM
        have HK2 := Lib.hid hk2
        clear hF hM hk2 hp1 hp2 hR p0 p1 p2
        go_wp2_with fail
        refine (HSZ.out w2 HK2.out).mono ?_
        rintro e w3 ⟨rfl, v3, hP3⟩
        have hs3 := hP3.bel.size
        have hs2 := HK2.out.size
        have hmb2 := HP.out.hb
        have HOT := Lib.hid ((Oth.of0 HK2.out).trans hP3.oth)
        have HB3 := Lib.hid (show Below w.heap.size w w3 from (HP.out.bel.trans (HK2.out.below (by omega) (fun i h => h.elim))).trans (hP3.bel.mono hs1))
        have HM3 := Lib.hid hP3.st
        have HAL := Lib.hid (show Alike (ML ++ [⟨nd, bk, v3, l⟩]) (L.take (k + 1)) by rw [HTK.out]; exact HP.out.al.snoc _ _ rfl)
        have HR3 := Lib.hid (HP.out.row.oth HOT.out (by decide) (by decide))
        obtain ⟨d0, d1, d2⟩ := lev_cells (HEL.out.keep (w' := w3) (fun o => HB3.out.cell (p := ⟨b, o, none⟩) hb)) hkl
        rw [HXX.out] at d0 d1 d2
        simp only at d0 d1 d2
        have blt3 : b < w3.heap.size := by omega
        have hb3 : mb ≤ w3.heap.size := by omega
        clear hP3 c0 c1 c2 hmb2
        by_cases hn : nd = node
        · have hn1 : (nd == node) = true := by simpa using hn
          have HRX := Lib.hid (show RowN w3 w.heap.size 28 3 (.slice hA' (keepV (L.take k) node).length hcap) ((keepV (L.take (k + 1)) node).map LeV.cs) by rw [HSN.out, if_pos hn, List.append_nil]; exact HR3.out)
          clear hn HSN
          go_wp2_with fail
          go_roundw
          case rel => exact ⟨k + 1, by omega, by omega, by go_num, _, Lib.hid ⟨HM3.out, HAL.out, HRX.out, HB3.out, hb3⟩⟩
          case measure => simp [intOf]; omega
        · have hn1 : (nd == node) = false := by simpa using hn
          have HSN2 := Lib.hid (show keepV (L.take (k + 1)) node = keepV (L.take k) node ++ [⟨nd, bk, XA, xc, l⟩] by rw [HSN.out, if_neg hn])
          have HKL := Lib.hid (keepV_len (L.take k) node)
          clear hn HSN
          go_wp2_with (at_builtin; refine wpList_append_rowN rfl (.tmp 58) (.tmp 63) 22 rfl w.heap.size 28 (.agg #[.int .i64 0, .bool false, .slice none 0 0]) 3 40 Try.underlying22 hinf rfl (by omega) _ ((keepV (L.take k) node).map LeV.cs) rfl (some ⟨w3.heap.size, 0, none⟩) 1 1 [LeV.cs ⟨nd, bk, XA, xc, l⟩] rfl rfl ?a1 (fun y hy => by simp at hy; subst hy; rfl) ?a2 (lev_one _) ?a3 ?a4 ?a5 ?_)
          case a1 => exact HR3.out.alloc _
          case a2 => exact Src.blk (cs := #[.int .i64 nd, .bool bk, .slice XA l.length xc]) (Blk.new _ _ _) rfl
          case a3 => have := HKL.out; rw [List.length_take] at this; simp; unfold maxLen; omega
          case a4 => have := HKL.out; rw [List.length_take] at this; simp; omega
          case a5 => simp; omega
          intro v5 w5 hr5 hg5 _
          have hs5 : w3.heap.size + 1 ≤ w5.heap.size := by have := hg5.size; simpa using this
          have HR5 := Lib.hid (show RowN w5 w.heap.size 28 3 v5 ((keepV (L.take (k + 1)) node).map LeV.cs) by rw [HSN2.out, List.map_append]; exact hr5)
          have HB5 := Lib.hid ((HB3.out.alloc (by omega) _).trans (below_grown hg5 (fun i e => (HR3.out.lt i (ownBlock_len e)).1) (by simp; omega)))
          have HM5 := Lib.hid (show MlS mb mb 100 0 _ w5 from HM3.out.row28 HR3.out hg5)
          clear hr5 hg5
          go_wp2_with fail
          go_roundw
          case rel => exact ⟨k + 1, by omega, by omega, by go_num, _, Lib.hid ⟨HM5.out, HAL.out, HR5.out, HB5.out, by omega⟩⟩
          case measure => simp [intOf]; omega
      · have h2I : (200 : Int) < (l.length : Int) := by omega
        have HBR := Lib.hid HP.out.bel
        go_wp2_with fail
        refine (awake_any _).mono ?_
        rintro e wz ⟨rfl, hbz⟩
        have HBZ := Lib.hid hbz
        clear hbz
        go_wp2_with fail
        go_ret
        exact ⟨rfl, HBR.out.trans (HBZ.out.mono hsr)⟩
    · have HAL := Lib.hid HP.out.al
      have HMR := Lib.hid HP.out.ml
      have HRR := Lib.hid HP.out.row
      have HBR := Lib.hid HP.out.bel
      have hmr := HP.out.hb
      have hLk : (L.take k).length = k := by simp; omega
      have HML := Lib.hid (show ML.length = k by rw [HAL.out.len]; exact hLk)
      obtain ⟨hA', hcap, hve, -⟩ := HP.out.row.shape
      rw [List.length_map] at hve
      subst hve
      have HWL := Lib.hid (show ∀ y ∈ keepV (L.take k) node, y.wf w from fun y hy => HW.out y (List.mem_of_mem_take (List.mem_filter.1 hy).1))
      obtain ⟨F, hF⟩ : ∃ F, keepV (L.take k) node = F := ⟨_, rfl⟩
      have hFl : F.length ≤ k := by rw [← hF]; have := keepV_len (L.take k) node; omega
      have HALK := Lib.hid (show Alike (keepN ML node) F by rw [← hF]; exact HAL.out.keep node)
      rw [hF] at HRR HWL ⊢
      have hLEN := len_any mb mb 100 0 ML wr HMR.out
      have hCLR := clear_any mb mb 100 0 node ML wr HMR.out (by rw [HML.out]; omega) (by omega) hmr
      unfold Cleared at hCLR
      rw [HALK.out.len, HML.out] at hCLR
      rw [HML.out] at hLEN
      have HLEN := Lib.hid hLEN
      have HCLR := Lib.hid hCLR
      clear hF HP hLEN hCLR hLk
      have hex : (¬ (k : Int) < (L.length : Int)) ∨ ((k : Int) < (L.length : Int) ∧ ¬ (k : Int) < 60) := by omega
      clear hkK
      rcases hex with hx1 | ⟨hx1, hx2⟩
      all_goals
        go_wp2_with fail
        refine HLEN.out.mono ?_
        rintro e wa ⟨rfl, rfl⟩
        go_wp2_with fail
        refine HCLR.out.mono ?_
        rintro e w4 ⟨rfl, hP4⟩
        have hs4 := hP4.bel.size
        have HM4 := Lib.hid hP4.st
        have HB4 := Lib.hid (HBR.out.trans (hP4.bel.mono hs1))
        have HR4 := Lib.hid (HRR.out.oth hP4.oth (by decide) (by decide))
        have hln := len_any mb mb 100 _ _ w4 HM4.out
        rw [HALK.out.len] at hln
        have HLN := Lib.hid hln
        clear hP4 hln HLEN HCLR
        go_wp2_with fail
        refine HLN.out.mono ?_
        rintro e wa ⟨rfl, rfl⟩
        clear HLN
        go_wp2_with fail
        go_loopw [9] (fun i wr => ∃ j : Nat, j ≤ F.length ∧ i = .int .i64 (j : Int) ∧ ∃ MJ lo, Hid (MlS mb mb 100 lo MJ wr) ∧ Hid (Alike MJ (F.drop j)) ∧ Hid (RowN wr w.heap.size 28 3 (.slice hA' F.length hcap) (F.map LeV.cs)) ∧ Hid (Below w.heap.size w wr) ∧ mb ≤ wr.heap.size) (fun i _ => F.length - (intOf i).toNat)
        case atStart => exact ⟨0, by omega, rfl, _, _, HM4, Lib.hid (by rw [List.drop_zero]; exact HALK.out), HR4, HB4, by omega⟩
        case round =>
          clear HM4 HR4 HB4 HALK HAL HML HMR HRR HBR hs4
          obtain ⟨j, hj, rfl, MJ, lo, HMJ, HAJ, HRJ, HBJ, hmj⟩ := hrel
          have hsj := HBJ.out.size
          by_cases hjF : j < F.length
          · have hjI : (j : Int) < (F.length : Int) := by omega
            obtain ⟨x, hx, hkey⟩ := HAJ.out.get 0 (by simp; omega)
            have e0 : (F.drop j)[0]'(by simp; omega) = F[j] := by simp
            rw [e0] at hkey
            have HMX := Lib.hid (HMJ.out.ok x (List.mem_of_getElem? hx))
            have HXE := Lib.hid hx
            have HWJ := Lib.hid (HWL.out F[j] (List.getElem_mem hjF)).2
            obtain ⟨⟨nd, bk, XA, xc, l⟩, hyy⟩ : ∃ y, F[j] = y := ⟨_, rfl⟩
            have HYY := Lib.hid hyy
            rw [hyy] at hkey HWJ
            clear e0 hx hyy
            obtain ⟨nd', bk', v', l'⟩ := x
            have hkey' := hkey.symm
            simp only [Le.key, LeV.key, Prod.mk.injEq] at hkey'
            obtain ⟨rfl, rfl, rfl⟩ := hkey'
            obtain ⟨VA, vc, hv, -, -⟩ := (show Row wr mb 5 v' (bcs l) from HMX.out).shape
            rw [bcs_length] at hv
            subst hv
            have HMJL := Lib.hid HAJ.out.len
            have HTK := Lib.hid (take_ok mb mb 100 lo MJ 0 ⟨nd, bk, .slice VA l.length vc, l⟩ wr HMJ.out HXE.out (by rw [HMJL.out]; simp; omega) hmj)
            clear hkey
            go_wp2_with fail
            refine HTK.out.mono ?_
            rintro e w5 ⟨rfl, hP5⟩
            have hs5 := hP5.bel.size
            have HM5 := Lib.hid hP5.st
            have HB5 := Lib.hid (HBJ.out.trans (hP5.bel.mono hs1))
            have HR5 := Lib.hid (HRJ.out.oth hP5.oth (by decide) (by decide))
            have HX5 := Lib.hid (show Row w5 mb 5 (.slice VA l.length vc) (bcs l) from le_oth HMX.out hP5.oth)
            have HA5 := Lib.hid (show Alike (MJ.eraseIdx 0) (F.drop (j + 1)) by have := HAJ.out.erase 0; rwa [List.eraseIdx_zero (l := F.drop j), List.tail_drop] at this)
            have hm5 : mb ≤ w5.heap.size := by omega
            clear hP5 HTK HMX HMJ HRJ HBJ hmj HXE HMJL HAJ
            go_upto_region 20 with fail
            obtain ⟨w6, hw6⟩ : ∃ w6 : World, w6 = w5.alloc (.cells #[.int .i64 nd, .bool bk, .slice VA l.length vc] 31) := ⟨_, rfl⟩
            have hk6 : Kept (fun _ => False) w5 w6 := by rw [hw6]; exact (Kept.refl _ _).alloc _
            have HXB := Lib.hid (show Blk w6 w5.heap.size 31 #[.int .i64 nd, .bool bk, .slice VA l.length vc] by rw [hw6]; exact Blk.new _ _ _)
            rw [← hw6]
            clear hw6
            have hs6 := hk6.size
            have HM6 := Lib.hid (HM5.out.on hk6)
            have HB6 := Lib.hid (HB5.out.trans (hk6.below (by omega) (fun i h => h.elim)))
            have HR6 := Lib.hid (HR5.out.kept hk6 (fun _ _ h => h))
            have hok := HX5.out.on hk6
            obtain ⟨b2, c2', hv2, hlo2, blt, hel2⟩ := HR6.out.at (i := j) (by simpa using hjF)
            injection hv2 with e1 e2 e3
            subst e1
            obtain ⟨c0, c1, c2⟩ := lev_cells hel2 hjF
            rw [HYY.out] at c0 c1 c2
            simp only [Nat.zero_add] at c0 c1 c2
            obtain ⟨-, -, hes0⟩ := HWJ.out
            have hes := hes0.onB HB6.out (Nat.le_refl _)
            simp only at hes
            obtain ⟨xb, hxb⟩ : ∃ xb, w5.heap.size = xb := ⟨_, rfl⟩
            rw [hxb] at HXB ⊢
            have x0 := HXB.out.cell 0
            have x1 := HXB.out.cell 1
            have x2 := HXB.out.cell 2
            simp at x0 x1 x2
            have xlt := HXB.out.lt
            clear HM5 HB5 HR5 HX5 hk6 hel2 hes0 hxb e2 e3
            refine wp_region_kept 11 [(8, fun v u => v = .bool true)] ?st ?ne rfl (by kernel_rfl) (by kernel_rfl) ?_
            case st =>
              intro p hp
              simp only [List.mem_cons, List.not_mem_nil, or_false] at hp
              subst hp
              · intro v u u' h hk; exact h
            case ne =>
              intro p hp
              simp only [List.mem_cons, List.not_mem_nil, or_false] at hp
              subst hp
              · exact ⟨_, _, Kept.refl _ _, rfl⟩
            simp only [List.take_succ_cons, List.take_zero, List.drop_succ_cons, List.drop_zero]
            intro G pick hR hp1 hp2
            have p0 : ∀ u, (pick u).cell? ⟨b2, j * 3, none⟩ = some (.int .i64 nd) := fun u => ((hp1 u).cell blt (fun h => h) _).trans c0
            have p1 : ∀ u, (pick u).cell? ⟨b2, j * 3 + 1, none⟩ = some (.bool bk) := fun u => ((hp1 u).cell blt (fun h => h) _).trans c1
            have p2 : ∀ u, (pick u).cell? ⟨b2, j * 3 + 2, none⟩ = some (.slice XA l.length xc) := fun u => ((hp1 u).cell blt (fun h => h) _).trans c2
            have q0 : ∀ u, (pick u).cell? ⟨xb, 0, none⟩ = some (.int .i64 nd) := fun u => ((hp1 u).cell xlt (fun h => h) _).trans x0
            have q1 : ∀ u, (pick u).cell? ⟨xb, 1, none⟩ = some (.bool bk) := fun u => ((hp1 u).cell xlt (fun h => h) _).trans x1
            have q2 : ∀ u, (pick u).cell? ⟨xb, 2, none⟩ = some (.slice VA l.length vc) := fun u => ((hp1 u).cell xlt (fun h => h) _).trans x2
            repeat (first | (refine wpR_det hp2 rfl ((hR.rel _).trans rfl) rfl ?_; intro K hK; go_big_quiet_op; go_big_quiet_on) | (refine wpR_ptr hp2 rfl ((hR.rel _).trans rfl) rfl rfl ?_; intro K hK; go_big_quiet_op; go_big_quiet_on) | (refine wpR_skip pick rfl ?_; intro K hK; go_big_quiet_op; go_big_quiet_on))
            refine wpR_rel pick rfl ((hR.rel _).trans rfl) ((hR.turns _).trans rfl) ?_ ?_
            · intro u hu
              have hk := hR.since hu.1
              have hks := hk.size
              have hz := same_yes nd bk l VA XA vc xc u (hok.on hk).bs (hes.on hk (fun _ _ h => h))
              unfold relAt
              go_simp
              refine hz.mono ?_
              rintro e w' ⟨rfl, hb'⟩
              exact ⟨_, rfl, hR.intoB hb', hR.put 0 rfl rfl rfl⟩
            intro v hv
            obtain ⟨u, _, hu⟩ := hv
            obtain rfl := hR.get 0 rfl hu
            clear hu
            intro K hK
            go_big_quiet_op
            go_big_quiet_on
            repeat (first | (refine wpR_det hp2 rfl ((hR.rel _).trans rfl) rfl ?_; intro K hK; go_big_quiet_op; go_big_quiet_on) | (refine wpR_ptr hp2 rfl ((hR.rel _).trans rfl) rfl rfl ?_; intro K hK; go_big_quiet_op; go_big_quiet_on) | (refine wpR_skip pick rfl ?_; intro K hK; go_big_quiet_op; go_big_quiet_on))
            refine wpR_nil ?_
            intro w7 hk2 hF hM
            have HM7 := Lib.hid (HM6.out.on hk2)
            have HR7 := Lib.hid (HR6.out.kept hk2 (fun _ _ h => h))
            have HB7 := Lib.hid (HB6.out.trans (hk2.below (by omega) (fun i h => h.elim)))
            have hm7 := hk2.size
            clear hF hM hk2 hp1 hp2 hR p0 p1 p2 q0 q1 q2 x0 x1 x2 c0 c1 c2 hok hes
            go_wp2_with fail
            go_roundw
            case rel => exact ⟨j + 1, by omega, by go_num, _, _, HM7, HA5, HR7, HB7, by omega⟩
            case measure => simp [intOf]; omega
          · obtain rfl : j = F.length := by omega
            have hjI : ¬ (F.length : Int) < (F.length : Int) := by omega
            go_wp2_with fail
            refine (awake_any _).mono ?_
            rintro e wz ⟨rfl, hbz⟩
            have HBZ := Lib.hid hbz
            clear hbz
            go_wp2_with fail
            go_ret
            exact ⟨rfl, HBJ.out.trans (HBZ.out.mono hsj)⟩
end Go.Proofs.Ytggipaengnchgaa
