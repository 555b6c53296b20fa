/- The law CaptureBack, walked. -/
import Derived.Test.YtohimionlgaaoaaO
import Derived.Test.YtohimionlgaaoaaPlainW
import Derived.Test.YtohimionlgaaoaaH
import Derived.Test.YtohimionlgaaoaaRgRow
namespace Go.Proofs.Ytohimionlgaaoaa
open Go.RowKit
set_option linter.unusedVariables false
def PkV.ok (p : PkV) (w : World) : Prop := p.pk.wf ∧ p.pk.dl.length ≤ p.dc ∧ p.dc ≤ maxLen ∧ BS w w.heap.size p.DA p.pk.dl
def accL (sm na : Bool) (mo li : Int) (K : List PkV) : List UInt8 := headL sm na mo li ++ ((K.map (·.pk)).map (wrL sm)).flatten
theorem accL_snoc (sm na : Bool) (mo li : Int) (K : List PkV) (p : PkV) : accL sm na mo li (K ++ [p]) = accL sm na mo li K ++ wrL sm p.pk := by simp [accL]
theorem accL_len (sm na : Bool) (mo li : Int) : ∀ (K : List PkV), (∀ p ∈ K, p.pk.dl.length ≤ 200) → (accL sm na mo li K).length ≤ 24 + 216 * K.length := by
  intro K h
  have hl : (headL sm na mo li).length = 24 := headLs_len _ _ _ _
  simp only [accL, List.length_append, hl]
  induction K with
  | nil => simp
  | cons p t ih =>
    have h1 := h p (by simp)
    have := ih (fun q hq => h q (by simp [hq]))
    simp only [List.map_cons, List.flatten_cons, List.length_append, wrL_len, List.length_cons] at this ⊢
    omega
theorem Try.info5q : (Try.prog.info? 5).map (fun i => (i.zero, i.size, i.bytes)) = some (some (.int .u8 0), 1, 1) := by kernel_rfl
set_option maxRecDepth 20000 in
set_option maxHeartbeats 16000000 in
theorem backs_any (sm na : Bool) (mo li : Int) (A : Option Addr) (c : Nat) (L : List PkV) (w : World) (hmo : 0 ≤ mo ∧ mo ≤ 4294967295) (hli : 0 ≤ li ∧ li ≤ 4294967295) (hl : L.length ≤ maxLen) (hW : ∀ p ∈ L, p.ok w) (hE : ES w w.heap.size A 4 (L.map PkV.cs)) :
    Calls Try.prog 5 #[.agg #[.bool sm, .bool na, .int .u32 mo, .int .u32 li], .slice A L.length c] w fun e w' => e = .returned (.bool true) ∧ Below w.heap.size w w' := by
  have h5 := Try.info5q
  have hinf := Try.info27
  have HE := Lib.hid hE
  have HW := Lib.hid hW
  have MO := Lib.hid hmo
  have LI := Lib.hid hli
  unfold maxLen at hl
  clear hE hW hmo hli
  go_enter Try.func5, Try.ntmps5
  go_upto_region 1 with fail
  obtain ⟨w1, hw1⟩ : ∃ w1 : World, w1 = w.alloc (.cells #[.bool sm, .bool na, .int .u32 mo, .int .u32 li] 24) := ⟨_, rfl⟩
  have HF1 := Lib.hid (show Blk w1 w.heap.size 24 #[.bool sm, .bool na, .int .u32 mo, .int .u32 li] by rw [hw1]; exact Blk.new _ _ _)
  have HB1 := Lib.hid (show Below w.heap.size w w1 by rw [hw1]; exact (Below.refl _ _).alloc (Nat.le_refl _) _)
  rw [← hw1]
  clear hw1
  obtain ⟨g2, hg2⟩ : ∃ g, w.heap.size = g := ⟨_, rfl⟩
  have HG2E := Lib.hid hg2
  rw [hg2] at HF1 ⊢
  clear hg2
  have c1 := HF1.out.cell
  go_wp2_with fail
  refine (to_any sm na mo li w1).mono ?_
  rintro e w2 ⟨rfl, hb2⟩
  have HF2 := Lib.hid (HF1.out.below hb2 HF1.out.lt)
  have HB2 := Lib.hid (HB1.out.trans (hb2.mono HB1.out.size))
  clear hb2 c1
  go_upto_region 2 with fail
  obtain ⟨w3, hw3⟩ : ∃ w3 : World, w3 = w2.alloc (.cells #[.bool sm, .bool na, .int .u32 mo, .int .u32 li] 29) := ⟨_, rfl⟩
  have HF3 := Lib.hid (show Blk w3 g2 24 #[.bool sm, .bool na, .int .u32 mo, .int .u32 li] by rw [hw3]; exact HF2.out.alloc _)
  have HX3 := Lib.hid (show Blk w3 w2.heap.size 29 #[.bool sm, .bool na, .int .u32 mo, .int .u32 li] by rw [hw3]; exact Blk.new _ _ _)
  have HB3 := Lib.hid (show Below w.heap.size w w3 by rw [hw3]; exact HB2.out.alloc HB2.out.size _)
  rw [← hw3]
  clear hw3
  obtain ⟨g5, hg5⟩ : ∃ g, w2.heap.size = g := ⟨_, rfl⟩
  rw [hg5] at HX3 ⊢
  clear hg5
  have c1 := HX3.out.cell
  go_wp2_with fail
  refine (head_row sm na mo li w3 MO.out LI.out).mono ?_
  rintro e w4 ⟨bv0, rfl, hrow, hb4⟩
  have HBV := Lib.hid (show Row w4 w.heap.size 5 bv0 (bcs (accL sm na mo li [])) from by simpa [accL] using hrow.more HB3.out.size)
  have HF4 := Lib.hid (HF3.out.below hb4 HF3.out.lt)
  have HX4 := Lib.hid (HX3.out.below hb4 HX3.out.lt)
  have HB4 := Lib.hid (HB3.out.trans (hb4.mono HB3.out.size))
  clear hb4 hrow c1 HF1 HB1 HF2 HB2 HF3 HX3 HB3
  go_wp2_with fail
  go_loopw [6, 7, 8] (fun bv kv i wr => ∃ (k : Nat) (K : List PkV), k ≤ L.length ∧ k ≤ 20 ∧ i = .int .i64 (k : Int) ∧ K.length ≤ k ∧ Hid (∀ p ∈ K, p ∈ L ∧ p.pk.dl.length ≤ 200 ∧ okB na mo p.pk = true) ∧ Hid (Row wr w.heap.size 5 bv (bcs (accL sm na mo li K))) ∧ Hid (RowN wr w.heap.size 27 4 kv (K.map PkV.cs)) ∧ Hid (Blk wr g2 24 #[.bool sm, .bool na, .int .u32 mo, .int .u32 li]) ∧ Hid (Blk wr g5 29 #[.bool sm, .bool na, .int .u32 mo, .int .u32 li]) ∧ Hid (Below w.heap.size w wr)) (fun _ _ i _ => 20 - (intOf i).toNat)
  case atStart => exact ⟨0, [], by omega, by omega, rfl, by simp, Lib.hid (by simp), HBV, Lib.hid (RowN.nil _ _ _ _), HF4, HX4, HB4⟩
  case round =>
    clear HBV HF4 HX4 HB4
    obtain ⟨k, K, hk, hk20, rfl, hKk, HKL, HBV, HKV, HG2, HG5, HB⟩ := hrel
    have HBS := Lib.hid HB.out.size
    obtain ⟨acc, hacc⟩ : ∃ acc, accL sm na mo li K = acc := ⟨_, rfl⟩
    have HACC := Lib.hid hacc
    have hal := accL_len sm na mo li K (fun p hp => (HKL.out p hp).2.1)
    rw [hacc] at HBV hal
    clear hacc
    obtain ⟨BA, bc, hbe, hbc1, hbc2⟩ := HBV.out.shape
    rw [bcs_length] at hbe hbc1
    have HBC := Lib.hid (And.intro hbc1 hbc2)
    clear hbc1 hbc2
    subst hbe
    obtain ⟨KA, kc, hke, hkc1, hkc2⟩ := HKV.out.shape
    rw [List.length_map] at hke hkc1
    subst hke
    by_cases hkK : k < L.length ∧ k < 20
    · obtain ⟨hkl, hk2⟩ := hkK
      have hkI : (k : Int) < (L.length : Int) := by omega
      have hk2I : (k : Int) < 20 := by omega
      obtain ⟨b, o, hb, rfl, hel⟩ := HE.out.at (k := k) (by simpa using hkl)
      obtain ⟨c0, c1, c2, c3⟩ := PkV.get (hel.keep (w' := wr) (fun o => HB.out.cell (p := ⟨b, o, none⟩) hb)) hkl
      have hok := HW.out L[k] (List.getElem_mem hkl)
      obtain ⟨⟨⟨se, pa, pl, dl⟩, DA, dc⟩, hxx⟩ : ∃ x, L[k] = x := ⟨_, rfl⟩
      have HXX := Lib.hid hxx
      rw [hxx] at c0 c1 c2 c3 hok
      simp only at c0 c1 c2 c3
      have HOK := Lib.hid hok
      have hdc := hok.2.1
      have hdm := hok.2.2.1
      unfold maxLen at hdm
      simp only at hdc hdm
      have blt : b < wr.heap.size := by have := HBS.out; omega
      have HEL := Lib.hid hel
      clear hel hxx hok
      by_cases h200 : dl.length ≤ 200
      · have h2I : ¬ (200 : Int) < (dl.length : Int) := by omega
        obtain ⟨r, hr⟩ : ∃ r, rightB na mo pa pl dl.length = r := ⟨_, rfl⟩
        have HRE := Lib.hid hr
        have HRT := Lib.hid (fun u => show Calls Try.prog 12 #[.agg #[.bool sm, .bool na, .int .u32 mo, .int .u32 li], .agg #[.int .u32 se, .int .u32 pa, .int .u32 pl, .slice DA dl.length dc]] u (fun e w' => e = .returned (.bool r) ∧ Below u.heap.size u w') from by
          rw [← hr]
          exact refRightM_any sm na mo li se pa pl DA dc dl u MO.out LI.out HOK.out.1.1 HOK.out.1.2.1 HOK.out.1.2.2 (by omega))
        clear hr
        go_upto_region 9 with fail
        refine wp_region_kept 6 [(5, fun v u => v = .bool r)] ?st ?ne rfl (by kernel_rfl) (by kernel_rfl) ?_
        case st =>
          intro p hp
          simp only [List.mem_cons, List.not_mem_nil, or_false] at hp
          subst hp
          · intro v u u' h hk; exact h
        case ne =>
          intro p hp
          simp only [List.mem_cons, List.not_mem_nil, or_false] at hp
          subst hp
          · exact ⟨_, _, Kept.refl _ _, rfl⟩
        simp only [List.take_succ_cons, List.take_zero, List.drop_succ_cons, List.drop_zero]
        intro G pick hR hp1 hp2
        have pf0 : ∀ u, (pick u).cell? ⟨g2, 0, none⟩ = some (.bool sm) := fun u => ((hp1 u).cell HG2.out.lt (fun h => h) _).trans (HG2.out.cell 0)
        have pf1 : ∀ u, (pick u).cell? ⟨g2, 1, none⟩ = some (.bool na) := fun u => ((hp1 u).cell HG2.out.lt (fun h => h) _).trans (HG2.out.cell 1)
        have pf2 : ∀ u, (pick u).cell? ⟨g2, 2, none⟩ = some (.int .u32 mo) := fun u => ((hp1 u).cell HG2.out.lt (fun h => h) _).trans (HG2.out.cell 2)
        have pf3 : ∀ u, (pick u).cell? ⟨g2, 3, none⟩ = some (.int .u32 li) := fun u => ((hp1 u).cell HG2.out.lt (fun h => h) _).trans (HG2.out.cell 3)
        have px0 : ∀ u, (pick u).cell? ⟨b, o + k * 4, none⟩ = some (.int .u32 se) := fun u => ((hp1 u).cell blt (fun h => h) _).trans c0
        have px1 : ∀ u, (pick u).cell? ⟨b, o + k * 4 + 1, none⟩ = some (.int .u32 pa) := fun u => ((hp1 u).cell blt (fun h => h) _).trans c1
        have px2 : ∀ u, (pick u).cell? ⟨b, o + k * 4 + 2, none⟩ = some (.int .u32 pl) := fun u => ((hp1 u).cell blt (fun h => h) _).trans c2
        have px3 : ∀ u, (pick u).cell? ⟨b, o + k * 4 + 3, none⟩ = some (.slice DA dl.length dc) := fun u => ((hp1 u).cell blt (fun h => h) _).trans c3
        repeat (first | (refine wpR_det hp2 rfl ((hR.rel _).trans rfl) rfl ?_; intro K hK; go_big_quiet_op; go_big_quiet_on) | (refine wpR_ptr hp2 rfl ((hR.rel _).trans rfl) rfl rfl ?_; intro K hK; go_big_quiet_op; go_big_quiet_on) | (refine wpR_skip pick rfl ?_; intro K hK; go_big_quiet_op; go_big_quiet_on))
        refine wpR_rel pick rfl ((hR.rel _).trans rfl) ((hR.turns _).trans rfl) ?_ ?_
        · intro u hu
          have hk := hR.since hu.1
          have hks := hk.size
          have hz := HRT.out u
          unfold relAt
          go_simp
          refine hz.mono ?_
          rintro e w' ⟨rfl, hb'⟩
          exact ⟨_, rfl, hR.intoB hb', hR.put 0 rfl rfl rfl⟩
        intro v hv
        obtain ⟨u, _, hu⟩ := hv
        obtain rfl := hR.get 0 rfl hu
        clear hu
        intro K hK
        go_big_quiet_op
        go_big_quiet_on
        repeat (first | (refine wpR_det hp2 rfl ((hR.rel _).trans rfl) rfl ?_; intro K hK; go_big_quiet_op; go_big_quiet_on) | (refine wpR_ptr hp2 rfl ((hR.rel _).trans rfl) rfl rfl ?_; intro K hK; go_big_quiet_op; go_big_quiet_on) | (refine wpR_skip pick rfl ?_; intro K hK; go_big_quiet_op; go_big_quiet_on))
        refine wpR_nil ?_
        intro w2 hk2 hF hM
        have HK2 := Lib.hid hk2
        clear hF hM hk2 hp1 hp2 hR pf0 pf1 pf2 pf3 px0 px1 px2 px3 c0 c1 c2 c3 blt HRT
        have HB2 := Lib.hid (show Below w.heap.size w w2 from HB.out.trans (HK2.out.below HBS.out (fun i h => h.elim)))
        have HBV2 := Lib.hid (HBV.out.kept HK2.out (fun _ _ h => h))
        have HKV2 := Lib.hid (HKV.out.kept HK2.out (fun _ _ h => h))
        have HG22 := Lib.hid (HG2.out.kept HK2.out (fun h => h))
        have HG52 := Lib.hid (HG5.out.kept HK2.out (fun h => h))
        clear HB HBV HKV HG2 HG5 HBS
        cases r with
        | false =>
          go_wp2_with fail
          go_roundw
          case rel => exact ⟨k + 1, K, by omega, by omega, by go_num, by omega, HKL, Lib.hid (by rw [HACC.out]; exact HBV2.out), HKV2, HG22, HG52, HB2⟩
          case measure => simp [intOf]; omega
        | true =>
          obtain ⟨c0, c1, c2, c3⟩ := PkV.get (HEL.out.keep (w' := w2) (fun o => HB2.out.cell (p := ⟨b, o, none⟩) hb)) hkl
          rw [HXX.out] at c0 c1 c2 c3
          simp only at c0 c1 c2 c3
          have blt : b < w2.heap.size := by have := HB2.out.size; omega
          go_wp2_with (at_builtin; refine wpList_append_rowN rfl (.tmp 40) (.tmp 45) 44 rfl w.heap.size 27 (.agg #[.int .u32 0, .int .u32 0, .int .u32 0, .slice none 0 0]) 4 40 Try.underlying44 hinf rfl (by omega) (.slice KA K.length kc) (K.map PkV.cs) rfl (some ⟨w2.heap.size, 0, none⟩) 1 1 [PkV.cs ⟨⟨se, pa, pl, dl⟩, DA, dc⟩] rfl rfl ?a1 (fun z hz => by rw [List.mem_singleton.1 hz]; rfl) ?a2 ?a3 ?a4 ?a5 ?a6 ?_)
          case a1 => exact HKV2.out.alloc _
          case a2 => exact Src.new _ _ _ (by simp [PkV.cs])
          case a3 => intro u hu; simp [PkV.cs] at hu; rcases hu with rfl | rfl | rfl | rfl <;> rfl
          case a4 => unfold maxLen; omega
          case a5 => omega
          case a6 => have := HB2.out.size; omega
          intro v3 w3 hrow hgr _
          have hk3 : Kept (fun i => (Value.slice KA K.length kc).ownBlock = some i) w2 w3 := Kept.trans ((Kept.refl _ _).alloc _) (kept_grown hgr (fun i e _ => e))
          have HKV3 := Lib.hid (show RowN w3 w.heap.size 27 4 v3 (List.map PkV.cs (K ++ [⟨⟨se, pa, pl, dl⟩, DA, dc⟩])) by rw [List.map_append]; exact hrow)
          have HBVc := Lib.hid (HBV2.out.kept hk3 (fun g hg hs => by
            obtain ⟨cs, hbb⟩ := HBV2.out.blk hg
            exact HKV2.out.ne hbb (by decide) hs))
          have HG23 := Lib.hid (HG22.out.kept hk3 (HKV2.out.ne HG22.out (by decide)))
          have HG5c := Lib.hid (HG52.out.kept hk3 (HKV2.out.ne HG52.out (by decide)))
          have HB3 := Lib.hid (show Below w.heap.size w w3 from HB2.out.trans (hk3.below HB2.out.size (fun i h => (HKV2.out.lt i h).1)))
          have HBSc := Lib.hid HB3.out.size
          obtain ⟨KA3, kc3, hke3, -, -⟩ := HKV3.out.shape
          subst hke3
          clear hrow hgr hk3 c0 c1 c2 c3 blt HBV2 HKV2 HG22 HG52
          obtain ⟨c0, c1, c2, c3⟩ := PkV.get (HEL.out.keep (w' := w3) (fun o => HB3.out.cell (p := ⟨b, o, none⟩) hb)) hkl
          rw [HXX.out] at c0 c1 c2 c3
          simp only at c0 c1 c2 c3
          have blt : b < w3.heap.size := by have := HB3.out.size; omega
          obtain ⟨wr_, hwr⟩ : ∃ l, wrL sm ⟨se, pa, pl, dl⟩ = l := ⟨_, rfl⟩
          have HWE := Lib.hid hwr
          have HWL := Lib.hid (show wr_.length = 16 + dl.length by rw [← hwr, wrL_len])
          have HWR := Lib.hid (fun u (hu : Kept (fun _ => False) w3 u) => show Calls Try.prog 13 #[.agg #[.bool sm, .bool na, .int .u32 mo, .int .u32 li], .agg #[.int .u32 se, .int .u32 pa, .int .u32 pl, .slice DA dl.length dc]] u (fun e w' => ∃ v, e = .returned v ∧ Byt w' v wr_ ∧ Below u.heap.size u w') from by
            rw [← hwr]
            exact write_any sm na mo li se pa pl DA dc dl u MO.out LI.out HOK.out.1.1 HOK.out.1.2.1 HOK.out.1.2.2 (by omega) HOK.out.2.1 HOK.out.2.2.1 ((HOK.out.2.2.2.onB HB3.out (Nat.le_refl _)).on hu (fun _ _ h => h)) HRE.out)
          have HN5 := Lib.hid (HBVc.out.ne HG5c.out (by decide))
          have HNB := Lib.hid (show ¬ (Value.slice BA acc.length bc).ownBlock = some b from fun h => by have := (HBVc.out.lt _ h).1; omega)
          clear hwr
          go_upto_region 11 with fail
          refine wp_region_add 9 (fun i => (Value.slice BA acc.length bc).ownBlock = some i) [7, 8] [7] [(6, fun v u => v = .agg #[.int .u32 se, .int .u32 pa, .int .u32 pl, .slice DA dl.length dc]), (7, fun v u => Byt u v wr_), (8, fun v u => Row u w.heap.size 5 v (bcs (acc ++ wr_)))] ?st ?ne rfl (by kernel_rfl) (by kernel_rfl) (by kernel_rfl) ?_
          case st =>
            intro p hp
            simp only [List.mem_cons, List.not_mem_nil, or_false] at hp
            rcases hp with rfl | rfl | rfl
            · intro v u u' h hk; exact h
            · intro v u u' h hk; exact h.on hk (fun _ _ h => h)
            · intro v u u' h hk; exact h.kept hk (fun _ _ h => h)
          case ne =>
            intro p hp
            simp only [List.mem_cons, List.not_mem_nil, or_false] at hp
            rcases hp with rfl | rfl | rfl
            · exact ⟨_, _, Kept.refl _ _, rfl⟩
            · exact Byt.some _ _ (by rw [HWL.out]; unfold maxLen; omega)
            · exact ⟨_, _, (Kept.refl _ _).alloc (.cells (bcs (acc ++ wr_)).toArray 5), Row.of_blk (Blk.new _ _ _) HBSc.out (by simp only [List.size_toArray, bcs_length, List.length_append, HWL.out]; unfold maxLen; omega) (by simp)⟩
          simp only [List.take_succ_cons, List.take_zero, List.drop_succ_cons, List.drop_zero]
          intro G pick hR hp1 hp2
          have pf0 : ∀ u, (pick u).cell? ⟨g5, 0, none⟩ = some (.bool sm) := fun u => ((hp1 u).cell HG5c.out.lt HN5.out _).trans (HG5c.out.cell 0)
          have pf1 : ∀ u, (pick u).cell? ⟨g5, 1, none⟩ = some (.bool na) := fun u => ((hp1 u).cell HG5c.out.lt HN5.out _).trans (HG5c.out.cell 1)
          have pf2 : ∀ u, (pick u).cell? ⟨g5, 2, none⟩ = some (.int .u32 mo) := fun u => ((hp1 u).cell HG5c.out.lt HN5.out _).trans (HG5c.out.cell 2)
          have pf3 : ∀ u, (pick u).cell? ⟨g5, 3, none⟩ = some (.int .u32 li) := fun u => ((hp1 u).cell HG5c.out.lt HN5.out _).trans (HG5c.out.cell 3)
          have px0 : ∀ u, (pick u).cell? ⟨b, o + k * 4, none⟩ = some (.int .u32 se) := fun u => ((hp1 u).cell blt HNB.out _).trans c0
          have px1 : ∀ u, (pick u).cell? ⟨b, o + k * 4 + 1, none⟩ = some (.int .u32 pa) := fun u => ((hp1 u).cell blt HNB.out _).trans c1
          have px2 : ∀ u, (pick u).cell? ⟨b, o + k * 4 + 2, none⟩ = some (.int .u32 pl) := fun u => ((hp1 u).cell blt HNB.out _).trans c2
          have px3 : ∀ u, (pick u).cell? ⟨b, o + k * 4 + 3, none⟩ = some (.slice DA dl.length dc) := fun u => ((hp1 u).cell blt HNB.out _).trans c3
          repeat (first | (refine wpR_det hp2 rfl ((hR.rel _).trans rfl) rfl ?_; intro K hK; go_big_quiet_op; go_big_quiet_on) | (refine wpR_ptr hp2 rfl ((hR.rel _).trans rfl) rfl rfl ?_; intro K hK; go_big_quiet_op; go_big_quiet_on) | (refine wpR_skip pick rfl ?_; intro K hK; go_big_quiet_op; go_big_quiet_on))
          refine wpR_rel pick rfl ((hR.rel _).trans rfl) ((hR.turns _).trans rfl) ?_ ?_
          · intro u hu
            have hk := hR.since hu.1
            have hks := hk.size
            have hz := packet_any se pa pl DA dc dl u
            unfold relAt
            go_simp
            refine hz.mono ?_
            rintro e w' ⟨rfl, hb'⟩
            exact ⟨_, rfl, hR.intoB hb', hR.put 0 rfl rfl rfl⟩
          intro v hv
          obtain ⟨u, _, hu⟩ := hv
          obtain rfl := hR.get 0 rfl hu
          clear hu
          intro K hK
          go_big_quiet_op
          go_big_quiet_on
          repeat (first | (refine wpR_det hp2 rfl ((hR.rel _).trans rfl) rfl ?_; intro K hK; go_big_quiet_op; go_big_quiet_on) | (refine wpR_ptr hp2 rfl ((hR.rel _).trans rfl) rfl rfl ?_; intro K hK; go_big_quiet_op; go_big_quiet_on) | (refine wpR_skip pick rfl ?_; intro K hK; go_big_quiet_op; go_big_quiet_on))
          refine wpR_add pick rfl ((hR.rel _).trans rfl) ((hR.turns _).trans rfl) ((hR.adds _).trans rfl) ?_ ?_
          · intro u hu hM
            have hk := hR.since hu.1
            have hks := hk.size
            have hz := HWR.out u (hR.first hM)
            unfold relAt
            go_simp
            refine hz.mono ?_
            rintro e w' ⟨v, rfl, hT, hb'⟩
            exact ⟨_, rfl, hR.intoB hb', hR.put 1 rfl rfl hT⟩
          intro v hv
          obtain ⟨u, _, hu⟩ := hv
          obtain ⟨WA, wc, rfl, -, -, -⟩ := hR.get 1 rfl hu
          clear hu
          intro K hK
          go_big_quiet_op
          go_big_quiet_on
          repeat (first | (refine wpR_det hp2 rfl ((hR.rel _).trans rfl) rfl ?_; intro K hK; go_big_quiet_op; go_big_quiet_on) | (refine wpR_ptr hp2 rfl ((hR.rel _).trans rfl) rfl rfl ?_; intro K hK; go_big_quiet_op; go_big_quiet_on) | (refine wpR_skip pick rfl ?_; intro K hK; go_big_quiet_op; go_big_quiet_on))
          refine wpR_turn pick rfl ((hR.rel _).trans rfl) ((hR.turns _).trans rfl) ((hR.adds _).trans rfl) ?_ ?_
          · intro u hu hM
            have hk := hR.since hu.1
            have hks := hk.size
            have hb7 := hR.get 1 rfl hM.2
            obtain ⟨WA', wc', e7, -, -, hbs7⟩ := hb7
            injection e7 with ea el ec
            subst ea ec
            have hr : Row u w.heap.size 5 (.slice BA acc.length bc) (bcs acc) := HBVc.out.kept (hR.first hM.1) (fun _ _ h => h)
            refine relAt_append_row (.tmp 47) (.tmp 54) 25 rfl w.heap.size 5 (.int .u8 0) 1 Try.underlying25 h5 rfl _ (bcs acc) rfl _ _ _ (bcs wr_) rfl ?_ hr hbs7.src (bcs_one _) ?_ ?_ ?_ ?_
            · rw [bcs_length]
            · rw [bcs_length, bcs_length, HWL.out]; unfold maxLen; omega
            · rw [bcs_length, bcs_length, HWL.out]; omega
            · exact Nat.le_trans HBSc.out hks
            · intro v' w' hr' hg' _
              rw [← bcs_append] at hr'
              exact ⟨hR.into (kept_grown hg' (fun i e _ => e)), hR.put 2 rfl rfl hr'⟩
          intro v hv
          obtain ⟨u, _, hu⟩ := hv
          obtain hT8 := hR.get 2 rfl hu
          clear hu
          obtain ⟨NA, nc, hne, -, -⟩ := hT8.shape
          rw [bcs_length] at hne
          subst hne
          clear hT8
          intro K hK
          go_big_quiet_op
          go_big_quiet_on
          repeat (first | (refine wpR_det hp2 rfl ((hR.rel _).trans rfl) rfl ?_; intro K hK; go_big_quiet_op; go_big_quiet_on) | (refine wpR_ptr hp2 rfl ((hR.rel _).trans rfl) rfl rfl ?_; intro K hK; go_big_quiet_op; go_big_quiet_on) | (refine wpR_skip pick rfl ?_; intro K hK; go_big_quiet_op; go_big_quiet_on))
          refine wpR_nil ?_
          intro w6 hk2 hF hM
          have HBV6 := Lib.hid (show Row w6 w.heap.size 5 _ (bcs (acc ++ wr_)) from hR.get 2 rfl hM)
          have HK6 := Lib.hid hk2
          clear hF hM hk2 hp1 hp2 hR pf0 pf1 pf2 pf3 px0 px1 px2 px3 c0 c1 c2 c3 blt
          go_wp2_with fail
          go_roundw
          case rel => exact ⟨k + 1, K ++ [⟨⟨se, pa, pl, dl⟩, DA, dc⟩], by omega, by omega, by go_num, by simp; omega, Lib.hid (fun p hp => by
            rcases List.mem_append.1 hp with hp | hp
            · exact HKL.out p hp
            · rw [List.mem_singleton.1 hp]
              exact ⟨by rw [← HXX.out]; exact List.getElem_mem hkl, h200, HRE.out⟩), Lib.hid (by rw [accL_snoc, HACC.out, HWE.out]; exact HBV6.out), Lib.hid (HKV3.out.kept HK6.out (fun g hg hs => by
            obtain ⟨cs, hbb⟩ := HBVc.out.blk hs
            exact HKV3.out.ne hbb (by decide) hg)), Lib.hid (HG23.out.kept HK6.out (HBVc.out.ne HG23.out (by decide))), Lib.hid (HG5c.out.kept HK6.out (HBVc.out.ne HG5c.out (by decide))), Lib.hid (HB3.out.trans (HK6.out.below HB3.out.size (fun i h => (HBVc.out.lt i h).1)))⟩
          case measure => simp [intOf]; omega
      · have h2I : (200 : Int) < (dl.length : Int) := by omega
        go_wp2_with fail
        refine (awake_any _).mono ?_
        rintro e wz ⟨rfl, hbz⟩
        have HBZ := Lib.hid (HB.out.trans (hbz.mono HB.out.size))
        clear hbz
        go_wp2_with fail
        go_ret
        exact ⟨rfl, HBZ.out⟩
    · by_cases hkl : k < L.length
      · have hkI : (k : Int) < (L.length : Int) := by omega
        have h20 : ¬ (k : Int) < 20 := by omega
        have HP := Lib.hid (headL_parts sm na mo li ((K.map (·.pk)).map (wrL sm)).flatten MO.out LI.out)
        have HALL := Lib.hid (alls_back sm na mo (K.map (·.pk)) (fun x hx => by
          obtain ⟨p, hp, rfl⟩ := List.mem_map.1 hx
          exact ⟨(HW.out p (HKL.out p hp).1).1, by have := (HKL.out p hp).2.1; omega, (HKL.out p hp).2.2⟩))
        have HOKF := Lib.hid (show okF sm na acc by
          unfold okF
          rw [← HACC.out]
          unfold accL
          rw [HP.out.1, HP.out.2.1, HP.out.2.2.1])
        have HD24 := Lib.hid (show acc.drop 24 = ((K.map (·.pk)).map (wrL sm)).flatten by rw [← HACC.out]; exact HP.out.2.2.2.1)
        have HM16 := Lib.hid (show ofL sm ((acc.drop 16).take 4) = mo by rw [← HACC.out]; exact HP.out.1)
        have HL20 := Lib.hid (show ofL sm ((acc.drop 20).take 4) = li by rw [← HACC.out]; exact HP.out.2.1)
        have HRD := Lib.hid (readC_any BA bc acc wr (by omega) HBC.out.1 HBC.out.2 (by obtain ⟨A', c', e, -, -, h⟩ := HBV.out.byt; cases e; exact h))
        go_wp2_with fail
        refine HRD.out.mono ?_
        rintro e w2 ⟨hrp, hb2⟩
        rcases hrp with ⟨er, rfl, h⟩ | ⟨sm', na', hok', hn, v, rfl, hv⟩
        · exfalso
          have h24 : 24 ≤ acc.length := by
            have := congrArg List.length HOKF.out
            rw [show (headL sm na (ofL sm ((acc.drop 16).take 4)) (ofL sm ((acc.drop 20).take 4))).length = 24 from headLs_len _ _ _ _, List.length_take] at this
            omega
          rcases h with ⟨h, -⟩ | ⟨-, h, -⟩ | ⟨sm', na', h, h', -⟩
          · omega
          · exact h sm na HOKF.out
          · obtain ⟨rfl, rfl⟩ := okF_one _ _ _ _ _ HOKF.out h
            rw [HM16.out, HD24.out, HALL.out] at h'
            apply h'
            have := congrArg List.length HD24.out
            rw [List.length_drop] at this
            exact this.symm
        · obtain ⟨rfl, rfl⟩ := okF_one _ _ _ _ _ HOKF.out hok'
          rw [HM16.out, HD24.out, HALL.out] at hv
          rw [HM16.out, HL20.out]
          obtain ⟨M, hM, hMr, hMd⟩ := hv
          obtain ⟨VA, vc, hve, -, -⟩ := hMr.shape
          rw [List.length_map] at hve
          subst hve
          have HB2 := Lib.hid (HB.out.trans (hb2.mono HBS.out))
          have HG52 := Lib.hid (HG5.out.below hb2 HG5.out.lt)
          have HKV2 := Lib.hid (HKV.out.belowAll hb2)
          have HMR := Lib.hid hMr
          have HMD := Lib.hid hMd
          have HM := Lib.hid hM
          have hml : M.length = K.length := by have := congrArg List.length hM; simpa using this
          clear hok' hn hMr hMd hM hb2 HRD
          go_upto_region 13 with fail
          obtain ⟨w3, hw3⟩ : ∃ w3 : World, w3 = w2.alloc (.cells #[.bool sm, .bool na, .int .u32 mo, .int .u32 li] 29) := ⟨_, rfl⟩
          have HX3 := Lib.hid (show Blk w3 w2.heap.size 29 #[.bool sm, .bool na, .int .u32 mo, .int .u32 li] by rw [hw3]; exact Blk.new _ _ _)
          have HK3 := Lib.hid (show Kept (fun _ => False) w2 w3 by rw [hw3]; exact (Kept.refl _ _).alloc _)
          rw [← hw3]
          clear hw3
          have HB3 := Lib.hid (show Below w.heap.size w w3 from HB2.out.trans (HK3.out.below HB2.out.size (fun i h => h.elim)))
          have HG53 := Lib.hid (HG52.out.kept HK3.out (fun h => h))
          have c5 := HG53.out.cell
          have cx := HX3.out.cell
          have HKV3 := Lib.hid (HKV2.out.kept HK3.out (fun _ _ h => h))
          have HMR3 := Lib.hid (HMR.out.kept HK3.out (fun _ _ h => h))
          have hsm := (samePk_any VA KA vc kc M K w3 (by omega) (by omega) (by obtain ⟨A', c', e, -, -, h⟩ := HMR3.out.es; injection e with e1 e2 e3; subst e1; exact h) (by obtain ⟨A', c', e, -, -, h⟩ := HKV3.out.es; injection e with e1 e2 e3; subst e1; exact h) (fun p hp => by
              obtain ⟨A', c', e, -, -, h⟩ := ((HMD.out p hp).kept HK3.out (fun _ _ h => h)).byt
              cases e; exact h) (fun p hp => (HW.out p (HKL.out p hp).1).2.2.2.onB HB3.out (Nat.le_refl _)))
          rw [hml, HM.out, decide_eq_true rfl] at hsm
          have HSM := Lib.hid hsm
          clear hsm
          go_wp2_with fail
          refine HSM.out.mono ?_
          rintro e w4 ⟨rfl, hk4⟩
          have HB4 := Lib.hid (HB3.out.trans (hk4.below HB3.out.size (fun i h => h.elim)))
          clear hk4 c5 cx
          go_wp2_with fail
          refine (awake_any _).mono ?_
          rintro e wz ⟨rfl, hbz⟩
          have HBZ := Lib.hid (HB4.out.trans (hbz.mono HB4.out.size))
          clear hbz
          go_wp2_with fail
          go_ret
          exact ⟨rfl, HBZ.out⟩
      · have hkI : ¬ (k : Int) < (L.length : Int) := by omega
        have HP := Lib.hid (headL_parts sm na mo li ((K.map (·.pk)).map (wrL sm)).flatten MO.out LI.out)
        have HALL := Lib.hid (alls_back sm na mo (K.map (·.pk)) (fun x hx => by
          obtain ⟨p, hp, rfl⟩ := List.mem_map.1 hx
          exact ⟨(HW.out p (HKL.out p hp).1).1, by have := (HKL.out p hp).2.1; omega, (HKL.out p hp).2.2⟩))
        have HOKF := Lib.hid (show okF sm na acc by
          unfold okF
          rw [← HACC.out]
          unfold accL
          rw [HP.out.1, HP.out.2.1, HP.out.2.2.1])
        have HD24 := Lib.hid (show acc.drop 24 = ((K.map (·.pk)).map (wrL sm)).flatten by rw [← HACC.out]; exact HP.out.2.2.2.1)
        have HM16 := Lib.hid (show ofL sm ((acc.drop 16).take 4) = mo by rw [← HACC.out]; exact HP.out.1)
        have HL20 := Lib.hid (show ofL sm ((acc.drop 20).take 4) = li by rw [← HACC.out]; exact HP.out.2.1)
        have HRD := Lib.hid (readC_any BA bc acc wr (by omega) HBC.out.1 HBC.out.2 (by obtain ⟨A', c', e, -, -, h⟩ := HBV.out.byt; cases e; exact h))
        go_wp2_with fail
        refine HRD.out.mono ?_
        rintro e w2 ⟨hrp, hb2⟩
        rcases hrp with ⟨er, rfl, h⟩ | ⟨sm', na', hok', hn, v, rfl, hv⟩
        · exfalso
          have h24 : 24 ≤ acc.length := by
            have := congrArg List.length HOKF.out
            rw [show (headL sm na (ofL sm ((acc.drop 16).take 4)) (ofL sm ((acc.drop 20).take 4))).length = 24 from headLs_len _ _ _ _, List.length_take] at this
            omega
          rcases h with ⟨h, -⟩ | ⟨-, h, -⟩ | ⟨sm', na', h, h', -⟩
          · omega
          · exact h sm na HOKF.out
          · obtain ⟨rfl, rfl⟩ := okF_one _ _ _ _ _ HOKF.out h
            rw [HM16.out, HD24.out, HALL.out] at h'
            apply h'
            have := congrArg List.length HD24.out
            rw [List.length_drop] at this
            exact this.symm
        · obtain ⟨rfl, rfl⟩ := okF_one _ _ _ _ _ HOKF.out hok'
          rw [HM16.out, HD24.out, HALL.out] at hv
          rw [HM16.out, HL20.out]
          obtain ⟨M, hM, hMr, hMd⟩ := hv
          obtain ⟨VA, vc, hve, -, -⟩ := hMr.shape
          rw [List.length_map] at hve
          subst hve
          have HB2 := Lib.hid (HB.out.trans (hb2.mono HBS.out))
          have HG52 := Lib.hid (HG5.out.below hb2 HG5.out.lt)
          have HKV2 := Lib.hid (HKV.out.belowAll hb2)
          have HMR := Lib.hid hMr
          have HMD := Lib.hid hMd
          have HM := Lib.hid hM
          have hml : M.length = K.length := by have := congrArg List.length hM; simpa using this
          clear hok' hn hMr hMd hM hb2 HRD
          go_upto_region 13 with fail
          obtain ⟨w3, hw3⟩ : ∃ w3 : World, w3 = w2.alloc (.cells #[.bool sm, .bool na, .int .u32 mo, .int .u32 li] 29) := ⟨_, rfl⟩
          have HX3 := Lib.hid (show Blk w3 w2.heap.size 29 #[.bool sm, .bool na, .int .u32 mo, .int .u32 li] by rw [hw3]; exact Blk.new _ _ _)
          have HK3 := Lib.hid (show Kept (fun _ => False) w2 w3 by rw [hw3]; exact (Kept.refl _ _).alloc _)
          rw [← hw3]
          clear hw3
          have HB3 := Lib.hid (show Below w.heap.size w w3 from HB2.out.trans (HK3.out.below HB2.out.size (fun i h => h.elim)))
          have HG53 := Lib.hid (HG52.out.kept HK3.out (fun h => h))
          have c5 := HG53.out.cell
          have cx := HX3.out.cell
          have HKV3 := Lib.hid (HKV2.out.kept HK3.out (fun _ _ h => h))
          have HMR3 := Lib.hid (HMR.out.kept HK3.out (fun _ _ h => h))
          have hsm := (samePk_any VA KA vc kc M K w3 (by omega) (by omega) (by obtain ⟨A', c', e, -, -, h⟩ := HMR3.out.es; injection e with e1 e2 e3; subst e1; exact h) (by obtain ⟨A', c', e, -, -, h⟩ := HKV3.out.es; injection e with e1 e2 e3; subst e1; exact h) (fun p hp => by
              obtain ⟨A', c', e, -, -, h⟩ := ((HMD.out p hp).kept HK3.out (fun _ _ h => h)).byt
              cases e; exact h) (fun p hp => (HW.out p (HKL.out p hp).1).2.2.2.onB HB3.out (Nat.le_refl _)))
          rw [hml, HM.out, decide_eq_true rfl] at hsm
          have HSM := Lib.hid hsm
          clear hsm
          go_wp2_with fail
          refine HSM.out.mono ?_
          rintro e w4 ⟨rfl, hk4⟩
          have HB4 := Lib.hid (HB3.out.trans (hk4.below HB3.out.size (fun i h => h.elim)))
          clear hk4 c5 cx
          go_wp2_with fail
          refine (awake_any _).mono ?_
          rintro e wz ⟨rfl, hbz⟩
          have HBZ := Lib.hid (HB4.out.trans (hbz.mono HB4.out.size))
          clear hbz
          go_wp2_with fail
          go_ret
          exact ⟨rfl, HBZ.out⟩
end Go.Proofs.Ytohimionlgaaoaa
