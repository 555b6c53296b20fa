/- The law LeastSorts, walked. -/
import Derived.Test.YtikakdcjbnbacaaP
import Derived.Test.YtikakdcjbnbacaaN
namespace Go.Proofs.Ytikakdcjbnbacaa
open Go.RowKit
set_option linter.unusedVariables false
theorem RS.row {w w' : World} {v x : Value} {R : List It} {base : Nat} {L : List (List Value)} (h : RS w v R) (hr : RowN w base 42 2 x L) (hk : Kept (fun i => x.ownBlock = some i) w w') : RS w' v R := by
  obtain ⟨A, c, hv, h1, h2, h3⟩ := h
  refine ⟨A, c, hv, h1, h2, ?_⟩
  rcases h3 with h3 | ⟨b, off, cs, e, hb, hel⟩
  · exact .inl h3
  · have hn : ¬ x.ownBlock = some b := hr.ne hb (by decide)
    exact .inr ⟨b, off, cs, e, hb.kept hk hn, hel.keep fun o => hk.cell hb.lt hn o⟩
/-- A queue, a row and the reference's list, which hold the same. -/
structure SoS (qb B : Nat) (q xv r : Value) (H L : List It) (w : World) : Prop where
  qu : QuS qb B q H w
  tw : Twin H (srtL L)
  row : RowN w B 42 2 xv (L.map It.cs)
  rs : RS w r (srtL L)
  dj : ∀ g, xv.ownBlock = some g → ¬ QOwn qb q g
theorem SoS.onB {qb B : Nat} {q xv r : Value} {H L : List It} {w w' : World} (h : SoS qb B q xv r H L w) (hk : Below w.heap.size w w') : SoS qb B q xv r H L w' := ⟨h.qu.onB hk, h.tw, h.row.belowAll hk, h.rs.onB hk, h.dj⟩
theorem SoS.pushed {qb B : Nat} {q q' xv r : Value} {H L : List It} {w w' : World} (h : SoS qb B q xv r H L w) (hk : Kept (QOwn qb q) w w') (hf : ∀ g, q'.ownBlock = some g → q.ownBlock = some g ∨ w.heap.size ≤ g) :
    RowN w' B 42 2 xv (L.map It.cs) ∧ RS w' r (srtL L) ∧ ∀ g, xv.ownBlock = some g → ¬ QOwn qb q' g := by
  refine ⟨h.row.kept hk (fun g hg => h.dj g hg), h.rs.queue h.qu hk, fun g hg hq => ?_⟩
  rcases hq with rfl | hq
  · exact h.dj g hg (.inl rfl)
  · rcases hf g hq with h' | h'
    · exact h.dj g hg (.inr h')
    · have := (h.row.lt g hg).2; omega
/-- What a round of the second loop stands on. -/
structure SpS (qb B C : Nat) (q sv r : Value) (H S : List It) (k : Nat) (w : World) : Prop where
  qu : QuS qb B q H w
  tw : Twin H (S.drop k)
  row : RowN w C 42 2 sv (S.map It.cs)
  rs : RS w r S
  dj : ∀ g, sv.ownBlock = some g → ¬ QOwn qb q g
theorem SpS.onB {qb B C k : Nat} {q xv r : Value} {H L : List It} {w w' : World} (h : SpS qb B C q xv r H L k w) (hk : Below w.heap.size w w') : SpS qb B C q xv r H L k w' := ⟨h.qu.onB hk, h.tw, h.row.belowAll hk, h.rs.onB hk, h.dj⟩
theorem SpS.popped {qb B C k : Nat} {q q' sv r : Value} {H H' L : List It} {w w' : World} (h : SpS qb B C q sv r H L k w) (hq : QuS qb B q' H' w') (ht : Twin H' (L.drop k).tail) (hk : Kept (QOwn qb q) w w') (hf : ∀ g, q'.ownBlock = some g → q.ownBlock = some g ∨ w.heap.size ≤ g) :
    SpS qb B C q' sv r H' L (k + 1) w' := by
  refine ⟨hq, by rw [List.tail_drop] at ht; exact ht, h.row.kept hk (fun g hg => h.dj g hg), h.rs.queue h.qu hk, fun g hg hq => ?_⟩
  rcases hq with rfl | hq
  · exact h.dj g hg (.inl rfl)
  · rcases hf g hq with h' | h'
    · exact h.dj g hg (.inr h')
    · have := (h.row.lt g hg).2; omega
theorem qpop_at {qb B C k : Nat} {q sv r : Value} {H S : List It} {x : It} {w : World} (h : SpS qb B C q sv r H S k w) (hk : k < S.length) (hx : S[k] = x) (hl : S.length ≤ 1000) (hb : B ≤ w.heap.size) :
    Calls Try.prog 14 #[.pointer (some ⟨qb, 0, none⟩)] w fun e w' => e = .returned (.tuple #[.agg #[.int .u64 x.w, .int .i64 x.id], .bool true]) ∧ ∃ q' H', SpS qb B C q' sv r H' S (k + 1) w' ∧ Kept (QOwn qb q) w w' := by
  have hd : S.drop k = x :: S.drop (k + 1) := by rw [← hx]; exact List.drop_eq_getElem_cons hk
  have hn := h.tw.len
  rw [List.length_drop] at hn
  refine (qpop_two qb B q H (S.drop k) w h.qu h.tw (by omega) hb).mono fun e w' ⟨he, q', H', h1, h2, h3, h4⟩ => ⟨?_, q', H', h.popped h1 h2 h3 h4, h3⟩
  rw [he, hd]; rfl
set_option maxHeartbeats 16000000 in
set_option maxRecDepth 100000 in
theorem sorts_any (A : Option Addr) (c : Nat) (l : List It) (w : World) (hl : l.length ≤ maxLen) (hE : ES w w.heap.size A 2 (l.map It.cs)) :
    Calls Try.prog 4 #[.slice A l.length c] w fun e w' => e = .returned (.bool true) ∧ Below w.heap.size w w' := by
  have HE := Lib.hid hE
  have hinf := Try.infoIt
  unfold maxLen at hl
  clear hE
  go_enter Try.func4, Try.ntmps4
  go_wp2_with fail
  refine (awake_any w).mono ?_
  rintro e w1 ⟨rfl, hb1⟩
  have HB1 := Lib.hid hb1
  have hs1 := hb1.size
  clear hb1
  by_cases h60 : 60 < l.length
  · have h6I : (60 : Int) < (l.length : Int) := by omega
    go_wp2_with fail
    refine (awake_any _).mono ?_
    rintro e wz ⟨rfl, hbz⟩
    have HBZ := Lib.hid hbz
    clear hbz
    go_wp2_with fail
    go_ret
    exact ⟨rfl, belK HB1.out HBZ.out⟩
  have h6I : ¬ (60 : Int) < (l.length : Int) := by omega
  go_wp2_with fail
  obtain ⟨w2, hw2⟩ : ∃ w2 : World, w2 = w1.alloc (.cells #[.slice none 0 0] 38) := ⟨_, rfl⟩
  have HS2 := Lib.hid (show SoS w1.heap.size w.heap.size (.slice none 0 0) (.slice none 0 0) (.slice none 0 0) [] [] w2 by
    rw [hw2]; exact ⟨⟨Blk.new _ _ _, RowN.nil _ _ _ _, hs1⟩, Twin.nil, RowN.nil _ _ _ _, RS.nil _, (fun g e => by cases e)⟩)
  have HB2 := Lib.hid (show Below w.heap.size w w2 by rw [hw2]; exact HB1.out.alloc hs1 _)
  rw [← hw2]
  clear hw2
  obtain ⟨qb, hqb⟩ : ∃ qb, w1.heap.size = qb := ⟨_, rfl⟩
  rw [hqb] at HS2 hs1 ⊢
  clear hqb HB1
  go_loopw [4, 5, 6] (fun r xv i wr => ∃ (k : Nat) (q : Value) (H : List It), k ≤ l.length ∧ i = .int .i64 (k : Int) ∧ Hid (H.length = k) ∧ Hid (SoS qb w.heap.size q xv r H (l.take k) wr) ∧ Hid (Below w.heap.size w wr)) (fun _ _ i _ => l.length - (intOf i).toNat)
  case atStart => exact ⟨0, _, [], by omega, rfl, Lib.hid rfl, HS2, HB2⟩
  case round =>
    clear HS2 HB2
    obtain ⟨k, q, H, hk, rfl, HLN, HS, HB⟩ := hrel
    have hsr := HB.out.size
    obtain ⟨XA, xc, hve, -, -⟩ := HS.out.row.shape
    rw [List.length_map] at hve
    by_cases hkl : k < l.length
    · clear hve
      have kI : (k : Int) < (l.length : Int) := by omega
      obtain ⟨b, o, hb, rfl, hel⟩ := HE.out.at (k := k) (by simpa using hkl)
      have helP := Lib.hid hel
      have hB0 : b < w.heap.size := hb
      obtain ⟨c0, c1⟩ := it_cells (hel.keep (w' := wr) (fun o => HB.out.cell (p := ⟨b, o, none⟩) hb)) hkl
      have HTK := Lib.hid (List.take_succ_eq_append_getElem hkl)
      obtain ⟨x, hx⟩ : ∃ x, l[k] = x := ⟨_, rfl⟩
      rw [hx] at c0 c1 HTK
      have HXL := Lib.hid hx
      have blt : b < wr.heap.size := by omega
      clear hel hx
      go_wp2_with fail
      refine (to_any x.w x.id _).mono ?_
      rintro e w2 ⟨rfl, hb2⟩
      have HS2 := Lib.hid (HS.out.onB hb2)
      have HB2 := Lib.hid (belK HB.out hb2)
      have hs2 := HB2.out.size
      have HPU := Lib.hid (qpush_any qb w.heap.size q H x w2 HS2.out.qu (by have := HLN.out; omega) hs2)
      clear hb2 c0 c1
      go_wp2_with fail
      refine HPU.out.mono ?_
      rintro e w3 ⟨rfl, q3, hq3, hk3, hf3⟩
      have HQ3 := Lib.hid hq3
      have HX3 := Lib.hid (HS2.out.pushed hk3 hf3)
      have HB3 := Lib.hid (HB2.out.trans (hk3.below hs2 (fun i hi => (HS2.out.qu.lt hi).1)))
      have hs3 := HB3.out.size
      clear hq3 hk3 hf3 HPU
      obtain ⟨c0, c1⟩ := it_cells (helP.out.keep (w' := w3) (fun o => HB3.out.cell (p := ⟨b, o, none⟩) hb)) hkl
      rw [HXL.out] at c0 c1
      have blt : b < w3.heap.size := by omega
      go_wp2_with fail
      refine (to_any x.w x.id _).mono ?_
      rintro e w4 ⟨rfl, hb4⟩
      have HQ4 := Lib.hid (HQ3.out.onB hb4)
      have HR4 := Lib.hid (HX3.out.1.belowAll hb4)
      have HS4 := Lib.hid (HX3.out.2.1.onB hb4)
      have HB4 := Lib.hid (belK HB3.out hb4)
      have hs4 := HB4.out.size
      clear hb4 c0 c1
      go_wp2_with (at_builtin; refine wpList_append_rowN rfl (.tmp 32) (.tmp 38) 35 rfl w.heap.size 42 (.agg #[.int .u64 0, .int .i64 0]) 2 16 Try.underlying35 hinf rfl (by omega) _ ((l.take k).map It.cs) rfl (some ⟨w4.heap.size, 0, none⟩) 1 1 [It.cs x] rfl rfl (HR4.out.alloc _) (fun x hx => by rw [List.mem_singleton.1 hx]; rfl) (Src.new _ _ _ rfl) (by intro u hu; simp [It.cs] at hu; rcases hu with rfl | rfl <;> rfl) ?a3 ?a4 ?a5 ?_)
      case a3 => simp; unfold maxLen; omega
      case a4 => simp; omega
      case a5 => simp; omega
      intro v5 w5 hr5 hg5 ho5
      replace hr5 : RowN w5 w.heap.size 42 2 v5 ((l.take (k + 1)).map It.cs) := by rw [HTK.out, List.map_append, List.map_take]; exact hr5
      have HR5 := Lib.hid hr5
      have HK5 := Lib.hid (show Kept (fun i => u5.ownBlock = some i) w4 w5 from ((Kept.refl _ w4).alloc _).trans (Kept.of_grown (S := fun i => u5.ownBlock = some i) hg5 (fun i _ e => e.symm)))
      have HO5 := Lib.hid (show v5.ownBlock = u5.ownBlock ∨ ∃ g, v5.ownBlock = some g ∧ w4.heap.size ≤ g from by rcases ho5 with h | h; exact .inl h; exact .inr ⟨_, h, by simp⟩)
      have HQ5 := Lib.hid (HQ4.out.on HK5.out (fun i hi e => HX3.out.2.2 i e hi))
      have HS5 := Lib.hid (HS4.out.row HR4.out HK5.out)
      have HB5 := Lib.hid (HB4.out.trans (HK5.out.below hs4 (fun i hi => (HR4.out.lt i hi).1)))
      have HD5 := Lib.hid (show ∀ g, v5.ownBlock = some g → ¬ QOwn qb q3 g from fun g hg hq => by
        rcases HO5.out with ho | ⟨g', ho, hlt⟩
        · exact HX3.out.2.2 g (ho.symm.trans hg) hq
        · obtain rfl : g' = g := by rw [ho] at hg; exact Option.some.inj hg
          have := (HQ4.out.lt hq).2; omega)
      have hs5 := HB5.out.size
      clear hr5 hg5 ho5
      obtain ⟨c0, c1⟩ := it_cells (helP.out.keep (w' := w5) (fun o => HB5.out.cell (p := ⟨b, o, none⟩) hb)) hkl
      rw [HXL.out] at c0 c1
      have blt : b < w5.heap.size := by omega
      have HC := Lib.hid (push_rs u4 (srtL (l.take k)) x.w x.id w5 HS5.out (by rw [srtL_len]; simp; omega))
      go_wp2_with fail
      refine HC.out.mono ?_
      rintro e w6 ⟨r6, rfl, hr6, hb6⟩
      have HS6 := Lib.hid (show SoS qb w.heap.size q3 v5 r6 (upL (H ++ [x]) H.length) (l.take (k + 1)) w6 from ⟨HQ5.out.onB hb6, by rw [HTK.out]; exact twin_srt _ _ x HS.out.tw, HR5.out.belowAll hb6, by rw [HTK.out, srtL_snoc]; exact hr6, HD5.out⟩)
      have HB6 := Lib.hid (belK HB5.out hb6)
      have HL6 := Lib.hid (show (upL (H ++ [x]) H.length).length = k + 1 by rw [(up_perm _ _).length_eq]; simp; exact HLN.out)
      clear hr6 hb6 HC c0 c1
      go_wp2_with fail
      go_roundw
      case rel => exact ⟨k + 1, q3, _, by omega, by go_num, HL6, HS6, HB6⟩
      case measure => simp [intOf]; omega
    · obtain rfl : k = l.length := by omega
      have hkI : ¬ (l.length : Int) < (l.length : Int) := by omega
      rw [List.take_length] at HS hve
      subst hve
      have HSR := Lib.hid (sorted_any XA xc l wr (by omega) (by
        obtain ⟨A', c', hv, -, -, he⟩ := HS.out.row.es; rw [List.length_map] at hv; injection hv with e1 e2 e3; rw [e1]; exact he))
      obtain ⟨S, hS⟩ : ∃ S, srtL l = S := ⟨_, rfl⟩
      have HSL := Lib.hid (show S.length = l.length by rw [← hS]; exact srtL_len l)
      have HS' := Lib.hid (show QuS qb w.heap.size q H wr ∧ Twin H S ∧ RS wr u4 S from ⟨HS.out.qu, by rw [← hS]; exact HS.out.tw, by rw [← hS]; exact HS.out.rs⟩)
      rw [hS] at HSR
      obtain ⟨RA, rc, hre, -, -, -⟩ := HS'.out.2.2.get
      subst hre
      clear hS
      go_wp2_with fail
      refine HSR.out.mono ?_
      rintro e w3 ⟨SA, sc, rfl, hr3, hb3⟩
      have HS3 := Lib.hid (show SpS qb w.heap.size wr.heap.size q (.slice SA S.length sc) (.slice RA S.length rc) H S 0 w3 from
        ⟨HS'.out.1.onB hb3, HS'.out.2.1, hr3, HS'.out.2.2.onB hb3, fun g hg hq => by have := (hr3.lt g hg).1; have := (HS'.out.1.lt hq).2; omega⟩)
      have HB3 := Lib.hid (belK HB.out hb3)
      clear hr3 hb3 HSR HS' HS
      obtain ⟨C, hC⟩ : ∃ C, wr.heap.size = C := ⟨_, rfl⟩
      rw [hC] at HS3
      clear hC HB hsr
      go_wp2_with fail
      go_loopw [8] (fun i wx => ∃ (k : Nat) (q : Value) (H : List It), k ≤ S.length ∧ i = .int .i64 (k : Int) ∧ Hid (SpS qb w.heap.size C q (.slice SA S.length sc) (.slice RA S.length rc) H S k wx) ∧ Hid (Below w.heap.size w wx)) (fun i _ => S.length - (intOf i).toNat)
      case atStart => exact ⟨0, q, H, by omega, rfl, HS3, HB3⟩
      case round =>
        clear HS3 HB3 HLN
        obtain ⟨k, q, H, hkS, rfl, HS, HB⟩ := hrel
        have hsx := HB.out.size
        have hS60 : S.length ≤ 60 := by have := HSL.out; omega
        by_cases hkl : k < S.length
        · have kI : (k : Int) < (S.length : Int) := by omega
          obtain ⟨x, hx⟩ : ∃ x, S[k] = x := ⟨_, rfl⟩
          have HPP := Lib.hid (qpop_at HS.out hkl hx (by have := HSL.out; omega) hsx)
          have HX := Lib.hid hx
          clear hx
          go_wp2_with fail
          refine HPP.out.mono ?_
          rintro e w5 ⟨rfl, q5, H5, hs5, hk5⟩
          have HS5 := Lib.hid hs5
          have HB5 := Lib.hid (HB.out.trans (hk5.below hsx (fun i hi => (HS.out.qu.lt hi).1)))
          clear hs5 hk5 HPP
          go_upto_region 21 with fail
          obtain ⟨w6, hw6⟩ : ∃ w6 : World, w6 = w5.alloc (.cells #[.int .u64 x.w, .int .i64 x.id] 42) := ⟨_, rfl⟩
          have HX6 := Lib.hid (show Blk w6 w5.heap.size 42 #[.int .u64 x.w, .int .i64 x.id] by rw [hw6]; exact Blk.new _ _ _)
          have HS6 := Lib.hid (show SpS _ _ _ _ _ _ _ _ _ w6 by rw [hw6]; exact HS5.out.onB bel1)
          have HB6 := Lib.hid (show Below w.heap.size w w6 by rw [hw6]; exact HB5.out.alloc HB5.out.size _)
          rw [← hw6]
          clear hw6
          have x0 := HX6.out.cell 0
          have x1 := HX6.out.cell 1
          simp at x0 x1
          have xlt := HX6.out.lt
          obtain ⟨g, c', hv, -, glt, hel⟩ := HS6.out.row.at (i := k) (by simpa using hkl)
          injection hv with e1 e2 e3
          subst e1
          obtain ⟨d0, d1⟩ := it_cells hel hkl
          obtain ⟨A'', c'', hv', -, -, he'⟩ := HS6.out.rs.get
          injection hv' with e1 e4 e5
          subst e1
          obtain ⟨b, o, hb, rfl, hel'⟩ := he'.at (k := k) (by simpa using hkl)
          obtain ⟨c0, c1⟩ := it_cells hel' hkl
          rw [HX.out] at c0 c1 d0 d1
          simp only [Nat.zero_add] at d0 d1
          clear hel hel' he' e2 e3 e4 e5
          refine wp_region_kept 22 [(8, fun v u => v = .agg #[.int .u64 x.w, .int .i64 x.id])] ?st ?ne rfl (by kernel_rfl) (by kernel_rfl) ?_
          case st =>
            intro p hp
            simp only [List.mem_cons, List.not_mem_nil, or_false] at hp
            subst hp
            · intro v u u' h hk; exact h
          case ne =>
            intro p hp
            simp only [List.mem_cons, List.not_mem_nil, or_false] at hp
            subst hp
            · exact ⟨_, _, Kept.refl _ _, rfl⟩
          simp only [List.take_succ_cons, List.take_zero, List.drop_succ_cons, List.drop_zero]
          intro G pick hR hp1 hp2
          have p0 : ∀ u, (pick u).cell? ⟨w5.heap.size, 0, none⟩ = some (.int .u64 x.w) := fun u => ((hp1 u).cell xlt (fun h => h) _).trans x0
          have p1 : ∀ u, (pick u).cell? ⟨w5.heap.size, 1, none⟩ = some (.int .i64 x.id) := fun u => ((hp1 u).cell xlt (fun h => h) _).trans x1
          have p2 : ∀ u, (pick u).cell? ⟨g, k * 2, none⟩ = some (.int .u64 x.w) := fun u => ((hp1 u).cell glt (fun h => h) _).trans d0
          have p3 : ∀ u, (pick u).cell? ⟨g, k * 2 + 1, none⟩ = some (.int .i64 x.id) := fun u => ((hp1 u).cell glt (fun h => h) _).trans d1
          have p4 : ∀ u, (pick u).cell? ⟨b, o + k * 2, none⟩ = some (.int .u64 x.w) := fun u => ((hp1 u).cell hb (fun h => h) _).trans c0
          have p5 : ∀ u, (pick u).cell? ⟨b, o + k * 2 + 1, none⟩ = some (.int .i64 x.id) := fun u => ((hp1 u).cell hb (fun h => h) _).trans c1
          repeat (first | (refine wpR_det hp2 rfl ((hR.rel _).trans rfl) rfl ?_; intro K hK; go_big_quiet_op; go_big_quiet_on) | (refine wpR_ptr hp2 rfl ((hR.rel _).trans rfl) rfl rfl ?_; intro K hK; go_big_quiet_op; go_big_quiet_on) | (refine wpR_skip pick rfl ?_; intro K hK; go_big_quiet_op; go_big_quiet_on))
          refine wpR_rel pick rfl ((hR.rel _).trans rfl) ((hR.turns _).trans rfl) ?_ ?_
          · intro u hu
            have hk := hR.since hu.1
            have hks := hk.size
            unfold relAt
            go_simp
            refine (to_any x.w x.id u).mono ?_
            rintro e w' ⟨rfl, hb'⟩
            exact ⟨_, rfl, hR.intoB hb', hR.put 0 rfl rfl rfl⟩
          intro v hv
          obtain ⟨u, _, hu⟩ := hv
          obtain rfl := hR.get 0 rfl hu
          clear hu
          intro K hK
          go_big_quiet_op
          go_big_quiet_on
          repeat (first | (refine wpR_det hp2 rfl ((hR.rel _).trans rfl) rfl ?_; intro K hK; go_big_quiet_op; go_big_quiet_on) | (refine wpR_ptr hp2 rfl ((hR.rel _).trans rfl) rfl rfl ?_; intro K hK; go_big_quiet_op; go_big_quiet_on) | (refine wpR_skip pick rfl ?_; intro K hK; go_big_quiet_op; go_big_quiet_on))
          refine wpR_nil ?_
          intro w7 hk2 hF hM
          have HB7 := Lib.hid (keptK HB6.out hk2)
          have HS7 := Lib.hid (HS6.out.onB (hk2.below (Nat.le_refl _) (fun _ h => h.elim)))
          clear hF hM hk2 hp1 hp2 hR p0 p1 p2 p3 p4 p5 x0 x1 c0 c1 d0 d1
          go_wp2_with fail
          go_roundw
          case rel => exact ⟨k + 1, q5, H5, by omega, by go_num, HS7, HB7⟩
          case measure => simp [intOf]; omega
        · obtain rfl : k = S.length := by omega
          have hkI : ¬ (S.length : Int) < (S.length : Int) := by omega
          have hH : H = [] := by
            have := HS.out.tw.len
            rw [List.drop_length] at this
            exact List.eq_nil_of_length_eq_zero this.symm
          subst hH
          have HLE := Lib.hid (qlen_any qb w.heap.size q [] wr HS.out.qu)
          go_wp2_with fail
          refine HLE.out.mono ?_
          rintro e w7 ⟨rfl, rfl⟩
          clear HLE
          go_wp2_with fail
          refine (awake_any _).mono ?_
          rintro e wz ⟨rfl, hbz⟩
          have HBZ := Lib.hid hbz
          clear hbz
          go_wp2_with fail
          go_ret
          exact ⟨rfl, belK HB.out HBZ.out⟩
end Go.Proofs.Ytikakdcjbnbacaa
