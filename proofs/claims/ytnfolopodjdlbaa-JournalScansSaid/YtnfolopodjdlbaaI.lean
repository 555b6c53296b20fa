/- journal.Open, Write, Sync, Len. -/
import Derived.Test.YtnfolopodjdlbaaH
import Derived.Test.YtnfolopodjdlbaaRgRow
namespace Go.Proofs.Ytnfolopodjdlbaa
open Go.RowKit
set_option linter.unusedVariables false
/-- So many records. -/
def RowL (w : World) (base : Nat) (v : Value) (n : Nat) : Prop := ∃ vs, Row w base 22 v vs ∧ vs.length = n
theorem jlen_any (jb db n : Nat) (A : Option Addr) (c : Nat) (w : World) (hB : Blk w jb 55 #[.pointer (some ⟨db, 0, none⟩), .slice A n c]) :
    Calls Try.prog 15 #[.pointer (some ⟨jb, 0, none⟩)] w fun e w' => e = .returned (.int .i64 (n : Int)) ∧ w = w' := by
  have cb := hB.cell
  clear hB
  go_enter Try.func15, Try.ntmps15
  go_wp2_with fail
  go_ret
  exact ⟨rfl, rfl⟩
theorem jsync_any (jb base db s : Nat) (m q : Int) (v rv : Value) (l : List UInt8) (w : World) (hl : l.length ≤ 1000000) (q0 : 0 ≤ q) (q1 : q ≤ 1000) (hB : Blk w jb 55 #[.pointer (some ⟨db, 0, none⟩), rv]) (hD : Dk w base db m v l s q) :
    Calls Try.prog 13 #[.pointer (some ⟨jb, 0, none⟩)] w fun e w' => e = .returned (.int .i64 0) ∧ Dk w' base db m v l l.length (q + 1) ∧ Kept (fun i => i = db ∨ v.ownBlock = some i) w w' := by
  have H := Lib.hid (dsync_any base db s m q v l w hl q0 q1 hD)
  have cb := hB.cell
  clear hB hD
  go_enter Try.func13, Try.ntmps13
  go_wp2_with fail
  refine H.out.mono ?_
  rintro e w1 ⟨rfl, h1, h2⟩
  have H1 := Lib.hid h1
  have H2 := Lib.hid h2
  clear h1 h2
  go_wp2_with fail
  go_ret
  exact ⟨rfl, H1.out, H2.out⟩
def OpenPost (w : World) (base db : Nat) (m q : Int) (v : Value) (l : List UInt8) (e : Ending) (w' : World) : Prop :=
  ∃ (jb : Nat) (v' : Value) (RA : Option Addr) (rc : Nat), e = .returned (.tuple #[.pointer (some ⟨jb, 0, none⟩), .int .i64 0]) ∧ w.heap.size ≤ jb ∧ Blk w' jb 55 #[.pointer (some ⟨db, 0, none⟩), .slice RA (scan l 0).1.length rc] ∧ Dk w' base db m v' (l.take (scan l 0).2) (scan l 0).2 q ∧ RowL w' base (.slice RA (scan l 0).1.length rc) (scan l 0).1.length ∧ Kept (fun i => i = db ∨ v.ownBlock = some i) w w'
theorem Dk.keptS {w w' : World} {base db s : Nat} {m q : Int} {v : Value} {l : List UInt8} (h : Dk w base db m v l s q) (hk : Kept (fun _ => False) w w') : Dk w' base db m v l s q := h.kept hk
set_option maxHeartbeats 2000000 in
theorem open_any (base db s : Nat) (m q : Int) (v : Value) (l : List UInt8) (w : World) (hl : l.length ≤ 1000) (hle : (scan l 0).2 ≤ l.length) (hbase : base ≤ w.heap.size) (hD : Dk w base db m v l s q) :
    Calls Try.prog 11 #[.pointer (some ⟨db, 0, none⟩)] w (OpenPost w base db m q v l) := by
  have H := Lib.hid (dread_any base db s m q v l w (by omega) hD)
  have HD := Lib.hid hD
  have HBS := Lib.hid hbase
  have HLE := Lib.hid hle
  clear hD hbase hle
  go_enter Try.func11, Try.ntmps11
  go_wp2_with fail
  refine H.out.mono ?_
  rintro e w1 ⟨u, rfl, hy, hb1⟩
  obtain ⟨UA, uc, rfl, hu1, hu2, hu3⟩ := hy
  have HU := Lib.hid hu3
  have HU1 := Lib.hid (show l.length ≤ uc ∧ uc ≤ maxLen from ⟨hu1, hu2⟩)
  have HK1 := Lib.hid (show Kept (fun _ => False) w w1 from Kept.ofB hb1)
  clear hu1 hu2 hu3 hb1
  go_wp2_with fail
  refine (scan_any UA uc l w1 (by omega) HU1.out.1 HU1.out.2 HU.out).mono ?_
  rintro e w2 ⟨⟨rv, rfl, hrec⟩, hb2⟩
  have HK2 := Lib.hid (show Kept (fun _ => False) w w2 from HK1.out.then (Kept.ofB (S := fun _ => False) hb2) (fun _ _ h => h.elim))
  obtain ⟨RA, rc, hve, -, -⟩ := hrec.shape
  have HREC := Lib.hid (hrec.more (Nat.le_trans HBS.out HK1.out.size))
  subst hve
  obtain ⟨n, hn⟩ : ∃ n, (scan l 0).2 = n := ⟨_, rfl⟩
  obtain ⟨ls, hls⟩ : ∃ ls, (scan l 0).1 = ls := ⟨_, rfl⟩
  rw [hn] at HLE ⊢
  rw [hls] at HREC ⊢
  have HN := Lib.hid hn
  have HLS := Lib.hid hls
  have HD2 := Lib.hid (HD.out.kept HK2.out)
  clear hrec hb2 hn hls
  go_wp2_with fail
  refine (cut_any base db s n m q v l w2 (by omega) HLE.out HD2.out).mono ?_
  rintro e w3 ⟨⟨v', rfl, hD3⟩, hk3⟩
  have HD3 := Lib.hid hD3
  have HK3 := Lib.hid (show Kept (fun i => i = db ∨ v.ownBlock = some i) w w3 from (HK2.out.mono (T := fun i => i = db ∨ v.ownBlock = some i) (fun _ _ h => h.elim)).trans hk3)
  obtain ⟨vs, hvr, hvl, hve⟩ := HREC.out
  have HRW := Lib.hid (show Row w3 base 22 (.slice RA ls.length rc) vs from hvr.kept hk3 (fun g hg e => by
    rcases e with rfl | e
    · exact hvr.ne HD2.out.blk (by decide) hg
    · rcases HD2.out.row.apart hvr (by decide) with h | h
      · rw [hg] at h; cases h
      · exact h (hg.trans e.symm)))
  have HVL := Lib.hid hvl
  clear hD3 hk3 hvr hvl hve
  go_wp2_with fail
  go_ret2
  unfold OpenPost
  rw [HN.out, HLS.out]
  exact ⟨w3.heap.size, v', RA, rc, rfl, HK3.out.size, Blk.new _ _ _, HD3.out.kept ((Kept.refl _ _).alloc _), ⟨vs, HRW.out.alloc _, HVL.out⟩, HK3.out.alloc _⟩
def WritePost (w : World) (base jb db s : Nat) (m q : Int) (v : Value) (l F : List UInt8) (n : Nat) (e : Ending) (w' : World) : Prop :=
  ∃ (v' : Value) (RA : Option Addr) (rc : Nat), e = .returned (.int .i64 0) ∧ Dk w' base db m v' (l ++ F) s q ∧ Blk w' jb 55 #[.pointer (some ⟨db, 0, none⟩), .slice RA (n + 1) rc] ∧ RowL w' base (.slice RA (n + 1) rc) (n + 1) ∧ Kept (fun i => base ≤ i) w w'
set_option maxHeartbeats 4000000 in
theorem jwrite_any (jb base db s n c rc : Nat) (m : Nat) (q : Int) (v : Value) (RA A : Option Addr) (l x : List UInt8) (w : World) (hx : x.length ≤ 4096) (hm : m ≤ 1000000) (hlm : l.length + (14 + x.length) ≤ m) (hn : n ≤ 1000) (hbase : base ≤ w.heap.size) (hjb : base ≤ jb)
    (hB : Blk w jb 55 #[.pointer (some ⟨db, 0, none⟩), .slice RA n rc]) (hD : Dk w base db m v l s q) (hR : RowL w base (.slice RA n rc) n) (hA : BS w w.heap.size A x) (hAk : ∀ w', Kept (fun i => i = db ∨ v.ownBlock = some i) w w' → BS w' w'.heap.size A x) :
    Calls Try.prog 12 #[.pointer (some ⟨jb, 0, none⟩), .slice A x.length c] w (WritePost w base jb db s m q v l (frame ((n : Int) + 1) x) n) := by
  obtain ⟨vs, hvr, hvl⟩ := hR
  subst hvl
  have HB := Lib.hid hB
  have HD := Lib.hid hD
  have HVR := Lib.hid hvr
  have HBS := Lib.hid hbase
  have HJB := Lib.hid hjb
  have HAK := Lib.hid hAk
  have h22 := Try.info22r
  have HNJ := Lib.hid (show ¬ (jb = db ∨ v.ownBlock = some jb) from by
    rintro (e | e)
    · exact Blk.ne_ (t := 55) hB hD.blk (by decide) e
    · exact hD.row.ne hB (by decide) e)
  have x0 : (0 : Int) ≤ (x.length : Int) := Int.natCast_nonneg _
  have i1 : ¬ (4096 : Int) < (x.length : Int) := by omega
  have n0 : (0 : Int) ≤ (vs.length : Int) := Int.natCast_nonneg _
  have n1 : (vs.length : Int) ≤ 1000 := by omega
  have hfr := fun u (hu : Kept (fun _ => False) w u) => frame_any A c x ((vs.length : Int) + 1) u hx (by omega) (by omega) (hA.on hu (fun _ _ h => h))
  obtain ⟨F, hF⟩ : ∃ F, frame ((vs.length : Int) + 1) x = F := ⟨_, rfl⟩
  have HFL := Lib.hid (show F.length = 14 + x.length by rw [← hF]; exact frame_len _ _)
  rw [hF] at hfr ⊢
  have HFR := Lib.hid hfr
  have HM := Lib.hid hm
  have HLM := Lib.hid (show (l.length : Int) + ((14 + x.length : Nat) : Int) ≤ (m : Int) by omega)
  have HEX := Lib.hid (show ∃ z u, Kept (fun i => i = db ∨ v.ownBlock = some i) w u ∧ z = Value.int .i64 0 ∧ ∃ v', Dk u base db m v' (l ++ F) s q from
    ⟨_, _, ((Kept.refl _ w).alloc (.cells (bcs (l ++ F)).toArray 5)).setIn (b := db) (o := 1) (s := none) (u := .slice (some ⟨w.heap.size, 0, none⟩) (bcs (l ++ F)).toArray.size (bcs (l ++ F)).toArray.size) (.inl rfl), rfl, _, (hD.blk.alloc _).set_ 1 _, (Row.of_blk (Blk.new _ _ _) hbase (by simp [bcs_length, HFL.out]; unfold maxLen; omega) (by simp)).far (by intro e; have := hD.blk.lt; simp [Value.ownBlock] at e; omega), hD.at_⟩)
  clear hB hD hvr hbase hjb hA hAk hfr hF hm hlm
  go_enter Try.func12, Try.ntmps12
  go_upto_region 5 with fail
  refine wp_region_add 14 (fun i => i = db ∨ v.ownBlock = some i) [12, 13] [12] [(12, fun z u => Row u w.heap.size 5 z (bcs F)), (13, fun z u => z = .int .i64 0 ∧ ∃ v', Dk u base db m v' (l ++ F) s q)] ?st ?ne rfl (by kernel_rfl) (by kernel_rfl) (by kernel_rfl) ?_
  case st =>
    intro p hp
    simp only [List.mem_cons, List.not_mem_nil, or_false] at hp
    rcases hp with rfl | rfl
    · intro z u u' h hk; exact h.kept hk (fun _ _ h => h)
    · rintro z u u' ⟨rfl, v', h⟩ hk; exact ⟨rfl, v', h.kept hk⟩
  case ne =>
    intro p hp
    simp only [List.mem_cons, List.not_mem_nil, or_false] at hp
    rcases hp with rfl | rfl
    · exact ⟨_, _, (Kept.refl _ _).alloc (.cells (bcs F).toArray 5), Row.of_blk (Blk.new _ _ _) (Nat.le_refl _) (by simp [bcs_length, HFL.out]; unfold maxLen; omega) (by simp)⟩
    · exact HEX.out
  simp only [List.take_succ_cons, List.take_zero, List.drop_succ_cons, List.drop_zero]
  intro G pick hR hp1 hp2
  have p0 : ∀ u, (pick u).cell? ⟨jb, 0, none⟩ = some (.pointer (some ⟨db, 0, none⟩)) := fun u => ((hp1 u).cell HB.out.lt HNJ.out _).trans (HB.out.cell 0)
  have p1 : ∀ u, (pick u).cell? ⟨jb, 1, none⟩ = some (.slice RA vs.length rc) := fun u => ((hp1 u).cell HB.out.lt HNJ.out _).trans (HB.out.cell 1)
  repeat (first | (refine wpR_det hp2 rfl ((hR.rel _).trans rfl) rfl ?_; intro K hK; go_big_quiet_op; go_big_quiet_on) | (refine wpR_ptr hp2 rfl ((hR.rel _).trans rfl) rfl rfl ?_; intro K hK; go_big_quiet_op; go_big_quiet_on) | (refine wpR_skip pick rfl ?_; intro K hK; go_big_quiet_op; go_big_quiet_on))
  refine wpR_add pick rfl ((hR.rel _).trans rfl) ((hR.turns _).trans rfl) ((hR.adds _).trans rfl) ?_ ?_
  · intro u hu hM
    have hk := hR.since hu.1
    have hks := hk.size
    have hz := HFR.out u (hR.first hM)
    unfold relAt
    go_simp
    refine hz.mono ?_
    rintro e w' ⟨z, rfl, hT, hb'⟩
    exact ⟨_, rfl, hR.intoB hb', hR.put 0 rfl rfl (hT.more hks)⟩
  intro v hv
  obtain ⟨u, _, hu⟩ := hv
  obtain hT1 := hR.get 0 rfl hu
  clear hu
  obtain ⟨FA, fc, hfe, -, -⟩ := hT1.shape
  rw [bcs_length] at hfe
  subst hfe
  clear hT1
  intro K hK
  go_big_quiet_op
  go_big_quiet_on
  repeat (first | (refine wpR_det hp2 rfl ((hR.rel _).trans rfl) rfl ?_; intro K hK; go_big_quiet_op; go_big_quiet_on) | (refine wpR_ptr hp2 rfl ((hR.rel _).trans rfl) rfl rfl ?_; intro K hK; go_big_quiet_op; go_big_quiet_on) | (refine wpR_skip pick rfl ?_; intro K hK; go_big_quiet_op; go_big_quiet_on))
  refine wpR_turn pick rfl ((hR.rel _).trans rfl) ((hR.turns _).trans rfl) ((hR.adds _).trans rfl) ?_ ?_
  · intro u hu hM
    have hk := hR.since hu.1
    have hks := hk.size
    have hf := hR.get 0 rfl hM.2
    obtain ⟨FA', fc', e, h1, h2, hbs⟩ := hf.byt
    injection e with e1 e2 e3
    subst e1 e3
    have hz := dappend_any base db s fc m q v l F FA u (by have := HM.out; omega) (by rw [HFL.out]; exact HLM.out) ((HD.out).keptS (hR.first hM.1)) hbs (Nat.le_trans HBS.out hks)
    unfold relAt
    go_simp
    refine hz.mono ?_
    rintro e w' ⟨⟨v', rfl, hD'⟩, hk'⟩
    exact ⟨_, rfl, hR.into hk', hR.put 1 rfl rfl ⟨rfl, v', hD'⟩⟩
  intro v hv
  obtain ⟨u, _, hu⟩ := hv
  obtain ⟨rfl, -⟩ := hR.get 1 rfl hu
  clear hu
  intro K hK
  go_big_quiet_op
  go_big_quiet_on
  repeat (first | (refine wpR_det hp2 rfl ((hR.rel _).trans rfl) rfl ?_; intro K hK; go_big_quiet_op; go_big_quiet_on) | (refine wpR_ptr hp2 rfl ((hR.rel _).trans rfl) rfl rfl ?_; intro K hK; go_big_quiet_op; go_big_quiet_on) | (refine wpR_skip pick rfl ?_; intro K hK; go_big_quiet_op; go_big_quiet_on))
  refine wpR_nil ?_
  intro w2 hk2 hF hM
  obtain ⟨v', hD2⟩ := (hR.get 1 rfl hM).2
  have HD2 := Lib.hid hD2
  have HK2 := Lib.hid hk2
  have HB2 := Lib.hid (HB.out.kept hk2 HNJ.out)
  have HA2 := Lib.hid (HAK.out w2 hk2)
  have HBS2 := Lib.hid (show base ≤ w2.heap.size from Nat.le_trans HBS.out hk2.size)
  have HVR2 := Lib.hid (show Row w2 base 22 (.slice RA vs.length rc) vs from HVR.out.kept hk2 (fun g hg e => by
    rcases e with rfl | e
    · exact HVR.out.ne HD.out.blk (by decide) hg
    · rcases HD.out.row.apart HVR.out (by decide) with h | h
      · rw [hg] at h; cases h
      · exact h (hg.trans e.symm)))
  have HKB2 := Lib.hid (show Kept (fun i => base ≤ i) w w2 from hk2.mono (fun i _ e => by
    rcases e with rfl | e
    · exact HD.out.at_
    · exact (HD.out.row.lt i e).1))
  have HNV := Lib.hid (show ¬ (Value.slice RA vs.length rc).ownBlock = some jb from HVR2.out.ne HB2.out (by decide))
  clear hF hM hk2 hp1 hp2 hR p0 p1 hD2 HK2 HNJ
  go_upto_region 8 with fail
  refine wp_region_add 9 (fun i => (Value.slice RA vs.length rc).ownBlock = some i) [6, 8] [6] [(6, fun z u => Row u w2.heap.size 5 z (bcs x)), (7, fun z u => ∃ g X, z = .slice (some ⟨g, 0, none⟩) 1 1 ∧ w2.heap.size ≤ g ∧ Blk u g 22 #[X] ∧ X.oneCell' = true), (8, fun z u => RowL u base z (vs.length + 1))] ?st ?ne rfl (by kernel_rfl) (by kernel_rfl) (by kernel_rfl) ?_
  case st =>
    intro p hp
    simp only [List.mem_cons, List.not_mem_nil, or_false] at hp
    rcases hp with rfl | rfl | rfl
    · intro z u u' h hk; exact h.kept hk (fun _ _ h => h)
    · rintro z u u' ⟨g, X, rfl, h1, h, hx⟩ hk; exact ⟨g, X, rfl, h1, h.kept hk (fun e => by have := (HVR2.out.lt g e).2; omega), hx⟩
    · intro z u u' h hk; obtain ⟨ws, h1, h2⟩ := h; exact ⟨ws, h1.kept hk (fun _ _ h => h), h2⟩
  case ne =>
    intro p hp
    simp only [List.mem_cons, List.not_mem_nil, or_false] at hp
    rcases hp with rfl | rfl | rfl
    · exact ⟨_, _, (Kept.refl _ _).alloc (.cells (bcs x).toArray 5), Row.of_blk (Blk.new _ _ _) (Nat.le_refl _) (by simp [bcs_length]; unfold maxLen; omega) (by simp)⟩
    · exact ⟨_, _, (Kept.refl _ _).alloc _, _, .int .i64 0, rfl, Nat.le_refl _, Blk.new _ _ _, rfl⟩
    · exact ⟨_, _, (Kept.refl _ _).alloc (.cells (List.replicate (vs.length + 1) (Value.slice none 0 0)).toArray 22), _, Row.of_blk (Blk.new _ _ _) HBS2.out (by simp; unfold maxLen; omega) rfl, by simp⟩
  simp only [List.take_succ_cons, List.take_zero, List.drop_succ_cons, List.drop_zero]
  intro G pick hR hp1 hp2
  have p0 : ∀ u, (pick u).cell? ⟨jb, 0, none⟩ = some (.pointer (some ⟨db, 0, none⟩)) := fun u => ((hp1 u).cell HB2.out.lt HNV.out _).trans (HB2.out.cell 0)
  have p1 : ∀ u, (pick u).cell? ⟨jb, 1, none⟩ = some (.slice RA vs.length rc) := fun u => ((hp1 u).cell HB2.out.lt HNV.out _).trans (HB2.out.cell 1)
  repeat (first | (refine wpR_det hp2 rfl ((hR.rel _).trans rfl) rfl ?_; intro K hK; go_big_quiet_op; go_big_quiet_on) | (refine wpR_ptr hp2 rfl ((hR.rel _).trans rfl) rfl rfl ?_; intro K hK; go_big_quiet_op; go_big_quiet_on) | (refine wpR_skip pick rfl ?_; intro K hK; go_big_quiet_op; go_big_quiet_on))
  refine wpR_add pick rfl ((hR.rel _).trans rfl) ((hR.turns _).trans rfl) ((hR.adds _).trans rfl) ?_ ?_
  · intro u hu hM
    have hk := hR.since hu.1
    have hks := hk.size
    have hz := clone_row A c x u (by omega) (HA2.out.on (hR.first hM) (fun _ _ h => h))
    unfold relAt
    go_simp
    refine hz.mono ?_
    rintro e w' ⟨z, rfl, hT, hb'⟩
    exact ⟨_, rfl, hR.intoB hb', hR.put 0 rfl rfl (hT.more hks)⟩
  intro v hv
  obtain ⟨u, _, hu⟩ := hv
  obtain hT1 := hR.get 0 rfl hu
  clear hu
  obtain ⟨CA, cc, hfe, -, -⟩ := hT1.shape
  rw [bcs_length] at hfe
  subst hfe
  clear hT1
  intro K hK
  go_big_quiet_op
  go_big_quiet_on
  repeat (first | (refine wpR_det hp2 rfl ((hR.rel _).trans rfl) rfl ?_; intro K hK; go_big_quiet_op; go_big_quiet_on) | (refine wpR_ptr hp2 rfl ((hR.rel _).trans rfl) rfl rfl ?_; intro K hK; go_big_quiet_op; go_big_quiet_on) | (refine wpR_skip pick rfl ?_; intro K hK; go_big_quiet_op; go_big_quiet_on))
  refine wpR_rel pick rfl ((hR.rel _).trans rfl) ((hR.turns _).trans rfl) ?_ ?_
  · intro u hu
    have hk := hR.since hu.1
    have hks := hk.size
    unfold relAt
    go_simp
    exact ⟨hR.into0 ((Kept.refl _ _).alloc _), hR.put 1 rfl rfl ⟨_, _, rfl, hks, Blk.new _ _ _, rfl⟩⟩
  intro v hv
  obtain ⟨u, _, hu⟩ := hv
  obtain ⟨g7, X7, rfl, -, -, -⟩ := hR.get 1 rfl hu
  clear hu
  intro K hK
  go_big_quiet_op
  go_big_quiet_on
  repeat (first | (refine wpR_det hp2 rfl ((hR.rel _).trans rfl) rfl ?_; intro K hK; go_big_quiet_op; go_big_quiet_on) | (refine wpR_ptr hp2 rfl ((hR.rel _).trans rfl) rfl rfl ?_; intro K hK; go_big_quiet_op; go_big_quiet_on) | (refine wpR_skip pick rfl ?_; intro K hK; go_big_quiet_op; go_big_quiet_on))
  refine wpR_turn pick rfl ((hR.rel _).trans rfl) ((hR.turns _).trans rfl) ((hR.adds _).trans rfl) ?_ ?_
  · intro u hu hM
    have hk := hR.since hu.1
    have hks := hk.size
    obtain ⟨g', X, e, hg', hB', hX⟩ := (hR.get 1 rfl (hu.2 _ _ (Got.upd_self _ _ _) (by kernel_rfl)))
    obtain rfl : g7 = g' := by injection e with e; injection e with e; injection e
    have hr : Row u base 22 (.slice RA vs.length rc) vs := HVR2.out.kept (hR.first hM.1) (fun _ _ h => h)
    refine relAt_append_row (.tmp 32) (.tmp 35) 25 rfl base 22 (.slice none 0 0) 24 Try.underlying25 h22 rfl _ vs rfl (some ⟨g7, 0, none⟩) 1 1 [X] rfl rfl hr (.inr ⟨_, rfl, fun j y hy => by rw [Addr.add_lit, Nat.zero_add, hB'.cell j]; simpa using hy⟩) (by intro y hy; simp at hy; subst hy; exact hX) ?_ ?_ ?_ ?_
    · unfold maxLen; simp; omega
    · simp; omega
    · have := HBS2.out; omega
    · intro v' w' hr' hg' _
      exact ⟨hR.into (kept_grown hg' (fun i e _ => e)), hR.put 2 rfl rfl ⟨_, hr', by simp⟩⟩
  intro v hv
  obtain ⟨u, _, hu⟩ := hv
  obtain hT8 := hR.get 2 rfl hu
  clear hu
  obtain ⟨NA, nc, hne⟩ : ∃ A c, v = .slice A (vs.length + 1) c := by obtain ⟨ws, h1, h2⟩ := hT8; obtain ⟨A, c, e, -, -⟩ := h1.shape; exact ⟨A, c, by rw [e, h2]⟩
  subst hne
  clear hT8
  intro K hK
  go_big_quiet_op
  go_big_quiet_on
  repeat (first | (refine wpR_det hp2 rfl ((hR.rel _).trans rfl) rfl ?_; intro K hK; go_big_quiet_op; go_big_quiet_on) | (refine wpR_ptr hp2 rfl ((hR.rel _).trans rfl) rfl rfl ?_; intro K hK; go_big_quiet_op; go_big_quiet_on) | (refine wpR_skip pick rfl ?_; intro K hK; go_big_quiet_op; go_big_quiet_on))
  refine wpR_nil ?_
  intro w3 hk2 hF hM
  obtain ⟨ws, hws, hwl⟩ := hR.get 2 rfl hM
  have HW3 := Lib.hid hws
  have HWL := Lib.hid hwl
  have HB3 := Lib.hid (HB2.out.kept hk2 HNV.out)
  have HD3 := Lib.hid (show Dk w3 base db m v' (l ++ F) s q from ⟨HD2.out.blk.kept hk2 (fun e => HVR2.out.ne HD2.out.blk (by decide) e), HD2.out.row.kept hk2 (fun g hg e => by
    rcases HVR2.out.apart HD2.out.row (by decide) with h | h
    · rw [hg] at h; cases h
    · exact h (hg.trans e.symm)), HD2.out.at_⟩)
  have HK3 := Lib.hid (show Kept (fun i => base ≤ i) w w3 from HKB2.out.trans (hk2.mono (fun i _ e => (HVR2.out.lt i e).1)))
  have cj := HB3.out.cell
  have fj := HB3.out.frozen
  have lj := HB3.out.lt
  clear hF hM hk2 hp1 hp2 hR p0 p1 hws hwl
  go_wp2_with fail
  go_ret
  refine ⟨v', NA, nc, rfl, ?_, HB3.out.set_to rfl, ⟨ws, HW3.out.far (HW3.out.ne HB3.out (by decide)), HWL.out⟩, HK3.out.setIn HJB.out⟩
  exact ⟨HD3.out.blk.far' (fun e => Blk.ne_ (t := 51) HD3.out.blk HB3.out (by decide) e), HD3.out.row.far (HD3.out.row.ne HB3.out (by decide)), HD3.out.at_⟩
end Go.Proofs.Ytnfolopodjdlbaa
