/- The pseudo-header; tcp's Summed and Fine. -/
import Derived.Test.YtdnbhmfofphblaaGreatDoorTC
namespace Go.Proofs.YtdnbhmfofphblaaGreatDoor
open Go.RowKit
set_option maxRecDepth 100000
set_option linter.unusedVariables false
set_option linter.unusedSimpArgs false
theorem Row.byt_bs {w : World} {base e n c : Nat} {A : Option Addr} {l : List UInt8} (h : Row w base e (.slice A n c) (bcs l)) : BS w w.heap.size A l := by
  obtain ⟨A', c', e', -, -, hb⟩ := h.byt
  injection e' with ea _ _
  subst ea
  exact hb
set_option maxRecDepth 100000 in
set_option maxHeartbeats 8000000 in
theorem pseudoT (x y p m : Int) (x0 : 0 ≤ x) (x1 : x ≤ 4294967295) (y0 : 0 ≤ y) (y1 : y ≤ 4294967295) (p0 : 0 ≤ p) (p1 : p ≤ 255) (m0 : 0 ≤ m) (m1 : m ≤ 65535) (w : World) :
    Calls Tryz.prog 69 #[.agg #[.bool false, .int .u64 0, .int .u64 x], .agg #[.bool false, .int .u64 0, .int .u64 y], .int .u8 p, .int .i64 m] w fun e w' => ∃ VP vp, e = .returned (.slice VP 12 vp) ∧ Row w' w.heap.size 5 (.slice VP 12 vp) (bcs (pseudo x y p m)) ∧ Kept (fun _ => False) w w' := by
  have h5 := Tryz.info5r
  go_enter Tryz.func69, Tryz.ntmps69
  go_upto_region 1 with fail
  obtain ⟨w1, hw1⟩ : ∃ w1 : World, w1 = ((w.alloc (.cells #[.bool false, .int .u64 0, .int .u64 x] 26)).alloc (.cells #[.bool false, .int .u64 0, .int .u64 y] 26)) := ⟨_, rfl⟩
  have HAB1 := Lib.hid (show Blk w1 w.heap.size 26 #[.bool false, .int .u64 0, .int .u64 x] by rw [hw1]; exact (Blk.new _ _ _).alloc _)
  have HDB1 := Lib.hid (show Blk w1 (w.heap.size + 1) 26 #[.bool false, .int .u64 0, .int .u64 y] by rw [hw1]; exact Blk.new_ (by simp) _ _)
  have HK1 := Lib.hid (show Kept (fun _ => False) w w1 by rw [hw1]; exact ((Kept.refl _ _).alloc _).alloc _)
  rw [← hw1]
  clear hw1
  obtain ⟨db, hdb⟩ : ∃ db, w.heap.size + 1 = db := ⟨_, rfl⟩
  rw [hdb] at HDB1
  (try rw [hdb])
  obtain ⟨ab, hab⟩ : ∃ ab, w.heap.size = ab := ⟨_, rfl⟩
  rw [hab] at HAB1
  (try rw [hab])
  have HNE := Lib.hid (show ab = w.heap.size + 0 ∧ db = w.heap.size + 1 ∧ True from ⟨by omega, by omega, trivial⟩)
  clear hab hdb
  have cAB := HAB1.out.cell
  have lAB := HAB1.out.lt
  have fAB := HAB1.out.frozen
  have cDB := HDB1.out.cell
  have lDB := HDB1.out.lt
  have fDB := HDB1.out.frozen
  refine wp_region_kept 4 [(1, fun v u => Row u w1.heap.size 5 v (bcs (digs 4 x)) ∧ ∃ g, v = .slice (some ⟨g, 0, none⟩) 4 4), (3, fun v u => Row u w1.heap.size 5 v (bcs (digs 4 y)) ∧ ∃ g, v = .slice (some ⟨g, 0, none⟩) 4 4)] ?st ?ne rfl (by kernel_rfl) (by kernel_rfl) ?_
  case st =>
    intro p hp
    simp only [List.mem_cons, List.not_mem_nil, or_false] at hp
    rcases hp with rfl | rfl
    · rintro v u u' ⟨h1, h2⟩ hk; exact ⟨Row.kept h1 hk (fun _ _ h => h), h2⟩
    · rintro v u u' ⟨h1, h2⟩ hk; exact ⟨Row.kept h1 hk (fun _ _ h => h), h2⟩
  case ne =>
    intro p hp
    simp only [List.mem_cons, List.not_mem_nil, or_false] at hp
    rcases hp with rfl | rfl
    · exact ⟨.slice (some ⟨w1.heap.size, 0, none⟩) 4 4, _, (Kept.refl _ _).alloc (.cells (bcs (digs 4 x)).toArray 5), by simpa [bcs_length, digs_length] using Row.of_blk (xs := bcs (digs 4 x)) (Blk.new w1 5 (bcs (digs 4 x)).toArray) (Nat.le_refl _) (by unfold maxLen; simp [bcs_length, digs_length]) (by simp), _, rfl⟩
    · exact ⟨.slice (some ⟨w1.heap.size, 0, none⟩) 4 4, _, (Kept.refl _ _).alloc (.cells (bcs (digs 4 y)).toArray 5), by simpa [bcs_length, digs_length] using Row.of_blk (xs := bcs (digs 4 y)) (Blk.new w1 5 (bcs (digs 4 y)).toArray) (Nat.le_refl _) (by unfold maxLen; simp [bcs_length, digs_length]) (by simp), _, rfl⟩
  simp only [List.take_succ_cons, List.take_zero, List.drop_succ_cons, List.drop_zero]
  intro G pick hR hp1 hp2
  have sA : ∀ u i, (pick u).cell? ⟨ab, i, none⟩ = (#[.bool false, .int .u64 0, .int .u64 x] : Array Value)[i]? := fun u i => ((hp1 u).cell HAB1.out.lt (fun h => h) _).trans (HAB1.out.cell i)
  have sD : ∀ u i, (pick u).cell? ⟨db, i, none⟩ = (#[.bool false, .int .u64 0, .int .u64 y] : Array Value)[i]? := fun u i => ((hp1 u).cell HDB1.out.lt (fun h => h) _).trans (HDB1.out.cell i)
  repeat (first | (refine wpR_det hp2 rfl ((hR.rel _).trans rfl) rfl ?_; intro K hK; go_big_quiet_op; go_big_quiet_on) | (refine wpR_ptr hp2 rfl ((hR.rel _).trans rfl) rfl rfl ?_; intro K hK; go_big_quiet_op; go_big_quiet_on) | (refine wpR_skip pick rfl ?_; intro K hK; go_big_quiet_op; go_big_quiet_on))
  refine wpR_rel pick rfl ((hR.rel _).trans rfl) ((hR.turns _).trans rfl) ?_ ?_
  · intro u hu
    have hk := hR.since hu.1
    have hks := hk.size
    unfold relAt
    go_simp
    refine (v4Bytes_any x x0 x1 u).mono ?_
    rintro e w' ⟨g, rfl, hO, hg, hbw⟩
    exact ⟨_, rfl, hR.into0 (Kept.ofB hbw), hR.put 0 rfl rfl ⟨hO.row_ (Nat.le_trans hks hg) (digs_length 4 x), g, rfl⟩⟩
  intro v hv
  obtain ⟨u, _, hu⟩ := hv
  obtain ⟨hP, gP, rfl⟩ := hR.get 0 rfl hu
  clear hu
  have HP := Lib.hid hP
  clear hP
  intro K hK
  go_big_quiet_op
  go_big_quiet_on
  repeat (first | (refine wpR_det hp2 rfl ((hR.rel _).trans rfl) rfl ?_; intro K hK; go_big_quiet_op; go_big_quiet_on) | (refine wpR_ptr hp2 rfl ((hR.rel _).trans rfl) rfl rfl ?_; intro K hK; go_big_quiet_op; go_big_quiet_on) | (refine wpR_skip pick rfl ?_; intro K hK; go_big_quiet_op; go_big_quiet_on))
  refine wpR_rel pick rfl ((hR.rel _).trans rfl) ((hR.turns _).trans rfl) ?_ ?_
  · intro u hu
    have hk := hR.since hu.1
    have hks := hk.size
    unfold relAt
    go_simp
    refine (v4Bytes_any y y0 y1 u).mono ?_
    rintro e w' ⟨g, rfl, hO, hg, hbw⟩
    exact ⟨_, rfl, hR.into0 (Kept.ofB hbw), hR.put 1 rfl rfl ⟨hO.row_ (Nat.le_trans hks hg) (digs_length 4 y), g, rfl⟩⟩
  intro v hv
  obtain ⟨u, _, hu⟩ := hv
  obtain ⟨hQ, gQ, rfl⟩ := hR.get 1 rfl hu
  clear hu
  have HQ := Lib.hid hQ
  clear hQ
  intro K hK
  go_big_quiet_op
  go_big_quiet_on
  repeat (first | (refine wpR_det hp2 rfl ((hR.rel _).trans rfl) rfl ?_; intro K hK; go_big_quiet_op; go_big_quiet_on) | (refine wpR_ptr hp2 rfl ((hR.rel _).trans rfl) rfl rfl ?_; intro K hK; go_big_quiet_op; go_big_quiet_on) | (refine wpR_skip pick rfl ?_; intro K hK; go_big_quiet_op; go_big_quiet_on))
  refine wpR_nil ?_
  intro w2 hk2 hF hM
  have HP2 := Lib.hid (hR.get 0 rfl (hF _ _ (Got.upd_old (Got.upd_self _ _ _) rfl))).1
  have HQ2 := Lib.hid (hR.get 1 rfl (hF _ _ (Got.upd_self _ _ _))).1
  have hk := hk2
  have HK2 := Lib.hid (HK1.out.trans hk)
  have HS2 := Lib.hid (show Kept (fun _ => False) w1 w2 from hk)
  have HAB2 := Lib.hid (HAB1.out.kept hk (fun h => h))
  have HDB2 := Lib.hid (HDB1.out.kept hk (fun h => h))
  clear cAB lAB fAB cDB lDB fDB
  have cAB := HAB2.out.cell
  have lAB := HAB2.out.lt
  have fAB := HAB2.out.frozen
  have cDB := HDB2.out.cell
  have lDB := HDB2.out.lt
  have fDB := HDB2.out.frozen
  clear hk hk2 hF hM hp1 hp2 hR sA sD
  go_wp2_with (at_builtin; refine wpList_append_row rfl (.tmp 11) (.tmp 13) 44 rfl w1.heap.size 5 (.int .u8 0) 1 Tryz.underlying44 h5 rfl _ (bcs (digs 4 x)) rfl (some ⟨gQ, 0, none⟩) 4 4 (bcs (digs 4 y)) rfl ?a0 HP2.out HQ2.out.byt_bs.src (bcs_one _) ?a3 ?a4 HS2.out.size ?_)
  case a0 => rw [bcs_length, digs_length]
  case a3 => rw [bcs_length, bcs_length, digs_length, digs_length]; decide
  case a4 => rw [bcs_length, bcs_length, digs_length, digs_length]; decide
  intro v3 w3 hrow hgr _
  rw [← bcs_append] at hrow
  have hN : (digs 4 x ++ digs 4 y).length = 8 := by rw [List.length_append, digs_length, digs_length]
  obtain ⟨A3, c3, hve, -, -⟩ := hrow.shape
  rw [bcs_length, hN] at hve
  subst hve
  have HR3 := Lib.hid hrow
  have HN3 := Lib.hid hN
  clear hN hrow
  have HX3 := Lib.hid (kept_grown (S := fun i => w1.heap.size ≤ i) hgr (fun i e _ => (HP2.out.lt i e).1))
  have HAB3 := Lib.hid (HAB2.out.kept HX3.out (fun h => by have := HAB1.out.lt; omega))
  have HDB3 := Lib.hid (HDB2.out.kept HX3.out (fun h => by have := HDB1.out.lt; omega))
  have HK3 := Lib.hid (HK2.out.then HX3.out (fun i hi e => by have := HK1.out.size; omega))
  clear cAB lAB fAB cDB lDB fDB
  clear hgr
  have cAB := HAB3.out.cell
  have lAB := HAB3.out.lt
  have fAB := HAB3.out.frozen
  have cDB := HDB3.out.cell
  have lDB := HDB3.out.lt
  have fDB := HDB3.out.frozen
  go_wp2_with fail
  refine (put_len A3 c3 2 (digs 4 x ++ digs 4 y) p w3 8 10 HN3.out rfl HR3.out.byt_bs p0 (by omega) (by omega) (by omega)).mono ?_
  rintro e w4 ⟨g4, L4, rfl, hL4, hN4, hO4, hg4, hbw⟩
  have HL4 := Lib.hid hL4
  have HN4 := Lib.hid hN4
  have HO4 := Lib.hid hO4
  have hk := Kept.ofB (S := fun _ => False) hbw
  have HK4 := Lib.hid (HK3.out.trans hk)
  have HS4 := Lib.hid (show Kept (fun _ => False) w3 w4 from hk)
  have HAB4 := Lib.hid (HAB3.out.kept hk (fun h => h))
  have HDB4 := Lib.hid (HDB3.out.kept hk (fun h => h))
  clear cAB lAB fAB cDB lDB fDB
  have cAB := HAB4.out.cell
  have lAB := HAB4.out.lt
  have fAB := HAB4.out.frozen
  have cDB := HDB4.out.cell
  have lDB := HDB4.out.lt
  have fDB := HDB4.out.frozen
  clear hL4 hN4 hO4 hg4 hbw hk
  go_wp2_with fail
  refine (put_len (some ⟨g4, 0, none⟩) 10 2 L4 m w4 10 12 HN4.out rfl HO4.out.bs m0 (by omega) (by omega) (by omega)).mono ?_
  rintro e w5 ⟨g5, L5, rfl, hL5, hN5, hO5, hg5, hbw⟩
  have HL5 := Lib.hid hL5
  have HN5 := Lib.hid hN5
  have HO5 := Lib.hid hO5
  have HG5 := Lib.hid hg5
  have hk := Kept.ofB (S := fun _ => False) hbw
  have HK5 := Lib.hid (HK4.out.trans hk)
  have HS5 := Lib.hid (show Kept (fun _ => False) w4 w5 from hk)
  have HAB5 := Lib.hid (HAB4.out.kept hk (fun h => h))
  have HDB5 := Lib.hid (HDB4.out.kept hk (fun h => h))
  clear cAB lAB fAB cDB lDB fDB
  have cAB := HAB5.out.cell
  have lAB := HAB5.out.lt
  have fAB := HAB5.out.frozen
  have cDB := HDB5.out.cell
  have lDB := HDB5.out.lt
  have fDB := HDB5.out.frozen
  clear hL5 hN5 hO5 hg5 hbw hk
  go_wp2_with fail
  go_ret
  refine ⟨_, _, rfl, ?_, HK5.out⟩
  have e : L5 = pseudo x y p m := by rw [HL5.out, HL4.out]; simp [pseudo]
  rw [← e]
  exact HO5.out.row_ (Nat.le_trans HK4.out.size HG5.out) HN5.out
set_option maxRecDepth 100000 in
set_option maxHeartbeats 8000000 in
theorem summedT (sp dp seq ack fl wi sm ur : Int) (OA : Option Addr) (n oc : Nat) (LA : Option Addr) (m lc : Nat) (os ls : List UInt8) (hn : os.length = n) (hm : ls.length = m) (n40 : n ≤ 40) (n4 : n % 4 = 0) (m9 : m ≤ 9000) (hw : (⟨sp, dp, seq, ack, fl, wi, sm, ur, os, ls⟩ : Sg).wf) (x y : Int) (x0 : 0 ≤ x) (x1 : x ≤ 4294967295) (y0 : 0 ≤ y) (y1 : y ≤ 4294967295) (w : World) (hO : BS w w.heap.size OA os) (hL : BS w w.heap.size LA ls) :
    Calls Tryz.prog 25 #[.agg #[.int .u16 sp, .int .u16 dp, .int .u32 seq, .int .u32 ack, .int .u8 fl, .int .u16 wi, .int .u16 sm, .int .u16 ur, .slice OA n oc, .slice LA m lc], .agg #[.bool false, .int .u64 0, .int .u64 x], .agg #[.bool false, .int .u64 0, .int .u64 y]] w fun e w' => ∃ VA vc UA uc, e = .returned (.agg #[.int .u16 sp, .int .u16 dp, .int .u32 seq, .int .u32 ack, .int .u8 fl, .int .u16 wi, .int .u16 ((⟨sp, dp, seq, ack, fl, wi, sm, ur, os, ls⟩ : Sg).ck x y), .int .u16 ur, .slice VA n vc, .slice UA m uc]) ∧ Row w' w.heap.size 5 (.slice VA n vc) (bcs os) ∧ Row w' w.heap.size 5 (.slice UA m uc) (bcs ls) ∧ Kept (fun _ => False) w w' := by
  have HO := Lib.hid hO
  have HL := Lib.hid hL
  have HNN := Lib.hid hn
  have HMM := Lib.hid hm
  have HW0 := Lib.hid (Sg.wf_sum hw (k := 0) (by omega) (by omega))
  have HCKR := Lib.hid ((⟨sp, dp, seq, ack, fl, wi, sm, ur, os, ls⟩ : Sg).ck_range x y)
  have n0 : (0 : Int) ≤ (n : Int) := Int.natCast_nonneg _
  have m0 : (0 : Int) ≤ (m : Int) := Int.natCast_nonneg _
  clear hO hL hn hm hw
  go_enter Tryz.func25, Tryz.ntmps25
  go_upto_region 1 with fail
  obtain ⟨w1, hw1⟩ : ∃ w1 : World, w1 = ((((w.alloc (.cells #[.int .u16 sp, .int .u16 dp, .int .u32 seq, .int .u32 ack, .int .u8 fl, .int .u16 wi, .int .u16 sm, .int .u16 ur, .slice OA n oc, .slice LA m lc] 48)).alloc (.cells #[.bool false, .int .u64 0, .int .u64 x] 26)).alloc (.cells #[.bool false, .int .u64 0, .int .u64 y] 26)).alloc (.cells #[.int .u16 0, .int .u16 0, .int .u32 0, .int .u32 0, .int .u8 0, .int .u16 0, .int .u16 0, .int .u16 0, .slice none 0 0, .slice none 0 0] 48)) := ⟨_, rfl⟩
  have HSB1 := Lib.hid (show Blk w1 w.heap.size 48 #[.int .u16 sp, .int .u16 dp, .int .u32 seq, .int .u32 ack, .int .u8 fl, .int .u16 wi, .int .u16 sm, .int .u16 ur, .slice OA n oc, .slice LA m lc] by rw [hw1]; exact (((Blk.new _ _ _).alloc _).alloc _).alloc _)
  have HAB1 := Lib.hid (show Blk w1 (w.heap.size + 1) 26 #[.bool false, .int .u64 0, .int .u64 x] by rw [hw1]; exact ((Blk.new_ (by simp) _ _).alloc _).alloc _)
  have HDB1 := Lib.hid (show Blk w1 (w.heap.size + 2) 26 #[.bool false, .int .u64 0, .int .u64 y] by rw [hw1]; exact (Blk.new_ (by simp) _ _).alloc _)
  have HRB1 := Lib.hid (show Blk w1 (w.heap.size + 3) 48 #[.int .u16 0, .int .u16 0, .int .u32 0, .int .u32 0, .int .u8 0, .int .u16 0, .int .u16 0, .int .u16 0, .slice none 0 0, .slice none 0 0] by rw [hw1]; exact Blk.new_ (by simp) _ _)
  have HK1 := Lib.hid (show Kept (fun _ => False) w w1 by rw [hw1]; exact ((((Kept.refl _ _).alloc _).alloc _).alloc _).alloc _)
  rw [← hw1]
  clear hw1
  obtain ⟨rb, hrb⟩ : ∃ rb, w.heap.size + 3 = rb := ⟨_, rfl⟩
  rw [hrb] at HRB1
  (try rw [hrb])
  obtain ⟨db, hdb⟩ : ∃ db, w.heap.size + 2 = db := ⟨_, rfl⟩
  rw [hdb] at HDB1
  (try rw [hdb])
  obtain ⟨ab, hab⟩ : ∃ ab, w.heap.size + 1 = ab := ⟨_, rfl⟩
  rw [hab] at HAB1
  (try rw [hab])
  obtain ⟨sb, hsb⟩ : ∃ sb, w.heap.size = sb := ⟨_, rfl⟩
  rw [hsb] at HSB1
  (try rw [hsb])
  have HNE := Lib.hid (show sb = w.heap.size + 0 ∧ ab = w.heap.size + 1 ∧ db = w.heap.size + 2 ∧ rb = w.heap.size + 3 ∧ True from ⟨by omega, by omega, by omega, by omega, trivial⟩)
  clear hsb hab hdb hrb
  have cSB := HSB1.out.cell
  have lSB := HSB1.out.lt
  have fSB := HSB1.out.frozen
  have cAB := HAB1.out.cell
  have lAB := HAB1.out.lt
  have fAB := HAB1.out.frozen
  have cDB := HDB1.out.cell
  have lDB := HDB1.out.lt
  have fDB := HDB1.out.frozen
  have cRB := HRB1.out.cell
  have lRB := HRB1.out.lt
  have fRB := HRB1.out.frozen
  have HCP := Lib.hid (copiedT sp dp seq ack fl wi sm ur OA oc LA lc os ls n m HNN.out HMM.out n40 m9 w1 (HO.out.on HK1.out (fun _ _ h => h)) (HL.out.on HK1.out (fun _ _ h => h)))
  go_wp2_with (show wpList _ _ _ ((⟨_, .load 48 (.tmp 3), _, _, _, none⟩ : Oper) :: _) _ _; refine wpList_load_mid rfl 48 (.tmp 3) rfl sb 0 rfl [.int .u16 sp, .int .u16 dp, .int .u32 seq, .int .u32 ack, .int .u8 fl, .int .u16 wi, .int .u16 sm, .int .u16 ur, .slice OA n oc, .slice LA m lc] _ HSB1.out.range Tryz.underlying48 rfl (by kernel_rfl) ?_)
  refine HCP.out.mono ?_
  rintro e w2 ⟨VA, vc, UA, uc, rfl, hv, hu, hk⟩
  have HV2 := Lib.hid hv
  have HU2 := Lib.hid hu
  have HK2 := Lib.hid (HK1.out.trans hk)
  have HS2 := Lib.hid (show Kept (fun _ => False) w1 w2 from hk)
  have HSB2 := Lib.hid (HSB1.out.kept hk (fun h => h))
  have HAB2 := Lib.hid (HAB1.out.kept hk (fun h => h))
  have HDB2 := Lib.hid (HDB1.out.kept hk (fun h => h))
  have HRB2 := Lib.hid (HRB1.out.kept hk (fun h => h))
  clear cSB lSB fSB cAB lAB fAB cDB lDB fDB cRB lRB fRB
  have cSB := HSB2.out.cell
  have lSB := HSB2.out.lt
  have fSB := HSB2.out.frozen
  have cAB := HAB2.out.cell
  have lAB := HAB2.out.lt
  have fAB := HAB2.out.frozen
  have cDB := HDB2.out.cell
  have lDB := HDB2.out.lt
  have fDB := HDB2.out.frozen
  have cRB := HRB2.out.cell
  have lRB := HRB2.out.lt
  have fRB := HRB2.out.frozen
  clear hk hv hu HCP
  go_upto_region 2 with (show wpList _ _ _ ((⟨none, .store 48 (.tmp 3) _, _, _, _, none⟩ : Oper) :: _) _ _; refine wpList_store_mid rfl 48 (.tmp 3) _ rfl sb 0 #[.int .u16 sp, .int .u16 dp, .int .u32 seq, .int .u32 ack, .int .u8 fl, .int .u16 wi, .int .u16 sm, .int .u16 ur, .slice VA n vc, .slice UA m uc] rfl rfl (HSB2.out.there rfl) (by kernel_rfl) (by simp [Value.oneCell']) ?_)
  generalize hwq : World.setCells _ _ _ _ = w3
  have HX3 := Lib.hid (show Kept (fun i => i = sb) w2 w3 by rw [← hwq]; exact Kept.setCells (S := fun i => i = sb) rfl _ _ (Kept.refl _ _))
  have HSB3 := Lib.hid (show Blk w3 sb 48 #[.int .u16 sp, .int .u16 dp, .int .u32 seq, .int .u32 ack, .int .u8 fl, .int .u16 wi, .int .u16 sm, .int .u16 ur, .slice VA n vc, .slice UA m uc] by rw [← hwq]; exact HSB2.out.setAll #[.int .u16 sp, .int .u16 dp, .int .u32 seq, .int .u32 ack, .int .u8 fl, .int .u16 wi, .int .u16 sm, .int .u16 ur, .slice VA n vc, .slice UA m uc] rfl)
  have HAB3 := Lib.hid (HAB2.out.kept HX3.out (fun h => by have := HNE.out; omega))
  have HDB3 := Lib.hid (HDB2.out.kept HX3.out (fun h => by have := HNE.out; omega))
  have HRB3 := Lib.hid (HRB2.out.kept HX3.out (fun h => by have := HNE.out; omega))
  have HK3 := Lib.hid (HK2.out.then HX3.out (fun i hi e => by have := HNE.out; omega))
  have HV3 := Lib.hid (Row.kept HV2.out HX3.out (fun g hg e => by have := (HV2.out.lt g hg).1; have := HSB1.out.lt; have := HRB1.out.lt; omega))
  have HU3 := Lib.hid (Row.kept HU2.out HX3.out (fun g hg e => by have := (HU2.out.lt g hg).1; have := HSB1.out.lt; have := HRB1.out.lt; omega))
  clear cSB lSB fSB cAB lAB fAB cDB lDB fDB cRB lRB fRB
  clear hwq
  have cSB := HSB3.out.cell
  have lSB := HSB3.out.lt
  have fSB := HSB3.out.frozen
  have cAB := HAB3.out.cell
  have lAB := HAB3.out.lt
  have fAB := HAB3.out.frozen
  have cDB := HDB3.out.cell
  have lDB := HDB3.out.lt
  have fDB := HDB3.out.frozen
  have cRB := HRB3.out.cell
  have lRB := HRB3.out.lt
  have fRB := HRB3.out.frozen
  have HRT := Lib.hid (rightT sp dp seq ack fl wi sm ur VA n vc UA m uc n40 n4 m9 w3)
  go_wp2_with (show wpList _ _ _ ((⟨_, .load 48 (.tmp 3), _, _, _, none⟩ : Oper) :: _) _ _; refine wpList_load_mid rfl 48 (.tmp 3) rfl sb 0 rfl [.int .u16 sp, .int .u16 dp, .int .u32 seq, .int .u32 ack, .int .u8 fl, .int .u16 wi, .int .u16 sm, .int .u16 ur, .slice VA n vc, .slice UA m uc] _ HSB3.out.range Tryz.underlying48 rfl (by kernel_rfl) ?_)
  refine HRT.out.mono ?_
  rintro e w4 ⟨rfl, hk⟩
  have HK4 := Lib.hid (HK3.out.trans hk)
  have HS4 := Lib.hid (show Kept (fun _ => False) w3 w4 from hk)
  have HSB4 := Lib.hid (HSB3.out.kept hk (fun h => h))
  have HAB4 := Lib.hid (HAB3.out.kept hk (fun h => h))
  have HDB4 := Lib.hid (HDB3.out.kept hk (fun h => h))
  have HRB4 := Lib.hid (HRB3.out.kept hk (fun h => h))
  have HV4 := Lib.hid (Row.kept HV3.out hk (fun _ _ h => h))
  have HU4 := Lib.hid (Row.kept HU3.out hk (fun _ _ h => h))
  clear cSB lSB fSB cAB lAB fAB cDB lDB fDB cRB lRB fRB
  have cSB := HSB4.out.cell
  have lSB := HSB4.out.lt
  have fSB := HSB4.out.frozen
  have cAB := HAB4.out.cell
  have lAB := HAB4.out.lt
  have fAB := HAB4.out.frozen
  have cDB := HDB4.out.cell
  have lDB := HDB4.out.lt
  have fDB := HDB4.out.frozen
  have cRB := HRB4.out.cell
  have lRB := HRB4.out.lt
  have fRB := HRB4.out.frozen
  clear hk HRT
  go_upto_region 5 with fail
  generalize hwq : World.setCell _ _ _ = w5
  have HX5 := Lib.hid (show Kept (fun i => i = sb) w4 w5 by rw [← hwq]; exact Kept.setIn (S := fun i => i = sb) rfl (Kept.refl _ _))
  have HSB5 := Lib.hid (show Blk w5 sb 48 #[.int .u16 sp, .int .u16 dp, .int .u32 seq, .int .u32 ack, .int .u8 fl, .int .u16 wi, .int .u16 0, .int .u16 ur, .slice VA n vc, .slice UA m uc] by rw [← hwq]; exact HSB4.out.set_to rfl)
  have HAB5 := Lib.hid (HAB4.out.kept HX5.out (fun h => by have := HNE.out; omega))
  have HDB5 := Lib.hid (HDB4.out.kept HX5.out (fun h => by have := HNE.out; omega))
  have HRB5 := Lib.hid (HRB4.out.kept HX5.out (fun h => by have := HNE.out; omega))
  have HK5 := Lib.hid (HK4.out.then HX5.out (fun i hi e => by have := HNE.out; omega))
  have HV5 := Lib.hid (Row.kept HV4.out HX5.out (fun g hg e => by have := (HV2.out.lt g hg).1; have := HSB1.out.lt; have := HRB1.out.lt; omega))
  have HU5 := Lib.hid (Row.kept HU4.out HX5.out (fun g hg e => by have := (HU2.out.lt g hg).1; have := HSB1.out.lt; have := HRB1.out.lt; omega))
  clear cSB lSB fSB cAB lAB fAB cDB lDB fDB cRB lRB fRB
  clear hwq
  have cSB := HSB5.out.cell
  have lSB := HSB5.out.lt
  have fSB := HSB5.out.frozen
  have cAB := HAB5.out.cell
  have lAB := HAB5.out.lt
  have fAB := HAB5.out.frozen
  have cDB := HDB5.out.cell
  have lDB := HDB5.out.lt
  have fDB := HDB5.out.frozen
  have cRB := HRB5.out.cell
  have lRB := HRB5.out.lt
  have fRB := HRB5.out.frozen
  have HBY := Lib.hid (bytesT sp dp seq ack fl wi 0 ur VA n vc UA m uc os ls HNN.out HMM.out n40 n4 m9 HW0.out w5 HV5.out.byt_bs HU5.out.byt_bs)
  go_wp2_with (show wpList _ _ _ ((⟨_, .load 48 (.tmp 3), _, _, _, none⟩ : Oper) :: _) _ _; refine wpList_load_mid rfl 48 (.tmp 3) rfl sb 0 rfl [.int .u16 sp, .int .u16 dp, .int .u32 seq, .int .u32 ack, .int .u8 fl, .int .u16 wi, .int .u16 0, .int .u16 ur, .slice VA n vc, .slice UA m uc] _ HSB5.out.range Tryz.underlying48 rfl (by kernel_rfl) ?_)
  refine HBY.out.mono ?_
  rintro e w6 ⟨v, rfl, hb, hk⟩
  have hq : (⟨sp, dp, seq, ack, fl, wi, 0, ur, os, ls⟩ : Sg).bytes.length = 20 + n + m := by rw [Sg.bytes_len, Sg.size, HNN.out, HMM.out]
  obtain ⟨BA, bc, hve, -, -⟩ := hb.shape
  rw [bcs_length, hq] at hve
  subst hve
  have HQ := Lib.hid hq
  have HBB6 := Lib.hid hb
  have HK6 := Lib.hid (HK5.out.trans hk)
  have HS6 := Lib.hid (show Kept (fun _ => False) w5 w6 from hk)
  have HSB6 := Lib.hid (HSB5.out.kept hk (fun h => h))
  have HAB6 := Lib.hid (HAB5.out.kept hk (fun h => h))
  have HDB6 := Lib.hid (HDB5.out.kept hk (fun h => h))
  have HRB6 := Lib.hid (HRB5.out.kept hk (fun h => h))
  have HV6 := Lib.hid (Row.kept HV5.out hk (fun _ _ h => h))
  have HU6 := Lib.hid (Row.kept HU5.out hk (fun _ _ h => h))
  clear cSB lSB fSB cAB lAB fAB cDB lDB fDB cRB lRB fRB
  have cSB := HSB6.out.cell
  have lSB := HSB6.out.lt
  have fSB := HSB6.out.frozen
  have cAB := HAB6.out.cell
  have lAB := HAB6.out.lt
  have fAB := HAB6.out.frozen
  have cDB := HDB6.out.cell
  have lDB := HDB6.out.lt
  have fDB := HDB6.out.frozen
  have cRB := HRB6.out.cell
  have lRB := HRB6.out.lt
  have fRB := HRB6.out.frozen
  clear hk hb hq HBY
  have HPS := Lib.hid (pseudoT x y 6 (20 + (n : Int) + (m : Int)) x0 x1 y0 y1 (by omega) (by omega) (by omega) (by omega) w6)
  go_wp2_with (first | (show wpList _ _ _ ((⟨_, .load 26 (.tmp 4), _, _, _, none⟩ : Oper) :: _) _ _; refine wpList_load_mid rfl 26 (.tmp 4) rfl ab 0 rfl [.bool false, .int .u64 0, .int .u64 x] _ HAB6.out.range Tryz.underlying26 rfl (by kernel_rfl) ?_) | (show wpList _ _ _ ((⟨_, .load 26 (.tmp 5), _, _, _, none⟩ : Oper) :: _) _ _; refine wpList_load_mid rfl 26 (.tmp 5) rfl db 0 rfl [.bool false, .int .u64 0, .int .u64 y] _ HDB6.out.range Tryz.underlying26 rfl (by kernel_rfl) ?_))
  refine HPS.out.mono ?_
  rintro e w7 ⟨VP, vp, rfl, hp, hk⟩
  have HPP7 := Lib.hid hp
  have HBB7 := Lib.hid (Row.kept HBB6.out hk (fun _ _ h => h))
  have HK7 := Lib.hid (HK6.out.trans hk)
  have HS7 := Lib.hid (show Kept (fun _ => False) w6 w7 from hk)
  have HSB7 := Lib.hid (HSB6.out.kept hk (fun h => h))
  have HAB7 := Lib.hid (HAB6.out.kept hk (fun h => h))
  have HDB7 := Lib.hid (HDB6.out.kept hk (fun h => h))
  have HRB7 := Lib.hid (HRB6.out.kept hk (fun h => h))
  have HV7 := Lib.hid (Row.kept HV6.out hk (fun _ _ h => h))
  have HU7 := Lib.hid (Row.kept HU6.out hk (fun _ _ h => h))
  clear cSB lSB fSB cAB lAB fAB cDB lDB fDB cRB lRB fRB
  have cSB := HSB7.out.cell
  have lSB := HSB7.out.lt
  have fSB := HSB7.out.frozen
  have cAB := HAB7.out.cell
  have lAB := HAB7.out.lt
  have fAB := HAB7.out.frozen
  have cDB := HDB7.out.cell
  have lDB := HDB7.out.lt
  have fDB := HDB7.out.frozen
  have cRB := HRB7.out.cell
  have lRB := HRB7.out.lt
  have fRB := HRB7.out.frozen
  clear hk hp HPS HBB6
  go_wp2_with fail
  refine (of2_any w7.heap.size vp bc 2 (w7.heap.size + 1) 12 (20 + n + m) VP BA (pseudo x y 6 (20 + (n : Int) + (m : Int))) (⟨sp, dp, seq, ack, fl, wi, 0, ur, os, ls⟩ : Sg).bytes 6 (pseudo_len _ _ _ _) (pseudo_len _ _ _ _) HQ.out _ (by rw [pseudo_len]; omega) (by rw [HQ.out]; omega) ?p1 ?p2 ?p3 ?p4).mono ?_
  case p1 => exact (Blk.new _ _ _).cell 0
  case p2 => exact (Blk.new _ _ _).cell 1
  case p3 => exact (HPP7.out.byt_bs.alloc (Nat.le_refl _) _).more (Nat.le_succ _)
  case p4 => exact (HBB7.out.byt_bs.alloc (Nat.le_refl _) _).more (Nat.le_succ _)
  rintro e w8 ⟨rfl, hw⟩
  have hk : Kept (fun _ => False) w7 w8 := by rw [← hw]; exact (Kept.refl _ _).alloc _
  have HK8 := Lib.hid (HK7.out.trans hk)
  have HS8 := Lib.hid (show Kept (fun _ => False) w7 w8 from hk)
  have HSB8 := Lib.hid (HSB7.out.kept hk (fun h => h))
  have HAB8 := Lib.hid (HAB7.out.kept hk (fun h => h))
  have HDB8 := Lib.hid (HDB7.out.kept hk (fun h => h))
  have HRB8 := Lib.hid (HRB7.out.kept hk (fun h => h))
  have HV8 := Lib.hid (Row.kept HV7.out hk (fun _ _ h => h))
  have HU8 := Lib.hid (Row.kept HU7.out hk (fun _ _ h => h))
  clear cSB lSB fSB cAB lAB fAB cDB lDB fDB cRB lRB fRB
  have cSB := HSB8.out.cell
  have lSB := HSB8.out.lt
  have fSB := HSB8.out.frozen
  have cAB := HAB8.out.cell
  have lAB := HAB8.out.lt
  have fAB := HAB8.out.frozen
  have cDB := HDB8.out.cell
  have lDB := HDB8.out.lt
  have fDB := HDB8.out.frozen
  have cRB := HRB8.out.cell
  have lRB := HRB8.out.lt
  have fRB := HRB8.out.frozen
  clear hk hw
  obtain ⟨r, hr⟩ : ∃ r, 65535 - norm (total true (pseudo x y 6 (20 + (n : Int) + (m : Int)) ++ (⟨sp, dp, seq, ack, fl, wi, 0, ur, os, ls⟩ : Sg).bytes)) = r := ⟨_, rfl⟩
  have HCE := Lib.hid (show (⟨sp, dp, seq, ack, fl, wi, sm, ur, os, ls⟩ : Sg).ck x y = r by
    rw [← hr]
    unfold Sg.ck Sg.size
    simp only [HNN.out, HMM.out, Int.natCast_add]
    rfl)
  have hr0 : 0 ≤ r := by rw [← HCE.out]; exact HCKR.out.1
  have hr1 : r ≤ 65535 := by rw [← HCE.out]; exact HCKR.out.2
  rw [hr]
  clear hr
  go_upto_region 7 with fail
  generalize hwq : World.setCell _ _ _ = w9
  have HX9 := Lib.hid (show Kept (fun i => i = sb) w8 w9 by rw [← hwq]; exact Kept.setIn (S := fun i => i = sb) rfl (Kept.refl _ _))
  have HSB9 := Lib.hid (show Blk w9 sb 48 #[.int .u16 sp, .int .u16 dp, .int .u32 seq, .int .u32 ack, .int .u8 fl, .int .u16 wi, .int .u16 r, .int .u16 ur, .slice VA n vc, .slice UA m uc] by rw [← hwq]; exact HSB8.out.set_to rfl)
  have HAB9 := Lib.hid (HAB8.out.kept HX9.out (fun h => by have := HNE.out; omega))
  have HDB9 := Lib.hid (HDB8.out.kept HX9.out (fun h => by have := HNE.out; omega))
  have HRB9 := Lib.hid (HRB8.out.kept HX9.out (fun h => by have := HNE.out; omega))
  have HK9 := Lib.hid (HK8.out.then HX9.out (fun i hi e => by have := HNE.out; omega))
  have HV9 := Lib.hid (Row.kept HV8.out HX9.out (fun g hg e => by have := (HV2.out.lt g hg).1; have := HSB1.out.lt; have := HRB1.out.lt; omega))
  have HU9 := Lib.hid (Row.kept HU8.out HX9.out (fun g hg e => by have := (HU2.out.lt g hg).1; have := HSB1.out.lt; have := HRB1.out.lt; omega))
  clear cSB lSB fSB cAB lAB fAB cDB lDB fDB cRB lRB fRB
  clear hwq
  have cSB := HSB9.out.cell
  have lSB := HSB9.out.lt
  have fSB := HSB9.out.frozen
  have cAB := HAB9.out.cell
  have lAB := HAB9.out.lt
  have fAB := HAB9.out.frozen
  have cDB := HDB9.out.cell
  have lDB := HDB9.out.lt
  have fDB := HDB9.out.frozen
  have cRB := HRB9.out.cell
  have lRB := HRB9.out.lt
  have fRB := HRB9.out.frozen
  go_wp2_with (first | (show wpList _ _ _ ((⟨_, .load 48 (.tmp 3), _, _, _, none⟩ : Oper) :: _) _ _; refine wpList_load_mid rfl 48 (.tmp 3) rfl sb 0 rfl [.int .u16 sp, .int .u16 dp, .int .u32 seq, .int .u32 ack, .int .u8 fl, .int .u16 wi, .int .u16 r, .int .u16 ur, .slice VA n vc, .slice UA m uc] _ HSB9.out.range Tryz.underlying48 rfl (by kernel_rfl) ?_) | (show wpList _ _ _ ((⟨none, .store 48 (.tmp 6) _, _, _, _, none⟩ : Oper) :: _) _ _; refine wpList_store_mid rfl 48 (.tmp 6) _ rfl rb 0 #[.int .u16 sp, .int .u16 dp, .int .u32 seq, .int .u32 ack, .int .u8 fl, .int .u16 wi, .int .u16 r, .int .u16 ur, .slice VA n vc, .slice UA m uc] rfl rfl (HRB9.out.there rfl) (by kernel_rfl) (by simp [Value.oneCell']) ?_))
  generalize hwq : World.setCells _ _ _ _ = w10
  have HX10 := Lib.hid (show Kept (fun i => i = rb) w9 w10 by rw [← hwq]; exact Kept.setCells (S := fun i => i = rb) rfl _ _ (Kept.refl _ _))
  have HSB10 := Lib.hid (HSB9.out.kept HX10.out (fun h => by have := HNE.out; omega))
  have HAB10 := Lib.hid (HAB9.out.kept HX10.out (fun h => by have := HNE.out; omega))
  have HDB10 := Lib.hid (HDB9.out.kept HX10.out (fun h => by have := HNE.out; omega))
  have HRB10 := Lib.hid (show Blk w10 rb 48 #[.int .u16 sp, .int .u16 dp, .int .u32 seq, .int .u32 ack, .int .u8 fl, .int .u16 wi, .int .u16 r, .int .u16 ur, .slice VA n vc, .slice UA m uc] by rw [← hwq]; exact HRB9.out.setAll #[.int .u16 sp, .int .u16 dp, .int .u32 seq, .int .u32 ack, .int .u8 fl, .int .u16 wi, .int .u16 r, .int .u16 ur, .slice VA n vc, .slice UA m uc] rfl)
  have HK10 := Lib.hid (HK9.out.then HX10.out (fun i hi e => by have := HNE.out; omega))
  have HV10 := Lib.hid (Row.kept HV9.out HX10.out (fun g hg e => by have := (HV2.out.lt g hg).1; have := HSB1.out.lt; have := HRB1.out.lt; omega))
  have HU10 := Lib.hid (Row.kept HU9.out HX10.out (fun g hg e => by have := (HU2.out.lt g hg).1; have := HSB1.out.lt; have := HRB1.out.lt; omega))
  clear cSB lSB fSB cAB lAB fAB cDB lDB fDB cRB lRB fRB
  clear hwq
  have cSB := HSB10.out.cell
  have lSB := HSB10.out.lt
  have fSB := HSB10.out.frozen
  have cAB := HAB10.out.cell
  have lAB := HAB10.out.lt
  have fAB := HAB10.out.frozen
  have cDB := HDB10.out.cell
  have lDB := HDB10.out.lt
  have fDB := HDB10.out.frozen
  have cRB := HRB10.out.cell
  have lRB := HRB10.out.lt
  have fRB := HRB10.out.frozen
  refine bodyPost_ret (results_blk1 (P := Tryz.prog) (show Tryz.f25.results = _ from rfl) _ _ rb 48 #[.int .u16 sp, .int .u16 dp, .int .u32 seq, .int .u32 ack, .int .u8 fl, .int .u16 wi, .int .u16 r, .int .u16 ur, .slice VA n vc, .slice UA m uc] _ rfl HRB10.out Tryz.underlying48 rfl (by kernel_rfl)) rfl ⟨VA, vc, UA, uc, ?_, HV10.out.more HK1.out.size, HU10.out.more HK1.out.size, HK10.out⟩
  rw [HCE.out]
set_option maxRecDepth 100000 in
set_option maxHeartbeats 8000000 in
theorem fineT (BA : Option Addr) (q bc : Nat) (B : List UInt8) (hq : B.length = q) (hq9 : q ≤ 10000) (x y : Int) (x0 : 0 ≤ x) (x1 : x ≤ 4294967295) (y0 : 0 ≤ y) (y1 : y ≤ 4294967295) (hz : 65535 - norm (total true (pseudo x y 6 (q : Int) ++ B)) = 0) (w : World) (hB : BS w w.heap.size BA B) :
    Calls Tryz.prog 135 #[.slice BA q bc, .agg #[.bool false, .int .u64 0, .int .u64 x], .agg #[.bool false, .int .u64 0, .int .u64 y]] w fun e w' => e = .returned (.bool true) ∧ Kept (fun _ => False) w w' := by
  have HBS := Lib.hid hB
  have HQ := Lib.hid hq
  have HZ := Lib.hid hz
  have g1 : decide ((q : Int) ≤ 65535) = true := decide_eq_true (by omega)
  have g1' : decide (q ≤ 65535) = true := decide_eq_true (by omega)
  have q0 : (0 : Int) ≤ (q : Int) := Int.natCast_nonneg _
  clear hB hq hz
  go_enter Tryz.func135, Tryz.ntmps135
  go_upto_region 1 with fail
  obtain ⟨w1, hw1⟩ : ∃ w1 : World, w1 = ((w.alloc (.cells #[.bool false, .int .u64 0, .int .u64 x] 26)).alloc (.cells #[.bool false, .int .u64 0, .int .u64 y] 26)) := ⟨_, rfl⟩
  have HAB1 := Lib.hid (show Blk w1 w.heap.size 26 #[.bool false, .int .u64 0, .int .u64 x] by rw [hw1]; exact (Blk.new _ _ _).alloc _)
  have HDB1 := Lib.hid (show Blk w1 (w.heap.size + 1) 26 #[.bool false, .int .u64 0, .int .u64 y] by rw [hw1]; exact Blk.new_ (by simp) _ _)
  have HK1 := Lib.hid (show Kept (fun _ => False) w w1 by rw [hw1]; exact ((Kept.refl _ _).alloc _).alloc _)
  rw [← hw1]
  clear hw1
  obtain ⟨db, hdb⟩ : ∃ db, w.heap.size + 1 = db := ⟨_, rfl⟩
  rw [hdb] at HDB1
  (try rw [hdb])
  obtain ⟨ab, hab⟩ : ∃ ab, w.heap.size = ab := ⟨_, rfl⟩
  rw [hab] at HAB1
  (try rw [hab])
  have HNE := Lib.hid (show ab = w.heap.size + 0 ∧ db = w.heap.size + 1 ∧ True from ⟨by omega, by omega, trivial⟩)
  clear hab hdb
  have cAB := HAB1.out.cell
  have lAB := HAB1.out.lt
  have fAB := HAB1.out.frozen
  have cDB := HDB1.out.cell
  have lDB := HDB1.out.lt
  have fDB := HDB1.out.frozen
  have HPS := Lib.hid (pseudoT x y 6 (q : Int) x0 x1 y0 y1 (by omega) (by omega) (by omega) (by omega) w1)
  go_wp2_with (first | (show wpList _ _ _ ((⟨_, .load 26 (.tmp 4), _, _, _, some _⟩ : Oper) :: _) _ _; refine wpList_load_g rfl 26 (.tmp 4) rfl ab 0 rfl [.bool false, .int .u64 0, .int .u64 x] _ HAB1.out.range Tryz.underlying26 rfl (by kernel_rfl) ?_) | (show wpList _ _ _ ((⟨_, .load 26 (.tmp 5), _, _, _, some _⟩ : Oper) :: _) _ _; refine wpList_load_g rfl 26 (.tmp 5) rfl db 0 rfl [.bool false, .int .u64 0, .int .u64 y] _ HDB1.out.range Tryz.underlying26 rfl (by kernel_rfl) ?_))
  refine HPS.out.mono ?_
  rintro e w2 ⟨VP, vp, rfl, hp, hk⟩
  have HPP := Lib.hid hp
  have HK2 := Lib.hid (HK1.out.trans hk)
  have HS2 := Lib.hid (show Kept (fun _ => False) w1 w2 from hk)
  have HAB2 := Lib.hid (HAB1.out.kept hk (fun h => h))
  have HDB2 := Lib.hid (HDB1.out.kept hk (fun h => h))
  clear cAB lAB fAB cDB lDB fDB
  have cAB := HAB2.out.cell
  have lAB := HAB2.out.lt
  have fAB := HAB2.out.frozen
  have cDB := HDB2.out.cell
  have lDB := HDB2.out.lt
  have fDB := HDB2.out.frozen
  clear hk hp HPS
  have HB2 := Lib.hid (HBS.out.on HK2.out (fun _ _ h => h))
  go_wp2_with fail
  refine (right2_yes w2.heap.size vp bc 2 (w2.heap.size + 1) 12 q VP BA (pseudo x y 6 (q : Int)) B 6 (pseudo_len _ _ _ _) (pseudo_len _ _ _ _) HQ.out _ (by rw [pseudo_len]; omega) (by rw [HQ.out]; omega) ?p1 ?p2 ?p3 ?p4 HZ.out).mono ?_
  case p1 => exact (Blk.new _ _ _).cell 0
  case p2 => exact (Blk.new _ _ _).cell 1
  case p3 => exact (HPP.out.byt_bs.alloc (Nat.le_refl _) _).more (Nat.le_succ _)
  case p4 => exact (HB2.out.alloc (Nat.le_refl _) _).more (Nat.le_succ _)
  rintro e w3 ⟨rfl, hw⟩
  have hk : Kept (fun _ => False) w2 w3 := by rw [← hw]; exact (Kept.refl _ _).alloc _
  have HK3 := Lib.hid (HK2.out.trans hk)
  have HS3 := Lib.hid (show Kept (fun _ => False) w2 w3 from hk)
  have HAB3 := Lib.hid (HAB2.out.kept hk (fun h => h))
  have HDB3 := Lib.hid (HDB2.out.kept hk (fun h => h))
  clear cAB lAB fAB cDB lDB fDB
  have cAB := HAB3.out.cell
  have lAB := HAB3.out.lt
  have fAB := HAB3.out.frozen
  have cDB := HDB3.out.cell
  have lDB := HDB3.out.lt
  have fDB := HDB3.out.frozen
  clear hk hw
  go_wp2_with fail
  go_ret
  exact ⟨rfl, HK3.out⟩
end Go.Proofs.YtdnbhmfofphblaaGreatDoor
