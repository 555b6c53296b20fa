/- Packets as a file has them, or not; the chapter's example. -/
import Derived.Test.YtohimionlgaaoaaB
namespace Go.Proofs.Ytohimionlgaaoaa
open Go.RowKit
set_option linter.unusedVariables false
def limI (na : Bool) : Int := if na then 1000000000 else 1000000
def rightB (na : Bool) (mo pa pl : Int) (n : Nat) : Bool := decide (pa < limI na) && decide ((n : Int) ≤ mo) && decide ((n : Int) ≤ pl)
theorem bel_two {w : World} {o o' : Obj} : Below w.heap.size w ((w.alloc o).alloc o') := ((Below.refl _ _).alloc (Nat.le_refl _) _).alloc (by simp) _
set_option maxHeartbeats 2000000 in
theorem right_any (sm na : Bool) (mo li se pa pl : Int) (DA : Option Addr) (dc : Nat) (dl : List UInt8) (w : World) (hmo : 0 ≤ mo ∧ mo ≤ 4294967295) (hli : 0 ≤ li ∧ li ≤ 4294967295) (hse : 0 ≤ se ∧ se ≤ 4294967295) (hpa : 0 ≤ pa ∧ pa ≤ 4294967295) (hpl : 0 ≤ pl ∧ pl ≤ 4294967295) (hdl : dl.length ≤ 2000) :
    Calls Try.prog 10 #[.agg #[.bool sm, .bool na, .int .u32 mo, .int .u32 li], .agg #[.int .u32 se, .int .u32 pa, .int .u32 pl, .slice DA dl.length dc]] w fun e w' => e = .returned (.bool (rightB na mo pa pl dl.length)) ∧ Below w.heap.size w w' := by
  obtain ⟨mo0, mo1⟩ := hmo
  obtain ⟨pa0, pa1⟩ := hpa
  obtain ⟨pl0, pl1⟩ := hpl
  clear hli hse
  cases na with
  | true =>
    by_cases h1 : pa < 1000000000
    · by_cases h2 : (dl.length : Int) ≤ mo
      · by_cases h3 : (dl.length : Int) ≤ pl
        · go_enter Try.func10, Try.ntmps10
          go_wp2_with fail
          go_ret
          exact ⟨ret_bool (by simp [rightB, limI, h1, h2, h3]), bel_two⟩
        · have d3 : decide ((dl.length : Int) ≤ pl) = false := decide_eq_false h3
          go_enter Try.func10, Try.ntmps10
          go_wp2_with fail
          go_ret
          exact ⟨ret_bool (by simp [rightB, limI, h1, h2, d3]), bel_two⟩
      · have d2 : decide ((dl.length : Int) ≤ mo) = false := decide_eq_false h2
        go_enter Try.func10, Try.ntmps10
        go_wp2_with fail
        go_ret
        exact ⟨ret_bool (by simp [rightB, limI, h1, d2]), bel_two⟩
    · have d1 : decide (pa < 1000000000) = false := decide_eq_false h1
      go_enter Try.func10, Try.ntmps10
      go_wp2_with fail
      go_ret
      exact ⟨ret_bool (by simp [rightB, limI, d1]), bel_two⟩
  | false =>
    by_cases h1 : pa < 1000000
    · by_cases h2 : (dl.length : Int) ≤ mo
      · by_cases h3 : (dl.length : Int) ≤ pl
        · go_enter Try.func10, Try.ntmps10
          go_wp2_with fail
          go_ret
          exact ⟨ret_bool (by simp [rightB, limI, h1, h2, h3]), bel_two⟩
        · have d3 : decide ((dl.length : Int) ≤ pl) = false := decide_eq_false h3
          go_enter Try.func10, Try.ntmps10
          go_wp2_with fail
          go_ret
          exact ⟨ret_bool (by simp [rightB, limI, h1, h2, d3]), bel_two⟩
      · have d2 : decide ((dl.length : Int) ≤ mo) = false := decide_eq_false h2
        go_enter Try.func10, Try.ntmps10
        go_wp2_with fail
        go_ret
        exact ⟨ret_bool (by simp [rightB, limI, h1, d2]), bel_two⟩
    · have d1 : decide (pa < 1000000) = false := decide_eq_false h1
      go_enter Try.func10, Try.ntmps10
      go_wp2_with fail
      go_ret
      exact ⟨ret_bool (by simp [rightB, limI, d1]), bel_two⟩
set_option maxHeartbeats 2000000 in
theorem refRight_any (sm na : Bool) (mo li se pa pl : Int) (DA : Option Addr) (dc : Nat) (dl : List UInt8) (w : World) (hmo : 0 ≤ mo ∧ mo ≤ 4294967295) (hli : 0 ≤ li ∧ li ≤ 4294967295) (hse : 0 ≤ se ∧ se ≤ 4294967295) (hpa : 0 ≤ pa ∧ pa ≤ 4294967295) (hpl : 0 ≤ pl ∧ pl ≤ 4294967295) (hdl : dl.length ≤ 2000) :
    Calls Try.prog 12 #[.agg #[.bool sm, .bool na, .int .u32 mo, .int .u32 li], .agg #[.int .u32 se, .int .u32 pa, .int .u32 pl, .slice DA dl.length dc]] w fun e w' => e = .returned (.bool (rightB na mo pa pl dl.length)) ∧ Below w.heap.size w w' := by
  obtain ⟨mo0, mo1⟩ := hmo
  obtain ⟨pa0, pa1⟩ := hpa
  obtain ⟨pl0, pl1⟩ := hpl
  clear hli hse
  cases na with
  | true =>
    by_cases h1 : pa < 1000000000
    · by_cases h2 : (dl.length : Int) ≤ mo
      · by_cases h3 : (dl.length : Int) ≤ pl
        · go_enter Try.func12, Try.ntmps12
          go_wp2_with fail
          go_ret
          exact ⟨ret_bool (by simp [rightB, limI, h1, h2, h3]), bel_two⟩
        · have d3 : decide ((dl.length : Int) ≤ pl) = false := decide_eq_false h3
          go_enter Try.func12, Try.ntmps12
          go_wp2_with fail
          go_ret
          exact ⟨ret_bool (by simp [rightB, limI, h1, h2, d3]), bel_two⟩
      · have d2 : decide ((dl.length : Int) ≤ mo) = false := decide_eq_false h2
        go_enter Try.func12, Try.ntmps12
        go_wp2_with fail
        go_ret
        exact ⟨ret_bool (by simp [rightB, limI, h1, d2]), bel_two⟩
    · have d1 : decide (pa < 1000000000) = false := decide_eq_false h1
      go_enter Try.func12, Try.ntmps12
      go_wp2_with fail
      go_ret
      exact ⟨ret_bool (by simp [rightB, limI, d1]), bel_two⟩
  | false =>
    by_cases h1 : pa < 1000000
    · by_cases h2 : (dl.length : Int) ≤ mo
      · by_cases h3 : (dl.length : Int) ≤ pl
        · go_enter Try.func12, Try.ntmps12
          go_wp2_with fail
          go_ret
          exact ⟨ret_bool (by simp [rightB, limI, h1, h2, h3]), bel_two⟩
        · have d3 : decide ((dl.length : Int) ≤ pl) = false := decide_eq_false h3
          go_enter Try.func12, Try.ntmps12
          go_wp2_with fail
          go_ret
          exact ⟨ret_bool (by simp [rightB, limI, h1, h2, d3]), bel_two⟩
      · have d2 : decide ((dl.length : Int) ≤ mo) = false := decide_eq_false h2
        go_enter Try.func12, Try.ntmps12
        go_wp2_with fail
        go_ret
        exact ⟨ret_bool (by simp [rightB, limI, h1, d2]), bel_two⟩
    · have d1 : decide (pa < 1000000) = false := decide_eq_false h1
      go_enter Try.func12, Try.ntmps12
      go_wp2_with fail
      go_ret
      exact ⟨ret_bool (by simp [rightB, limI, d1]), bel_two⟩
theorem to_any (sm na : Bool) (mo li : Int) (w : World) : Calls Try.prog 7 #[.agg #[.bool sm, .bool na, .int .u32 mo, .int .u32 li]] w fun e w' => e = .returned (.agg #[.bool sm, .bool na, .int .u32 mo, .int .u32 li]) ∧ Below w.heap.size w w' := by
  go_enter Try.func7, Try.ntmps7
  go_wp2_with fail
  refine bodyPost_ret (results_blk1 (P := Try.prog) Try.results7 _ _ (w.heap.size + 1) 29 #[.bool sm, .bool na, .int .u32 mo, .int .u32 li] _ rfl ?_ Try.underlying29 rfl (by kernel_rfl)) rfl ⟨rfl, ?_⟩
  · go_light
    exact Blk.new_ (by simp) _ _
  · go_light
    exact bel_two
theorem packet_any (se pa pl : Int) (DA : Option Addr) (dc : Nat) (dl : List UInt8) (w : World) : Calls Try.prog 11 #[.agg #[.int .u32 se, .int .u32 pa, .int .u32 pl, .slice DA dl.length dc]] w fun e w' => e = .returned (.agg #[.int .u32 se, .int .u32 pa, .int .u32 pl, .slice DA dl.length dc]) ∧ Below w.heap.size w w' := by
  go_enter Try.func11, Try.ntmps11
  go_wp2_with fail
  refine bodyPost_ret (results_blk1 (P := Try.prog) Try.results11 _ _ (w.heap.size + 1) 34 #[.int .u32 se, .int .u32 pa, .int .u32 pl, .slice DA dl.length dc] _ rfl ?_ Try.underlying34 rfl (by kernel_rfl)) rfl ⟨rfl, ?_⟩
  · go_light
    exact Blk.new_ (by simp) _ _
  · go_light
    exact bel_two
set_option maxRecDepth 100000 in
set_option maxHeartbeats 4000000 in
theorem write_any (sm na : Bool) (mo li se pa pl : Int) (DA : Option Addr) (dc : Nat) (dl : List UInt8) (w : World) (hmo : 0 ≤ mo ∧ mo ≤ 4294967295) (hli : 0 ≤ li ∧ li ≤ 4294967295) (hse : 0 ≤ se ∧ se ≤ 4294967295) (hpa : 0 ≤ pa ∧ pa ≤ 4294967295) (hpl : 0 ≤ pl ∧ pl ≤ 4294967295) (hdl : dl.length ≤ 2000) (hdc : dl.length ≤ dc) (hdm : dc ≤ maxLen) (hD : BS w w.heap.size DA dl) (hrt : rightB na mo pa pl dl.length = true) :
    Calls Try.prog 13 #[.agg #[.bool sm, .bool na, .int .u32 mo, .int .u32 li], .agg #[.int .u32 se, .int .u32 pa, .int .u32 pl, .slice DA dl.length dc]] w fun e w' => ∃ v, e = .returned v ∧ Byt w' v (writeLs sm se pa dl pl).flatten ∧ Below w.heap.size w w' := by
  have HRT := Lib.hid (fun u => right_any sm na mo li se pa pl DA dc dl u hmo hli hse hpa hpl hdl)
  rw [hrt] at HRT
  clear hrt
  obtain ⟨mo0, mo1⟩ := hmo
  obtain ⟨se0, se1⟩ := hse
  obtain ⟨pa0, pa1⟩ := hpa
  obtain ⟨pl0, pl1⟩ := hpl
  have HD := Lib.hid (show Byt w (.slice DA dl.length dc) dl from ⟨DA, dc, rfl, hdc, hdm, hD⟩)
  have HLS := Lib.hid (writeLs_ok sm se pa dl pl hdl)
  have HFL := Lib.hid (writeLs_len sm se pa dl pl hdl)
  clear hD hdc hdm hli
  go_enter Try.func13, Try.ntmps13
  go_wp2_with fail
  obtain ⟨w0, hw0⟩ : ∃ w0 : World, w0 = (w.alloc (.cells #[.bool sm, .bool na, .int .u32 mo, .int .u32 li] 29)).alloc (.cells #[.int .u32 se, .int .u32 pa, .int .u32 pl, .slice DA dl.length dc] 34) := ⟨_, rfl⟩
  have HF0 := Lib.hid (show Blk w0 w.heap.size 29 #[.bool sm, .bool na, .int .u32 mo, .int .u32 li] by rw [hw0]; exact (Blk.new _ _ _).alloc _)
  have HP0 := Lib.hid (show Blk w0 (w.heap.size + 1) 34 #[.int .u32 se, .int .u32 pa, .int .u32 pl, .slice DA dl.length dc] by rw [hw0]; exact Blk.new_ (by simp) _ _)
  have HW0 := Lib.hid (show Below w.heap.size w w0 by rw [hw0]; exact bel_two)
  rw [← hw0]
  clear hw0
  refine (HRT.out w0).mono ?_
  rintro e w1 ⟨rfl, hb1⟩
  have HF := Lib.hid (HF0.out.below hb1 HF0.out.lt)
  have HP := Lib.hid (HP0.out.below hb1 HP0.out.lt)
  have HW := Lib.hid (kept_of HW0.out hb1)
  clear hb1 HF0 HP0 HW0 HRT
  go_upto_region 3 with fail
  obtain ⟨pb, hpb⟩ : ∃ pb, w.heap.size + 1 = pb := ⟨_, rfl⟩
  rw [hpb] at HP ⊢
  obtain ⟨fb, hfb⟩ : ∃ fb, w.heap.size = fb := ⟨_, rfl⟩
  rw [hfb] at HF ⊢
  clear hfb hpb
  have HDB := Lib.hid (HD.out.onB HW.out)
  have f0 := HF.out.cell 0
  have f1 := HF.out.cell 1
  have f2 := HF.out.cell 2
  have f3 := HF.out.cell 3
  have g0 := HP.out.cell 0
  have g1 := HP.out.cell 1
  have g2 := HP.out.cell 2
  have g3 := HP.out.cell 3
  simp at f0 f1 f2 f3 g0 g1 g2 g3
  have fl := HF.out.lt
  have pbl := HP.out.lt
  have cv1 : IntKind.u64.wrap se = se := IntWalk.u64_in _ (by omega)
  have cv2 : IntKind.u64.wrap pa = pa := IntWalk.u64_in _ (by omega)
  have cv3 : IntKind.u64.wrap pl = pl := IntWalk.u64_in _ (by omega)
  have cv4 : IntKind.u64.wrap (dl.length : Int) = (dl.length : Int) := IntWalk.u64_in _ (by omega)
  refine wp_region_kept 25 [(4, fun v u => Byt u v (numL sm 4 se)), (9, fun v u => Byt u v (numL sm 4 pa)), (15, fun v u => Byt u v (numL sm 4 (dl.length : Int))), (20, fun v u => Byt u v (numL sm 4 pl)), (23, fun v u => BysN 5 u v (writeLs sm se pa dl pl)), (24, fun v u => Byt u v ((writeLs sm se pa dl pl)).flatten)] ?st ?ne rfl (by kernel_rfl) (by kernel_rfl) ?_
  case st =>
    intro p hp
    simp only [List.mem_cons, List.not_mem_nil, or_false] at hp
    rcases hp with rfl | rfl | rfl | rfl | rfl | rfl
    · intro v u u' h hk; exact h.on0 hk
    · intro v u u' h hk; exact h.on0 hk
    · intro v u u' h hk; exact h.on0 hk
    · intro v u u' h hk; exact h.on0 hk
    · intro v u u' h hk; exact h.on0 hk
    · intro v u u' h hk; exact h.on0 hk
  case ne =>
    intro p hp
    simp only [List.mem_cons, List.not_mem_nil, or_false] at hp
    rcases hp with rfl | rfl | rfl | rfl | rfl | rfl
    · exact Byt.some _ _ (by rw [numL_len]; unfold maxLen; omega)
    · exact Byt.some _ _ (by rw [numL_len]; unfold maxLen; omega)
    · exact Byt.some _ _ (by rw [numL_len]; unfold maxLen; omega)
    · exact Byt.some _ _ (by rw [numL_len]; unfold maxLen; omega)
    · exact BysN.some _ _ _ rfl HLS.out
    · exact Byt.some _ _ (by have := HFL.out; unfold maxLen; omega)
  simp only [List.take_succ_cons, List.take_zero, List.drop_succ_cons, List.drop_zero]
  intro G pick hR hp1 hp2
  have p0 : ∀ u, (pick u).cell? ⟨fb, 0, none⟩ = some (.bool sm) := fun u => ((hp1 u).cell fl (fun h => h) _).trans f0
  have p1 : ∀ u, (pick u).cell? ⟨fb, 1, none⟩ = some (.bool na) := fun u => ((hp1 u).cell fl (fun h => h) _).trans f1
  have p2 : ∀ u, (pick u).cell? ⟨fb, 2, none⟩ = some (.int .u32 mo) := fun u => ((hp1 u).cell fl (fun h => h) _).trans f2
  have p3 : ∀ u, (pick u).cell? ⟨fb, 3, none⟩ = some (.int .u32 li) := fun u => ((hp1 u).cell fl (fun h => h) _).trans f3
  have q0 : ∀ u, (pick u).cell? ⟨pb, 0, none⟩ = some (.int .u32 se) := fun u => ((hp1 u).cell pbl (fun h => h) _).trans g0
  have q1 : ∀ u, (pick u).cell? ⟨pb, 1, none⟩ = some (.int .u32 pa) := fun u => ((hp1 u).cell pbl (fun h => h) _).trans g1
  have q2 : ∀ u, (pick u).cell? ⟨pb, 2, none⟩ = some (.int .u32 pl) := fun u => ((hp1 u).cell pbl (fun h => h) _).trans g2
  have q3 : ∀ u, (pick u).cell? ⟨pb, 3, none⟩ = some (.slice DA dl.length dc) := fun u => ((hp1 u).cell pbl (fun h => h) _).trans g3
  repeat (first | (refine wpR_det hp2 rfl ((hR.rel _).trans rfl) rfl ?_; intro K hK; go_big_quiet_op; go_big_quiet_on) | (refine wpR_ptr hp2 rfl ((hR.rel _).trans rfl) rfl rfl ?_; intro K hK; go_big_quiet_op; go_big_quiet_on) | (refine wpR_skip pick rfl ?_; intro K hK; go_big_quiet_op; go_big_quiet_on))
  refine wpR_rel pick rfl ((hR.rel _).trans rfl) ((hR.turns _).trans rfl) ?_ ?_
  · intro u hu
    have hk := hR.since hu.1
    have hks := hk.size
    have hz := num_any sm na mo li 4 se u (by omega) (by omega) (by omega) (by omega)
    unfold relAt
    go_simp
    refine hz.mono ?_
    rintro e w' ⟨v, rfl, hT, hb'⟩
    exact ⟨_, rfl, hR.intoB hb', hR.put 0 rfl rfl hT⟩
  intro v hv
  obtain ⟨u, _, hu⟩ := hv
  obtain ⟨A4, c4, rfl, -, -, -⟩ := hR.get 0 rfl hu
  clear hu
  rw [numL_len]
  intro K hK
  go_big_quiet_op
  go_big_quiet_on
  repeat (first | (refine wpR_det hp2 rfl ((hR.rel _).trans rfl) rfl ?_; intro K hK; go_big_quiet_op; go_big_quiet_on) | (refine wpR_ptr hp2 rfl ((hR.rel _).trans rfl) rfl rfl ?_; intro K hK; go_big_quiet_op; go_big_quiet_on) | (refine wpR_skip pick rfl ?_; intro K hK; go_big_quiet_op; go_big_quiet_on))
  refine wpR_rel pick rfl ((hR.rel _).trans rfl) ((hR.turns _).trans rfl) ?_ ?_
  · intro u hu
    have hk := hR.since hu.1
    have hks := hk.size
    have hz := num_any sm na mo li 4 pa u (by omega) (by omega) (by omega) (by omega)
    unfold relAt
    go_simp
    refine hz.mono ?_
    rintro e w' ⟨v, rfl, hT, hb'⟩
    exact ⟨_, rfl, hR.intoB hb', hR.put 1 rfl rfl hT⟩
  intro v hv
  obtain ⟨u, _, hu⟩ := hv
  obtain ⟨A9, c9, rfl, -, -, -⟩ := hR.get 1 rfl hu
  clear hu
  rw [numL_len]
  intro K hK
  go_big_quiet_op
  go_big_quiet_on
  repeat (first | (refine wpR_det hp2 rfl ((hR.rel _).trans rfl) rfl ?_; intro K hK; go_big_quiet_op; go_big_quiet_on) | (refine wpR_ptr hp2 rfl ((hR.rel _).trans rfl) rfl rfl ?_; intro K hK; go_big_quiet_op; go_big_quiet_on) | (refine wpR_skip pick rfl ?_; intro K hK; go_big_quiet_op; go_big_quiet_on))
  refine wpR_rel pick rfl ((hR.rel _).trans rfl) ((hR.turns _).trans rfl) ?_ ?_
  · intro u hu
    have hk := hR.since hu.1
    have hks := hk.size
    have hz := num_any sm na mo li 4 (dl.length : Int) u (by omega) (by omega) (by omega) (by omega)
    unfold relAt
    go_simp
    refine hz.mono ?_
    rintro e w' ⟨v, rfl, hT, hb'⟩
    exact ⟨_, rfl, hR.intoB hb', hR.put 2 rfl rfl hT⟩
  intro v hv
  obtain ⟨u, _, hu⟩ := hv
  obtain ⟨A15, c15, rfl, -, -, -⟩ := hR.get 2 rfl hu
  clear hu
  rw [numL_len]
  intro K hK
  go_big_quiet_op
  go_big_quiet_on
  repeat (first | (refine wpR_det hp2 rfl ((hR.rel _).trans rfl) rfl ?_; intro K hK; go_big_quiet_op; go_big_quiet_on) | (refine wpR_ptr hp2 rfl ((hR.rel _).trans rfl) rfl rfl ?_; intro K hK; go_big_quiet_op; go_big_quiet_on) | (refine wpR_skip pick rfl ?_; intro K hK; go_big_quiet_op; go_big_quiet_on))
  refine wpR_rel pick rfl ((hR.rel _).trans rfl) ((hR.turns _).trans rfl) ?_ ?_
  · intro u hu
    have hk := hR.since hu.1
    have hks := hk.size
    have hz := num_any sm na mo li 4 pl u (by omega) (by omega) (by omega) (by omega)
    unfold relAt
    go_simp
    refine hz.mono ?_
    rintro e w' ⟨v, rfl, hT, hb'⟩
    exact ⟨_, rfl, hR.intoB hb', hR.put 3 rfl rfl hT⟩
  intro v hv
  obtain ⟨u, _, hu⟩ := hv
  obtain ⟨A20, c20, rfl, -, -, -⟩ := hR.get 3 rfl hu
  clear hu
  rw [numL_len]
  intro K hK
  go_big_quiet_op
  go_big_quiet_on
  repeat (first | (refine wpR_det hp2 rfl ((hR.rel _).trans rfl) rfl ?_; intro K hK; go_big_quiet_op; go_big_quiet_on) | (refine wpR_ptr hp2 rfl ((hR.rel _).trans rfl) rfl rfl ?_; intro K hK; go_big_quiet_op; go_big_quiet_on) | (refine wpR_skip pick rfl ?_; intro K hK; go_big_quiet_op; go_big_quiet_on))
  refine wpR_rel pick rfl ((hR.rel _).trans rfl) ((hR.turns _).trans rfl) ?_ ?_
  · intro u hu
    have hk := hR.since hu.1
    have hks := hk.size
    have b0 := (hR.get 0 rfl (hu.2 _ _ (Got.upd_old (Got.upd_old (Got.upd_old (Got.upd_self _ _ _) rfl) rfl) rfl) (by kernel_rfl)))
    have b1 := (hR.get 1 rfl (hu.2 _ _ (Got.upd_old (Got.upd_old (Got.upd_self _ _ _) rfl) rfl) (by kernel_rfl)))
    have b2 := (hR.get 2 rfl (hu.2 _ _ (Got.upd_old (Got.upd_self _ _ _) rfl) (by kernel_rfl)))
    have b3 := (hR.get 3 rfl (hu.2 _ _ (Got.upd_self _ _ _) (by kernel_rfl)))
    have hal : Al u [.slice A4 4 c4, .slice A9 4 c9, .slice A15 4 c15, .slice A20 4 c20, .slice DA dl.length dc] (writeLs sm se pa dl pl) := ⟨b0, b1, b2, b3, (HDB.out.on0 hk), trivial⟩
    clear b0 b1 b2 b3
    unfold relAt
    go_simp
    refine ⟨hR.into0 ((Kept.refl _ _).alloc _), hR.put 4 rfl rfl ⟨u.heap.size, [.slice A4 4 c4, .slice A9 4 c9, .slice A15 4 c15, .slice A20 4 c20, .slice DA dl.length dc], rfl, rfl, (hal.on0 ((Kept.refl _ _).alloc _)).bys (Blk.new _ _ _)⟩⟩
  intro v hv
  obtain ⟨u, _, hu⟩ := hv
  obtain ⟨gb, vsb, rfl, -, -⟩ := hR.get 4 rfl hu
  clear hu
  intro K hK
  go_big_quiet_op
  go_big_quiet_on
  repeat (first | (refine wpR_det hp2 rfl ((hR.rel _).trans rfl) rfl ?_; intro K hK; go_big_quiet_op; go_big_quiet_on) | (refine wpR_ptr hp2 rfl ((hR.rel _).trans rfl) rfl rfl ?_; intro K hK; go_big_quiet_op; go_big_quiet_on) | (refine wpR_skip pick rfl ?_; intro K hK; go_big_quiet_op; go_big_quiet_on))
  refine wpR_rel pick rfl ((hR.rel _).trans rfl) ((hR.turns _).trans rfl) ?_ ?_
  · intro u hu
    have hk := hR.since hu.1
    have hks := hk.size
    obtain ⟨g', vs', e, hn', hB⟩ := (hR.get 4 rfl (hu.2 _ _ (Got.upd_self _ _ _) (by kernel_rfl)))
    obtain rfl : gb = g' := by injection e with e; injection e with e; injection e
    have hz := slConcat_any gb 5 vs' (writeLs sm se pa dl pl) u hB (by rw [hn']; omega) HFL.out
    rw [hn'] at hz
    clear hB e
    unfold relAt
    go_simp
    refine hz.mono ?_
    rintro e w' ⟨v, rfl, hT, hb'⟩
    exact ⟨_, rfl, hR.intoB hb', hR.put 5 rfl rfl hT⟩
  intro v hv
  obtain ⟨u, _, hu⟩ := hv
  obtain hT := hR.get 5 rfl hu
  clear hu
  clear hT
  intro K hK
  go_big_quiet_op
  go_big_quiet_on
  repeat (first | (refine wpR_det hp2 rfl ((hR.rel _).trans rfl) rfl ?_; intro K hK; go_big_quiet_op; go_big_quiet_on) | (refine wpR_ptr hp2 rfl ((hR.rel _).trans rfl) rfl rfl ?_; intro K hK; go_big_quiet_op; go_big_quiet_on) | (refine wpR_skip pick rfl ?_; intro K hK; go_big_quiet_op; go_big_quiet_on))
  refine wpR_nil ?_
  intro w2 hk2 hF hM
  have HZ := Lib.hid ((hR.get 5 rfl (hF _ _ (Got.upd_self _ _ _))))
  have HWZ := Lib.hid (keptK HW.out hk2)
  clear hF hM hk2 hp1 hp2 hR p0 p1 p2 p3 q0 q1 q2 q3
  go_wp2_with fail
  go_ret
  exact ⟨_, rfl, HZ.out, HWZ.out⟩
set_option maxRecDepth 100000 in
set_option maxHeartbeats 4000000 in
theorem refWrite_any (sm na : Bool) (mo li se pa pl : Int) (DA : Option Addr) (dc : Nat) (dl : List UInt8) (w : World) (hmo : 0 ≤ mo ∧ mo ≤ 4294967295) (hli : 0 ≤ li ∧ li ≤ 4294967295) (hse : 0 ≤ se ∧ se ≤ 4294967295) (hpa : 0 ≤ pa ∧ pa ≤ 4294967295) (hpl : 0 ≤ pl ∧ pl ≤ 4294967295) (hdl : dl.length ≤ 2000) (hdc : dl.length ≤ dc) (hdm : dc ≤ maxLen) (hD : BS w w.heap.size DA dl) :
    Calls Try.prog 14 #[.agg #[.bool sm, .bool na, .int .u32 mo, .int .u32 li], .agg #[.int .u32 se, .int .u32 pa, .int .u32 pl, .slice DA dl.length dc]] w fun e w' => ∃ v, e = .returned v ∧ Byt w' v (writeLs sm se pa dl pl).flatten ∧ Below w.heap.size w w' := by
  obtain ⟨mo0, mo1⟩ := hmo
  obtain ⟨se0, se1⟩ := hse
  obtain ⟨pa0, pa1⟩ := hpa
  obtain ⟨pl0, pl1⟩ := hpl
  have HD := Lib.hid (show Byt w (.slice DA dl.length dc) dl from ⟨DA, dc, rfl, hdc, hdm, hD⟩)
  have HLS := Lib.hid (writeLs_ok sm se pa dl pl hdl)
  have HFL := Lib.hid (writeLs_len sm se pa dl pl hdl)
  clear hD hdc hdm hli
  go_enter Try.func14, Try.ntmps14
  go_upto_region 1 with fail
  obtain ⟨w1, hw1⟩ : ∃ w1 : World, w1 = (w.alloc (.cells #[.bool sm, .bool na, .int .u32 mo, .int .u32 li] 24)).alloc (.cells #[.int .u32 se, .int .u32 pa, .int .u32 pl, .slice DA dl.length dc] 27) := ⟨_, rfl⟩
  have HF := Lib.hid (show Blk w1 w.heap.size 24 #[.bool sm, .bool na, .int .u32 mo, .int .u32 li] by rw [hw1]; exact (Blk.new _ _ _).alloc _)
  have HP := Lib.hid (show Blk w1 (w.heap.size + 1) 27 #[.int .u32 se, .int .u32 pa, .int .u32 pl, .slice DA dl.length dc] by rw [hw1]; exact Blk.new_ (by simp) _ _)
  have HW := Lib.hid (show Below w.heap.size w w1 by rw [hw1]; exact bel_two)
  rw [← hw1]
  clear hw1
  obtain ⟨pb, hpb⟩ : ∃ pb, w.heap.size + 1 = pb := ⟨_, rfl⟩
  rw [hpb] at HP ⊢
  obtain ⟨fb, hfb⟩ : ∃ fb, w.heap.size = fb := ⟨_, rfl⟩
  rw [hfb] at HF ⊢
  clear hfb hpb
  have HDB := Lib.hid (HD.out.onB HW.out)
  have f0 := HF.out.cell 0
  have f1 := HF.out.cell 1
  have f2 := HF.out.cell 2
  have f3 := HF.out.cell 3
  have g0 := HP.out.cell 0
  have g1 := HP.out.cell 1
  have g2 := HP.out.cell 2
  have g3 := HP.out.cell 3
  simp at f0 f1 f2 f3 g0 g1 g2 g3
  have fl := HF.out.lt
  have pbl := HP.out.lt
  have cv4 : IntKind.u32.wrap (dl.length : Int) = (dl.length : Int) := IntWalk.u32_in _ (by omega)
  refine wp_region_kept 22 [(3, fun v u => Byt u v (numL sm 4 se)), (7, fun v u => Byt u v (numL sm 4 pa)), (13, fun v u => Byt u v (numL sm 4 (dl.length : Int))), (17, fun v u => Byt u v (numL sm 4 pl)), (20, fun v u => BysN 5 u v (writeLs sm se pa dl pl)), (21, fun v u => Byt u v ((writeLs sm se pa dl pl)).flatten)] ?st ?ne rfl (by kernel_rfl) (by kernel_rfl) ?_
  case st =>
    intro p hp
    simp only [List.mem_cons, List.not_mem_nil, or_false] at hp
    rcases hp with rfl | rfl | rfl | rfl | rfl | rfl
    · intro v u u' h hk; exact h.on0 hk
    · intro v u u' h hk; exact h.on0 hk
    · intro v u u' h hk; exact h.on0 hk
    · intro v u u' h hk; exact h.on0 hk
    · intro v u u' h hk; exact h.on0 hk
    · intro v u u' h hk; exact h.on0 hk
  case ne =>
    intro p hp
    simp only [List.mem_cons, List.not_mem_nil, or_false] at hp
    rcases hp with rfl | rfl | rfl | rfl | rfl | rfl
    · exact Byt.some _ _ (by rw [numL_len]; unfold maxLen; omega)
    · exact Byt.some _ _ (by rw [numL_len]; unfold maxLen; omega)
    · exact Byt.some _ _ (by rw [numL_len]; unfold maxLen; omega)
    · exact Byt.some _ _ (by rw [numL_len]; unfold maxLen; omega)
    · exact BysN.some _ _ _ rfl HLS.out
    · exact Byt.some _ _ (by have := HFL.out; unfold maxLen; omega)
  simp only [List.take_succ_cons, List.take_zero, List.drop_succ_cons, List.drop_zero]
  intro G pick hR hp1 hp2
  have p0 : ∀ u, (pick u).cell? ⟨fb, 0, none⟩ = some (.bool sm) := fun u => ((hp1 u).cell fl (fun h => h) _).trans f0
  have p1 : ∀ u, (pick u).cell? ⟨fb, 1, none⟩ = some (.bool na) := fun u => ((hp1 u).cell fl (fun h => h) _).trans f1
  have p2 : ∀ u, (pick u).cell? ⟨fb, 2, none⟩ = some (.int .u32 mo) := fun u => ((hp1 u).cell fl (fun h => h) _).trans f2
  have p3 : ∀ u, (pick u).cell? ⟨fb, 3, none⟩ = some (.int .u32 li) := fun u => ((hp1 u).cell fl (fun h => h) _).trans f3
  have q0 : ∀ u, (pick u).cell? ⟨pb, 0, none⟩ = some (.int .u32 se) := fun u => ((hp1 u).cell pbl (fun h => h) _).trans g0
  have q1 : ∀ u, (pick u).cell? ⟨pb, 1, none⟩ = some (.int .u32 pa) := fun u => ((hp1 u).cell pbl (fun h => h) _).trans g1
  have q2 : ∀ u, (pick u).cell? ⟨pb, 2, none⟩ = some (.int .u32 pl) := fun u => ((hp1 u).cell pbl (fun h => h) _).trans g2
  have q3 : ∀ u, (pick u).cell? ⟨pb, 3, none⟩ = some (.slice DA dl.length dc) := fun u => ((hp1 u).cell pbl (fun h => h) _).trans g3
  repeat (first | (refine wpR_det hp2 rfl ((hR.rel _).trans rfl) rfl ?_; intro K hK; go_big_quiet_op; go_big_quiet_on) | (refine wpR_ptr hp2 rfl ((hR.rel _).trans rfl) rfl rfl ?_; intro K hK; go_big_quiet_op; go_big_quiet_on) | (refine wpR_skip pick rfl ?_; intro K hK; go_big_quiet_op; go_big_quiet_on))
  refine wpR_rel pick rfl ((hR.rel _).trans rfl) ((hR.turns _).trans rfl) ?_ ?_
  · intro u hu
    have hk := hR.since hu.1
    have hks := hk.size
    have hz := refNum_any sm na mo li 4 se u (by omega) (by omega) (by omega) (by omega)
    unfold relAt
    go_simp
    refine hz.mono ?_
    rintro e w' ⟨v, rfl, hT, hb'⟩
    exact ⟨_, rfl, hR.intoB hb', hR.put 0 rfl rfl hT⟩
  intro v hv
  obtain ⟨u, _, hu⟩ := hv
  obtain ⟨A3, c3, rfl, -, -, -⟩ := hR.get 0 rfl hu
  clear hu
  rw [numL_len]
  intro K hK
  go_big_quiet_op
  go_big_quiet_on
  repeat (first | (refine wpR_det hp2 rfl ((hR.rel _).trans rfl) rfl ?_; intro K hK; go_big_quiet_op; go_big_quiet_on) | (refine wpR_ptr hp2 rfl ((hR.rel _).trans rfl) rfl rfl ?_; intro K hK; go_big_quiet_op; go_big_quiet_on) | (refine wpR_skip pick rfl ?_; intro K hK; go_big_quiet_op; go_big_quiet_on))
  refine wpR_rel pick rfl ((hR.rel _).trans rfl) ((hR.turns _).trans rfl) ?_ ?_
  · intro u hu
    have hk := hR.since hu.1
    have hks := hk.size
    have hz := refNum_any sm na mo li 4 pa u (by omega) (by omega) (by omega) (by omega)
    unfold relAt
    go_simp
    refine hz.mono ?_
    rintro e w' ⟨v, rfl, hT, hb'⟩
    exact ⟨_, rfl, hR.intoB hb', hR.put 1 rfl rfl hT⟩
  intro v hv
  obtain ⟨u, _, hu⟩ := hv
  obtain ⟨A7, c7, rfl, -, -, -⟩ := hR.get 1 rfl hu
  clear hu
  rw [numL_len]
  intro K hK
  go_big_quiet_op
  go_big_quiet_on
  repeat (first | (refine wpR_det hp2 rfl ((hR.rel _).trans rfl) rfl ?_; intro K hK; go_big_quiet_op; go_big_quiet_on) | (refine wpR_ptr hp2 rfl ((hR.rel _).trans rfl) rfl rfl ?_; intro K hK; go_big_quiet_op; go_big_quiet_on) | (refine wpR_skip pick rfl ?_; intro K hK; go_big_quiet_op; go_big_quiet_on))
  refine wpR_rel pick rfl ((hR.rel _).trans rfl) ((hR.turns _).trans rfl) ?_ ?_
  · intro u hu
    have hk := hR.since hu.1
    have hks := hk.size
    have hz := refNum_any sm na mo li 4 (dl.length : Int) u (by omega) (by omega) (by omega) (by omega)
    unfold relAt
    go_simp
    refine hz.mono ?_
    rintro e w' ⟨v, rfl, hT, hb'⟩
    exact ⟨_, rfl, hR.intoB hb', hR.put 2 rfl rfl hT⟩
  intro v hv
  obtain ⟨u, _, hu⟩ := hv
  obtain ⟨A13, c13, rfl, -, -, -⟩ := hR.get 2 rfl hu
  clear hu
  rw [numL_len]
  intro K hK
  go_big_quiet_op
  go_big_quiet_on
  repeat (first | (refine wpR_det hp2 rfl ((hR.rel _).trans rfl) rfl ?_; intro K hK; go_big_quiet_op; go_big_quiet_on) | (refine wpR_ptr hp2 rfl ((hR.rel _).trans rfl) rfl rfl ?_; intro K hK; go_big_quiet_op; go_big_quiet_on) | (refine wpR_skip pick rfl ?_; intro K hK; go_big_quiet_op; go_big_quiet_on))
  refine wpR_rel pick rfl ((hR.rel _).trans rfl) ((hR.turns _).trans rfl) ?_ ?_
  · intro u hu
    have hk := hR.since hu.1
    have hks := hk.size
    have hz := refNum_any sm na mo li 4 pl u (by omega) (by omega) (by omega) (by omega)
    unfold relAt
    go_simp
    refine hz.mono ?_
    rintro e w' ⟨v, rfl, hT, hb'⟩
    exact ⟨_, rfl, hR.intoB hb', hR.put 3 rfl rfl hT⟩
  intro v hv
  obtain ⟨u, _, hu⟩ := hv
  obtain ⟨A17, c17, rfl, -, -, -⟩ := hR.get 3 rfl hu
  clear hu
  rw [numL_len]
  intro K hK
  go_big_quiet_op
  go_big_quiet_on
  repeat (first | (refine wpR_det hp2 rfl ((hR.rel _).trans rfl) rfl ?_; intro K hK; go_big_quiet_op; go_big_quiet_on) | (refine wpR_ptr hp2 rfl ((hR.rel _).trans rfl) rfl rfl ?_; intro K hK; go_big_quiet_op; go_big_quiet_on) | (refine wpR_skip pick rfl ?_; intro K hK; go_big_quiet_op; go_big_quiet_on))
  refine wpR_rel pick rfl ((hR.rel _).trans rfl) ((hR.turns _).trans rfl) ?_ ?_
  · intro u hu
    have hk := hR.since hu.1
    have hks := hk.size
    have b0 := (hR.get 0 rfl (hu.2 _ _ (Got.upd_old (Got.upd_old (Got.upd_old (Got.upd_self _ _ _) rfl) rfl) rfl) (by kernel_rfl)))
    have b1 := (hR.get 1 rfl (hu.2 _ _ (Got.upd_old (Got.upd_old (Got.upd_self _ _ _) rfl) rfl) (by kernel_rfl)))
    have b2 := (hR.get 2 rfl (hu.2 _ _ (Got.upd_old (Got.upd_self _ _ _) rfl) (by kernel_rfl)))
    have b3 := (hR.get 3 rfl (hu.2 _ _ (Got.upd_self _ _ _) (by kernel_rfl)))
    have hal : Al u [.slice A3 4 c3, .slice A7 4 c7, .slice A13 4 c13, .slice A17 4 c17, .slice DA dl.length dc] (writeLs sm se pa dl pl) := ⟨b0, b1, b2, b3, (HDB.out.on0 hk), trivial⟩
    clear b0 b1 b2 b3
    unfold relAt
    go_simp
    refine ⟨hR.into0 ((Kept.refl _ _).alloc _), hR.put 4 rfl rfl ⟨u.heap.size, [.slice A3 4 c3, .slice A7 4 c7, .slice A13 4 c13, .slice A17 4 c17, .slice DA dl.length dc], rfl, rfl, (hal.on0 ((Kept.refl _ _).alloc _)).bys (Blk.new _ _ _)⟩⟩
  intro v hv
  obtain ⟨u, _, hu⟩ := hv
  obtain ⟨gb, vsb, rfl, -, -⟩ := hR.get 4 rfl hu
  clear hu
  intro K hK
  go_big_quiet_op
  go_big_quiet_on
  repeat (first | (refine wpR_det hp2 rfl ((hR.rel _).trans rfl) rfl ?_; intro K hK; go_big_quiet_op; go_big_quiet_on) | (refine wpR_ptr hp2 rfl ((hR.rel _).trans rfl) rfl rfl ?_; intro K hK; go_big_quiet_op; go_big_quiet_on) | (refine wpR_skip pick rfl ?_; intro K hK; go_big_quiet_op; go_big_quiet_on))
  refine wpR_rel pick rfl ((hR.rel _).trans rfl) ((hR.turns _).trans rfl) ?_ ?_
  · intro u hu
    have hk := hR.since hu.1
    have hks := hk.size
    obtain ⟨g', vs', e, hn', hB⟩ := (hR.get 4 rfl (hu.2 _ _ (Got.upd_self _ _ _) (by kernel_rfl)))
    obtain rfl : gb = g' := by injection e with e; injection e with e; injection e
    have hz := refJoin_any gb 5 vs' (writeLs sm se pa dl pl) u hB (by rw [hn']; omega) HFL.out
    rw [hn'] at hz
    clear hB e
    unfold relAt
    go_simp
    refine hz.mono ?_
    rintro e w' ⟨v, rfl, hT, hb'⟩
    exact ⟨_, rfl, hR.intoB hb', hR.put 5 rfl rfl hT⟩
  intro v hv
  obtain ⟨u, _, hu⟩ := hv
  obtain hT := hR.get 5 rfl hu
  clear hu
  clear hT
  intro K hK
  go_big_quiet_op
  go_big_quiet_on
  repeat (first | (refine wpR_det hp2 rfl ((hR.rel _).trans rfl) rfl ?_; intro K hK; go_big_quiet_op; go_big_quiet_on) | (refine wpR_ptr hp2 rfl ((hR.rel _).trans rfl) rfl rfl ?_; intro K hK; go_big_quiet_op; go_big_quiet_on) | (refine wpR_skip pick rfl ?_; intro K hK; go_big_quiet_op; go_big_quiet_on))
  refine wpR_nil ?_
  intro w2 hk2 hF hM
  have HZ := Lib.hid ((hR.get 5 rfl (hF _ _ (Got.upd_self _ _ _))))
  have HWZ := Lib.hid (keptK HW.out hk2)
  clear hF hM hk2 hp1 hp2 hR p0 p1 p2 p3 q0 q1 q2 q3
  go_wp2_with fail
  go_ret
  exact ⟨_, rfl, HZ.out, HWZ.out⟩
theorem write_no (sm na : Bool) (mo li se pa pl : Int) (DA : Option Addr) (dc : Nat) (dl : List UInt8) (w : World) (hmo : 0 ≤ mo ∧ mo ≤ 4294967295) (hli : 0 ≤ li ∧ li ≤ 4294967295) (hse : 0 ≤ se ∧ se ≤ 4294967295) (hpa : 0 ≤ pa ∧ pa ≤ 4294967295) (hpl : 0 ≤ pl ∧ pl ≤ 4294967295) (hdl : dl.length ≤ 2000) (hrt : rightB na mo pa pl dl.length = false) :
    Calls Try.prog 13 #[.agg #[.bool sm, .bool na, .int .u32 mo, .int .u32 li], .agg #[.int .u32 se, .int .u32 pa, .int .u32 pl, .slice DA dl.length dc]] w fun e w' => e = .returned (.slice none 0 0) ∧ Below w.heap.size w w' := by
  have HRT := Lib.hid (fun u => right_any sm na mo li se pa pl DA dc dl u hmo hli hse hpa hpl hdl)
  rw [hrt] at HRT
  clear hrt hmo hli hse hpa hpl
  go_enter Try.func13, Try.ntmps13
  go_wp2_with fail
  refine (HRT.out _).mono ?_
  rintro e w1 ⟨rfl, hb1⟩
  have HW := Lib.hid (kept_of bel_two hb1)
  clear hb1 HRT
  go_wp2_with fail
  go_ret
  exact ⟨rfl, HW.out⟩
theorem head_ex : (headL false false 65535 101).length = 24 ∧ (headL false false 65535 101)[0]? = some 161 ∧ (headL false false 65535 101)[1]? = some 178 ∧ (headL false false 65535 101)[2]? = some 195 ∧ (headL false false 65535 101)[3]? = some 212 := by decide +kernel
set_option maxHeartbeats 1000000 in
theorem awake_any (w : World) : Calls Try.prog 6 #[] w fun e w' => e = .returned (.bool true) ∧ Below w.heap.size w w' := by
  have HH := Lib.hid (head_any false false 65535 101 w (by omega) (by omega))
  go_enter Try.func6, Try.ntmps6
  go_wp2_with fail
  refine HH.out.mono ?_
  rintro e w1 ⟨v, rfl, ⟨A, c, rfl, -, -, hbs⟩, hb⟩
  obtain ⟨h24, x0, x1, x2, x3⟩ := head_ex
  obtain ⟨b, off, hlt, rfl, hat⟩ := hbs.at (k := 0) (by rw [h24]; omega)
  have c0 := hat 0 (by rw [h24]; omega)
  have c1 := hat 1 (by rw [h24]; omega)
  have c2 := hat 2 (by rw [h24]; omega)
  have c3 := hat 3 (by rw [h24]; omega)
  rw [List.getElem?_eq_getElem (by rw [h24]; omega)] at x0 x1 x2 x3
  injection x0 with x0
  injection x1 with x1
  injection x2 with x2
  injection x3 with x3
  rw [x0] at c0
  rw [x1] at c1
  rw [x2] at c2
  rw [x3] at c3
  simp at c0 c1 c2 c3
  rw [h24]
  have HB := Lib.hid hb
  clear hb hbs hat x0 x1 x2 x3 h24 HH
  go_wp2_with fail
  go_ret
  exact ⟨rfl, HB.out⟩
end Go.Proofs.Ytohimionlgaaoaa
