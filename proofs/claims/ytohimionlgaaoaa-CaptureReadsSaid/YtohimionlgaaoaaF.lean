/- File.first, walked. -/
import Derived.Test.YtohimionlgaaoaaE
namespace Go.Proofs.Ytohimionlgaaoaa
open Go.RowKit
set_option linter.unusedVariables false
set_option maxHeartbeats 2000000 in
theorem rightM_any (sm na : Bool) (mo li se pa pl : Int) (DA : Option Addr) (dc : Nat) (dl : List UInt8) (w : World) (hmo : 0 ≤ mo ∧ mo ≤ 4294967295) (hli : 0 ≤ li ∧ li ≤ 4294967295) (hse : 0 ≤ se ∧ se ≤ 4294967295) (hpa : 0 ≤ pa ∧ pa ≤ 4294967295) (hpl : 0 ≤ pl ∧ pl ≤ 4294967295) (hdl : dl.length ≤ 1000000) :
    Calls Try.prog 10 #[.agg #[.bool sm, .bool na, .int .u32 mo, .int .u32 li], .agg #[.int .u32 se, .int .u32 pa, .int .u32 pl, .slice DA dl.length dc]] w fun e w' => e = .returned (.bool (rightB na mo pa pl dl.length)) ∧ Below w.heap.size w w' := by
  obtain ⟨mo0, mo1⟩ := hmo
  obtain ⟨pa0, pa1⟩ := hpa
  obtain ⟨pl0, pl1⟩ := hpl
  clear hli hse
  cases na with
  | true =>
    by_cases h1 : pa < 1000000000
    · by_cases h2 : (dl.length : Int) ≤ mo
      · by_cases h3 : (dl.length : Int) ≤ pl
        · go_enter Try.func10, Try.ntmps10
          go_wp2_with fail
          go_ret
          exact ⟨ret_bool (by simp [rightB, limI, h1, h2, h3]), bel_two⟩
        · have d3 : decide ((dl.length : Int) ≤ pl) = false := decide_eq_false h3
          go_enter Try.func10, Try.ntmps10
          go_wp2_with fail
          go_ret
          exact ⟨ret_bool (by simp [rightB, limI, h1, h2, d3]), bel_two⟩
      · have d2 : decide ((dl.length : Int) ≤ mo) = false := decide_eq_false h2
        go_enter Try.func10, Try.ntmps10
        go_wp2_with fail
        go_ret
        exact ⟨ret_bool (by simp [rightB, limI, h1, d2]), bel_two⟩
    · have d1 : decide (pa < 1000000000) = false := decide_eq_false h1
      go_enter Try.func10, Try.ntmps10
      go_wp2_with fail
      go_ret
      exact ⟨ret_bool (by simp [rightB, limI, d1]), bel_two⟩
  | false =>
    by_cases h1 : pa < 1000000
    · by_cases h2 : (dl.length : Int) ≤ mo
      · by_cases h3 : (dl.length : Int) ≤ pl
        · go_enter Try.func10, Try.ntmps10
          go_wp2_with fail
          go_ret
          exact ⟨ret_bool (by simp [rightB, limI, h1, h2, h3]), bel_two⟩
        · have d3 : decide ((dl.length : Int) ≤ pl) = false := decide_eq_false h3
          go_enter Try.func10, Try.ntmps10
          go_wp2_with fail
          go_ret
          exact ⟨ret_bool (by simp [rightB, limI, h1, h2, d3]), bel_two⟩
      · have d2 : decide ((dl.length : Int) ≤ mo) = false := decide_eq_false h2
        go_enter Try.func10, Try.ntmps10
        go_wp2_with fail
        go_ret
        exact ⟨ret_bool (by simp [rightB, limI, h1, d2]), bel_two⟩
    · have d1 : decide (pa < 1000000) = false := decide_eq_false h1
      go_enter Try.func10, Try.ntmps10
      go_wp2_with fail
      go_ret
      exact ⟨ret_bool (by simp [rightB, limI, d1]), bel_two⟩
set_option maxHeartbeats 2000000 in
theorem refRightM_any (sm na : Bool) (mo li se pa pl : Int) (DA : Option Addr) (dc : Nat) (dl : List UInt8) (w : World) (hmo : 0 ≤ mo ∧ mo ≤ 4294967295) (hli : 0 ≤ li ∧ li ≤ 4294967295) (hse : 0 ≤ se ∧ se ≤ 4294967295) (hpa : 0 ≤ pa ∧ pa ≤ 4294967295) (hpl : 0 ≤ pl ∧ pl ≤ 4294967295) (hdl : dl.length ≤ 1000000) :
    Calls Try.prog 12 #[.agg #[.bool sm, .bool na, .int .u32 mo, .int .u32 li], .agg #[.int .u32 se, .int .u32 pa, .int .u32 pl, .slice DA dl.length dc]] w fun e w' => e = .returned (.bool (rightB na mo pa pl dl.length)) ∧ Below w.heap.size w w' := by
  obtain ⟨mo0, mo1⟩ := hmo
  obtain ⟨pa0, pa1⟩ := hpa
  obtain ⟨pl0, pl1⟩ := hpl
  clear hli hse
  cases na with
  | true =>
    by_cases h1 : pa < 1000000000
    · by_cases h2 : (dl.length : Int) ≤ mo
      · by_cases h3 : (dl.length : Int) ≤ pl
        · go_enter Try.func12, Try.ntmps12
          go_wp2_with fail
          go_ret
          exact ⟨ret_bool (by simp [rightB, limI, h1, h2, h3]), bel_two⟩
        · have d3 : decide ((dl.length : Int) ≤ pl) = false := decide_eq_false h3
          go_enter Try.func12, Try.ntmps12
          go_wp2_with fail
          go_ret
          exact ⟨ret_bool (by simp [rightB, limI, h1, h2, d3]), bel_two⟩
      · have d2 : decide ((dl.length : Int) ≤ mo) = false := decide_eq_false h2
        go_enter Try.func12, Try.ntmps12
        go_wp2_with fail
        go_ret
        exact ⟨ret_bool (by simp [rightB, limI, h1, d2]), bel_two⟩
    · have d1 : decide (pa < 1000000000) = false := decide_eq_false h1
      go_enter Try.func12, Try.ntmps12
      go_wp2_with fail
      go_ret
      exact ⟨ret_bool (by simp [rightB, limI, d1]), bel_two⟩
  | false =>
    by_cases h1 : pa < 1000000
    · by_cases h2 : (dl.length : Int) ≤ mo
      · by_cases h3 : (dl.length : Int) ≤ pl
        · go_enter Try.func12, Try.ntmps12
          go_wp2_with fail
          go_ret
          exact ⟨ret_bool (by simp [rightB, limI, h1, h2, h3]), bel_two⟩
        · have d3 : decide ((dl.length : Int) ≤ pl) = false := decide_eq_false h3
          go_enter Try.func12, Try.ntmps12
          go_wp2_with fail
          go_ret
          exact ⟨ret_bool (by simp [rightB, limI, h1, h2, d3]), bel_two⟩
      · have d2 : decide ((dl.length : Int) ≤ mo) = false := decide_eq_false h2
        go_enter Try.func12, Try.ntmps12
        go_wp2_with fail
        go_ret
        exact ⟨ret_bool (by simp [rightB, limI, h1, d2]), bel_two⟩
    · have d1 : decide (pa < 1000000) = false := decide_eq_false h1
      go_enter Try.func12, Try.ntmps12
      go_wp2_with fail
      go_ret
      exact ⟨ret_bool (by simp [rightB, limI, d1]), bel_two⟩
theorem Kept.set4 {S : Nat → Prop} {w w' : World} {rb : Nat} (h : Kept S w w') (hS : S rb) (a b c d : Value) : Kept S w ((((w'.setCell ⟨rb, 0, none⟩ a).setCell ⟨rb, 1, none⟩ b).setCell ⟨rb, 2, none⟩ c).setCell ⟨rb, 3, none⟩ d) :=
  Kept.setIn (b := rb) hS (Kept.setIn (b := rb) hS (Kept.setIn (b := rb) hS (Kept.setIn (b := rb) hS h)))
/-- A packet. -/
structure Pk where
  se : Int
  pa : Int
  pl : Int
  dl : List UInt8
deriving DecidableEq
def szP (sm : Bool) (b : List UInt8) : Nat := (ofL sm ((b.drop 8).take 4)).toNat
def pkOf (sm : Bool) (b : List UInt8) : Pk := ⟨ofL sm (b.take 4), ofL sm ((b.drop 4).take 4), ofL sm ((b.drop 12).take 4), (b.drop 16).take (szP sm b)⟩
def pkOk (sm na : Bool) (mo : Int) (b : List UInt8) : Prop := 16 ≤ b.length ∧ szP sm b + 16 ≤ b.length ∧ rightB na mo (pkOf sm b).pa (pkOf sm b).pl (szP sm b) = true
def FirstP (sm na : Bool) (mo : Int) (b : List UInt8) (w : World) (e : Ending) : Prop :=
  (pkOk sm na mo b ∧ ∃ DA dc, e = .returned (.tuple #[.agg #[.int .u32 (ofL sm (b.take 4)), .int .u32 (ofL sm ((b.drop 4).take 4)), .int .u32 (ofL sm ((b.drop 12).take 4)), .slice DA (szP sm b) dc], .int .i64 (16 + (szP sm b : Int))]) ∧ szP sm b ≤ dc ∧ dc ≤ maxLen ∧ BS w w.heap.size DA ((b.drop 16).take (szP sm b)))
  ∨ (¬ pkOk sm na mo b ∧ e = .returned (.tuple #[.agg #[.int .u32 0, .int .u32 0, .int .u32 0, .slice none 0 0], .int .i64 0]))
set_option maxRecDepth 10000 in
set_option maxHeartbeats 8000000 in
theorem first_any (sm na : Bool) (mo li : Int) (A : Option Addr) (c : Nat) (b : List UInt8) (w : World) (hmo : 0 ≤ mo ∧ mo ≤ 4294967295) (hli : 0 ≤ li ∧ li ≤ 4294967295) (hl : b.length ≤ 1000000) (hc : b.length ≤ c) (hcm : c ≤ maxLen) (hB : BS w w.heap.size A b) :
    Calls Try.prog 39 #[.agg #[.bool sm, .bool na, .int .u32 mo, .int .u32 li], .slice A b.length c] w fun e w' => FirstP sm na mo b w e ∧ Below w.heap.size w w' := by
  have HB := Lib.hid hB
  have HC := Lib.hid (show b.length ≤ c ∧ c ≤ maxLen from ⟨hc, hcm⟩)
  have MO := Lib.hid hmo
  have LI := Lib.hid hli
  unfold maxLen at hcm
  clear hB hmo hli
  go_enter Try.func39, Try.ntmps39
  go_upto_region 1 with fail
  obtain ⟨w1, hw1⟩ : ∃ w1 : World, w1 = (w.alloc (.cells #[.bool sm, .bool na, .int .u32 mo, .int .u32 li] 29)).alloc (.cells #[.int .u32 0, .int .u32 0, .int .u32 0, .slice none 0 0] 34) := ⟨_, rfl⟩
  have HF := Lib.hid (show Blk w1 w.heap.size 29 #[.bool sm, .bool na, .int .u32 mo, .int .u32 li] by rw [hw1]; exact (Blk.new _ _ _).alloc _)
  have HRR := Lib.hid (show Blk w1 (w.heap.size + 1) 34 #[.int .u32 0, .int .u32 0, .int .u32 0, .slice none 0 0] by rw [hw1]; exact Blk.new_ (by simp) _ _)
  have HK1 := Lib.hid (show Kept (fun _ => False) w w1 by rw [hw1]; exact ((Kept.refl _ _).alloc _).alloc _)
  rw [← hw1]
  clear hw1
  obtain ⟨rb, hrb⟩ : ∃ rb, w.heap.size + 1 = rb := ⟨_, rfl⟩
  have HRB := Lib.hid hrb
  rw [hrb] at HRR ⊢
  obtain ⟨fb, hfb⟩ : ∃ fb, w.heap.size = fb := ⟨_, rfl⟩
  have HFB := Lib.hid hfb
  rw [hfb] at HF ⊢
  clear hrb hfb
  have cf := HF.out.cell
  by_cases h16 : 16 ≤ b.length
  · have i1 : ¬ (b.length : Int) < 16 := by omega
    obtain ⟨bb, o, hbb, rfl, hby⟩ := HB.out.at (k := 0) (by omega)
    clear hby
    have HLG := Lib.hid (fun (at_ : Nat) (u : World) (ha : at_ + 4 ≤ b.length) (hk : Kept (fun _ => False) w1 u) => long_any sm na mo li (some ⟨bb, o, none⟩) c at_ b u hl HC.out.1 HC.out.2 ha (HB.out.on (HK1.out.trans hk) (fun _ _ h => h)))
    obtain ⟨sz, hsz⟩ : ∃ sz : Nat, szP sm b = sz := ⟨_, rfl⟩
    have hsr := ofL_range sm ((b.drop 8).take 4) (by rw [List.length_take, List.length_drop]; omega)
    have hs1 : ofL sm ((b.drop 8).take 4) = (sz : Int) := by rw [← hsz]; unfold szP; omega
    rw [hs1] at hsr
    have HS1 := Lib.hid hs1
    have HSZ := Lib.hid hsz
    have s0 := hsr.1
    have s1 := hsr.2
    clear hsz hs1 hsr
    have hz := HLG.out 8 w1 (by omega) (Kept.refl _ _)
    rw [HS1.out] at hz
    have HZ := Lib.hid hz
    clear hz
    go_wp2_with fail
    refine HZ.out.mono ?_
    rintro e w2 ⟨rfl, hb2⟩
    have HK2 := Lib.hid (show Kept (fun _ => False) w1 w2 from Kept.ofB hb2)
    have HF2 := Lib.hid (HF.out.below hb2 HF.out.lt)
    have HR2 := Lib.hid (HRR.out.below hb2 HRR.out.lt)
    clear hb2 cf
    by_cases h5 : sz + 16 ≤ b.length
    · have i2 : ¬ (b.length : Int) - 16 < (sz : Int) := by omega
      have i3 : (16 : Int) + (sz : Int) ≤ (c : Int) := by omega
      have bl9 : (b.length : Int) ≤ 1000000 := by omega
      obtain ⟨se, hse⟩ : ∃ se, ofL sm (b.take 4) = se := ⟨_, rfl⟩
      obtain ⟨pa, hpa⟩ : ∃ pa, ofL sm ((b.drop 4).take 4) = pa := ⟨_, rfl⟩
      obtain ⟨pl, hpl⟩ : ∃ pl, ofL sm ((b.drop 12).take 4) = pl := ⟨_, rfl⟩
      have r1 := ofL_range sm (b.take 4) (by rw [List.length_take]; omega)
      have r2 := ofL_range sm ((b.drop 4).take 4) (by rw [List.length_take, List.length_drop]; omega)
      have r3 := ofL_range sm ((b.drop 12).take 4) (by rw [List.length_take, List.length_drop]; omega)
      rw [hse] at r1
      rw [hpa] at r2
      rw [hpl] at r3
      have HSE := Lib.hid hse
      have HPA := Lib.hid hpa
      have HPL := Lib.hid hpl
      have Hse := Lib.hid (show ofL sm ((b.drop 0).take 4) = se from hse)
      have Hpa := HPA
      have Hpl := HPL
      obtain ⟨y, hy⟩ : ∃ y, (b.drop 16).take sz = y := ⟨_, rfl⟩
      have hyl : y.length = sz := by rw [← hy, List.length_take, List.length_drop]; omega
      have HY := Lib.hid hy
      have HYL := Lib.hid hyl
      have HYM := Lib.hid (show y.length ≤ 1000000 by omega)
      have OKI := Lib.hid (show rightB na mo pa pl sz = true → pkOk sm na mo b from fun h => ⟨h16, by rw [HSZ.out]; exact h5, by show rightB na mo (ofL sm ((b.drop 4).take 4)) (ofL sm ((b.drop 12).take 4)) (szP sm b) = true; rw [HSZ.out, hpa, hpl]; exact h⟩)
      have NOI := Lib.hid (show pkOk sm na mo b → rightB na mo pa pl sz = false → False from fun h h' => by
        have h9 : rightB na mo (ofL sm ((b.drop 4).take 4)) (ofL sm ((b.drop 12).take 4)) (szP sm b) = true := h.2.2
        rw [HSZ.out, hpa, hpl, h'] at h9
        cases h9)
      have se0 := r1.1
      have se1 := r1.2
      have pa0 := r2.1
      have pa1 := r2.2
      have pl0 := r3.1
      have pl1 := r3.2
      have HLG2 := HLG
      replace HLG := Lib.hid (fun (at_ : Nat) (u : World) (ha : at_ + 4 ≤ b.length) (hk : Kept (fun _ => False) w2 u) => HLG2.out at_ u ha (HK2.out.trans hk))
      clear r1 r2 r3 hse hpa hpl hyl HLG2
      by_cases hc16 : 16 < c
      · have j1 : (16 : Int) < (c : Int) := by omega
        have HYC := Lib.hid (show sz ≤ c - 16 ∧ c - 16 ≤ maxLen from ⟨by omega, by unfold maxLen; omega⟩)
        have HYB := Lib.hid (show BS w w.heap.size (some ⟨bb, o + 16, none⟩) y by rw [← hy]; exact (HB.out.drop_ 16).take_ sz)
        clear hy
        go_wp2_with fail
        refine wp_region_kept 14 [(2, fun v u => v = .int .u32 se), (5, fun v u => v = .int .u32 pa), (8, fun v u => v = .int .u32 pl), (13, fun v u => ∃ g, v = .pointer (some ⟨g, 0, none⟩) ∧ w2.heap.size ≤ g ∧ Blk u g 34 #[.int .u32 0, .int .u32 0, .int .u32 0, .slice none 0 0])] ?st ?ne rfl (by kernel_rfl) (by kernel_rfl) ?_
        case st =>
          intro p hp
          simp only [List.mem_cons, List.not_mem_nil, or_false] at hp
          rcases hp with rfl | rfl | rfl | rfl
          · intro v u u' h hk; exact h
          · intro v u u' h hk; exact h
          · intro v u u' h hk; exact h
          · rintro v u u' ⟨g, rfl, h1, h⟩ hk; exact ⟨g, rfl, h1, h.kept hk (fun h => h)⟩
        case ne =>
          intro p hp
          simp only [List.mem_cons, List.not_mem_nil, or_false] at hp
          rcases hp with rfl | rfl | rfl | rfl
          · exact ⟨_, _, Kept.refl _ _, rfl⟩
          · exact ⟨_, _, Kept.refl _ _, rfl⟩
          · exact ⟨_, _, Kept.refl _ _, rfl⟩
          · exact ⟨_, _, (Kept.refl _ _).alloc _, _, rfl, Nat.le_refl _, Blk.new _ _ _⟩
        simp only [List.take_succ_cons, List.take_zero, List.drop_succ_cons, List.drop_zero]
        intro G pick hR hp1 hp2
        have p0 : ∀ u, (pick u).cell? ⟨fb, 0, none⟩ = some (.bool sm) := fun u => ((hp1 u).cell HF2.out.lt (fun h => h) _).trans (HF2.out.cell 0)
        have p1 : ∀ u, (pick u).cell? ⟨fb, 1, none⟩ = some (.bool na) := fun u => ((hp1 u).cell HF2.out.lt (fun h => h) _).trans (HF2.out.cell 1)
        have p2 : ∀ u, (pick u).cell? ⟨fb, 2, none⟩ = some (.int .u32 mo) := fun u => ((hp1 u).cell HF2.out.lt (fun h => h) _).trans (HF2.out.cell 2)
        have p3 : ∀ u, (pick u).cell? ⟨fb, 3, none⟩ = some (.int .u32 li) := fun u => ((hp1 u).cell HF2.out.lt (fun h => h) _).trans (HF2.out.cell 3)
        repeat (first | (refine wpR_det hp2 rfl ((hR.rel _).trans rfl) rfl ?_; intro K hK; go_big_quiet_op; go_big_quiet_on) | (refine wpR_ptr hp2 rfl ((hR.rel _).trans rfl) rfl rfl ?_; intro K hK; go_big_quiet_op; go_big_quiet_on) | (refine wpR_skip pick rfl ?_; intro K hK; go_big_quiet_op; go_big_quiet_on))
        refine wpR_rel pick rfl ((hR.rel _).trans rfl) ((hR.turns _).trans rfl) ?_ ?_
        · intro u hu
          have hk := hR.since hu.1
          have hks := hk.size
          have hz := HLG.out 0 u (by omega) hk
          rw [Hse.out] at hz
          unfold relAt
          go_simp
          refine hz.mono ?_
          rintro e w' ⟨rfl, hb'⟩
          exact ⟨_, rfl, hR.intoB hb', hR.put 0 rfl rfl rfl⟩
        intro v hv
        obtain ⟨u, _, hu⟩ := hv
        obtain rfl := hR.get 0 rfl hu
        clear hu
        intro K hK
        go_big_quiet_op
        go_big_quiet_on
        repeat (first | (refine wpR_det hp2 rfl ((hR.rel _).trans rfl) rfl ?_; intro K hK; go_big_quiet_op; go_big_quiet_on) | (refine wpR_ptr hp2 rfl ((hR.rel _).trans rfl) rfl rfl ?_; intro K hK; go_big_quiet_op; go_big_quiet_on) | (refine wpR_skip pick rfl ?_; intro K hK; go_big_quiet_op; go_big_quiet_on))
        refine wpR_rel pick rfl ((hR.rel _).trans rfl) ((hR.turns _).trans rfl) ?_ ?_
        · intro u hu
          have hk := hR.since hu.1
          have hks := hk.size
          have hz := HLG.out 4 u (by omega) hk
          rw [Hpa.out] at hz
          unfold relAt
          go_simp
          refine hz.mono ?_
          rintro e w' ⟨rfl, hb'⟩
          exact ⟨_, rfl, hR.intoB hb', hR.put 1 rfl rfl rfl⟩
        intro v hv
        obtain ⟨u, _, hu⟩ := hv
        obtain rfl := hR.get 1 rfl hu
        clear hu
        intro K hK
        go_big_quiet_op
        go_big_quiet_on
        repeat (first | (refine wpR_det hp2 rfl ((hR.rel _).trans rfl) rfl ?_; intro K hK; go_big_quiet_op; go_big_quiet_on) | (refine wpR_ptr hp2 rfl ((hR.rel _).trans rfl) rfl rfl ?_; intro K hK; go_big_quiet_op; go_big_quiet_on) | (refine wpR_skip pick rfl ?_; intro K hK; go_big_quiet_op; go_big_quiet_on))
        refine wpR_rel pick rfl ((hR.rel _).trans rfl) ((hR.turns _).trans rfl) ?_ ?_
        · intro u hu
          have hk := hR.since hu.1
          have hks := hk.size
          have hz := HLG.out 12 u (by omega) hk
          rw [Hpl.out] at hz
          unfold relAt
          go_simp
          refine hz.mono ?_
          rintro e w' ⟨rfl, hb'⟩
          exact ⟨_, rfl, hR.intoB hb', hR.put 2 rfl rfl rfl⟩
        intro v hv
        obtain ⟨u, _, hu⟩ := hv
        obtain rfl := hR.get 2 rfl hu
        clear hu
        intro K hK
        go_big_quiet_op
        go_big_quiet_on
        repeat (first | (refine wpR_det hp2 rfl ((hR.rel _).trans rfl) rfl ?_; intro K hK; go_big_quiet_op; go_big_quiet_on) | (refine wpR_ptr hp2 rfl ((hR.rel _).trans rfl) rfl rfl ?_; intro K hK; go_big_quiet_op; go_big_quiet_on) | (refine wpR_skip pick rfl ?_; intro K hK; go_big_quiet_op; go_big_quiet_on))
        refine wpR_rel pick rfl ((hR.rel _).trans rfl) ((hR.turns _).trans rfl) ?_ ?_
        · intro u hu
          have hk := hR.since hu.1
          have hks := hk.size
          unfold relAt
          go_simp
          exact ⟨hR.into0 ((Kept.refl _ _).alloc _), hR.put 3 rfl rfl ⟨_, rfl, hks, Blk.new _ _ _⟩⟩
        intro v hv
        obtain ⟨u, _, hu⟩ := hv
        obtain ⟨pb, rfl, -, -⟩ := hR.get 3 rfl hu
        clear hu
        intro K hK
        go_big_quiet_op
        go_big_quiet_on
        repeat (first | (refine wpR_det hp2 rfl ((hR.rel _).trans rfl) rfl ?_; intro K hK; go_big_quiet_op; go_big_quiet_on) | (refine wpR_ptr hp2 rfl ((hR.rel _).trans rfl) rfl rfl ?_; intro K hK; go_big_quiet_op; go_big_quiet_on) | (refine wpR_skip pick rfl ?_; intro K hK; go_big_quiet_op; go_big_quiet_on))
        refine wpR_nil ?_
        intro w3 hk2 hF hM
        obtain ⟨pb', e, hpb, hP⟩ := (hR.get 3 rfl (hF _ _ (Got.upd_self _ _ _)))
        obtain rfl : pb = pb' := by injection e with e; injection e with e; injection e
        have HP0 := Lib.hid hP
        have HPB := Lib.hid hpb
        have HK3 := Lib.hid (show Kept (fun _ => False) w1 w3 from HK2.out.trans hk2)
        have cp := HP0.out.cell
        have fp := HP0.out.frozen
        have lp := HP0.out.lt
        clear hF hM hk2 hp1 hp2 hR e hpb hP p0 p1 p2 p3
        go_upto_region 8 with fail
        obtain ⟨w4, hw4⟩ : ∃ w4 : World, w4 = (((w3.setCell ⟨pb, 0, none⟩ (.int .u32 se)).setCell ⟨pb, 1, none⟩ (.int .u32 pa)).setCell ⟨pb, 2, none⟩ (.int .u32 pl)).setCell ⟨pb, 3, none⟩ (.slice (some ⟨bb, o + 16, none⟩) sz (c - 16)) := ⟨_, rfl⟩
        have HP4 := Lib.hid (show Blk w4 pb 34 #[.int .u32 se, .int .u32 pa, .int .u32 pl, .slice (some ⟨bb, o + 16, none⟩) sz (c - 16)] by rw [hw4]; exact (((HP0.out.set_ 0 _).set_ 1 _).set_ 2 _).set_to rfl)
        have HK34 := Lib.hid (show Kept (fun i => i = pb) w3 w4 by rw [hw4]; exact Kept.set4 (S := fun i => i = pb) (Kept.refl _ w3) rfl _ _ _ _)
        rw [← hw4]
        clear hw4 cp fp lp
        have HK4 := Lib.hid (show Kept (fun _ => False) w1 w4 from HK3.out.then HK34.out (fun i hi e => by have := HPB.out; have := HK2.out.size; omega))
        have HF4 := Lib.hid (HF.out.kept HK4.out (fun h => h))
        have HR4 := Lib.hid (HRR.out.kept HK4.out (fun h => h))
        have hz := fun u => rightM_any sm na mo li se pa pl (some ⟨bb, o + 16, none⟩) (c - 16) y u MO.out LI.out ⟨se0, se1⟩ ⟨pa0, pa1⟩ ⟨pl0, pl1⟩ HYM.out
        rw [HYL.out] at hz
        have HRT := Lib.hid hz
        have cp := HP4.out.cell
        have cf := HF4.out.cell
        clear hz
        go_wp2_with fail
        refine (HRT.out w4).mono ?_
        rintro e w5 ⟨rfl, hb5⟩
        have HB5 := Lib.hid hb5
        have HK5 := Lib.hid (show Kept (fun _ => False) w1 w5 from HK4.out.then (Kept.ofB (S := fun _ => False) hb5) (fun _ _ h => h.elim))
        have HP5 := Lib.hid (HP4.out.below hb5 HP4.out.lt)
        have HR5 := Lib.hid (HR4.out.below hb5 HR4.out.lt)
        have cp := HP5.out.cell
        have cr := HR5.out.cell
        have fr := HR5.out.frozen
        have lr := HR5.out.lt
        clear hb5 cf
        cases hrt : rightB na mo pa pl sz with
        | true =>
          have HOK := Lib.hid (OKI.out hrt)
          clear hrt
          go_wp2_with fail
          refine bodyPost_ret (results_blk_tmp (P := Try.prog) (show Try.f39.results = _ from rfl) _ _ rb 34 #[.int .u32 se, .int .u32 pa, .int .u32 pl, .slice (some ⟨bb, o + 16, none⟩) sz (c - 16)] _ rfl ((((HR5.out.set_ 0 _).set_ 1 _).set_ 2 _).set_to rfl) Try.underlying34 rfl (by kernel_rfl)) rfl ⟨.inl ⟨HOK.out, ?_⟩, ?_⟩
          · rw [HSE.out, HPA.out, HPL.out, HSZ.out, HY.out]
            exact ⟨(some ⟨bb, o + 16, none⟩), (c - 16), rfl, HYC.out.1, HYC.out.2, HYB.out⟩
          · exact (HK1.out.below (Nat.le_refl _) (fun i h => h.elim)).trans ((Kept.set4 (S := fun i => i = rb) (HK5.out.mono (T := fun i => i = rb) (fun _ _ h => h.elim)) rfl _ _ _ _).below HK1.out.size (fun i e => by have := HRB.out; omega))
        | false =>
          have HNO := Lib.hid (fun h => NOI.out h hrt)
          clear hrt
          go_wp2_with fail
          refine bodyPost_ret (results_blk_tmp (P := Try.prog) (show Try.f39.results = _ from rfl) _ _ rb 34 #[.int .u32 0, .int .u32 0, .int .u32 0, .slice none 0 0] _ rfl ((((HR5.out.set_ 0 _).set_ 1 _).set_ 2 _).set_to rfl) Try.underlying34 rfl (by kernel_rfl)) rfl ⟨.inr ⟨HNO.out, rfl⟩, ?_⟩
          exact (HK1.out.below (Nat.le_refl _) (fun i h => h.elim)).trans ((Kept.set4 (S := fun i => i = rb) (HK5.out.mono (T := fun i => i = rb) (fun _ _ h => h.elim)) rfl _ _ _ _).below HK1.out.size (fun i e => by have := HRB.out; omega))
      · obtain rfl : c = 16 := by omega
        have HYC := Lib.hid (show sz ≤ 0 ∧ 0 ≤ maxLen from ⟨by omega, by unfold maxLen; omega⟩)
        have HYB := Lib.hid (show BS w w.heap.size (some ⟨bb, o, none⟩) y from .inl (List.eq_nil_of_length_eq_zero (by have := HYL.out; omega)))
        clear hy
        go_wp2_with fail
        refine wp_region_kept 14 [(2, fun v u => v = .int .u32 se), (5, fun v u => v = .int .u32 pa), (8, fun v u => v = .int .u32 pl), (13, fun v u => ∃ g, v = .pointer (some ⟨g, 0, none⟩) ∧ w2.heap.size ≤ g ∧ Blk u g 34 #[.int .u32 0, .int .u32 0, .int .u32 0, .slice none 0 0])] ?st ?ne rfl (by kernel_rfl) (by kernel_rfl) ?_
        case st =>
          intro p hp
          simp only [List.mem_cons, List.not_mem_nil, or_false] at hp
          rcases hp with rfl | rfl | rfl | rfl
          · intro v u u' h hk; exact h
          · intro v u u' h hk; exact h
          · intro v u u' h hk; exact h
          · rintro v u u' ⟨g, rfl, h1, h⟩ hk; exact ⟨g, rfl, h1, h.kept hk (fun h => h)⟩
        case ne =>
          intro p hp
          simp only [List.mem_cons, List.not_mem_nil, or_false] at hp
          rcases hp with rfl | rfl | rfl | rfl
          · exact ⟨_, _, Kept.refl _ _, rfl⟩
          · exact ⟨_, _, Kept.refl _ _, rfl⟩
          · exact ⟨_, _, Kept.refl _ _, rfl⟩
          · exact ⟨_, _, (Kept.refl _ _).alloc _, _, rfl, Nat.le_refl _, Blk.new _ _ _⟩
        simp only [List.take_succ_cons, List.take_zero, List.drop_succ_cons, List.drop_zero]
        intro G pick hR hp1 hp2
        have p0 : ∀ u, (pick u).cell? ⟨fb, 0, none⟩ = some (.bool sm) := fun u => ((hp1 u).cell HF2.out.lt (fun h => h) _).trans (HF2.out.cell 0)
        have p1 : ∀ u, (pick u).cell? ⟨fb, 1, none⟩ = some (.bool na) := fun u => ((hp1 u).cell HF2.out.lt (fun h => h) _).trans (HF2.out.cell 1)
        have p2 : ∀ u, (pick u).cell? ⟨fb, 2, none⟩ = some (.int .u32 mo) := fun u => ((hp1 u).cell HF2.out.lt (fun h => h) _).trans (HF2.out.cell 2)
        have p3 : ∀ u, (pick u).cell? ⟨fb, 3, none⟩ = some (.int .u32 li) := fun u => ((hp1 u).cell HF2.out.lt (fun h => h) _).trans (HF2.out.cell 3)
        repeat (first | (refine wpR_det hp2 rfl ((hR.rel _).trans rfl) rfl ?_; intro K hK; go_big_quiet_op; go_big_quiet_on) | (refine wpR_ptr hp2 rfl ((hR.rel _).trans rfl) rfl rfl ?_; intro K hK; go_big_quiet_op; go_big_quiet_on) | (refine wpR_skip pick rfl ?_; intro K hK; go_big_quiet_op; go_big_quiet_on))
        refine wpR_rel pick rfl ((hR.rel _).trans rfl) ((hR.turns _).trans rfl) ?_ ?_
        · intro u hu
          have hk := hR.since hu.1
          have hks := hk.size
          have hz := HLG.out 0 u (by omega) hk
          rw [Hse.out] at hz
          unfold relAt
          go_simp
          refine hz.mono ?_
          rintro e w' ⟨rfl, hb'⟩
          exact ⟨_, rfl, hR.intoB hb', hR.put 0 rfl rfl rfl⟩
        intro v hv
        obtain ⟨u, _, hu⟩ := hv
        obtain rfl := hR.get 0 rfl hu
        clear hu
        intro K hK
        go_big_quiet_op
        go_big_quiet_on
        repeat (first | (refine wpR_det hp2 rfl ((hR.rel _).trans rfl) rfl ?_; intro K hK; go_big_quiet_op; go_big_quiet_on) | (refine wpR_ptr hp2 rfl ((hR.rel _).trans rfl) rfl rfl ?_; intro K hK; go_big_quiet_op; go_big_quiet_on) | (refine wpR_skip pick rfl ?_; intro K hK; go_big_quiet_op; go_big_quiet_on))
        refine wpR_rel pick rfl ((hR.rel _).trans rfl) ((hR.turns _).trans rfl) ?_ ?_
        · intro u hu
          have hk := hR.since hu.1
          have hks := hk.size
          have hz := HLG.out 4 u (by omega) hk
          rw [Hpa.out] at hz
          unfold relAt
          go_simp
          refine hz.mono ?_
          rintro e w' ⟨rfl, hb'⟩
          exact ⟨_, rfl, hR.intoB hb', hR.put 1 rfl rfl rfl⟩
        intro v hv
        obtain ⟨u, _, hu⟩ := hv
        obtain rfl := hR.get 1 rfl hu
        clear hu
        intro K hK
        go_big_quiet_op
        go_big_quiet_on
        repeat (first | (refine wpR_det hp2 rfl ((hR.rel _).trans rfl) rfl ?_; intro K hK; go_big_quiet_op; go_big_quiet_on) | (refine wpR_ptr hp2 rfl ((hR.rel _).trans rfl) rfl rfl ?_; intro K hK; go_big_quiet_op; go_big_quiet_on) | (refine wpR_skip pick rfl ?_; intro K hK; go_big_quiet_op; go_big_quiet_on))
        refine wpR_rel pick rfl ((hR.rel _).trans rfl) ((hR.turns _).trans rfl) ?_ ?_
        · intro u hu
          have hk := hR.since hu.1
          have hks := hk.size
          have hz := HLG.out 12 u (by omega) hk
          rw [Hpl.out] at hz
          unfold relAt
          go_simp
          refine hz.mono ?_
          rintro e w' ⟨rfl, hb'⟩
          exact ⟨_, rfl, hR.intoB hb', hR.put 2 rfl rfl rfl⟩
        intro v hv
        obtain ⟨u, _, hu⟩ := hv
        obtain rfl := hR.get 2 rfl hu
        clear hu
        intro K hK
        go_big_quiet_op
        go_big_quiet_on
        repeat (first | (refine wpR_det hp2 rfl ((hR.rel _).trans rfl) rfl ?_; intro K hK; go_big_quiet_op; go_big_quiet_on) | (refine wpR_ptr hp2 rfl ((hR.rel _).trans rfl) rfl rfl ?_; intro K hK; go_big_quiet_op; go_big_quiet_on) | (refine wpR_skip pick rfl ?_; intro K hK; go_big_quiet_op; go_big_quiet_on))
        refine wpR_rel pick rfl ((hR.rel _).trans rfl) ((hR.turns _).trans rfl) ?_ ?_
        · intro u hu
          have hk := hR.since hu.1
          have hks := hk.size
          unfold relAt
          go_simp
          exact ⟨hR.into0 ((Kept.refl _ _).alloc _), hR.put 3 rfl rfl ⟨_, rfl, hks, Blk.new _ _ _⟩⟩
        intro v hv
        obtain ⟨u, _, hu⟩ := hv
        obtain ⟨pb, rfl, -, -⟩ := hR.get 3 rfl hu
        clear hu
        intro K hK
        go_big_quiet_op
        go_big_quiet_on
        repeat (first | (refine wpR_det hp2 rfl ((hR.rel _).trans rfl) rfl ?_; intro K hK; go_big_quiet_op; go_big_quiet_on) | (refine wpR_ptr hp2 rfl ((hR.rel _).trans rfl) rfl rfl ?_; intro K hK; go_big_quiet_op; go_big_quiet_on) | (refine wpR_skip pick rfl ?_; intro K hK; go_big_quiet_op; go_big_quiet_on))
        refine wpR_nil ?_
        intro w3 hk2 hF hM
        obtain ⟨pb', e, hpb, hP⟩ := (hR.get 3 rfl (hF _ _ (Got.upd_self _ _ _)))
        obtain rfl : pb = pb' := by injection e with e; injection e with e; injection e
        have HP0 := Lib.hid hP
        have HPB := Lib.hid hpb
        have HK3 := Lib.hid (show Kept (fun _ => False) w1 w3 from HK2.out.trans hk2)
        have cp := HP0.out.cell
        have fp := HP0.out.frozen
        have lp := HP0.out.lt
        clear hF hM hk2 hp1 hp2 hR e hpb hP p0 p1 p2 p3
        go_upto_region 8 with fail
        obtain ⟨w4, hw4⟩ : ∃ w4 : World, w4 = (((w3.setCell ⟨pb, 0, none⟩ (.int .u32 se)).setCell ⟨pb, 1, none⟩ (.int .u32 pa)).setCell ⟨pb, 2, none⟩ (.int .u32 pl)).setCell ⟨pb, 3, none⟩ (.slice (some ⟨bb, o, none⟩) sz 0) := ⟨_, rfl⟩
        have HP4 := Lib.hid (show Blk w4 pb 34 #[.int .u32 se, .int .u32 pa, .int .u32 pl, .slice (some ⟨bb, o, none⟩) sz 0] by rw [hw4]; exact (((HP0.out.set_ 0 _).set_ 1 _).set_ 2 _).set_to rfl)
        have HK34 := Lib.hid (show Kept (fun i => i = pb) w3 w4 by rw [hw4]; exact Kept.set4 (S := fun i => i = pb) (Kept.refl _ w3) rfl _ _ _ _)
        rw [← hw4]
        clear hw4 cp fp lp
        have HK4 := Lib.hid (show Kept (fun _ => False) w1 w4 from HK3.out.then HK34.out (fun i hi e => by have := HPB.out; have := HK2.out.size; omega))
        have HF4 := Lib.hid (HF.out.kept HK4.out (fun h => h))
        have HR4 := Lib.hid (HRR.out.kept HK4.out (fun h => h))
        have hz := fun u => rightM_any sm na mo li se pa pl (some ⟨bb, o, none⟩) 0 y u MO.out LI.out ⟨se0, se1⟩ ⟨pa0, pa1⟩ ⟨pl0, pl1⟩ HYM.out
        rw [HYL.out] at hz
        have HRT := Lib.hid hz
        have cp := HP4.out.cell
        have cf := HF4.out.cell
        clear hz
        go_wp2_with fail
        refine (HRT.out w4).mono ?_
        rintro e w5 ⟨rfl, hb5⟩
        have HB5 := Lib.hid hb5
        have HK5 := Lib.hid (show Kept (fun _ => False) w1 w5 from HK4.out.then (Kept.ofB (S := fun _ => False) hb5) (fun _ _ h => h.elim))
        have HP5 := Lib.hid (HP4.out.below hb5 HP4.out.lt)
        have HR5 := Lib.hid (HR4.out.below hb5 HR4.out.lt)
        have cp := HP5.out.cell
        have cr := HR5.out.cell
        have fr := HR5.out.frozen
        have lr := HR5.out.lt
        clear hb5 cf
        cases hrt : rightB na mo pa pl sz with
        | true =>
          have HOK := Lib.hid (OKI.out hrt)
          clear hrt
          go_wp2_with fail
          refine bodyPost_ret (results_blk_tmp (P := Try.prog) (show Try.f39.results = _ from rfl) _ _ rb 34 #[.int .u32 se, .int .u32 pa, .int .u32 pl, .slice (some ⟨bb, o, none⟩) sz 0] _ rfl ((((HR5.out.set_ 0 _).set_ 1 _).set_ 2 _).set_to rfl) Try.underlying34 rfl (by kernel_rfl)) rfl ⟨.inl ⟨HOK.out, ?_⟩, ?_⟩
          · rw [HSE.out, HPA.out, HPL.out, HSZ.out, HY.out]
            exact ⟨(some ⟨bb, o, none⟩), 0, rfl, HYC.out.1, HYC.out.2, HYB.out⟩
          · exact (HK1.out.below (Nat.le_refl _) (fun i h => h.elim)).trans ((Kept.set4 (S := fun i => i = rb) (HK5.out.mono (T := fun i => i = rb) (fun _ _ h => h.elim)) rfl _ _ _ _).below HK1.out.size (fun i e => by have := HRB.out; omega))
        | false =>
          have HNO := Lib.hid (fun h => NOI.out h hrt)
          clear hrt
          go_wp2_with fail
          refine bodyPost_ret (results_blk_tmp (P := Try.prog) (show Try.f39.results = _ from rfl) _ _ rb 34 #[.int .u32 0, .int .u32 0, .int .u32 0, .slice none 0 0] _ rfl ((((HR5.out.set_ 0 _).set_ 1 _).set_ 2 _).set_to rfl) Try.underlying34 rfl (by kernel_rfl)) rfl ⟨.inr ⟨HNO.out, rfl⟩, ?_⟩
          exact (HK1.out.below (Nat.le_refl _) (fun i h => h.elim)).trans ((Kept.set4 (S := fun i => i = rb) (HK5.out.mono (T := fun i => i = rb) (fun _ _ h => h.elim)) rfl _ _ _ _).below HK1.out.size (fun i e => by have := HRB.out; omega))
    · have i2 : (b.length : Int) - 16 < (sz : Int) := by omega
      have HNO := Lib.hid (show ¬ pkOk sm na mo b from fun h => h5 (by have := h.2.1; rw [HSZ.out] at this; exact this))
      have cr := HR2.out.cell
      have fr := HR2.out.frozen
      have lr := HR2.out.lt
      go_wp2_with fail
      refine bodyPost_ret (results_blk_tmp (P := Try.prog) (show Try.f39.results = _ from rfl) _ _ rb 34 #[.int .u32 0, .int .u32 0, .int .u32 0, .slice none 0 0] _ rfl ((((HR2.out.set_ 0 _).set_ 1 _).set_ 2 _).set_to rfl) Try.underlying34 rfl (by kernel_rfl)) rfl ⟨.inr ⟨HNO.out, rfl⟩, ?_⟩
      exact (HK1.out.below (Nat.le_refl _) (fun i h => h.elim)).trans ((Kept.set4 (S := fun i => i = rb) (HK2.out.mono (T := fun i => i = rb) (fun _ _ h => h.elim)) rfl _ _ _ _).below HK1.out.size (fun i e => by have := HRB.out; omega))
  · have i1 : (b.length : Int) < 16 := by omega
    have HNO := Lib.hid (show ¬ pkOk sm na mo b from fun h => h16 h.1)
    have cr := HRR.out.cell
    have fr := HRR.out.frozen
    have lr := HRR.out.lt
    go_wp2_with fail
    refine bodyPost_ret (results_blk_tmp (P := Try.prog) (show Try.f39.results = _ from rfl) _ _ rb 34 #[.int .u32 0, .int .u32 0, .int .u32 0, .slice none 0 0] _ rfl ((((HRR.out.set_ 0 _).set_ 1 _).set_ 2 _).set_to rfl) Try.underlying34 rfl (by kernel_rfl)) rfl ⟨.inr ⟨HNO.out, rfl⟩, ?_⟩
    exact (HK1.out.below (Nat.le_refl _) (fun i h => h.elim)).trans ((Kept.set4 (S := fun i => i = rb) (Kept.refl (fun i => i = rb) w1) rfl _ _ _ _).below HK1.out.size (fun i e => by have := HRB.out; omega))
end Go.Proofs.Ytohimionlgaaoaa
