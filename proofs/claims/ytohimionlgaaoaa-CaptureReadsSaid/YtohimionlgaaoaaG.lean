/- The reference's All, walked. -/
import Derived.Test.YtohimionlgaaoaaF
import Derived.Test.YtohimionlgaaoaaRowE
namespace Go.Proofs.Ytohimionlgaaoaa
open Go.RowKit
set_option linter.unusedVariables false
/-- A packet as it lies. -/
structure PkV where
  pk : Pk
  DA : Option Addr
  dc : Nat
def PkV.cs (p : PkV) : List Value := [.int .u32 p.pk.se, .int .u32 p.pk.pa, .int .u32 p.pk.pl, .slice p.DA p.pk.dl.length p.dc]
theorem PkV.cs_len (p : PkV) : p.cs.length = 4 := rfl
/-- All packets that bytes begin with, and how many bytes they are. -/
noncomputable def allR (sm na : Bool) (mo : Int) : Nat → List UInt8 → List Pk × Nat
  | 0, _ => ([], 0)
  | f + 1, b => @ite _ (pkOk sm na mo b) (Classical.propDecidable _)
      (pkOf sm b :: (allR sm na mo f (b.drop (16 + szP sm b))).1, 16 + szP sm b + (allR sm na mo f (b.drop (16 + szP sm b))).2)
      ([], 0)
theorem allR_no (sm na : Bool) (mo : Int) (f : Nat) (b : List UInt8) (h : ¬ pkOk sm na mo b) : allR sm na mo f b = ([], 0) := by
  cases f with
  | zero => rfl
  | succ f => simp only [allR]; rw [if_neg h]
theorem allR_yes (sm na : Bool) (mo : Int) (f : Nat) (b : List UInt8) (h : pkOk sm na mo b) : allR sm na mo (f + 1) b = (pkOf sm b :: (allR sm na mo f (b.drop (16 + szP sm b))).1, 16 + szP sm b + (allR sm na mo f (b.drop (16 + szP sm b))).2) := by
  simp only [allR]; rw [if_pos h]
theorem allR_fuel (sm na : Bool) (mo : Int) : ∀ (f g : Nat) (b : List UInt8), b.length < f → b.length < g → allR sm na mo f b = allR sm na mo g b
  | 0, _, _, h, _ => absurd h (by omega)
  | _ + 1, 0, _, _, h => absurd h (by omega)
  | f + 1, g + 1, b, h1, h2 => by
    by_cases h : pkOk sm na mo b
    · have hl := h.1
      rw [allR_yes _ _ _ f b h, allR_yes _ _ _ g b h, allR_fuel sm na mo f g (b.drop (16 + szP sm b)) (by simp; omega) (by simp; omega)]
    · rw [allR_no _ _ _ _ _ h, allR_no _ _ _ _ _ h]
noncomputable def alls (sm na : Bool) (mo : Int) (b : List UInt8) : List Pk × Nat := allR sm na mo (b.length + 1) b
theorem alls_no (sm na : Bool) (mo : Int) (b : List UInt8) (h : ¬ pkOk sm na mo b) : alls sm na mo b = ([], 0) := allR_no _ _ _ _ _ h
theorem alls_yes (sm na : Bool) (mo : Int) (b : List UInt8) (h : pkOk sm na mo b) : alls sm na mo b = (pkOf sm b :: (alls sm na mo (b.drop (16 + szP sm b))).1, 16 + szP sm b + (alls sm na mo (b.drop (16 + szP sm b))).2) := by
  have hl := h.1
  unfold alls
  rw [allR_yes _ _ _ _ _ h, allR_fuel sm na mo b.length ((b.drop (16 + szP sm b)).length + 1) (b.drop (16 + szP sm b)) (by simp; omega) (by omega)]
/-- Packets whose bytes are parts of what lay below block B. -/
def PksR (w : World) (B base : Nat) (v : Value) (ps : List Pk) : Prop := ∃ L : List PkV, L.map (·.pk) = ps ∧ RowN w base 27 4 v (L.map PkV.cs) ∧ ∀ p ∈ L, p.pk.dl.length ≤ p.dc ∧ p.dc ≤ maxLen ∧ BS w B p.DA p.pk.dl
theorem PksR.nil (w : World) (B base : Nat) : PksR w B base (.slice none 0 0) [] := ⟨[], rfl, RowN.nil _ _ _ _, fun p hp => by cases hp⟩
theorem PksR.shape {w : World} {B base : Nat} {v : Value} {ps : List Pk} (h : PksR w B base v ps) : ∃ A c, v = .slice A ps.length c := by
  obtain ⟨L, rfl, h1, -⟩ := h
  obtain ⟨A, c, e, -, -⟩ := h1.shape
  exact ⟨A, c, by rw [e]; simp⟩
theorem PksR.on {w w' : World} {B base : Nat} {v : Value} {ps : List Pk} (h : PksR w B base v ps ∧ B ≤ w.heap.size) (hk : Kept (fun _ => False) w w') : PksR w' B base v ps := by
  obtain ⟨⟨L, h0, h1, h2⟩, hB⟩ := h
  exact ⟨L, h0, h1.kept hk (fun _ _ h => h), fun p hp => ⟨(h2 p hp).1, (h2 p hp).2.1, (h2 p hp).2.2.kept hk hB (fun _ _ h => h)⟩⟩
theorem PksR.more {w : World} {B base base' : Nat} {v : Value} {ps : List Pk} (h : PksR w B base v ps) (hb : base' ≤ base) : PksR w B base' v ps := by
  obtain ⟨L, h0, h1, h2⟩ := h
  exact ⟨L, h0, h1.more hb, h2⟩
def RefAllPost (sm na : Bool) (mo : Int) (b : List UInt8) (w : World) (e : Ending) (w' : World) : Prop :=
  ∃ v, e = .returned (.tuple #[v, .int .i64 ((alls sm na mo b).2 : Int)]) ∧ PksR w' w.heap.size w.heap.size v (alls sm na mo b).1
theorem Try.info27 : (Try.prog.info? 27).map (fun i => (i.zero, i.size, i.bytes)) = some (some (.agg #[.int .u32 0, .int .u32 0, .int .u32 0, .slice none 0 0]), 4, 40) := by kernel_rfl
set_option maxRecDepth 10000 in
set_option maxHeartbeats 16000000 in
theorem refAll_any (sm na : Bool) (mo li : Int) (A : Option Addr) (c : Nat) (b : List UInt8) (w : World) (hmo : 0 ≤ mo ∧ mo ≤ 4294967295) (hli : 0 ≤ li ∧ li ≤ 4294967295) (hl : b.length ≤ 100000) (hc : b.length ≤ c) (hcm : c ≤ maxLen) (hB : BS w w.heap.size A b) :
    Calls Try.prog 17 #[.agg #[.bool sm, .bool na, .int .u32 mo, .int .u32 li], .slice A b.length c] w fun e w' => RefAllPost sm na mo b w e w' ∧ Below w.heap.size w w' := by
  have hinf := Try.info27
  have HB := Lib.hid hB
  have HC := Lib.hid (show b.length ≤ c ∧ c ≤ maxLen from ⟨hc, hcm⟩)
  have MO := Lib.hid hmo
  have LI := Lib.hid hli
  unfold maxLen at hcm
  clear hB hmo hli
  go_enter Try.func17, Try.ntmps17
  go_upto_region 1 with fail
  obtain ⟨w1, hw1⟩ : ∃ w1 : World, w1 = w.alloc (.cells #[.bool sm, .bool na, .int .u32 mo, .int .u32 li] 24) := ⟨_, rfl⟩
  have HF0 := Lib.hid (show Blk w1 w.heap.size 24 #[.bool sm, .bool na, .int .u32 mo, .int .u32 li] by rw [hw1]; exact Blk.new _ _ _)
  have HK1 := Lib.hid (show Kept (fun _ => False) w w1 by rw [hw1]; exact (Kept.refl _ _).alloc _)
  rw [← hw1]
  clear hw1
  obtain ⟨fb, hfb⟩ : ∃ fb, w.heap.size = fb := ⟨_, rfl⟩
  obtain ⟨base, hbase⟩ : ∃ base, w1.heap.size = base := ⟨_, rfl⟩
  have HFB := Lib.hid (show fb < base by have := HF0.out.lt; omega)
  have HBS := Lib.hid (show w.heap.size ≤ base by rw [← hbase]; exact HK1.out.size)
  rw [hfb] at HF0 ⊢
  have hbase9 := Lib.hid hbase
  clear hfb hbase
  go_wp2_with fail
  go_loopw [6, 7] (fun v i wr => ∃ (ls : List Pk) (at_ : Nat), at_ ≤ b.length ∧ i = .int .i64 (at_ : Int) ∧ 16 * ls.length ≤ at_ ∧ Hid (Blk wr fb 24 #[.bool sm, .bool na, .int .u32 mo, .int .u32 li]) ∧ Hid (PksR wr w.heap.size base v ls) ∧ Hid (alls sm na mo b = (ls ++ (alls sm na mo (b.drop at_)).1, at_ + (alls sm na mo (b.drop at_)).2)) ∧ Hid (Below w.heap.size w wr ∧ base ≤ wr.heap.size)) (fun _ i _ => b.length - (intOf i).toNat)
  case atStart => exact ⟨[], 0, by omega, rfl, by simp, HF0, Lib.hid (PksR.nil _ _ _), Lib.hid (by simp), Lib.hid ⟨HK1.out.below (Nat.le_refl _) (fun i h => h.elim), by rw [← hbase9.out]; exact Nat.le_refl _⟩⟩
  case round =>
    obtain ⟨ls, at_, hat, rfl, hls, HF, HR0, HS, HWB⟩ := hrel
    have HW := Lib.hid HWB.out.1
    have HWS := Lib.hid HWB.out.2
    clear HWB
    have HR := Lib.hid (show PksR wr w.heap.size base _ ls ∧ w.heap.size ≤ wr.heap.size from ⟨HR0.out, HW.out.size⟩)
    obtain ⟨VA, vc, hve⟩ := HR0.out.shape
    subst hve
    clear HR0
    have at0 : (0 : Int) ≤ (at_ : Int) := Int.natCast_nonneg _
    have at1 : (at_ : Int) ≤ 100000 := by omega
    have bc : (b.length : Int) ≤ (c : Int) := by omega
    have l0 : (0 : Int) ≤ (ls.length : Int) := Int.natCast_nonneg _
    have l1 : (ls.length : Int) ≤ 100000 := by omega
    obtain ⟨x, hx⟩ : ∃ x, b.drop at_ = x := ⟨_, rfl⟩
    have hxl : b.length - at_ = x.length := by rw [← hx]; simp
    have HXS := Lib.hid hx
    have HXL := Lib.hid hxl
    rw [hx] at HS
    clear hx hxl
    have STOP : ¬ pkOk sm na mo x → alls sm na mo b = (ls, at_) := fun h => by rw [HS.out, alls_no sm na mo x h]; simp
    have STOP := Lib.hid STOP
    by_cases h16 : at_ + 16 ≤ b.length
    · have i1 : (at_ : Int) + 16 ≤ (b.length : Int) := by omega
      obtain ⟨bb, o, hbb, rfl, hby⟩ := HB.out.at (k := 0) (by omega)
      clear hby
      have hxl : b.length - at_ = x.length := HXL.out
      have HLG := Lib.hid (fun (k : Nat) (u : World) (ha : k + 4 ≤ 16) (hk : Kept (fun _ => False) wr u) => (show Calls Try.prog 28 #[.agg #[.bool sm, .bool na, .int .u32 mo, .int .u32 li], .slice (some ⟨bb, o, none⟩) b.length c, .int .i64 ((at_ : Int) + (k : Int))] u (fun e w' => e = .returned (.int .u32 (ofL sm ((x.drop k).take 4))) ∧ Below u.heap.size u w') from by
        have hz := of_any sm na mo li (some ⟨bb, o, none⟩) c (at_ + k) b u (by omega) HC.out.1 HC.out.2 (by omega) ((HB.out.onB HW.out (Nat.le_refl _)).on hk (fun _ _ h => h))
        rw [show ((at_ + k : Nat) : Int) = (at_ : Int) + (k : Int) by omega, show (b.drop (at_ + k)).take 4 = (x.drop k).take 4 by rw [← HXS.out, List.drop_drop]] at hz
        exact hz))
      obtain ⟨sz, hsz⟩ : ∃ sz : Nat, szP sm x = sz := ⟨_, rfl⟩
      have hsr := ofL_range sm ((x.drop 8).take 4) (by rw [List.length_take, List.length_drop]; omega)
      have hs1 : ofL sm ((x.drop 8).take 4) = (sz : Int) := by rw [← hsz]; unfold szP; omega
      rw [hs1] at hsr
      have HSZ := Lib.hid hsz
      have s0 := hsr.1
      have s1 := hsr.2
      have hz := HLG.out 8 wr (by omega) (Kept.refl _ _)
      rw [hs1] at hz
      have HZ := Lib.hid hz
      have cf := HF.out.cell
      clear hsz hs1 hsr hz
      go_wp2_with fail
      refine HZ.out.mono ?_
      rintro e w2 ⟨rfl, hb2⟩
      have HK2 := Lib.hid (show Kept (fun _ => False) wr w2 from Kept.ofB hb2)
      have HF2 := Lib.hid (HF.out.below hb2 HF.out.lt)
      clear hb2 cf
      by_cases h5 : sz + 16 ≤ x.length
      · have i2 : ¬ (b.length : Int) - (at_ : Int) - 16 < (sz : Int) := by omega
        have i3 : (at_ : Int) + 16 + (sz : Int) ≤ (c : Int) := by omega
        have i4 : (at_ : Int) + 16 + (sz : Int) ≤ 100000 := by omega
        obtain ⟨se, hse⟩ : ∃ se, ofL sm (x.take 4) = se := ⟨_, rfl⟩
        obtain ⟨pa, hpa⟩ : ∃ pa, ofL sm ((x.drop 4).take 4) = pa := ⟨_, rfl⟩
        obtain ⟨pl, hpl⟩ : ∃ pl, ofL sm ((x.drop 12).take 4) = pl := ⟨_, rfl⟩
        have r1 := ofL_range sm (x.take 4) (by rw [List.length_take]; omega)
        have r2 := ofL_range sm ((x.drop 4).take 4) (by rw [List.length_take, List.length_drop]; omega)
        have r3 := ofL_range sm ((x.drop 12).take 4) (by rw [List.length_take, List.length_drop]; omega)
        rw [hse] at r1
        rw [hpa] at r2
        rw [hpl] at r3
        have HSE := Lib.hid hse
        have HPA := Lib.hid hpa
        have HPL := Lib.hid hpl
        have Hse := Lib.hid (fun (u : World) (hk : Kept (fun _ => False) w2 u) => (show Calls Try.prog 28 #[.agg #[.bool sm, .bool na, .int .u32 mo, .int .u32 li], .slice (some ⟨bb, o, none⟩) b.length c, .int .i64 (at_ : Int)] u (fun e w' => e = .returned (.int .u32 se) ∧ Below u.heap.size u w') from by
          have hz := HLG.out 0 u (by omega) (HK2.out.trans hk)
          rw [List.drop_zero, hse] at hz
          simpa using hz))
        have Hpa := Lib.hid (fun (u : World) (hk : Kept (fun _ => False) w2 u) => (show Calls Try.prog 28 #[.agg #[.bool sm, .bool na, .int .u32 mo, .int .u32 li], .slice (some ⟨bb, o, none⟩) b.length c, .int .i64 ((at_ : Int) + 4)] u (fun e w' => e = .returned (.int .u32 pa) ∧ Below u.heap.size u w') from by
          have hz := HLG.out 4 u (by omega) (HK2.out.trans hk)
          rw [hpa] at hz
          exact hz))
        have Hpl := Lib.hid (fun (u : World) (hk : Kept (fun _ => False) w2 u) => (show Calls Try.prog 28 #[.agg #[.bool sm, .bool na, .int .u32 mo, .int .u32 li], .slice (some ⟨bb, o, none⟩) b.length c, .int .i64 ((at_ : Int) + 12)] u (fun e w' => e = .returned (.int .u32 pl) ∧ Below u.heap.size u w') from by
          have hz := HLG.out 12 u (by omega) (HK2.out.trans hk)
          rw [hpl] at hz
          exact hz))
        obtain ⟨y, hy⟩ : ∃ y, (x.drop 16).take sz = y := ⟨_, rfl⟩
        have hyl : y.length = sz := by rw [← hy, List.length_take, List.length_drop]; omega
        have HY := Lib.hid hy
        have HYL := Lib.hid hyl
        have HYM := Lib.hid (show y.length ≤ 1000000 by omega)
        have OKI := Lib.hid (show rightB na mo pa pl sz = true → pkOk sm na mo x from fun h => ⟨by omega, by rw [HSZ.out]; exact h5, by show rightB na mo (ofL sm ((x.drop 4).take 4)) (ofL sm ((x.drop 12).take 4)) (szP sm x) = true; rw [HSZ.out, hpa, hpl]; exact h⟩)
        have NOI := Lib.hid (show pkOk sm na mo x → rightB na mo pa pl sz = false → False from fun h h' => by
          have h9 : rightB na mo (ofL sm ((x.drop 4).take 4)) (ofL sm ((x.drop 12).take 4)) (szP sm x) = true := h.2.2
          rw [HSZ.out, hpa, hpl, h'] at h9
          cases h9)
        have se0 := r1.1
        have se1 := r1.2
        have pa0 := r2.1
        have pa1 := r2.2
        have pl0 := r3.1
        have pl1 := r3.2
        clear r1 r2 r3 hse hpa hpl hyl
        by_cases hc16 : at_ + 16 < c
        · have j1 : (at_ : Int) + 16 < (c : Int) := by omega
          have HYC := Lib.hid (show sz ≤ c - (at_ + 16) ∧ c - (at_ + 16) ≤ maxLen from ⟨by omega, by unfold maxLen; omega⟩)
          have HYB := Lib.hid (show BS w w.heap.size (some ⟨bb, o + (at_ + 16), none⟩) y by
            have h9 := (HB.out.drop_ (at_ + 16)).take_ sz
            rwa [show (b.drop (at_ + 16)).take sz = y by rw [← hy, ← HXS.out, List.drop_drop]] at h9)
          clear hy
          go_wp2_with fail
          refine wp_region_kept 24 [(3, fun v u => v = .int .u32 se), (8, fun v u => v = .int .u32 pa), (13, fun v u => v = .int .u32 pl), (23, fun v u => ∃ g, v = .pointer (some ⟨g, 0, none⟩) ∧ w2.heap.size ≤ g ∧ Blk u g 27 #[.int .u32 0, .int .u32 0, .int .u32 0, .slice none 0 0])] ?st ?ne rfl (by kernel_rfl) (by kernel_rfl) ?_
          case st =>
            intro p hp
            simp only [List.mem_cons, List.not_mem_nil, or_false] at hp
            rcases hp with rfl | rfl | rfl | rfl
            · intro v u u' h hk; exact h
            · intro v u u' h hk; exact h
            · intro v u u' h hk; exact h
            · rintro v u u' ⟨g, rfl, h1, h⟩ hk; exact ⟨g, rfl, h1, h.kept hk (fun h => h)⟩
          case ne =>
            intro p hp
            simp only [List.mem_cons, List.not_mem_nil, or_false] at hp
            rcases hp with rfl | rfl | rfl | rfl
            · exact ⟨_, _, Kept.refl _ _, rfl⟩
            · exact ⟨_, _, Kept.refl _ _, rfl⟩
            · exact ⟨_, _, Kept.refl _ _, rfl⟩
            · exact ⟨_, _, (Kept.refl _ _).alloc _, _, rfl, Nat.le_refl _, Blk.new _ _ _⟩
          simp only [List.take_succ_cons, List.take_zero, List.drop_succ_cons, List.drop_zero]
          intro G pick hR hp1 hp2
          have p0 : ∀ u, (pick u).cell? ⟨fb, 0, none⟩ = some (.bool sm) := fun u => ((hp1 u).cell HF2.out.lt (fun h => h) _).trans (HF2.out.cell 0)
          have p1 : ∀ u, (pick u).cell? ⟨fb, 1, none⟩ = some (.bool na) := fun u => ((hp1 u).cell HF2.out.lt (fun h => h) _).trans (HF2.out.cell 1)
          have p2 : ∀ u, (pick u).cell? ⟨fb, 2, none⟩ = some (.int .u32 mo) := fun u => ((hp1 u).cell HF2.out.lt (fun h => h) _).trans (HF2.out.cell 2)
          have p3 : ∀ u, (pick u).cell? ⟨fb, 3, none⟩ = some (.int .u32 li) := fun u => ((hp1 u).cell HF2.out.lt (fun h => h) _).trans (HF2.out.cell 3)
          repeat (first | (refine wpR_det hp2 rfl ((hR.rel _).trans rfl) rfl ?_; intro K hK; go_big_quiet_op; go_big_quiet_on) | (refine wpR_ptr hp2 rfl ((hR.rel _).trans rfl) rfl rfl ?_; intro K hK; go_big_quiet_op; go_big_quiet_on) | (refine wpR_skip pick rfl ?_; intro K hK; go_big_quiet_op; go_big_quiet_on))
          refine wpR_rel pick rfl ((hR.rel _).trans rfl) ((hR.turns _).trans rfl) ?_ ?_
          · intro u hu
            have hk := hR.since hu.1
            have hks := hk.size
            have hz := Hse.out u hk
            unfold relAt
            go_simp
            refine hz.mono ?_
            rintro e w' ⟨rfl, hb'⟩
            exact ⟨_, rfl, hR.intoB hb', hR.put 0 rfl rfl rfl⟩
          intro v hv
          obtain ⟨u, _, hu⟩ := hv
          obtain rfl := hR.get 0 rfl hu
          clear hu
          intro K hK
          go_big_quiet_op
          go_big_quiet_on
          repeat (first | (refine wpR_det hp2 rfl ((hR.rel _).trans rfl) rfl ?_; intro K hK; go_big_quiet_op; go_big_quiet_on) | (refine wpR_ptr hp2 rfl ((hR.rel _).trans rfl) rfl rfl ?_; intro K hK; go_big_quiet_op; go_big_quiet_on) | (refine wpR_skip pick rfl ?_; intro K hK; go_big_quiet_op; go_big_quiet_on))
          refine wpR_rel pick rfl ((hR.rel _).trans rfl) ((hR.turns _).trans rfl) ?_ ?_
          · intro u hu
            have hk := hR.since hu.1
            have hks := hk.size
            have hz := Hpa.out u hk
            unfold relAt
            go_simp
            refine hz.mono ?_
            rintro e w' ⟨rfl, hb'⟩
            exact ⟨_, rfl, hR.intoB hb', hR.put 1 rfl rfl rfl⟩
          intro v hv
          obtain ⟨u, _, hu⟩ := hv
          obtain rfl := hR.get 1 rfl hu
          clear hu
          intro K hK
          go_big_quiet_op
          go_big_quiet_on
          repeat (first | (refine wpR_det hp2 rfl ((hR.rel _).trans rfl) rfl ?_; intro K hK; go_big_quiet_op; go_big_quiet_on) | (refine wpR_ptr hp2 rfl ((hR.rel _).trans rfl) rfl rfl ?_; intro K hK; go_big_quiet_op; go_big_quiet_on) | (refine wpR_skip pick rfl ?_; intro K hK; go_big_quiet_op; go_big_quiet_on))
          refine wpR_rel pick rfl ((hR.rel _).trans rfl) ((hR.turns _).trans rfl) ?_ ?_
          · intro u hu
            have hk := hR.since hu.1
            have hks := hk.size
            have hz := Hpl.out u hk
            unfold relAt
            go_simp
            refine hz.mono ?_
            rintro e w' ⟨rfl, hb'⟩
            exact ⟨_, rfl, hR.intoB hb', hR.put 2 rfl rfl rfl⟩
          intro v hv
          obtain ⟨u, _, hu⟩ := hv
          obtain rfl := hR.get 2 rfl hu
          clear hu
          intro K hK
          go_big_quiet_op
          go_big_quiet_on
          repeat (first | (refine wpR_det hp2 rfl ((hR.rel _).trans rfl) rfl ?_; intro K hK; go_big_quiet_op; go_big_quiet_on) | (refine wpR_ptr hp2 rfl ((hR.rel _).trans rfl) rfl rfl ?_; intro K hK; go_big_quiet_op; go_big_quiet_on) | (refine wpR_skip pick rfl ?_; intro K hK; go_big_quiet_op; go_big_quiet_on))
          refine wpR_rel pick rfl ((hR.rel _).trans rfl) ((hR.turns _).trans rfl) ?_ ?_
          · intro u hu
            have hk := hR.since hu.1
            have hks := hk.size
            unfold relAt
            go_simp
            exact ⟨hR.into0 ((Kept.refl _ _).alloc _), hR.put 3 rfl rfl ⟨_, rfl, hks, Blk.new _ _ _⟩⟩
          intro v hv
          obtain ⟨u, _, hu⟩ := hv
          obtain ⟨pb, rfl, -, -⟩ := hR.get 3 rfl hu
          clear hu
          intro K hK
          go_big_quiet_op
          go_big_quiet_on
          repeat (first | (refine wpR_det hp2 rfl ((hR.rel _).trans rfl) rfl ?_; intro K hK; go_big_quiet_op; go_big_quiet_on) | (refine wpR_ptr hp2 rfl ((hR.rel _).trans rfl) rfl rfl ?_; intro K hK; go_big_quiet_op; go_big_quiet_on) | (refine wpR_skip pick rfl ?_; intro K hK; go_big_quiet_op; go_big_quiet_on))
          refine wpR_nil ?_
          intro w3 hk2 hF hM
          obtain ⟨pb', e, hpb, hP⟩ := (hR.get 3 rfl (hF _ _ (Got.upd_self _ _ _)))
          obtain rfl : pb = pb' := by injection e with e; injection e with e; injection e
          have HP0 := Lib.hid hP
          have HPB := Lib.hid hpb
          have HK3 := Lib.hid (show Kept (fun _ => False) wr w3 from HK2.out.trans hk2)
          have cp := HP0.out.cell
          have fp := HP0.out.frozen
          have lp := HP0.out.lt
          clear hF hM hk2 hp1 hp2 hR e hpb hP p0 p1 p2 p3
          go_upto_region 8 with fail
          obtain ⟨w4, hw4⟩ : ∃ w4 : World, w4 = (((w3.setCell ⟨pb, 0, none⟩ (.int .u32 se)).setCell ⟨pb, 1, none⟩ (.int .u32 pa)).setCell ⟨pb, 2, none⟩ (.int .u32 pl)).setCell ⟨pb, 3, none⟩ (.slice (some ⟨bb, o + (at_ + 16), none⟩) sz (c - (at_ + 16))) := ⟨_, rfl⟩
          have HP4 := Lib.hid (show Blk w4 pb 27 #[.int .u32 se, .int .u32 pa, .int .u32 pl, .slice (some ⟨bb, o + (at_ + 16), none⟩) sz (c - (at_ + 16))] by rw [hw4]; exact (((HP0.out.set_ 0 _).set_ 1 _).set_ 2 _).set_to rfl)
          have HK34 := Lib.hid (show Kept (fun i => i = pb) w3 w4 by rw [hw4]; exact Kept.set4 (S := fun i => i = pb) (Kept.refl _ w3) rfl _ _ _ _)
          rw [← hw4]
          clear hw4 cp fp lp
          have HK4 := Lib.hid (show Kept (fun _ => False) wr w4 from HK3.out.then HK34.out (fun i hi e => by have := HPB.out; have := HK2.out.size; omega))
          have HF4 := Lib.hid (HF.out.kept HK4.out (fun h => h))
          have hz := fun u => refRightM_any sm na mo li se pa pl (some ⟨bb, o + (at_ + 16), none⟩) (c - (at_ + 16)) y u MO.out LI.out ⟨se0, se1⟩ ⟨pa0, pa1⟩ ⟨pl0, pl1⟩ HYM.out
          rw [HYL.out] at hz
          have HRT := Lib.hid hz
          have cp := HP4.out.cell
          have cf := HF4.out.cell
          clear hz
          go_wp2_with fail
          refine (HRT.out w4).mono ?_
          rintro e w5 ⟨rfl, hb5⟩
          have HK5 := Lib.hid (show Kept (fun _ => False) wr w5 from HK4.out.then (Kept.ofB (S := fun _ => False) hb5) (fun _ _ h => h.elim))
          have HP5 := Lib.hid (HP4.out.below hb5 HP4.out.lt)
          have HF5 := Lib.hid (HF4.out.below hb5 HF4.out.lt)
          have HR5 := Lib.hid (PksR.on HR.out HK5.out)
          have HW5 := Lib.hid (show Below w.heap.size w w5 from HW.out.trans (HK5.out.below HW.out.size (fun i h => h.elim)))
          have cp := HP5.out.cell
          clear hb5 cf
          cases hrt : rightB na mo pa pl sz with
          | true =>
            have HOK := Lib.hid (OKI.out hrt)
            clear hrt
            have HS1 := Lib.hid (show alls sm na mo x = (pkOf sm x :: (alls sm na mo (b.drop (at_ + 16 + sz))).1, 16 + sz + (alls sm na mo (b.drop (at_ + 16 + sz))).2) by
              rw [alls_yes sm na mo x HOK.out, HSZ.out, ← HXS.out, List.drop_drop, ← Nat.add_assoc])
            have HPK := Lib.hid (show pkOf sm x = ⟨se, pa, pl, y⟩ by unfold pkOf; rw [HSZ.out, HSE.out, HPA.out, HPL.out, HY.out])
            obtain ⟨vs, hvp, hvr, hve⟩ := HR5.out
            have HVP := Lib.hid hvp
            have HVR := Lib.hid hvr
            have HVE := Lib.hid hve
            have HVL := Lib.hid (show vs.length = ls.length by rw [← hvp]; simp)
            have HS5 := Lib.hid HW5.out.size
            clear hvp hvr hve
            go_wp2_with (at_builtin; refine wpList_append_rowN rfl (.tmp 59) (.tmp 61) 44 rfl base 27 (.agg #[.int .u32 0, .int .u32 0, .int .u32 0, .slice none 0 0]) 4 40 Try.underlying44 hinf rfl (by omega) _ (vs.map PkV.cs) rfl (some ⟨w5.heap.size, 0, none⟩) 1 1 [PkV.cs ⟨⟨se, pa, pl, y⟩, (some ⟨bb, o + (at_ + 16), none⟩), (c - (at_ + 16))⟩] rfl rfl ?a1 (fun z hz => by rw [List.mem_singleton.1 hz]; rfl) ?a2 ?a3 ?a4 ?a5 ?a6 ?_)
            case a1 => exact HVR.out.alloc _
            case a2 => exact Src.new _ _ _ (by simp [PkV.cs, HYL.out])
            case a3 => intro u hu; simp [PkV.cs] at hu; rcases hu with rfl | rfl | rfl | rfl <;> rfl
            case a4 => rw [List.length_map, HVL.out]; unfold maxLen; simp; omega
            case a5 => rw [List.length_map, HVL.out]; simp; omega
            case a6 => rw [World.size_alloc]; have := HK5.out.size; have := HWS.out; omega
            intro v2 w6 hrow hgr _
            have HK6 := Lib.hid (show Kept (fun i => base ≤ i) w5 w6 from Kept.trans ((Kept.refl _ _).alloc _) (kept_grown hgr (fun i e _ => (HVR.out.lt i e).1)))
            have HF6 := Lib.hid (show Blk w6 fb 24 #[.bool sm, .bool na, .int .u32 mo, .int .u32 li] from HF5.out.kept HK6.out (by have := HFB.out; omega))
            have HR6 := Lib.hid (show PksR w6 w.heap.size base v2 (ls ++ [⟨se, pa, pl, y⟩]) from ⟨vs ++ [⟨⟨se, pa, pl, y⟩, (some ⟨bb, o + (at_ + 16), none⟩), (c - (at_ + 16))⟩], by simp [HVP.out], by rw [List.map_append]; exact hrow, fun p hp => by
              rcases List.mem_append.1 hp with hp | hp
              · obtain ⟨e1, e2, e3⟩ := HVE.out p hp
                exact ⟨e1, e2, e3.kept HK6.out HS5.out (fun i h1 h2 => by have := HBS.out; omega)⟩
              · rw [List.mem_singleton.1 hp]
                exact ⟨by show y.length ≤ _; rw [HYL.out]; exact HYC.out.1, HYC.out.2, (HYB.out.below HW5.out).kept HK6.out HS5.out (fun i h1 h2 => by have := HBS.out; omega)⟩⟩)
            obtain ⟨VA2, vc2, hve2⟩ := HR6.out.shape
            rw [show (ls ++ [(⟨se, pa, pl, y⟩ : Pk)]).length = ls.length + 1 by simp] at hve2
            subst hve2
            clear hrow hgr cp
            go_wp2_with fail
            go_roundw
            case rel =>
              have hrel9 : ∃ (ls' : List Pk) (at' : Nat), at' ≤ b.length ∧ Value.int .i64 ((at_ : Int) + 16 + (sz : Int)) = .int .i64 (at' : Int) ∧ 16 * ls'.length ≤ at' ∧ Hid (Blk w6 fb 24 #[.bool sm, .bool na, .int .u32 mo, .int .u32 li]) ∧ Hid (PksR w6 w.heap.size base (.slice VA2 (ls.length + 1) vc2) ls') ∧ Hid (alls sm na mo b = (ls' ++ (alls sm na mo (b.drop at')).1, at' + (alls sm na mo (b.drop at')).2)) ∧ Hid (Below w.heap.size w w6 ∧ base ≤ w6.heap.size) := by
                refine ⟨ls ++ [⟨se, pa, pl, y⟩], at_ + 16 + sz, by omega, ?_, ?_, HF6, HR6, Lib.hid ?_, Lib.hid ?_⟩
                · exact congrArg (Value.int .i64) (by omega)
                · simp; omega
                · rw [HS.out, HS1.out, HPK.out]; simp [Nat.add_assoc]
                · exact ⟨HW5.out.trans (HK6.out.below HW5.out.size (fun i h => by have := HBS.out; omega)), by have := HK6.out.size; have := HK5.out.size; have := HWS.out; omega⟩
              first
              | exact hrel9
              | (rw [show at_ + 16 = c by omega]
                 (repeat apply Exists.intro)
                 exact ⟨hrel9, rfl⟩)
            case measure => simp [intOf]; omega
          | false =>
            have HNO := Lib.hid (STOP.out (fun h => NOI.out h hrt))
            clear hrt
            go_wp2_with fail
            go_ret2
            refine ⟨?_, HW5.out⟩
            unfold RefAllPost
            rw [HNO.out]
            exact ⟨_, rfl, HR5.out.more HBS.out⟩
        · have HCEQ := Lib.hid (show c = at_ + 16 by omega)
          have HYC := Lib.hid (show sz ≤ 0 ∧ 0 ≤ maxLen from ⟨by omega, by unfold maxLen; omega⟩)
          have HYB := Lib.hid (show BS w w.heap.size (some ⟨bb, o, none⟩) y from .inl (List.eq_nil_of_length_eq_zero (by have := HYL.out; omega)))
          clear hy
          go_wp2_with fail
          refine wp_region_kept 24 [(3, fun v u => v = .int .u32 se), (8, fun v u => v = .int .u32 pa), (13, fun v u => v = .int .u32 pl), (21, fun v u => v = .slice (some ⟨bb, o, none⟩) sz 0), (23, fun v u => ∃ g, v = .pointer (some ⟨g, 0, none⟩) ∧ w2.heap.size ≤ g ∧ Blk u g 27 #[.int .u32 0, .int .u32 0, .int .u32 0, .slice none 0 0])] ?st ?ne rfl (by kernel_rfl) (by kernel_rfl) ?_
          case st =>
            intro p hp
            simp only [List.mem_cons, List.not_mem_nil, or_false] at hp
            rcases hp with rfl | rfl | rfl | rfl | rfl
            · intro v u u' h hk; exact h
            · intro v u u' h hk; exact h
            · intro v u u' h hk; exact h
            · intro v u u' h hk; exact h
            · rintro v u u' ⟨g, rfl, h1, h⟩ hk; exact ⟨g, rfl, h1, h.kept hk (fun h => h)⟩
          case ne =>
            intro p hp
            simp only [List.mem_cons, List.not_mem_nil, or_false] at hp
            rcases hp with rfl | rfl | rfl | rfl | rfl
            · exact ⟨_, _, Kept.refl _ _, rfl⟩
            · exact ⟨_, _, Kept.refl _ _, rfl⟩
            · exact ⟨_, _, Kept.refl _ _, rfl⟩
            · exact ⟨_, _, Kept.refl _ _, rfl⟩
            · exact ⟨_, _, (Kept.refl _ _).alloc _, _, rfl, Nat.le_refl _, Blk.new _ _ _⟩
          simp only [List.take_succ_cons, List.take_zero, List.drop_succ_cons, List.drop_zero]
          intro G pick hR hp1 hp2
          have p0 : ∀ u, (pick u).cell? ⟨fb, 0, none⟩ = some (.bool sm) := fun u => ((hp1 u).cell HF2.out.lt (fun h => h) _).trans (HF2.out.cell 0)
          have p1 : ∀ u, (pick u).cell? ⟨fb, 1, none⟩ = some (.bool na) := fun u => ((hp1 u).cell HF2.out.lt (fun h => h) _).trans (HF2.out.cell 1)
          have p2 : ∀ u, (pick u).cell? ⟨fb, 2, none⟩ = some (.int .u32 mo) := fun u => ((hp1 u).cell HF2.out.lt (fun h => h) _).trans (HF2.out.cell 2)
          have p3 : ∀ u, (pick u).cell? ⟨fb, 3, none⟩ = some (.int .u32 li) := fun u => ((hp1 u).cell HF2.out.lt (fun h => h) _).trans (HF2.out.cell 3)
          repeat (first | (refine wpR_det hp2 rfl ((hR.rel _).trans rfl) rfl ?_; intro K hK; go_big_quiet_op; go_big_quiet_on) | (refine wpR_ptr hp2 rfl ((hR.rel _).trans rfl) rfl rfl ?_; intro K hK; go_big_quiet_op; go_big_quiet_on) | (refine wpR_skip pick rfl ?_; intro K hK; go_big_quiet_op; go_big_quiet_on))
          refine wpR_rel pick rfl ((hR.rel _).trans rfl) ((hR.turns _).trans rfl) ?_ ?_
          · intro u hu
            have hk := hR.since hu.1
            have hks := hk.size
            have hz := Hse.out u hk
            unfold relAt
            go_simp
            refine hz.mono ?_
            rintro e w' ⟨rfl, hb'⟩
            exact ⟨_, rfl, hR.intoB hb', hR.put 0 rfl rfl rfl⟩
          intro v hv
          obtain ⟨u, _, hu⟩ := hv
          obtain rfl := hR.get 0 rfl hu
          clear hu
          intro K hK
          go_big_quiet_op
          go_big_quiet_on
          repeat (first | (refine wpR_det hp2 rfl ((hR.rel _).trans rfl) rfl ?_; intro K hK; go_big_quiet_op; go_big_quiet_on) | (refine wpR_ptr hp2 rfl ((hR.rel _).trans rfl) rfl rfl ?_; intro K hK; go_big_quiet_op; go_big_quiet_on) | (refine wpR_skip pick rfl ?_; intro K hK; go_big_quiet_op; go_big_quiet_on))
          refine wpR_rel pick rfl ((hR.rel _).trans rfl) ((hR.turns _).trans rfl) ?_ ?_
          · intro u hu
            have hk := hR.since hu.1
            have hks := hk.size
            have hz := Hpa.out u hk
            unfold relAt
            go_simp
            refine hz.mono ?_
            rintro e w' ⟨rfl, hb'⟩
            exact ⟨_, rfl, hR.intoB hb', hR.put 1 rfl rfl rfl⟩
          intro v hv
          obtain ⟨u, _, hu⟩ := hv
          obtain rfl := hR.get 1 rfl hu
          clear hu
          intro K hK
          go_big_quiet_op
          go_big_quiet_on
          repeat (first | (refine wpR_det hp2 rfl ((hR.rel _).trans rfl) rfl ?_; intro K hK; go_big_quiet_op; go_big_quiet_on) | (refine wpR_ptr hp2 rfl ((hR.rel _).trans rfl) rfl rfl ?_; intro K hK; go_big_quiet_op; go_big_quiet_on) | (refine wpR_skip pick rfl ?_; intro K hK; go_big_quiet_op; go_big_quiet_on))
          refine wpR_rel pick rfl ((hR.rel _).trans rfl) ((hR.turns _).trans rfl) ?_ ?_
          · intro u hu
            have hk := hR.since hu.1
            have hks := hk.size
            have hz := Hpl.out u hk
            unfold relAt
            go_simp
            refine hz.mono ?_
            rintro e w' ⟨rfl, hb'⟩
            exact ⟨_, rfl, hR.intoB hb', hR.put 2 rfl rfl rfl⟩
          intro v hv
          obtain ⟨u, _, hu⟩ := hv
          obtain rfl := hR.get 2 rfl hu
          clear hu
          intro K hK
          go_big_quiet_op
          go_big_quiet_on
          repeat (first | (refine wpR_det hp2 rfl ((hR.rel _).trans rfl) rfl ?_; intro K hK; go_big_quiet_op; go_big_quiet_on) | (refine wpR_ptr hp2 rfl ((hR.rel _).trans rfl) rfl rfl ?_; intro K hK; go_big_quiet_op; go_big_quiet_on) | (refine wpR_skip pick rfl ?_; intro K hK; go_big_quiet_op; go_big_quiet_on))
          refine wpR_rel pick rfl ((hR.rel _).trans rfl) ((hR.turns _).trans rfl) ?_ ?_
          · intro u hu
            have hk := hR.since hu.1
            have hks := hk.size
            have hceq := HCEQ.out
            unfold relAt
            go_simp
            have e1 : ((at_ : Int) + 16 + (sz : Int)).toNat - ((at_ : Int) + 16).toNat = sz := by omega
            have e2 : at_ + 16 - ((at_ : Int) + 16).toNat = 0 := by omega
            have e3 : at_ + 16 = ((at_ : Int) + 16).toNat := by omega
            rw [if_pos (by omega), if_pos (by omega), if_pos e3, e1, e2]
            exact ⟨hR.into0 (Kept.refl _ _), hR.put 3 rfl rfl rfl⟩
          intro v hv
          obtain ⟨u, _, hu⟩ := hv
          obtain rfl := hR.get 3 rfl hu
          clear hu
          intro K hK
          go_big_quiet_op
          go_big_quiet_on
          repeat (first | (refine wpR_det hp2 rfl ((hR.rel _).trans rfl) rfl ?_; intro K hK; go_big_quiet_op; go_big_quiet_on) | (refine wpR_ptr hp2 rfl ((hR.rel _).trans rfl) rfl rfl ?_; intro K hK; go_big_quiet_op; go_big_quiet_on) | (refine wpR_skip pick rfl ?_; intro K hK; go_big_quiet_op; go_big_quiet_on))
          refine wpR_rel pick rfl ((hR.rel _).trans rfl) ((hR.turns _).trans rfl) ?_ ?_
          · intro u hu
            have hk := hR.since hu.1
            have hks := hk.size
            unfold relAt
            go_simp
            exact ⟨hR.into0 ((Kept.refl _ _).alloc _), hR.put 4 rfl rfl ⟨_, rfl, hks, Blk.new _ _ _⟩⟩
          intro v hv
          obtain ⟨u, _, hu⟩ := hv
          obtain ⟨pb, rfl, -, -⟩ := hR.get 4 rfl hu
          clear hu
          intro K hK
          go_big_quiet_op
          go_big_quiet_on
          repeat (first | (refine wpR_det hp2 rfl ((hR.rel _).trans rfl) rfl ?_; intro K hK; go_big_quiet_op; go_big_quiet_on) | (refine wpR_ptr hp2 rfl ((hR.rel _).trans rfl) rfl rfl ?_; intro K hK; go_big_quiet_op; go_big_quiet_on) | (refine wpR_skip pick rfl ?_; intro K hK; go_big_quiet_op; go_big_quiet_on))
          refine wpR_nil ?_
          intro w3 hk2 hF hM
          obtain ⟨pb', e, hpb, hP⟩ := (hR.get 4 rfl (hF _ _ (Got.upd_self _ _ _)))
          obtain rfl : pb = pb' := by injection e with e; injection e with e; injection e
          have HP0 := Lib.hid hP
          have HPB := Lib.hid hpb
          have HK3 := Lib.hid (show Kept (fun _ => False) wr w3 from HK2.out.trans hk2)
          have cp := HP0.out.cell
          have fp := HP0.out.frozen
          have lp := HP0.out.lt
          clear hF hM hk2 hp1 hp2 hR e hpb hP p0 p1 p2 p3
          go_upto_region 8 with fail
          obtain ⟨w4, hw4⟩ : ∃ w4 : World, w4 = (((w3.setCell ⟨pb, 0, none⟩ (.int .u32 se)).setCell ⟨pb, 1, none⟩ (.int .u32 pa)).setCell ⟨pb, 2, none⟩ (.int .u32 pl)).setCell ⟨pb, 3, none⟩ (.slice (some ⟨bb, o, none⟩) sz 0) := ⟨_, rfl⟩
          have HP4 := Lib.hid (show Blk w4 pb 27 #[.int .u32 se, .int .u32 pa, .int .u32 pl, .slice (some ⟨bb, o, none⟩) sz 0] by rw [hw4]; exact (((HP0.out.set_ 0 _).set_ 1 _).set_ 2 _).set_to rfl)
          have HK34 := Lib.hid (show Kept (fun i => i = pb) w3 w4 by rw [hw4]; exact Kept.set4 (S := fun i => i = pb) (Kept.refl _ w3) rfl _ _ _ _)
          rw [← hw4]
          clear hw4 cp fp lp
          have HK4 := Lib.hid (show Kept (fun _ => False) wr w4 from HK3.out.then HK34.out (fun i hi e => by have := HPB.out; have := HK2.out.size; omega))
          have HF4 := Lib.hid (HF.out.kept HK4.out (fun h => h))
          have hz := fun u => refRightM_any sm na mo li se pa pl (some ⟨bb, o, none⟩) 0 y u MO.out LI.out ⟨se0, se1⟩ ⟨pa0, pa1⟩ ⟨pl0, pl1⟩ HYM.out
          rw [HYL.out] at hz
          have HRT := Lib.hid hz
          have cp := HP4.out.cell
          have cf := HF4.out.cell
          clear hz
          go_wp2_with fail
          refine (HRT.out w4).mono ?_
          rintro e w5 ⟨rfl, hb5⟩
          have HK5 := Lib.hid (show Kept (fun _ => False) wr w5 from HK4.out.then (Kept.ofB (S := fun _ => False) hb5) (fun _ _ h => h.elim))
          have HP5 := Lib.hid (HP4.out.below hb5 HP4.out.lt)
          have HF5 := Lib.hid (HF4.out.below hb5 HF4.out.lt)
          have HR5 := Lib.hid (PksR.on HR.out HK5.out)
          have HW5 := Lib.hid (show Below w.heap.size w w5 from HW.out.trans (HK5.out.below HW.out.size (fun i h => h.elim)))
          have cp := HP5.out.cell
          clear hb5 cf
          cases hrt : rightB na mo pa pl sz with
          | true =>
            have HOK := Lib.hid (OKI.out hrt)
            clear hrt
            have HS1 := Lib.hid (show alls sm na mo x = (pkOf sm x :: (alls sm na mo (b.drop (at_ + 16 + sz))).1, 16 + sz + (alls sm na mo (b.drop (at_ + 16 + sz))).2) by
              rw [alls_yes sm na mo x HOK.out, HSZ.out, ← HXS.out, List.drop_drop, ← Nat.add_assoc])
            have HPK := Lib.hid (show pkOf sm x = ⟨se, pa, pl, y⟩ by unfold pkOf; rw [HSZ.out, HSE.out, HPA.out, HPL.out, HY.out])
            obtain ⟨vs, hvp, hvr, hve⟩ := HR5.out
            have HVP := Lib.hid hvp
            have HVR := Lib.hid hvr
            have HVE := Lib.hid hve
            have HVL := Lib.hid (show vs.length = ls.length by rw [← hvp]; simp)
            have HS5 := Lib.hid HW5.out.size
            clear hvp hvr hve
            go_wp2_with (at_builtin; refine wpList_append_rowN rfl (.tmp 59) (.tmp 61) 44 rfl base 27 (.agg #[.int .u32 0, .int .u32 0, .int .u32 0, .slice none 0 0]) 4 40 Try.underlying44 hinf rfl (by omega) _ (vs.map PkV.cs) rfl (some ⟨w5.heap.size, 0, none⟩) 1 1 [PkV.cs ⟨⟨se, pa, pl, y⟩, (some ⟨bb, o, none⟩), 0⟩] rfl rfl ?a1 (fun z hz => by rw [List.mem_singleton.1 hz]; rfl) ?a2 ?a3 ?a4 ?a5 ?a6 ?_)
            case a1 => exact HVR.out.alloc _
            case a2 => exact Src.new _ _ _ (by simp [PkV.cs, HYL.out])
            case a3 => intro u hu; simp [PkV.cs] at hu; rcases hu with rfl | rfl | rfl | rfl <;> rfl
            case a4 => rw [List.length_map, HVL.out]; unfold maxLen; simp; omega
            case a5 => rw [List.length_map, HVL.out]; simp; omega
            case a6 => rw [World.size_alloc]; have := HK5.out.size; have := HWS.out; omega
            intro v2 w6 hrow hgr _
            have HK6 := Lib.hid (show Kept (fun i => base ≤ i) w5 w6 from Kept.trans ((Kept.refl _ _).alloc _) (kept_grown hgr (fun i e _ => (HVR.out.lt i e).1)))
            have HF6 := Lib.hid (show Blk w6 fb 24 #[.bool sm, .bool na, .int .u32 mo, .int .u32 li] from HF5.out.kept HK6.out (by have := HFB.out; omega))
            have HR6 := Lib.hid (show PksR w6 w.heap.size base v2 (ls ++ [⟨se, pa, pl, y⟩]) from ⟨vs ++ [⟨⟨se, pa, pl, y⟩, (some ⟨bb, o, none⟩), 0⟩], by simp [HVP.out], by rw [List.map_append]; exact hrow, fun p hp => by
              rcases List.mem_append.1 hp with hp | hp
              · obtain ⟨e1, e2, e3⟩ := HVE.out p hp
                exact ⟨e1, e2, e3.kept HK6.out HS5.out (fun i h1 h2 => by have := HBS.out; omega)⟩
              · rw [List.mem_singleton.1 hp]
                exact ⟨by show y.length ≤ _; rw [HYL.out]; exact HYC.out.1, HYC.out.2, (HYB.out.below HW5.out).kept HK6.out HS5.out (fun i h1 h2 => by have := HBS.out; omega)⟩⟩)
            obtain ⟨VA2, vc2, hve2⟩ := HR6.out.shape
            rw [show (ls ++ [(⟨se, pa, pl, y⟩ : Pk)]).length = ls.length + 1 by simp] at hve2
            subst hve2
            clear hrow hgr cp
            go_wp2_with fail
            go_roundw
            case rel =>
              have hrel9 : ∃ (ls' : List Pk) (at' : Nat), at' ≤ b.length ∧ Value.int .i64 ((at_ : Int) + 16 + (sz : Int)) = .int .i64 (at' : Int) ∧ 16 * ls'.length ≤ at' ∧ Hid (Blk w6 fb 24 #[.bool sm, .bool na, .int .u32 mo, .int .u32 li]) ∧ Hid (PksR w6 w.heap.size base (.slice VA2 (ls.length + 1) vc2) ls') ∧ Hid (alls sm na mo b = (ls' ++ (alls sm na mo (b.drop at')).1, at' + (alls sm na mo (b.drop at')).2)) ∧ Hid (Below w.heap.size w w6 ∧ base ≤ w6.heap.size) := by
                refine ⟨ls ++ [⟨se, pa, pl, y⟩], at_ + 16 + sz, by omega, ?_, ?_, HF6, HR6, Lib.hid ?_, Lib.hid ?_⟩
                · exact congrArg (Value.int .i64) (by omega)
                · simp; omega
                · rw [HS.out, HS1.out, HPK.out]; simp [Nat.add_assoc]
                · exact ⟨HW5.out.trans (HK6.out.below HW5.out.size (fun i h => by have := HBS.out; omega)), by have := HK6.out.size; have := HK5.out.size; have := HWS.out; omega⟩
              first
              | exact hrel9
              | (rw [show at_ + 16 = c by omega]
                 (repeat apply Exists.intro)
                 exact ⟨hrel9, rfl⟩)
            case measure => simp [intOf]; omega
          | false =>
            have HNO := Lib.hid (STOP.out (fun h => NOI.out h hrt))
            clear hrt
            go_wp2_with fail
            go_ret2
            refine ⟨?_, HW5.out⟩
            unfold RefAllPost
            rw [HNO.out]
            exact ⟨_, rfl, HR5.out.more HBS.out⟩
      · have i2 : (b.length : Int) - (at_ : Int) - 16 < (sz : Int) := by omega
        have HNO := Lib.hid (STOP.out fun h => h5 (by have := h.2.1; rw [HSZ.out] at this; exact this))
        go_wp2_with fail
        go_ret2
        refine ⟨?_, HW.out.trans (HK2.out.below HW.out.size (fun i h => h.elim))⟩
        unfold RefAllPost
        rw [HNO.out]
        exact ⟨_, rfl, (PksR.on HR.out HK2.out).more HBS.out⟩
    · have i1 : ¬ (at_ : Int) + 16 ≤ (b.length : Int) := by omega
      have HNO := Lib.hid (STOP.out fun h => h16 (by have := h.1; have := HXL.out; omega))
      go_wp2_with fail
      go_ret2
      refine ⟨?_, HW.out⟩
      unfold RefAllPost
      rw [HNO.out]
      exact ⟨_, rfl, HR.out.1.more HBS.out⟩
end Go.Proofs.Ytohimionlgaaoaa
