/- awake; AddrOrders. -/
import Derived.Test.YtbigikpioomjlaaDoorF
namespace Go.Proofs.YtbigikpioomjlaaDoor
open Go.RowKit
set_option linter.unusedVariables false
set_option maxHeartbeats 2000000 in
theorem awake_any (w : World) : Calls Tryd.prog 6 #[] w fun e w' => e = .returned (.bool true) ∧ Below w.heap.size w w' := by
  have HP := Lib.hid (parse_any w)
  go_enter Tryd.func6, Tryd.ntmps6
  go_wp2_with fail
  refine HP.out.mono ?_
  rintro e w1 ⟨rfl, hb1⟩
  have HB1 := Lib.hid hb1
  have hs1 := hb1.size
  clear hb1
  go_wp2_with fail
  refine (v4_any _).mono ?_
  rintro e w2 ⟨rfl, hb2⟩
  have HB2 := Lib.hid ((HB1.out.alloc hs1 _).trans (hb2.mono (by simp; omega)))
  have hs2 := HB2.out.size
  clear hb2
  go_wp2_with fail
  refine (text_any _).mono ?_
  rintro e w3 ⟨rfl, hb3⟩
  have HB3 := Lib.hid (HB2.out.trans (hb3.mono hs2))
  clear hb3
  go_wp2_with fail
  go_ret
  exact ⟨rfl, HB3.out⟩
set_option maxHeartbeats 4000000 in
theorem orders_d1 (h l h' l' : Int) (w : World)  : Calls Tryd.prog 4 #[.agg #[.bool false, .int .u64 h, .int .u64 l], .agg #[.bool true, .int .u64 h', .int .u64 l']] w fun e w' => e = .returned (.bool true) ∧ Below w.heap.size w w' := by
  have eC : compI (false, h, l) (true, h', l') = -1 := by simp [compI]
  have eL1 : lessB (false, h, l) (true, h', l') = true := by simp [lessB]
  have eL2 : lessB (true, h', l') (false, h, l) = false := by simp [lessB]
  have HCC := Lib.hid (fun u => comp_any (false, h, l) (true, h', l') u)
  have HL1 := Lib.hid (fun u => less_any (false, h, l) (true, h', l') u)
  have HL2 := Lib.hid (fun u => less_any (true, h', l') (false, h, l) u)
  rw [eC] at HCC
  rw [eL1] at HL1
  rw [eL2] at HL2
  clear eC eL1 eL2
  go_enter Tryd.func4, Tryd.ntmps4
  go_upto_region 1 with fail
  generalize hw2 : (World.alloc _ _) = w2
  have HN := Lib.hid (show Blk w2 w.heap.size 24 #[.bool false, .int .u64 h, .int .u64 l] ∧ Blk w2 (w.heap.size + 1) 24 #[.bool true, .int .u64 h', .int .u64 l'] ∧ Below w.heap.size w w2 by
    rw [← hw2]
    exact ⟨(Blk.new _ _ _).alloc _, Blk.new_ (by simp) _ _, ((Below.refl _ _).alloc (Nat.le_refl _) _).alloc (by simp) _⟩)
  have hl1 := HN.out.1.lt
  have hl2 := HN.out.2.1.lt
  clear hw2
  have HA := Lib.hid (show ∀ W : World, Below w2.heap.size w2 W → W.cell? ⟨w.heap.size, 0, none⟩ = some (.bool false) ∧ W.cell? ⟨w.heap.size, 1, none⟩ = some (.int .u64 h) ∧ W.cell? ⟨w.heap.size, 2, none⟩ = some (.int .u64 l) ∧ W.cell? ⟨w.heap.size + 1, 0, none⟩ = some (.bool true) ∧ W.cell? ⟨w.heap.size + 1, 1, none⟩ = some (.int .u64 h') ∧ W.cell? ⟨w.heap.size + 1, 2, none⟩ = some (.int .u64 l') from fun W h => by
    have p := HN.out.1.below h hl1
    have q := HN.out.2.1.below h hl2
    exact ⟨(p.cell 0).trans rfl, (p.cell 1).trans rfl, (p.cell 2).trans rfl, (q.cell 0).trans rfl, (q.cell 1).trans rfl, (q.cell 2).trans rfl⟩)
  obtain ⟨x0, x1, x2, y0, y1, y2⟩ := HA.out _ (Below.refl _ _)
  go_wp2_with fail
  refine (HCC.out _).mono ?_
  rintro e w3 ⟨rfl, hb⟩
  have HBw3 := Lib.hid (hb)
  clear hb x0 x1 x2 y0 y1 y2
  obtain ⟨x0, x1, x2, y0, y1, y2⟩ := HA.out _ HBw3.out
  go_wp2_with fail
  refine (HL1.out _).mono ?_
  rintro e w4 ⟨rfl, hb⟩
  have HBw4 := Lib.hid (HBw3.out.trans (hb.mono HBw3.out.size))
  clear hb x0 x1 x2 y0 y1 y2
  obtain ⟨x0, x1, x2, y0, y1, y2⟩ := HA.out _ HBw4.out
  go_wp2_with fail
  refine (HL2.out _).mono ?_
  rintro e w5 ⟨rfl, hb⟩
  have HBw5 := Lib.hid (HBw4.out.trans (hb.mono HBw4.out.size))
  clear hb x0 x1 x2 y0 y1 y2
  obtain ⟨x0, x1, x2, y0, y1, y2⟩ := HA.out _ HBw5.out
  go_wp2_with fail
  have HW := Lib.hid (HN.out.2.2.trans (HBw5.out.mono (by have := HN.out.2.2.size; omega)))
  refine (awake_any _).mono ?_
  rintro e w6 ⟨rfl, hb⟩
  have HZ := Lib.hid (HW.out.trans (hb.mono HW.out.size))
  clear hb
  go_wp2_with fail
  go_ret
  exact ⟨rfl, HZ.out⟩
set_option maxHeartbeats 4000000 in
theorem orders_d2 (h l h' l' : Int) (w : World)  : Calls Tryd.prog 4 #[.agg #[.bool true, .int .u64 h', .int .u64 l'], .agg #[.bool false, .int .u64 h, .int .u64 l]] w fun e w' => e = .returned (.bool true) ∧ Below w.heap.size w w' := by
  have eC : compI (true, h', l') (false, h, l) = 1 := by simp [compI]
  have eL1 : lessB (true, h', l') (false, h, l) = false := by simp [lessB]
  have eL2 : lessB (false, h, l) (true, h', l') = true := by simp [lessB]
  have HCC := Lib.hid (fun u => comp_any (true, h', l') (false, h, l) u)
  have HL1 := Lib.hid (fun u => less_any (true, h', l') (false, h, l) u)
  have HL2 := Lib.hid (fun u => less_any (false, h, l) (true, h', l') u)
  rw [eC] at HCC
  rw [eL1] at HL1
  rw [eL2] at HL2
  clear eC eL1 eL2
  go_enter Tryd.func4, Tryd.ntmps4
  go_upto_region 1 with fail
  generalize hw2 : (World.alloc _ _) = w2
  have HN := Lib.hid (show Blk w2 w.heap.size 24 #[.bool true, .int .u64 h', .int .u64 l'] ∧ Blk w2 (w.heap.size + 1) 24 #[.bool false, .int .u64 h, .int .u64 l] ∧ Below w.heap.size w w2 by
    rw [← hw2]
    exact ⟨(Blk.new _ _ _).alloc _, Blk.new_ (by simp) _ _, ((Below.refl _ _).alloc (Nat.le_refl _) _).alloc (by simp) _⟩)
  have hl1 := HN.out.1.lt
  have hl2 := HN.out.2.1.lt
  clear hw2
  have HA := Lib.hid (show ∀ W : World, Below w2.heap.size w2 W → W.cell? ⟨w.heap.size, 0, none⟩ = some (.bool true) ∧ W.cell? ⟨w.heap.size, 1, none⟩ = some (.int .u64 h') ∧ W.cell? ⟨w.heap.size, 2, none⟩ = some (.int .u64 l') ∧ W.cell? ⟨w.heap.size + 1, 0, none⟩ = some (.bool false) ∧ W.cell? ⟨w.heap.size + 1, 1, none⟩ = some (.int .u64 h) ∧ W.cell? ⟨w.heap.size + 1, 2, none⟩ = some (.int .u64 l) from fun W h => by
    have p := HN.out.1.below h hl1
    have q := HN.out.2.1.below h hl2
    exact ⟨(p.cell 0).trans rfl, (p.cell 1).trans rfl, (p.cell 2).trans rfl, (q.cell 0).trans rfl, (q.cell 1).trans rfl, (q.cell 2).trans rfl⟩)
  obtain ⟨x0, x1, x2, y0, y1, y2⟩ := HA.out _ (Below.refl _ _)
  go_wp2_with fail
  refine (HCC.out _).mono ?_
  rintro e w3 ⟨rfl, hb⟩
  have HBw3 := Lib.hid (hb)
  clear hb x0 x1 x2 y0 y1 y2
  obtain ⟨x0, x1, x2, y0, y1, y2⟩ := HA.out _ HBw3.out
  go_wp2_with fail
  refine (HL1.out _).mono ?_
  rintro e w4 ⟨rfl, hb⟩
  have HBw4 := Lib.hid (HBw3.out.trans (hb.mono HBw3.out.size))
  clear hb x0 x1 x2 y0 y1 y2
  obtain ⟨x0, x1, x2, y0, y1, y2⟩ := HA.out _ HBw4.out
  go_wp2_with fail
  refine (HL2.out _).mono ?_
  rintro e w5 ⟨rfl, hb⟩
  have HBw5 := Lib.hid (HBw4.out.trans (hb.mono HBw4.out.size))
  clear hb x0 x1 x2 y0 y1 y2
  obtain ⟨x0, x1, x2, y0, y1, y2⟩ := HA.out _ HBw5.out
  go_wp2_with fail
  have HW := Lib.hid (HN.out.2.2.trans (HBw5.out.mono (by have := HN.out.2.2.size; omega)))
  refine (awake_any _).mono ?_
  rintro e w6 ⟨rfl, hb⟩
  have HZ := Lib.hid (HW.out.trans (hb.mono HW.out.size))
  clear hb
  go_wp2_with fail
  go_ret
  exact ⟨rfl, HZ.out⟩
set_option maxHeartbeats 4000000 in
theorem orders_h1 (s : Bool) (h l h' l' : Int) (w : World) (hh : h < h') : Calls Tryd.prog 4 #[.agg #[.bool s, .int .u64 h, .int .u64 l], .agg #[.bool s, .int .u64 h', .int .u64 l']] w fun e w' => e = .returned (.bool true) ∧ Below w.heap.size w w' := by
  have eC : compI (s, h, l) (s, h', l') = -1 := by 
    have h1 : ¬ h' < h := by omega
    have h2 : h ≠ h' := by omega
    have h3 : h' ≠ h := by omega
    simp [compI, orI, cmpI, hh]
  have eL1 : lessB (s, h, l) (s, h', l') = true := by 
    have h1 : ¬ h' < h := by omega
    have h2 : h ≠ h' := by omega
    have h3 : h' ≠ h := by omega
    simp [lessB, hh, h2]
  have eL2 : lessB (s, h', l') (s, h, l) = false := by 
    have h1 : ¬ h' < h := by omega
    have h2 : h ≠ h' := by omega
    have h3 : h' ≠ h := by omega
    simp [lessB, h1, h3]
  have hq : (h == h') = false := beq_eq_false_iff_ne.2 (by omega)
  clear hh
  have HCC := Lib.hid (fun u => comp_any (s, h, l) (s, h', l') u)
  have HL1 := Lib.hid (fun u => less_any (s, h, l) (s, h', l') u)
  have HL2 := Lib.hid (fun u => less_any (s, h', l') (s, h, l) u)
  rw [eC] at HCC
  rw [eL1] at HL1
  rw [eL2] at HL2
  clear eC eL1 eL2
  go_enter Tryd.func4, Tryd.ntmps4
  go_upto_region 1 with fail
  generalize hw2 : (World.alloc _ _) = w2
  have HN := Lib.hid (show Blk w2 w.heap.size 24 #[.bool s, .int .u64 h, .int .u64 l] ∧ Blk w2 (w.heap.size + 1) 24 #[.bool s, .int .u64 h', .int .u64 l'] ∧ Below w.heap.size w w2 by
    rw [← hw2]
    exact ⟨(Blk.new _ _ _).alloc _, Blk.new_ (by simp) _ _, ((Below.refl _ _).alloc (Nat.le_refl _) _).alloc (by simp) _⟩)
  have hl1 := HN.out.1.lt
  have hl2 := HN.out.2.1.lt
  clear hw2
  have HA := Lib.hid (show ∀ W : World, Below w2.heap.size w2 W → W.cell? ⟨w.heap.size, 0, none⟩ = some (.bool s) ∧ W.cell? ⟨w.heap.size, 1, none⟩ = some (.int .u64 h) ∧ W.cell? ⟨w.heap.size, 2, none⟩ = some (.int .u64 l) ∧ W.cell? ⟨w.heap.size + 1, 0, none⟩ = some (.bool s) ∧ W.cell? ⟨w.heap.size + 1, 1, none⟩ = some (.int .u64 h') ∧ W.cell? ⟨w.heap.size + 1, 2, none⟩ = some (.int .u64 l') from fun W h => by
    have p := HN.out.1.below h hl1
    have q := HN.out.2.1.below h hl2
    exact ⟨(p.cell 0).trans rfl, (p.cell 1).trans rfl, (p.cell 2).trans rfl, (q.cell 0).trans rfl, (q.cell 1).trans rfl, (q.cell 2).trans rfl⟩)
  obtain ⟨x0, x1, x2, y0, y1, y2⟩ := HA.out _ (Below.refl _ _)
  go_wp2_with fail
  refine (HCC.out _).mono ?_
  rintro e w3 ⟨rfl, hb⟩
  have HBw3 := Lib.hid (hb)
  clear hb x0 x1 x2 y0 y1 y2
  obtain ⟨x0, x1, x2, y0, y1, y2⟩ := HA.out _ HBw3.out
  go_wp2_with fail
  refine (HL1.out _).mono ?_
  rintro e w4 ⟨rfl, hb⟩
  have HBw4 := Lib.hid (HBw3.out.trans (hb.mono HBw3.out.size))
  clear hb x0 x1 x2 y0 y1 y2
  obtain ⟨x0, x1, x2, y0, y1, y2⟩ := HA.out _ HBw4.out
  go_wp2_with fail
  refine (HL2.out _).mono ?_
  rintro e w5 ⟨rfl, hb⟩
  have HBw5 := Lib.hid (HBw4.out.trans (hb.mono HBw4.out.size))
  clear hb x0 x1 x2 y0 y1 y2
  obtain ⟨x0, x1, x2, y0, y1, y2⟩ := HA.out _ HBw5.out
  go_wp2_with fail
  have HW := Lib.hid (HN.out.2.2.trans (HBw5.out.mono (by have := HN.out.2.2.size; omega)))
  refine (awake_any _).mono ?_
  rintro e w6 ⟨rfl, hb⟩
  have HZ := Lib.hid (HW.out.trans (hb.mono HW.out.size))
  clear hb
  go_wp2_with fail
  go_ret
  exact ⟨rfl, HZ.out⟩
set_option maxHeartbeats 4000000 in
theorem orders_h2 (s : Bool) (h l h' l' : Int) (w : World) (hh : h' < h) : Calls Tryd.prog 4 #[.agg #[.bool s, .int .u64 h, .int .u64 l], .agg #[.bool s, .int .u64 h', .int .u64 l']] w fun e w' => e = .returned (.bool true) ∧ Below w.heap.size w w' := by
  have eC : compI (s, h, l) (s, h', l') = 1 := by 
    have h1 : ¬ h < h' := by omega
    have h2 : h ≠ h' := by omega
    have h3 : h' ≠ h := by omega
    simp [compI, orI, cmpI, hh, h1]
  have eL1 : lessB (s, h, l) (s, h', l') = false := by 
    have h1 : ¬ h < h' := by omega
    have h2 : h ≠ h' := by omega
    have h3 : h' ≠ h := by omega
    simp [lessB, h1, h2]
  have eL2 : lessB (s, h', l') (s, h, l) = true := by 
    have h1 : ¬ h < h' := by omega
    have h2 : h ≠ h' := by omega
    have h3 : h' ≠ h := by omega
    simp [lessB, hh, h3]
  have hq : (h == h') = false := beq_eq_false_iff_ne.2 (by omega)
  clear hh
  have HCC := Lib.hid (fun u => comp_any (s, h, l) (s, h', l') u)
  have HL1 := Lib.hid (fun u => less_any (s, h, l) (s, h', l') u)
  have HL2 := Lib.hid (fun u => less_any (s, h', l') (s, h, l) u)
  rw [eC] at HCC
  rw [eL1] at HL1
  rw [eL2] at HL2
  clear eC eL1 eL2
  go_enter Tryd.func4, Tryd.ntmps4
  go_upto_region 1 with fail
  generalize hw2 : (World.alloc _ _) = w2
  have HN := Lib.hid (show Blk w2 w.heap.size 24 #[.bool s, .int .u64 h, .int .u64 l] ∧ Blk w2 (w.heap.size + 1) 24 #[.bool s, .int .u64 h', .int .u64 l'] ∧ Below w.heap.size w w2 by
    rw [← hw2]
    exact ⟨(Blk.new _ _ _).alloc _, Blk.new_ (by simp) _ _, ((Below.refl _ _).alloc (Nat.le_refl _) _).alloc (by simp) _⟩)
  have hl1 := HN.out.1.lt
  have hl2 := HN.out.2.1.lt
  clear hw2
  have HA := Lib.hid (show ∀ W : World, Below w2.heap.size w2 W → W.cell? ⟨w.heap.size, 0, none⟩ = some (.bool s) ∧ W.cell? ⟨w.heap.size, 1, none⟩ = some (.int .u64 h) ∧ W.cell? ⟨w.heap.size, 2, none⟩ = some (.int .u64 l) ∧ W.cell? ⟨w.heap.size + 1, 0, none⟩ = some (.bool s) ∧ W.cell? ⟨w.heap.size + 1, 1, none⟩ = some (.int .u64 h') ∧ W.cell? ⟨w.heap.size + 1, 2, none⟩ = some (.int .u64 l') from fun W h => by
    have p := HN.out.1.below h hl1
    have q := HN.out.2.1.below h hl2
    exact ⟨(p.cell 0).trans rfl, (p.cell 1).trans rfl, (p.cell 2).trans rfl, (q.cell 0).trans rfl, (q.cell 1).trans rfl, (q.cell 2).trans rfl⟩)
  obtain ⟨x0, x1, x2, y0, y1, y2⟩ := HA.out _ (Below.refl _ _)
  go_wp2_with fail
  refine (HCC.out _).mono ?_
  rintro e w3 ⟨rfl, hb⟩
  have HBw3 := Lib.hid (hb)
  clear hb x0 x1 x2 y0 y1 y2
  obtain ⟨x0, x1, x2, y0, y1, y2⟩ := HA.out _ HBw3.out
  go_wp2_with fail
  refine (HL1.out _).mono ?_
  rintro e w4 ⟨rfl, hb⟩
  have HBw4 := Lib.hid (HBw3.out.trans (hb.mono HBw3.out.size))
  clear hb x0 x1 x2 y0 y1 y2
  obtain ⟨x0, x1, x2, y0, y1, y2⟩ := HA.out _ HBw4.out
  go_wp2_with fail
  refine (HL2.out _).mono ?_
  rintro e w5 ⟨rfl, hb⟩
  have HBw5 := Lib.hid (HBw4.out.trans (hb.mono HBw4.out.size))
  clear hb x0 x1 x2 y0 y1 y2
  obtain ⟨x0, x1, x2, y0, y1, y2⟩ := HA.out _ HBw5.out
  go_wp2_with fail
  have HW := Lib.hid (HN.out.2.2.trans (HBw5.out.mono (by have := HN.out.2.2.size; omega)))
  refine (awake_any _).mono ?_
  rintro e w6 ⟨rfl, hb⟩
  have HZ := Lib.hid (HW.out.trans (hb.mono HW.out.size))
  clear hb
  go_wp2_with fail
  go_ret
  exact ⟨rfl, HZ.out⟩
set_option maxHeartbeats 4000000 in
theorem orders_l1 (s : Bool) (h l l' : Int) (w : World) (hh : l < l') : Calls Tryd.prog 4 #[.agg #[.bool s, .int .u64 h, .int .u64 l], .agg #[.bool s, .int .u64 h, .int .u64 l']] w fun e w' => e = .returned (.bool true) ∧ Below w.heap.size w w' := by
  have eC : compI (s, h, l) (s, h, l') = -1 := by 
    have h1 : ¬ l' < l := by omega
    simp [compI, orI, cmpI, hh]
  have eL1 : lessB (s, h, l) (s, h, l') = true := by 
    have h1 : ¬ l' < l := by omega
    simp [lessB, hh]
  have eL2 : lessB (s, h, l') (s, h, l) = false := by 
    have h1 : ¬ l' < l := by omega
    simp [lessB]; omega
  have hq : (l == l') = false := beq_eq_false_iff_ne.2 (by omega)
  clear hh
  have HCC := Lib.hid (fun u => comp_any (s, h, l) (s, h, l') u)
  have HL1 := Lib.hid (fun u => less_any (s, h, l) (s, h, l') u)
  have HL2 := Lib.hid (fun u => less_any (s, h, l') (s, h, l) u)
  rw [eC] at HCC
  rw [eL1] at HL1
  rw [eL2] at HL2
  clear eC eL1 eL2
  go_enter Tryd.func4, Tryd.ntmps4
  go_upto_region 1 with fail
  generalize hw2 : (World.alloc _ _) = w2
  have HN := Lib.hid (show Blk w2 w.heap.size 24 #[.bool s, .int .u64 h, .int .u64 l] ∧ Blk w2 (w.heap.size + 1) 24 #[.bool s, .int .u64 h, .int .u64 l'] ∧ Below w.heap.size w w2 by
    rw [← hw2]
    exact ⟨(Blk.new _ _ _).alloc _, Blk.new_ (by simp) _ _, ((Below.refl _ _).alloc (Nat.le_refl _) _).alloc (by simp) _⟩)
  have hl1 := HN.out.1.lt
  have hl2 := HN.out.2.1.lt
  clear hw2
  have HA := Lib.hid (show ∀ W : World, Below w2.heap.size w2 W → W.cell? ⟨w.heap.size, 0, none⟩ = some (.bool s) ∧ W.cell? ⟨w.heap.size, 1, none⟩ = some (.int .u64 h) ∧ W.cell? ⟨w.heap.size, 2, none⟩ = some (.int .u64 l) ∧ W.cell? ⟨w.heap.size + 1, 0, none⟩ = some (.bool s) ∧ W.cell? ⟨w.heap.size + 1, 1, none⟩ = some (.int .u64 h) ∧ W.cell? ⟨w.heap.size + 1, 2, none⟩ = some (.int .u64 l') from fun W h => by
    have p := HN.out.1.below h hl1
    have q := HN.out.2.1.below h hl2
    exact ⟨(p.cell 0).trans rfl, (p.cell 1).trans rfl, (p.cell 2).trans rfl, (q.cell 0).trans rfl, (q.cell 1).trans rfl, (q.cell 2).trans rfl⟩)
  obtain ⟨x0, x1, x2, y0, y1, y2⟩ := HA.out _ (Below.refl _ _)
  go_wp2_with fail
  refine (HCC.out _).mono ?_
  rintro e w3 ⟨rfl, hb⟩
  have HBw3 := Lib.hid (hb)
  clear hb x0 x1 x2 y0 y1 y2
  obtain ⟨x0, x1, x2, y0, y1, y2⟩ := HA.out _ HBw3.out
  go_wp2_with fail
  refine (HL1.out _).mono ?_
  rintro e w4 ⟨rfl, hb⟩
  have HBw4 := Lib.hid (HBw3.out.trans (hb.mono HBw3.out.size))
  clear hb x0 x1 x2 y0 y1 y2
  obtain ⟨x0, x1, x2, y0, y1, y2⟩ := HA.out _ HBw4.out
  go_wp2_with fail
  refine (HL2.out _).mono ?_
  rintro e w5 ⟨rfl, hb⟩
  have HBw5 := Lib.hid (HBw4.out.trans (hb.mono HBw4.out.size))
  clear hb x0 x1 x2 y0 y1 y2
  obtain ⟨x0, x1, x2, y0, y1, y2⟩ := HA.out _ HBw5.out
  go_wp2_with fail
  have HW := Lib.hid (HN.out.2.2.trans (HBw5.out.mono (by have := HN.out.2.2.size; omega)))
  refine (awake_any _).mono ?_
  rintro e w6 ⟨rfl, hb⟩
  have HZ := Lib.hid (HW.out.trans (hb.mono HW.out.size))
  clear hb
  go_wp2_with fail
  go_ret
  exact ⟨rfl, HZ.out⟩
set_option maxHeartbeats 4000000 in
theorem orders_l2 (s : Bool) (h l l' : Int) (w : World) (hh : l' < l) : Calls Tryd.prog 4 #[.agg #[.bool s, .int .u64 h, .int .u64 l], .agg #[.bool s, .int .u64 h, .int .u64 l']] w fun e w' => e = .returned (.bool true) ∧ Below w.heap.size w w' := by
  have eC : compI (s, h, l) (s, h, l') = 1 := by 
    have h1 : ¬ l < l' := by omega
    simp [compI, orI, cmpI, hh, h1]
  have eL1 : lessB (s, h, l) (s, h, l') = false := by 
    have h1 : ¬ l < l' := by omega
    simp [lessB]; omega
  have eL2 : lessB (s, h, l') (s, h, l) = true := by 
    have h1 : ¬ l < l' := by omega
    simp [lessB, hh]
  have hq : (l == l') = false := beq_eq_false_iff_ne.2 (by omega)
  clear hh
  have HCC := Lib.hid (fun u => comp_any (s, h, l) (s, h, l') u)
  have HL1 := Lib.hid (fun u => less_any (s, h, l) (s, h, l') u)
  have HL2 := Lib.hid (fun u => less_any (s, h, l') (s, h, l) u)
  rw [eC] at HCC
  rw [eL1] at HL1
  rw [eL2] at HL2
  clear eC eL1 eL2
  go_enter Tryd.func4, Tryd.ntmps4
  go_upto_region 1 with fail
  generalize hw2 : (World.alloc _ _) = w2
  have HN := Lib.hid (show Blk w2 w.heap.size 24 #[.bool s, .int .u64 h, .int .u64 l] ∧ Blk w2 (w.heap.size + 1) 24 #[.bool s, .int .u64 h, .int .u64 l'] ∧ Below w.heap.size w w2 by
    rw [← hw2]
    exact ⟨(Blk.new _ _ _).alloc _, Blk.new_ (by simp) _ _, ((Below.refl _ _).alloc (Nat.le_refl _) _).alloc (by simp) _⟩)
  have hl1 := HN.out.1.lt
  have hl2 := HN.out.2.1.lt
  clear hw2
  have HA := Lib.hid (show ∀ W : World, Below w2.heap.size w2 W → W.cell? ⟨w.heap.size, 0, none⟩ = some (.bool s) ∧ W.cell? ⟨w.heap.size, 1, none⟩ = some (.int .u64 h) ∧ W.cell? ⟨w.heap.size, 2, none⟩ = some (.int .u64 l) ∧ W.cell? ⟨w.heap.size + 1, 0, none⟩ = some (.bool s) ∧ W.cell? ⟨w.heap.size + 1, 1, none⟩ = some (.int .u64 h) ∧ W.cell? ⟨w.heap.size + 1, 2, none⟩ = some (.int .u64 l') from fun W h => by
    have p := HN.out.1.below h hl1
    have q := HN.out.2.1.below h hl2
    exact ⟨(p.cell 0).trans rfl, (p.cell 1).trans rfl, (p.cell 2).trans rfl, (q.cell 0).trans rfl, (q.cell 1).trans rfl, (q.cell 2).trans rfl⟩)
  obtain ⟨x0, x1, x2, y0, y1, y2⟩ := HA.out _ (Below.refl _ _)
  go_wp2_with fail
  refine (HCC.out _).mono ?_
  rintro e w3 ⟨rfl, hb⟩
  have HBw3 := Lib.hid (hb)
  clear hb x0 x1 x2 y0 y1 y2
  obtain ⟨x0, x1, x2, y0, y1, y2⟩ := HA.out _ HBw3.out
  go_wp2_with fail
  refine (HL1.out _).mono ?_
  rintro e w4 ⟨rfl, hb⟩
  have HBw4 := Lib.hid (HBw3.out.trans (hb.mono HBw3.out.size))
  clear hb x0 x1 x2 y0 y1 y2
  obtain ⟨x0, x1, x2, y0, y1, y2⟩ := HA.out _ HBw4.out
  go_wp2_with fail
  refine (HL2.out _).mono ?_
  rintro e w5 ⟨rfl, hb⟩
  have HBw5 := Lib.hid (HBw4.out.trans (hb.mono HBw4.out.size))
  clear hb x0 x1 x2 y0 y1 y2
  obtain ⟨x0, x1, x2, y0, y1, y2⟩ := HA.out _ HBw5.out
  go_wp2_with fail
  have HW := Lib.hid (HN.out.2.2.trans (HBw5.out.mono (by have := HN.out.2.2.size; omega)))
  refine (awake_any _).mono ?_
  rintro e w6 ⟨rfl, hb⟩
  have HZ := Lib.hid (HW.out.trans (hb.mono HW.out.size))
  clear hb
  go_wp2_with fail
  go_ret
  exact ⟨rfl, HZ.out⟩
set_option maxHeartbeats 4000000 in
theorem orders_e (s : Bool) (h l : Int) (w : World)  : Calls Tryd.prog 4 #[.agg #[.bool s, .int .u64 h, .int .u64 l], .agg #[.bool s, .int .u64 h, .int .u64 l]] w fun e w' => e = .returned (.bool true) ∧ Below w.heap.size w w' := by
  have eC : compI (s, h, l) (s, h, l) = 0 := by simp [compI, orI, cmpI]
  have eL1 : lessB (s, h, l) (s, h, l) = false := by simp [lessB]
  have eL2 : lessB (s, h, l) (s, h, l) = false := by simp [lessB]
  have HCC := Lib.hid (fun u => comp_any (s, h, l) (s, h, l) u)
  have HL1 := Lib.hid (fun u => less_any (s, h, l) (s, h, l) u)
  have HL2 := Lib.hid (fun u => less_any (s, h, l) (s, h, l) u)
  rw [eC] at HCC
  rw [eL1] at HL1
  rw [eL2] at HL2
  clear eC eL1 eL2
  go_enter Tryd.func4, Tryd.ntmps4
  go_upto_region 1 with fail
  generalize hw2 : (World.alloc _ _) = w2
  have HN := Lib.hid (show Blk w2 w.heap.size 24 #[.bool s, .int .u64 h, .int .u64 l] ∧ Blk w2 (w.heap.size + 1) 24 #[.bool s, .int .u64 h, .int .u64 l] ∧ Below w.heap.size w w2 by
    rw [← hw2]
    exact ⟨(Blk.new _ _ _).alloc _, Blk.new_ (by simp) _ _, ((Below.refl _ _).alloc (Nat.le_refl _) _).alloc (by simp) _⟩)
  have hl1 := HN.out.1.lt
  have hl2 := HN.out.2.1.lt
  clear hw2
  have HA := Lib.hid (show ∀ W : World, Below w2.heap.size w2 W → W.cell? ⟨w.heap.size, 0, none⟩ = some (.bool s) ∧ W.cell? ⟨w.heap.size, 1, none⟩ = some (.int .u64 h) ∧ W.cell? ⟨w.heap.size, 2, none⟩ = some (.int .u64 l) ∧ W.cell? ⟨w.heap.size + 1, 0, none⟩ = some (.bool s) ∧ W.cell? ⟨w.heap.size + 1, 1, none⟩ = some (.int .u64 h) ∧ W.cell? ⟨w.heap.size + 1, 2, none⟩ = some (.int .u64 l) from fun W h => by
    have p := HN.out.1.below h hl1
    have q := HN.out.2.1.below h hl2
    exact ⟨(p.cell 0).trans rfl, (p.cell 1).trans rfl, (p.cell 2).trans rfl, (q.cell 0).trans rfl, (q.cell 1).trans rfl, (q.cell 2).trans rfl⟩)
  obtain ⟨x0, x1, x2, y0, y1, y2⟩ := HA.out _ (Below.refl _ _)
  go_wp2_with fail
  refine (HCC.out _).mono ?_
  rintro e w3 ⟨rfl, hb⟩
  have HBw3 := Lib.hid (hb)
  clear hb x0 x1 x2 y0 y1 y2
  obtain ⟨x0, x1, x2, y0, y1, y2⟩ := HA.out _ HBw3.out
  go_wp2_with fail
  refine (HL1.out _).mono ?_
  rintro e w4 ⟨rfl, hb⟩
  have HBw4 := Lib.hid (HBw3.out.trans (hb.mono HBw3.out.size))
  clear hb x0 x1 x2 y0 y1 y2
  obtain ⟨x0, x1, x2, y0, y1, y2⟩ := HA.out _ HBw4.out
  go_wp2_with fail
  refine (HL2.out _).mono ?_
  rintro e w5 ⟨rfl, hb⟩
  have HBw5 := Lib.hid (HBw4.out.trans (hb.mono HBw4.out.size))
  clear hb x0 x1 x2 y0 y1 y2
  obtain ⟨x0, x1, x2, y0, y1, y2⟩ := HA.out _ HBw5.out
  go_wp2_with fail
  have HW := Lib.hid (HN.out.2.2.trans (HBw5.out.mono (by have := HN.out.2.2.size; omega)))
  refine (awake_any _).mono ?_
  rintro e w6 ⟨rfl, hb⟩
  have HZ := Lib.hid (HW.out.trans (hb.mono HW.out.size))
  clear hb
  go_wp2_with fail
  go_ret
  exact ⟨rfl, HZ.out⟩
theorem orders_any (s : Bool) (h l : Int) (s' : Bool) (h' l' : Int) (w : World) : Calls Tryd.prog 4 #[.agg #[.bool s, .int .u64 h, .int .u64 l], .agg #[.bool s', .int .u64 h', .int .u64 l']] w fun e w' => e = .returned (.bool true) ∧ Below w.heap.size w w' := by
  by_cases e : s = s'
  · subst e
    rcases Int.lt_trichotomy h h' with hh | hh | hh
    · exact orders_h1 s h l h' l' w hh
    · subst hh
      rcases Int.lt_trichotomy l l' with hl | hl | hl
      · exact orders_l1 s h l l' w hl
      · subst hl; exact orders_e s h l w
      · exact orders_l2 s h l l' w hl
    · exact orders_h2 s h l h' l' w hh
  · cases s <;> cases s'
    · exact absurd rfl e
    · exact orders_d1 h l h' l' w
    · exact orders_d2 h' l' h l w
    · exact absurd rfl e
end Go.Proofs.YtbigikpioomjlaaDoor
