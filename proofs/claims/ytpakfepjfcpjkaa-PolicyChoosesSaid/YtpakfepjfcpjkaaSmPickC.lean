/- Contracts of smooth.knows, begin, Pick, Owed. -/
import Derived.Test.YtpakfepjfcpjkaaSmPlain
import Derived.Outline
import Derived.Deep.Light
import Derived.Deep.LoopGhost
import Derived.Deep.DeepCutAuto
namespace Go.Proofs.Ytpakfepjfcpjkaa
open Go.RowKit
set_option linter.unusedVariables false
variable {nx : Value}
theorem Try.infoSh : (Try.prog.info? 72).map (fun i => (i.zero, i.size, i.bytes)) = some (some (.agg #[.int .i64 0, .int .i64 0, .int .i64 0]), 3, 24) := by kernel_rfl
set_option maxRecDepth 100000 in
set_option maxHeartbeats 2000000 in
theorem knows_any (sb base : Nat) (v : Value) (S : List Sh) (A : Option Addr) (c : Nat) (h : List Cd) (w : World) (h0 : 0 < h.length) (hh : h.length ≤ 100) (hS : S.length ≤ 100) (hB : Blk w sb 35 #[nx, v]) (hR : RowN w base 72 3 v (S.map Sh.cs)) (hE : ES w w.heap.size A 4 (h.map Cd.cs)) :
    Calls Try.prog 26 #[.pointer (some ⟨sb, 1, none⟩), .slice A h.length c] w fun e w' => e = .returned (.bool (knowsB S h)) ∧ Below w.heap.size w w' := by
  have hlt := hB.lt
  by_cases hl : h.length = S.length
  · obtain ⟨g, vc, hv, -, hg, hel⟩ := hR.at (i := 0) (by simp; omega)
    rw [List.length_map] at hv
    subst hv
    obtain ⟨b, o, hb, rfl, hcl⟩ := hE.at (k := 0) (by simp; omega)
    have HEL := Lib.hid hel
    have HCL := Lib.hid hcl
    have HL := Lib.hid hl
    have cB := hB.cell 1
    simp at cB
    rw [← hl] at cB
    clear hB hR hE hel hcl hl
    go_enter Try.func26, Try.ntmps26
    go_wp2_with fail
    go_loopw [5, 6, 17] (fun _ _ i wr => ∃ k : Nat, k ≤ h.length ∧ i = .int .i64 (k : Int) ∧ Hid (∀ j (h1 : j < S.length) (h2 : j < h.length), j < k → S[j].backend = h[j].backend ∧ S[j].weight = h[j].weight) ∧ Hid (Below w.heap.size w wr)) (fun _ _ i _ => h.length - (intOf i).toNat)
    case atStart => exact ⟨0, by omega, rfl, Lib.hid (fun j _ _ hj => by omega), Lib.hid (Below.refl _ _)⟩
    case round =>
      obtain ⟨k, hk, rfl, HP, HW⟩ := hrel
      have hsw := HW.out.size
      by_cases hkl : k < h.length
      · have hkS : k < S.length := by rw [← HL.out]; exact hkl
        have hkI : (k : Int) < (h.length : Int) := by omega
        have hk0 : (0 : Int) ≤ (k : Int) := by omega
        obtain ⟨c0, c1, c2, c3⟩ := cd_cells (HCL.out.keep (fun o => HW.out.cell (p := ⟨b, o, none⟩) hb)) hkl
        obtain ⟨s0, s1, s2⟩ := sh_cells (HEL.out.keep (fun o => HW.out.cell (p := ⟨g, o, none⟩) hg)) hkS
        simp only [Nat.zero_add] at s0 s1 s2
        have HNO := Lib.hid (knows_not S h k hkS hkl)
        have HST := Lib.hid (show S[k].backend = h[k].backend → S[k].weight = h[k].weight → ∀ j (h1 : j < S.length) (h2 : j < h.length), j < k + 1 → S[j].backend = h[j].backend ∧ S[j].weight = h[j].weight from fun e1 e2 j h1 h2 hj => by
          rcases Nat.lt_succ_iff_lt_or_eq.1 hj with hj | rfl
          · exact HP.out j h1 h2 hj
          · exact ⟨e1, e2⟩)
        generalize S[k].backend = x0 at *
        generalize S[k].weight = x1 at *
        generalize S[k].credit = x2 at *
        generalize h[k].backend = y0 at *
        generalize h[k].weight = y1 at *
        generalize h[k].slot = y2 at *
        generalize h[k].load = y3 at *
        have blt : b < wr.heap.size := by omega
        go_wp2_with fail
        obtain ⟨w2, hw2⟩ : ∃ w2 : World, w2 = wr.alloc (.cells #[.int .i64 y2, .int .i64 y0, .int .i64 y1, .int .u32 y3] 45) := ⟨_, rfl⟩
        have HN2 := Lib.hid (show Blk w2 wr.heap.size 45 #[.int .i64 y2, .int .i64 y0, .int .i64 y1, .int .u32 y3] by rw [hw2]; exact Blk.new _ _ _)
        have hb2 : Below w.heap.size w w2 := by rw [hw2]; exact HW.out.alloc hsw _
        have hs2 : wr.heap.size < w2.heap.size := HN2.out.lt
        have n1 := HN2.out.cell 1
        have n2 := HN2.out.cell 2
        simp only [List.getElem?_toArray, List.getElem?_cons_zero, List.getElem?_cons_succ] at n1 n2
        have t0 : w2.cell? ⟨g, k * 3, none⟩ = some (.int .i64 x0) := by rw [hw2, World.cell?_alloc_lt _ _ _ (by simp; omega)]; exact s0
        have t1 : w2.cell? ⟨g, k * 3 + 1, none⟩ = some (.int .i64 x1) := by rw [hw2, World.cell?_alloc_lt _ _ _ (by simp; omega)]; exact s1
        have cB2 := (hb2.cell (p := ⟨sb, 1, none⟩) hlt).trans cB
        have HB2 := Lib.hid hb2
        have hg2 : g < w2.heap.size := by omega
        have hl2 : sb < w2.heap.size := by omega
        rw [← hw2]
        clear hw2 c0 c1 c2 c3 s0 s1 s2 hb2
        by_cases e0 : x0 = y0
        · subst e0
          by_cases e1 : x1 = y1
          · subst e1
            have HST2 := Lib.hid (HST.out rfl rfl)
            clear HST HNO
            refine wp_region_kept 24 [] ?st ?ne rfl (by kernel_rfl) (by kernel_rfl) ?_
            case st => intro p hp; cases hp
            case ne => intro p hp; cases hp
            simp only [List.take_succ_cons, List.take_zero, List.drop_succ_cons, List.drop_zero]
            intro G pick hR hp1 hp2
            have p1 : ∀ u, (pick u).cell? ⟨wr.heap.size, 1, none⟩ = some (.int .i64 x0) := fun u => ((hp1 u).cell hs2 (fun h => h) _).trans n1
            have p2 : ∀ u, (pick u).cell? ⟨wr.heap.size, 2, none⟩ = some (.int .i64 x1) := fun u => ((hp1 u).cell hs2 (fun h => h) _).trans n2
            have p3 : ∀ u, (pick u).cell? ⟨g, k * 3, none⟩ = some (.int .i64 x0) := fun u => ((hp1 u).cell hg2 (fun h => h) _).trans t0
            have p4 : ∀ u, (pick u).cell? ⟨g, k * 3 + 1, none⟩ = some (.int .i64 x1) := fun u => ((hp1 u).cell hg2 (fun h => h) _).trans t1
            have p5 : ∀ u, (pick u).cell? ⟨sb, 1, none⟩ = some (.slice (some ⟨g, 0, none⟩) h.length vc) := fun u => ((hp1 u).cell hl2 (fun h => h) _).trans cB2
            repeat (first | (refine wpR_det hp2 rfl ((hR.rel _).trans rfl) rfl ?_; intro K hK; go_big_quiet_op; go_big_quiet_on) | (refine wpR_ptr hp2 rfl ((hR.rel _).trans rfl) rfl rfl ?_; intro K hK; go_big_quiet_op; go_big_quiet_on) | (refine wpR_skip pick rfl ?_; intro K hK; go_big_quiet_op; go_big_quiet_on))
            refine wpR_nil ?_
            intro w3 hk2 hF hM
            have HB3 := Lib.hid (HB2.out.trans (hk2.below (by omega) (fun _ h => h.elim)))
            clear hF hM hk2 hp1 hp2 hR p1 p2 p3 p4 p5
            go_wp2_with fail
            go_roundw
            case rel => exact ⟨k + 1, by omega, by go_num, HST2, HB3⟩
            case measure => simp [intOf]; omega
          · have e1' : (y1 != x1) = true := by simp [Ne.symm e1]
            have HNO2 := Lib.hid (HNO.out (.inr e1))
            clear e1 HST HNO
            refine wp_region_kept 24 [] ?st ?ne rfl (by kernel_rfl) (by kernel_rfl) ?_
            case st => intro p hp; cases hp
            case ne => intro p hp; cases hp
            simp only [List.take_succ_cons, List.take_zero, List.drop_succ_cons, List.drop_zero]
            intro G pick hR hp1 hp2
            have p1 : ∀ u, (pick u).cell? ⟨wr.heap.size, 1, none⟩ = some (.int .i64 x0) := fun u => ((hp1 u).cell hs2 (fun h => h) _).trans n1
            have p2 : ∀ u, (pick u).cell? ⟨wr.heap.size, 2, none⟩ = some (.int .i64 y1) := fun u => ((hp1 u).cell hs2 (fun h => h) _).trans n2
            have p3 : ∀ u, (pick u).cell? ⟨g, k * 3, none⟩ = some (.int .i64 x0) := fun u => ((hp1 u).cell hg2 (fun h => h) _).trans t0
            have p4 : ∀ u, (pick u).cell? ⟨g, k * 3 + 1, none⟩ = some (.int .i64 x1) := fun u => ((hp1 u).cell hg2 (fun h => h) _).trans t1
            have p5 : ∀ u, (pick u).cell? ⟨sb, 1, none⟩ = some (.slice (some ⟨g, 0, none⟩) h.length vc) := fun u => ((hp1 u).cell hl2 (fun h => h) _).trans cB2
            repeat (first | (refine wpR_det hp2 rfl ((hR.rel _).trans rfl) rfl ?_; intro K hK; go_big_quiet_op; go_big_quiet_on) | (refine wpR_ptr hp2 rfl ((hR.rel _).trans rfl) rfl rfl ?_; intro K hK; go_big_quiet_op; go_big_quiet_on) | (refine wpR_skip pick rfl ?_; intro K hK; go_big_quiet_op; go_big_quiet_on))
            refine wpR_nil ?_
            intro w3 hk2 hF hM
            have HB3 := Lib.hid (HB2.out.trans (hk2.below (by omega) (fun _ h => h.elim)))
            clear hF hM hk2 hp1 hp2 hR p1 p2 p3 p4 p5
            go_wp2_with fail
            go_ret
            exact ⟨ret_bool HNO2.out.symm, HB3.out⟩
        · have e0' : (y0 != x0) = true := by simp [Ne.symm e0]
          have HNO2 := Lib.hid (HNO.out (.inl e0))
          clear e0 HST HNO
          refine wp_region_kept 24 [] ?st ?ne rfl (by kernel_rfl) (by kernel_rfl) ?_
          case st => intro p hp; cases hp
          case ne => intro p hp; cases hp
          simp only [List.take_succ_cons, List.take_zero, List.drop_succ_cons, List.drop_zero]
          intro G pick hR hp1 hp2
          have p1 : ∀ u, (pick u).cell? ⟨wr.heap.size, 1, none⟩ = some (.int .i64 y0) := fun u => ((hp1 u).cell hs2 (fun h => h) _).trans n1
          have p2 : ∀ u, (pick u).cell? ⟨wr.heap.size, 2, none⟩ = some (.int .i64 y1) := fun u => ((hp1 u).cell hs2 (fun h => h) _).trans n2
          have p3 : ∀ u, (pick u).cell? ⟨g, k * 3, none⟩ = some (.int .i64 x0) := fun u => ((hp1 u).cell hg2 (fun h => h) _).trans t0
          have p4 : ∀ u, (pick u).cell? ⟨g, k * 3 + 1, none⟩ = some (.int .i64 x1) := fun u => ((hp1 u).cell hg2 (fun h => h) _).trans t1
          have p5 : ∀ u, (pick u).cell? ⟨sb, 1, none⟩ = some (.slice (some ⟨g, 0, none⟩) h.length vc) := fun u => ((hp1 u).cell hl2 (fun h => h) _).trans cB2
          repeat (first | (refine wpR_det hp2 rfl ((hR.rel _).trans rfl) rfl ?_; intro K hK; go_big_quiet_op; go_big_quiet_on) | (refine wpR_ptr hp2 rfl ((hR.rel _).trans rfl) rfl rfl ?_; intro K hK; go_big_quiet_op; go_big_quiet_on) | (refine wpR_skip pick rfl ?_; intro K hK; go_big_quiet_op; go_big_quiet_on))
          refine wpR_nil ?_
          intro w3 hk2 hF hM
          have HB3 := Lib.hid (HB2.out.trans (hk2.below (by omega) (fun _ h => h.elim)))
          clear hF hM hk2 hp1 hp2 hR p1 p2 p3 p4 p5
          go_wp2_with fail
          go_ret
          exact ⟨ret_bool HNO2.out.symm, HB3.out⟩
      · have HK := Lib.hid (knows_all S h HL.out.symm (fun j h1 h2 => HP.out j h1 h2 (by omega)))
        go_wp2_with fail
        go_ret
        exact ⟨ret_bool HK.out.symm, HW.out⟩
  · obtain ⟨VA, vc, hv, -⟩ := hR.shape
    rw [List.length_map] at hv
    subst hv
    have HK := Lib.hid (knows_len S h (fun e => hl e.symm))
    have cB := hB.cell 1
    simp at cB
    have hne : ((h.length : Int) != (S.length : Int)) = true := by simp; omega
    clear hB hR hE hl
    go_enter Try.func26, Try.ntmps26
    go_wp2_with fail
    go_ret
    exact ⟨ret_bool HK.out.symm, Below.refl _ _⟩

/-- The shares, those before k begun. -/
def fillS (h : List Cd) (k : Nat) : List Sh := (freshS h).take k ++ List.replicate (h.length - k) ⟨0, 0, 0⟩
theorem fillS_zero (h : List Cd) : fillS h 0 = List.replicate h.length ⟨0, 0, 0⟩ := by simp [fillS]
theorem fillS_end (h : List Cd) : fillS h h.length = freshS h := by simp [fillS, freshS, List.take_of_length_le]
theorem fillS_len (h : List Cd) (k : Nat) (hk : k ≤ h.length) : (fillS h k).length = h.length := by simp [fillS, freshS]; omega
theorem fillS_step (h : List Cd) (k : Nat) (hk : k < h.length) : (fillS h k).set k ⟨h[k].backend, h[k].weight, 0⟩ = fillS h (k + 1) := by
  have hl : ((freshS h).take k).length = k := by simp [freshS]; omega
  unfold fillS
  rw [List.set_append_right _ _ (by omega), hl, Nat.sub_self, show h.length - k = (h.length - (k + 1)) + 1 by omega, List.replicate_succ, List.set_cons_zero, List.take_succ_eq_append_getElem (show k < (freshS h).length by simpa [freshS] using hk), List.append_assoc]
  simp [freshS]
def BeginPost (nx : Value) (sb : Nat) (h : List Cd) (w : World) (e : Ending) (w' : World) : Prop := (∃ x, e = .returned x) ∧ ∃ v', Blk w' sb 35 #[nx, v'] ∧ RowN w' w.heap.size 72 3 v' ((freshS h).map Sh.cs) ∧ Kept (· = sb) w w'
set_option maxRecDepth 100000 in
set_option maxHeartbeats 2000000 in
theorem begin_any (sb : Nat) (v : Value) (A : Option Addr) (c : Nat) (h : List Cd) (w : World) (h0 : 0 < h.length) (hh : h.length ≤ 100) (hB : Blk w sb 35 #[nx, v]) (hE : ES w w.heap.size A 4 (h.map Cd.cs)) (hne : ∀ b o, A = some ⟨b, o, none⟩ → b ≠ sb) :
    Calls Try.prog 27 #[.pointer (some ⟨sb, 1, none⟩), .slice A h.length c] w (BeginPost nx sb h w) := by
  have hlt := hB.lt
  have hmk := fun W => run_make_rowN (P := Try.prog) 31 72 (.agg #[.int .i64 0, .int .i64 0, .int .i64 0]) 3 24 Try.underlying31 Try.infoSh .i64 .i64 h.length (by omega) (by omega) W
  obtain ⟨b, o, hb, rfl, hcl⟩ := hE.at (k := 0) (by simp; omega)
  have hbs := hne b o rfl
  have HCL := Lib.hid hcl
  have HB := Lib.hid hB
  have cB := hB.cell 1
  have fB := hB.frozen 1
  simp at cB
  clear hB hE hcl hne
  go_enter Try.func27, Try.ntmps27
  go_upto_region 1 with fail
  obtain ⟨w1, hw1⟩ : ∃ w1 : World, w1 = (w.setCell ⟨sb, 1, none⟩ (.slice (some ⟨w.heap.size, 0, none⟩) h.length h.length)).alloc (.cells (madeCells #[.int .i64 0, .int .i64 0, .int .i64 0] (h.length * 3)) 72) := ⟨_, rfl⟩
  have HB1 := Lib.hid (show Blk w1 sb 35 #[nx, .slice (some ⟨w.heap.size, 0, none⟩) h.length h.length] by rw [hw1]; exact (HB.out.set_to rfl).alloc _)
  have HR1 := Lib.hid (show RowN w1 w.heap.size 72 3 (.slice (some ⟨w.heap.size, 0, none⟩) h.length h.length) ((fillS h 0).map Sh.cs) by
    rw [hw1, fillS_zero]
    refine RowN.of_blk (cs := madeCells #[.int .i64 0, .int .i64 0, .int .i64 0] (h.length * 3)) (Blk.new_ (by simp [World.setCell]) _ _) (Nat.le_refl _) (by unfold maxLen; omega) (sz_map Sh.cs_len _) ?_ (by simp)
    rw [made_rows (sz := 3) rfl (by omega), List.map_replicate]
    rfl)
  have HK1 := Lib.hid (show Kept (· = sb) w w1 by rw [hw1]; exact ((Kept.refl (· = sb) w).setCell (.inl rfl) _).alloc _)
  rw [← hw1]
  clear hw1 hmk cB fB
  go_wp2_with fail
  go_loopw [4, 5, 14] (fun _ _ i wr => ∃ k : Nat, k ≤ h.length ∧ i = .int .i64 (k : Int) ∧ Hid (Blk wr sb 35 #[nx, .slice (some ⟨w.heap.size, 0, none⟩) h.length h.length]) ∧ Hid (RowN wr w.heap.size 72 3 (.slice (some ⟨w.heap.size, 0, none⟩) h.length h.length) ((fillS h k).map Sh.cs)) ∧ Hid (Kept (· = sb) w wr)) (fun _ _ i _ => h.length - (intOf i).toNat)
  case atStart => exact ⟨0, by omega, rfl, HB1, HR1, HK1⟩
  case round =>
    clear HB1 HR1 HK1
    obtain ⟨k, hk, rfl, HBr, HRr, HKr⟩ := hrel
    have hsw := HKr.out.size
    have hgw := (HRr.out.lt _ rfl).2
    by_cases hkl : k < h.length
    · have hkI : (k : Int) < (h.length : Int) := by omega
      have hk0 : (0 : Int) ≤ (k : Int) := by omega
      obtain ⟨c0, c1, c2, c3⟩ := cd_cells (HCL.out.keep (fun o => HKr.out.cell hb hbs o)) hkl
      have HFS := Lib.hid (fillS_step h k hkl)
      have HFL := Lib.hid (fillS_len h k hk)
      generalize h[k].backend = y0 at *
      generalize h[k].weight = y1 at *
      generalize h[k].slot = y2 at *
      generalize h[k].load = y3 at *
      have blt : b < wr.heap.size := by omega
      go_wp2_with fail
      obtain ⟨w2, hw2⟩ : ∃ w2 : World, w2 = wr.alloc (.cells #[.int .i64 y2, .int .i64 y0, .int .i64 y1, .int .u32 y3] 45) := ⟨_, rfl⟩
      have HN2 := Lib.hid (show Blk w2 wr.heap.size 45 #[.int .i64 y2, .int .i64 y0, .int .i64 y1, .int .u32 y3] by rw [hw2]; exact Blk.new _ _ _)
      have HK2 := Lib.hid (show Kept (· = sb) w w2 by rw [hw2]; exact HKr.out.alloc _)
      have HB2 := Lib.hid (show Blk w2 sb 35 #[nx, .slice (some ⟨w.heap.size, 0, none⟩) h.length h.length] by rw [hw2]; exact HBr.out.alloc _)
      have HR2 := Lib.hid (show RowN w2 w.heap.size 72 3 (.slice (some ⟨w.heap.size, 0, none⟩) h.length h.length) ((fillS h k).map Sh.cs) by rw [hw2]; exact HRr.out.alloc _)
      have hs2 : wr.heap.size < w2.heap.size := HN2.out.lt
      have n1 := HN2.out.cell 1
      have n2 := HN2.out.cell 2
      have cB2 := HB2.out.cell 1
      simp only [List.getElem?_toArray, List.getElem?_cons_zero, List.getElem?_cons_succ] at n1 n2 cB2
      have hl2 : sb < w2.heap.size := HB2.out.lt
      rw [← hw2]
      clear hw2 c0 c1 c2 c3 HBr HRr HKr
      refine wp_region_kept 11 [] ?st ?ne rfl (by kernel_rfl) (by kernel_rfl) ?_
      case st => intro p hp; cases hp
      case ne => intro p hp; cases hp
      simp only [List.take_succ_cons, List.take_zero, List.drop_succ_cons, List.drop_zero]
      intro G pick hR hp1 hp2
      have p1 : ∀ u, (pick u).cell? ⟨wr.heap.size, 1, none⟩ = some (.int .i64 y0) := fun u => ((hp1 u).cell hs2 (fun h => h) _).trans n1
      have p2 : ∀ u, (pick u).cell? ⟨wr.heap.size, 2, none⟩ = some (.int .i64 y1) := fun u => ((hp1 u).cell hs2 (fun h => h) _).trans n2
      have p5 : ∀ u, (pick u).cell? ⟨sb, 1, none⟩ = some (.slice (some ⟨w.heap.size, 0, none⟩) h.length h.length) := fun u => ((hp1 u).cell hl2 (fun h => h) _).trans cB2
      repeat (first | (refine wpR_det hp2 rfl ((hR.rel _).trans rfl) rfl ?_; intro K hK; go_big_quiet_op; go_big_quiet_on) | (refine wpR_ptr hp2 rfl ((hR.rel _).trans rfl) rfl rfl ?_; intro K hK; go_big_quiet_op; go_big_quiet_on) | (refine wpR_skip pick rfl ?_; intro K hK; go_big_quiet_op; go_big_quiet_on))
      refine wpR_nil ?_
      intro w3 hk2 hF hM
      have HB3 := Lib.hid (HB2.out.kept hk2 (fun h => h))
      have HR3 := Lib.hid (HR2.out.kept hk2 (fun _ _ h => h))
      have HK3 := Lib.hid (HK2.out.then hk2 (fun _ _ h => h.elim))
      have hg3 : w.heap.size < w3.heap.size := (HR3.out.lt _ rfl).2
      have f0 := HR3.out.frozen (g := w.heap.size) rfl (k * 3)
      have f1 := HR3.out.frozen (g := w.heap.size) rfl (k * 3 + 1)
      have f2 := HR3.out.frozen (g := w.heap.size) rfl (k * 3 + 2)
      obtain ⟨g', c', ev, -, -, hel⟩ := HR3.out.at (i := 0) (by simp [HFL.out]; omega)
      obtain rfl : w.heap.size = g' := by injection ev with ev; injection ev with ev; injection ev
      obtain ⟨s0, s1, s2⟩ := sh_cells hel (k := k) (by rw [HFL.out]; exact hkl)
      simp only [Nat.zero_add] at s0 s1 s2
      clear hF hM hk2 hp1 hp2 hR p1 p2 p5 HB2 HR2 HK2 ev hel
      go_wp2_with fail
      go_roundw
      case rel =>
        go_light
        refine ⟨k + 1, by omega, by go_num, Lib.hid ?_, Lib.hid ?_, Lib.hid ?_⟩
        · repeat ((with_reducible apply Blk.far'); omega)
          exact HB3.out
        · have hr := HR3.out.set (g := w.heap.size) rfl k (by simp [HFL.out]; exact hkl) 0 (by omega) (.int .i64 y0)
          have hr2 := hr.set (g := w.heap.size) rfl k (by simp [HFL.out]; exact hkl) 1 (by omega) (.int .i64 y1)
          have hr3 := hr2.set (g := w.heap.size) rfl k (by simp [HFL.out]; exact hkl) 2 (by omega) (.int .i64 0)
          simp only [List.getElem_set_self] at hr2 hr3
          rw [sh_set0 k (by rw [HFL.out]; exact hkl), HFS.out] at hr3
          exact hr3
        · repeat ((with_reducible apply Kept.setNew); omega)
          exact HK3.out
      case measure => simp [intOf]; omega
    · obtain rfl : k = h.length := by omega
      have HFE := Lib.hid (fillS_end h)
      go_wp2_with fail
      go_end0
      exact ⟨⟨_, rfl⟩, _, HBr.out, by have := HRr.out; rw [HFE.out] at this; exact this, HKr.out⟩

/-- What Pick leaves. -/
def PickPost (nx : Value) (sb base : Nat) (v : Value) (S : List Sh) (l : List Cd) (w : World) (e : Ending) (w' : World) : Prop :=
  (heavy l = [] ∧ e = .returned (.tuple #[.agg #[.int .i64 0, .int .i64 0, .int .i64 0, .int .u32 0], .bool false]) ∧ Below w.heap.size w w') ∨
  (heavy l ≠ [] ∧ ∃ (k : Nat) (hk : k < (heavy l).length), k = stepB (baseS S (heavy l)) ∧ e = .returned (.tuple #[(heavy l)[k].val, .bool true]) ∧ ∃ v', Blk w' sb 35 #[nx, v'] ∧ RowN w' base 72 3 v' ((stepS (baseS S (heavy l))).map Sh.cs) ∧ Kept (fun i => i = sb ∨ v.ownBlock = some i) w w')
theorem spick_nil (A : Option Addr) (n c : Nat) (w : World) : Calls Try.prog 18 #[.pointer none, .slice A n c] w fun e w' => e = .returned (.tuple #[.agg #[.int .i64 0, .int .i64 0, .int .i64 0, .int .u32 0], .bool false]) ∧ Below w.heap.size w w' := by
  go_enter Try.func18, Try.ntmps18
  go_wp2_with fail
  exact bodyPost_ret (v := .tuple #[.agg #[.int .i64 0, .int .i64 0, .int .i64 0, .int .u32 0], .bool false]) (by simp [results, Try.results18, go_sem]) rfl ⟨rfl, (Below.refl _ _).alloc (Nat.le_refl _) _⟩
theorem Try.infoCd2 : (Try.prog.info? 45).map (fun i => (i.zero, i.size, i.bytes)) = some (some (.agg #[.int .i64 0, .int .i64 0, .int .i64 0, .int .u32 0]), 4, 32) := by kernel_rfl
theorem PickPost.yes {sb base : Nat} {v : Value} {S : List Sh} {l : List Cd} {w : World} {e : Ending} {w' : World} {h : List Cd} {S0 : List Sh} {B : Nat} {x : Cd} {v' : Value} (hh : heavy l = h) (hne : heavy l ≠ []) (hS0 : baseS S h = S0) (hB : stepB S0 = B) (hx : h[B]? = some x)
    (he : e = .returned (.tuple #[x.val, .bool true])) (hb : Blk w' sb 35 #[nx, v']) (hr : RowN w' base 72 3 v' ((stepS S0).map Sh.cs)) (hk : Kept (fun i => i = sb ∨ v.ownBlock = some i) w w') : PickPost nx sb base v S l w e w' := by
  subst hh hS0 hB
  obtain ⟨hlt, rfl⟩ := List.getElem?_eq_some_iff.1 hx
  exact .inr ⟨hne, _, hlt, rfl, he, v', hb, hr, hk⟩
/-- Where the second loop stands. -/
structure SmAt (nx : Value) (sb g n vc base H : Nat) (S0 : List Sh) (hv : Value) (h : List Cd) (w wr : World) (T : Nat → Prop) (k : Nat) : Prop where
  blk : Blk wr sb 35 #[nx, .slice (some ⟨g, 0, none⟩) n vc]
  row : RowN wr base 72 3 (.slice (some ⟨g, 0, none⟩) n vc) ((midS S0 k).map Sh.cs)
  res : Blk wr H 45 #[.int .i64 0, .int .i64 0, .int .i64 0, .int .u32 0]
  hvy : RowN wr (H + 1) 45 4 hv (h.map Cd.cs)
  kept : Kept T w wr
  tg : T g ∨ w.heap.size ≤ g
set_option maxRecDepth 100000 in
set_option maxHeartbeats 4000000 in
theorem spick_any (sb base : Nat) (v : Value) (S : List Sh) (A : Option Addr) (c : Nat) (l : List Cd) (w : World) (Bd : Int) (hl : l.length ≤ 30) (hS : S.length ≤ 100) (hw : ∀ c ∈ l, 0 ≤ c.weight ∧ c.weight ≤ 100) (hBd : ∀ s ∈ S, -Bd ≤ s.credit ∧ s.credit ≤ Bd) (b0 : 0 ≤ Bd) (b1 : Bd ≤ 1000000000)
    (hB : Blk w sb 35 #[nx, v]) (hR : RowN w base 72 3 v (S.map Sh.cs)) (hE : ES w w.heap.size A 4 (l.map Cd.cs)) (hbase : base ≤ w.heap.size) :
    Calls Try.prog 18 #[.pointer (some ⟨sb, 1, none⟩), .slice A l.length c] w (PickPost nx sb base v S l w) := by
  have hlt := hB.lt
  have HB := Lib.hid hB
  have HR := Lib.hid hR
  have HE := Lib.hid hE
  have HW := Lib.hid hw
  have HBD := Lib.hid hBd
  have h34 := Try.infoCd2
  clear hB hR hE hw hBd
  go_enter Try.func18, Try.ntmps18
  go_wp2_with fail
  go_loopw [6, 8, 17] (fun hv _ i wr => ∃ k : Nat, k ≤ l.length ∧ i = .int .i64 (k : Int) ∧ Hid (RowN wr (w.heap.size + 1) 45 4 hv ((heavy (l.take k)).map Cd.cs)) ∧ Hid (Below (w.heap.size + 1) (w.alloc (.cells #[.int .i64 0, .int .i64 0, .int .i64 0, .int .u32 0] 45)) wr)) (fun _ _ i _ => l.length - (intOf i).toNat)
  case atStart => exact ⟨0, by omega, rfl, Lib.hid (RowN.nil _ _ _ _), Lib.hid (Below.refl _ _)⟩
  case round =>
    obtain ⟨k, hk, rfl, HO, HBW⟩ := hrel
    have hsw : w.heap.size + 1 ≤ wr.heap.size := by have := HBW.out.size; simpa using this
    by_cases hkl : k < l.length
    · obtain ⟨b, o, hb, rfl, hcl⟩ := HE.out.at (k := k) (by simpa using hkl)
      obtain ⟨c0, c1, c2, c3⟩ := cd_cells (hcl.keep (w' := wr) (fun o => (HBW.out.cell (p := ⟨b, o, none⟩) (by show b < _; omega)).trans (World.cell?_alloc_lt _ _ _ (by show b < _; omega)))) hkl
      have hkI : (k : Int) < (l.length : Int) := by omega
      have HH := Lib.hid (heavy_snoc l k hkl)
      have HHL := Lib.hid (heavy_len (l.take k))
      obtain ⟨x, hx⟩ : ∃ x, l[k] = x := ⟨_, rfl⟩
      rw [hx] at c0 c1 c2 c3 HH
      have blt : b < wr.heap.size := by omega
      obtain ⟨hA, hcap, hve, _⟩ := HO.out.shape
      subst hve
      clear hcl hx
      by_cases hp : 0 < x.weight
      · have HH2 := Lib.hid (HH.out.trans (by rw [if_pos hp]))
        go_wp2_with (at_builtin; refine wpList_append_rowN rfl (.tmp 24) (.tmp 26) 48 rfl (w.heap.size + 1) 45 (.agg #[.int .i64 0, .int .i64 0, .int .i64 0, .int .u32 0]) 4 32 Try.underlying48 h34 rfl (by omega) _ ((heavy (l.take k)).map Cd.cs) rfl (some ⟨wr.heap.size + 1, 0, none⟩) 1 1 [x.cs] rfl rfl ?a1 (fun y hy => by simp at hy; subst hy; rfl) ?a2 (cd_one x) ?a3 ?a4 ?a5 ?_)
        case a1 => exact (HO.out.alloc _).alloc _
        case a2 => exact Src.blk (cs := #[.int .i64 x.slot, .int .i64 x.backend, .int .i64 x.weight, .int .u32 x.load]) (Blk.new_ (by simp) _ _) rfl
        case a3 => have := HHL.out; rw [List.length_take] at this; simp; unfold maxLen; omega
        case a4 => have := HHL.out; rw [List.length_take] at this; simp; omega
        case a5 => simp; omega
        intro v5 w5 hr5 hg5 _
        have HR5 := Lib.hid (show RowN w5 (w.heap.size + 1) 45 4 v5 ((heavy (l.take (k + 1))).map Cd.cs) by rw [HH2.out, List.map_append]; exact hr5)
        have HB5 := Lib.hid (((HBW.out.alloc hsw _).alloc (by simp; omega) _).trans (below_grown hg5 (fun i e => (HO.out.lt i (ownBlock_len e)).1) (by simp; omega)))
        clear hr5 hg5
        go_wp2_with fail
        go_roundw
        case rel => exact ⟨k + 1, by omega, by go_num, HR5, HB5⟩
        case measure => simp [intOf]; omega
      · have HH2 := Lib.hid (HH.out.trans (by rw [if_neg hp, List.append_nil]))
        go_wp2_with fail
        go_roundw
        case rel => exact ⟨k + 1, by omega, by go_num, Lib.hid (by rw [HH2.out]; exact HO.out.alloc _), Lib.hid (HBW.out.alloc hsw _)⟩
        case measure => simp [intOf]; omega
    · obtain rfl : k = l.length := by omega
      rw [List.take_length] at HO
      have hhl := heavy_len l
      have HRES := Lib.hid (show Blk wr w.heap.size 45 #[.int .i64 0, .int .i64 0, .int .i64 0, .int .u32 0] from (Blk.new _ _ _).below HBW.out (by omega))
      obtain ⟨hA, hcap, hve, -, -, hes⟩ := HO.out.es
      subst hve
      rw [List.length_map]
      by_cases hh0 : heavy l = []
      · have hlen : (heavy l).length = 0 := by rw [hh0]; rfl
        have HH0 := Lib.hid hh0
        rw [hlen]
        have cR := HRES.out.cell
        have fR := HRES.out.frozen
        have lR := HRES.out.lt
        clear hes hh0
        go_wp2_with fail
        refine bodyPost_ret (results_blk_tmp (P := Try.prog) Try.results18 _ _ w.heap.size 45 #[.int .i64 0, .int .i64 0, .int .i64 0, .int .u32 0] _ rfl ?_ Try.underlying45 rfl (by kernel_rfl)) rfl (.inl ⟨HH0.out, rfl, ?_⟩)
        · go_light
          repeat (first | (with_reducible apply Blk.set_to) | ((with_reducible apply Blk.far'); omega) | (with_reducible apply Blk.drewN) | (with_reducible apply Blk.alloc))
          exact HRES.out
          all_goals rfl
        · go_light
          refine Kept.below (S := fun i => w.heap.size ≤ i) ?_ (Nat.le_refl _) (fun i h => h)
          repeat (first | ((with_reducible apply Kept.setNew); omega) | (with_reducible apply Kept.drewN) | (with_reducible apply Kept.alloc))
          exact ((Kept.refl _ _).alloc _).then (Kept.of_below (S := fun i => w.heap.size ≤ i) HBW.out (fun i _ h => by omega)) (fun i _ h => h)
      · have hpos : 0 < (heavy l).length := List.length_pos_iff.2 hh0
        have HNE := Lib.hid hh0
        have HWT := Lib.hid (show ∀ c ∈ heavy l, 0 ≤ c.weight ∧ c.weight ≤ 100 from fun c hc => HW.out c (heavy_pos l c hc).1)
        have hz : (((heavy l).length : Int) == 0) = false := beq_eq_false_iff_ne.2 (by omega)
        have HB1 := Lib.hid (show Blk wr sb 35 #[nx, v] from (HB.out.alloc _).below HBW.out (by omega))
        have HR1 := Lib.hid (show RowN wr base 72 3 v (S.map Sh.cs) from (HR.out.alloc _).below HBW.out (fun g hg => by have := (HR.out.lt g hg).2; omega))
        have HES := Lib.hid hes
        have HK1 := Lib.hid (show Kept (fun i => i = sb ∨ v.ownBlock = some i) w wr from ((Kept.refl _ _).alloc _).then (Kept.of_below (S := fun i => w.heap.size + 1 ≤ i) HBW.out (fun i _ h => h)) (fun i hi h => by omega))
        clear hes hh0 HBW HE HW
        obtain ⟨h, hh⟩ : ∃ h, heavy l = h := ⟨_, rfl⟩
        have HHH := Lib.hid hh
        rw [hh] at hpos HWT hz HES HO hhl ⊢
        have hhl' : h.length ≤ 30 := by omega
        have HKN := Lib.hid (knows_any sb base v S hA hcap h wr hpos (by omega) hS HB1.out HR1.out HES.out)
        clear hh hhl
        go_wp2_with fail
        refine HKN.out.mono ?_
        rintro e w2 ⟨rfl, hb2⟩
        have hs2 := hb2.size
        have HB2 := Lib.hid (HB1.out.below hb2 (by omega))
        have HR2 := Lib.hid (HR1.out.belowAll hb2)
        have HES2 := Lib.hid (HES.out.onB hb2 (Nat.le_refl _))
        have HK2 := Lib.hid (HK1.out.then (Kept.ofB (S := fun _ => False) hb2) (fun _ _ h => h.elim))
        have HO2 := Lib.hid (HO.out.belowAll hb2)
        have HRES2 := Lib.hid (HRES.out.below hb2 (by omega))
        clear hb2 HKN HB1 HR1 HES HK1 HO HRES
        go_upto_if 36 with fail
        go_cut [6] (fun hv wx => hv = .slice hA h.length hcap ∧ ∃ g vc, Hid (SmAt nx sb g h.length vc base w.heap.size (baseS S h) (.slice hA h.length hcap) h w wx (fun i => i = sb ∨ v.ownBlock = some i) 0))
        case first =>
          by_cases hkn : knowsB S h = true
          · have HKN := Lib.hid hkn
            have HBS := Lib.hid (show baseS S h = S by unfold baseS; rw [if_pos hkn])
            rw [hkn]
            clear hkn
            go_wp2_with fail
            go_meet
            have hln := (knows_at HKN.out).1
            obtain ⟨g, vc, hv, -⟩ := HR2.out.at (i := 0) (by simp; omega)
            rw [List.length_map, hln] at hv
            refine ⟨rfl, g, vc, Lib.hid ⟨by rw [← hv]; exact HB2.out, ?_, HRES2.out, by have := HO2.out; rw [List.length_map] at this; exact this, HK2.out, .inl (.inr (by rw [hv]; rfl))⟩⟩
            rw [HBS.out, midS_zero, ← hv]
            exact HR2.out
          · have hkn' : knowsB S h = false := by simpa using hkn
            have HBS := Lib.hid (show baseS S h = freshS h by unfold baseS; rw [if_neg hkn])
            rw [hkn']
            clear hkn hkn'
            go_wp2_with fail
            refine (begin_any sb v hA hcap h w2 hpos (by omega) HB2.out HES2.out (fun b o e => by have := (HO2.out.lt b (by rw [e]; rfl)).1; omega)).mono ?_
            rintro e w3 ⟨⟨x, rfl⟩, v', hB3, hR3, hK3⟩
            have HB3 := Lib.hid hB3
            have HR3 := Lib.hid hR3
            have HK3 := Lib.hid hK3
            clear hB3 hR3 hK3
            go_wp2_with fail
            go_meet
            obtain ⟨g, vc, hv, -⟩ := HR3.out.at (i := 0) (by simp [freshS]; omega)
            rw [List.length_map, show (freshS h).length = h.length by simp [freshS]] at hv
            refine ⟨rfl, g, vc, Lib.hid ⟨by rw [← hv]; exact HB3.out, ?_, HRES2.out.kept HK3.out (by omega), ?_, HK2.out.then HK3.out (fun i _ h => .inl h), .inr (by have := (HR3.out.lt g (by rw [hv]; rfl)).1; omega)⟩⟩
            · rw [HBS.out, midS_zero, ← hv]
              exact HR3.out.more (by omega)
            · have := HO2.out.kept HK3.out (fun g hg h => by have := (HO2.out.lt g hg).1; omega)
              rw [List.length_map] at this; exact this
        case rest =>
          obtain ⟨rfl, g, vc, HSM⟩ := hcut
          clear HB2 HR2 HES2 HK2 HO2 HRES2
          have HBC := Lib.hid (baseS_credit S h Bd HBD.out b0)
          have HBL := Lib.hid (baseS_len S h)
          have HBW := Lib.hid (show ∀ s ∈ baseS S h, 0 ≤ s.weight ∧ s.weight ≤ 100 from fun s hs => by
            obtain ⟨i, hi, rfl⟩ := List.getElem_of_mem hs
            rw [(baseS_at S h i hi (by rw [← HBL.out]; exact hi)).1]
            exact HWT.out _ (List.getElem_mem _))
          obtain ⟨S0, hS0⟩ : ∃ S0, baseS S h = S0 := ⟨_, rfl⟩
          have HS0 := Lib.hid hS0
          rw [hS0] at HSM HBC HBL HBW
          obtain ⟨n, hn⟩ : ∃ n, h.length = n := ⟨_, rfl⟩
          have HN := Lib.hid hn
          rw [hn] at HSM HBL hpos hhl' hz ⊢
          obtain ⟨f, hf⟩ : ∃ f, crd (S0.map addS) = f := ⟨_, rfl⟩
          have HF := Lib.hid hf
          have cB := HSM.out.blk.cell 1
          simp at cB
          clear hS0 hn hf
          go_wp2_with fail
          clear cB
          go_loopw [9, 10, 11, 45] (fun t bb _ i wx => ∃ k : Nat, k ≤ n ∧ i = .int .i64 (k : Int) ∧ t = .int .i64 (totTo S0 k) ∧ bb = .int .i64 (bestTo f k : Int) ∧ Hid (SmAt nx sb g n vc base w.heap.size S0 (.slice hA n hcap) h w wx (fun i => i = sb ∨ v.ownBlock = some i) k)) (fun _ _ _ i _ => n - (intOf i).toNat)
          case atStart => exact ⟨0, by omega, rfl, rfl, rfl, HSM⟩
          case round =>
            clear HSM
            obtain ⟨k, hkn, rfl, rfl, rfl, HSM⟩ := hrel
            by_cases hk : k < n
            · have hkS : k < S0.length := by rw [HBL.out]; exact hk
              have hkI : (k : Int) < (n : Int) := by omega
              have hk0 : (0 : Int) ≤ (k : Int) := by omega
              have hbl : bestTo f k ≤ k := bestTo_le f k
              have hwt := HBW.out S0[k] (List.getElem_mem _)
              have hcr := HBC.out S0[k] (List.getElem_mem _)
              have htt := totTo_range S0 k HBW.out (by omega)
              have HT := Lib.hid (totTo_succ S0 k hkS)
              have HM := Lib.hid (midS_step S0 k hkS)
              have HFK := Lib.hid (show f k = S0[k].credit + S0[k].weight by rw [← HF.out, crd_at _ _ (by simpa using hkS)]; simp [addS])
              obtain ⟨g', c', ev, -, hgb, hel⟩ := HSM.out.row.at (i := 0) (by simp [midS_len]; omega)
              obtain rfl : g = g' := by injection ev with ev; injection ev with ev; injection ev
              obtain ⟨s0, s1, s2⟩ := sh_cells hel (k := k) (by rw [midS_len]; exact hkS)
              rw [midS_at S0 k k hkS, if_neg (by omega)] at s0 s1 s2
              simp only [Nat.zero_add] at s0 s1 s2
              have cB := HSM.out.blk.cell 1
              simp at cB
              have hsb := HSM.out.blk.lt
              have fz := HSM.out.row.frozen (g := g) rfl (k * 3 + 2)
              have HAS := Lib.hid (show addS S0[k] = ⟨S0[k].backend, S0[k].weight, S0[k].credit + S0[k].weight⟩ from rfl)
              obtain ⟨wt, ewt⟩ : ∃ x, S0[k].weight = x := ⟨_, rfl⟩
              obtain ⟨cr, ecr⟩ : ∃ x, S0[k].credit = x := ⟨_, rfl⟩
              rw [ewt] at hwt HT HFK s1
              rw [ecr] at hcr HFK s2
              have HEW := Lib.hid ewt
              have HEC := Lib.hid ecr
              clear hel ev ewt ecr s0
              go_wp2_with fail
              refine wp_region_kept 19 [] ?st ?ne rfl (by kernel_rfl) (by kernel_rfl) ?_
              case st => intro p hp; cases hp
              case ne => intro p hp; cases hp
              simp only [List.take_succ_cons, List.take_zero, List.drop_succ_cons, List.drop_zero]
              intro G pick hR hp1 hp2
              have p1 : ∀ u, (pick u).cell? ⟨sb, 1, none⟩ = some (.slice (some ⟨g, 0, none⟩) n vc) := fun u => ((hp1 u).cell hsb (fun h => h) _).trans cB
              have p2 : ∀ u, (pick u).cell? ⟨g, k * 3 + 1, none⟩ = some (.int .i64 wt) := fun u => ((hp1 u).cell hgb (fun h => h) _).trans s1
              have p3 : ∀ u, (pick u).cell? ⟨g, k * 3 + 2, none⟩ = some (.int .i64 cr) := fun u => ((hp1 u).cell hgb (fun h => h) _).trans s2
              repeat (first | (refine wpR_det hp2 rfl ((hR.rel _).trans rfl) rfl ?_; intro K hK; go_big_quiet_op; go_big_quiet_on) | (refine wpR_ptr hp2 rfl ((hR.rel _).trans rfl) rfl rfl ?_; intro K hK; go_big_quiet_op; go_big_quiet_on) | (refine wpR_skip pick rfl ?_; intro K hK; go_big_quiet_op; go_big_quiet_on))
              refine wpR_nil ?_
              intro wX hk2 hF hM
              have c3 := (hk2.cell hgb (fun h => h) (k * 3 + 2)).trans s2
              have f3 := (hk2.frozen hgb (fun h => h) (k * 3 + 2)).trans fz
              have hgb2 : g < wX.heap.size := by have := hk2.size; omega
              have hsb2 : sb < wX.heap.size := by have := hk2.size; omega
              have cB2 := (hk2.cell hsb (fun h => h) 1).trans cB
              have s12 := (hk2.cell hgb (fun h => h) (k * 3 + 1)).trans s1
              have HS2 := Lib.hid (show SmAt nx sb g n vc base w.heap.size S0 (.slice hA n hcap) h w wX (fun i => i = sb ∨ v.ownBlock = some i) k from
                ⟨HSM.out.blk.kept hk2 (fun h => h), HSM.out.row.kept hk2 (fun _ _ h => h), HSM.out.res.kept hk2 (fun h => h), HSM.out.hvy.kept hk2 (fun _ _ h => h), HSM.out.kept.then hk2 (fun _ _ h => h.elim), HSM.out.tg⟩)
              clear hF hM hk2 hp1 hp2 hR p1 p2 p3 HSM s1 s2 cB fz
              go_upto_region 20 with fail
              obtain ⟨w4, hw4⟩ : ∃ w4 : World, w4 = wX.setCell ⟨g, k * 3 + 2, none⟩ (.int .i64 (cr + wt)) := ⟨_, rfl⟩
              have HS4 := Lib.hid (show SmAt nx sb g n vc base w.heap.size S0 (.slice hA n hcap) h w w4 (fun i => i = sb ∨ v.ownBlock = some i) (k + 1) by
                have hS := HS2.out
                obtain ⟨cs, hbg⟩ := hS.row.blk (g := g) rfl
                have hgs : sb ≠ g := fun e => hS.row.ne hS.blk (by decide) (by rw [e]; rfl)
                have hgh : w.heap.size ≠ g := fun e => hS.row.ne hS.res (by decide) (by rw [e]; rfl)
                rw [hw4]
                refine ⟨hS.blk.far' hgs, ?_, hS.res.far' hgh, hS.hvy.far (hS.hvy.ne hbg (by decide)), hS.kept.setCell hS.tg _, hS.tg⟩
                have hr := hS.row.set (g := g) rfl k (by simp [midS_len]; exact hkS) 2 (by omega) (.int .i64 (cr + wt))
                rw [sh_set k (by rw [midS_len]; exact hkS), midS_at S0 k k hkS, if_neg (by omega)] at hr
                rw [← HM.out, HAS.out, HEW.out, HEC.out]
                rw [HEW.out] at hr
                exact hr)
              have cB3 := HS4.out.blk.cell 1
              simp at cB3
              have hsb3 := HS4.out.blk.lt
              have hgb3 := (HS4.out.row.lt g rfl).2
              have s3 : w4.cell? ⟨g, k * 3 + 2, none⟩ = some (.int .i64 (cr + wt)) := by rw [hw4]; exact World.cell?_setCell_same _ _ _ c3
              have s4 : w4.cell? ⟨g, bestTo f k * 3 + 2, none⟩ = some (.int .i64 (f (bestTo f k))) := by
                obtain ⟨g', c', ev, -, -, hel⟩ := HS4.out.row.at (i := 0) (by simp [midS_len]; omega)
                obtain rfl : g = g' := by injection ev with ev; injection ev with ev; injection ev
                obtain ⟨-, -, x2⟩ := sh_cells hel (k := bestTo f k) (by rw [midS_len]; omega)
                rw [Nat.zero_add] at x2
                rw [x2, ← crd_at, midS_crd S0 (k + 1) _ (by omega) (by omega), HF.out]
              rw [← hw4]
              clear hw4 c3 f3 hgb2 hsb2 cB2 s12 HS2
              have HBT := Lib.hid (show bestTo f (k + 1) = if f (bestTo f k) < f k then k else bestTo f k from rfl)
              rw [HFK.out] at HBT
              have hBI : (bestTo f k : Int) < (n : Int) := by omega
              have hB0 : (0 : Int) ≤ (bestTo f k : Int) := by omega
              obtain ⟨B, hB⟩ : ∃ B, bestTo f k = B := ⟨_, rfl⟩
              rw [hB] at s4 HBT hbl hBI hB0 ⊢
              obtain ⟨bc, hbc⟩ : ∃ x, f B = x := ⟨_, rfl⟩
              rw [hbc] at s4 HBT
              clear hB hbc
              by_cases hgt : bc < cr + wt
              · have HBT2 := Lib.hid (HBT.out.trans (by rw [if_pos hgt]))
                refine wp_region_kept 17 [] ?st ?ne rfl (by kernel_rfl) (by kernel_rfl) ?_
                case st => intro p hp; cases hp
                case ne => intro p hp; cases hp
                simp only [List.take_succ_cons, List.take_zero, List.drop_succ_cons, List.drop_zero]
                intro G pick hR hp1 hp2
                have p1 : ∀ u, (pick u).cell? ⟨sb, 1, none⟩ = some (.slice (some ⟨g, 0, none⟩) n vc) := fun u => ((hp1 u).cell hsb3 (fun h => h) _).trans cB3
                have p2 : ∀ u, (pick u).cell? ⟨g, k * 3 + 2, none⟩ = some (.int .i64 (cr + wt)) := fun u => ((hp1 u).cell hgb3 (fun h => h) _).trans s3
                have p3 : ∀ u, (pick u).cell? ⟨g, B * 3 + 2, none⟩ = some (.int .i64 bc) := fun u => ((hp1 u).cell hgb3 (fun h => h) _).trans s4
                repeat (first | (refine wpR_det hp2 rfl ((hR.rel _).trans rfl) rfl ?_; intro K hK; go_big_quiet_op; go_big_quiet_on) | (refine wpR_ptr hp2 rfl ((hR.rel _).trans rfl) rfl rfl ?_; intro K hK; go_big_quiet_op; go_big_quiet_on) | (refine wpR_skip pick rfl ?_; intro K hK; go_big_quiet_op; go_big_quiet_on))
                refine wpR_nil ?_
                intro wX2 hk2 hF hM
                have HS5 := Lib.hid (show SmAt nx sb g n vc base w.heap.size S0 (.slice hA n hcap) h w wX2 (fun i => i = sb ∨ v.ownBlock = some i) (k + 1) from
                  ⟨HS4.out.blk.kept hk2 (fun h => h), HS4.out.row.kept hk2 (fun _ _ h => h), HS4.out.res.kept hk2 (fun h => h), HS4.out.hvy.kept hk2 (fun _ _ h => h), HS4.out.kept.then hk2 (fun _ _ h => h.elim), HS4.out.tg⟩)
                clear hF hM hk2 hp1 hp2 hR p1 p2 p3 HS4
                go_wp2_with fail
                go_roundw
                case rel => exact ⟨k + 1, by omega, by go_num, by rw [HT.out], by rw [HBT2.out], HS5⟩
                case measure => simp [intOf]; omega
              · have HBT2 := Lib.hid (HBT.out.trans (by rw [if_neg hgt]))
                refine wp_region_kept 17 [] ?st ?ne rfl (by kernel_rfl) (by kernel_rfl) ?_
                case st => intro p hp; cases hp
                case ne => intro p hp; cases hp
                simp only [List.take_succ_cons, List.take_zero, List.drop_succ_cons, List.drop_zero]
                intro G pick hR hp1 hp2
                have p1 : ∀ u, (pick u).cell? ⟨sb, 1, none⟩ = some (.slice (some ⟨g, 0, none⟩) n vc) := fun u => ((hp1 u).cell hsb3 (fun h => h) _).trans cB3
                have p2 : ∀ u, (pick u).cell? ⟨g, k * 3 + 2, none⟩ = some (.int .i64 (cr + wt)) := fun u => ((hp1 u).cell hgb3 (fun h => h) _).trans s3
                have p3 : ∀ u, (pick u).cell? ⟨g, B * 3 + 2, none⟩ = some (.int .i64 bc) := fun u => ((hp1 u).cell hgb3 (fun h => h) _).trans s4
                repeat (first | (refine wpR_det hp2 rfl ((hR.rel _).trans rfl) rfl ?_; intro K hK; go_big_quiet_op; go_big_quiet_on) | (refine wpR_ptr hp2 rfl ((hR.rel _).trans rfl) rfl rfl ?_; intro K hK; go_big_quiet_op; go_big_quiet_on) | (refine wpR_skip pick rfl ?_; intro K hK; go_big_quiet_op; go_big_quiet_on))
                refine wpR_nil ?_
                intro wX2 hk2 hF hM
                have HS5 := Lib.hid (show SmAt nx sb g n vc base w.heap.size S0 (.slice hA n hcap) h w wX2 (fun i => i = sb ∨ v.ownBlock = some i) (k + 1) from
                  ⟨HS4.out.blk.kept hk2 (fun h => h), HS4.out.row.kept hk2 (fun _ _ h => h), HS4.out.res.kept hk2 (fun h => h), HS4.out.hvy.kept hk2 (fun _ _ h => h), HS4.out.kept.then hk2 (fun _ _ h => h.elim), HS4.out.tg⟩)
                clear hF hM hk2 hp1 hp2 hR p1 p2 p3 HS4
                go_wp2_with fail
                go_roundw
                case rel => exact ⟨k + 1, by omega, by go_num, by rw [HT.out], by rw [HBT2.out], HS5⟩
                case measure => simp [intOf]; omega
            · obtain rfl : k = n := by omega
              have hSM := HSM.out
              have hSL := HBL.out
              have HSB := Lib.hid (show stepB S0 = bestTo f k by unfold stepB; rw [HF.out, HBL.out])
              have hblt : bestTo f k < k := bestTo_lt f k hpos
              have HME := Lib.hid (show midS S0 k = S0.map addS by rw [← HBL.out, midS_end])
              obtain ⟨g', c', ev, -, hgb, hel⟩ := hSM.row.at (i := 0) (by simp [midS_len]; omega)
              obtain rfl : g = g' := by injection ev with ev; injection ev with ev; injection ev
              obtain ⟨-, -, s2⟩ := sh_cells hel (k := bestTo f k) (by rw [midS_len]; omega)
              rw [Nat.zero_add, ← crd_at, midS_crd S0 k _ (by omega) hblt, HF.out] at s2
              have cB := hSM.blk.cell 1
              simp at cB
              have hsb := hSM.blk.lt
              have fz := hSM.row.frozen (g := g) rfl (bestTo f k * 3 + 2)
              obtain ⟨gh, ch, evh, -, hghb, helh⟩ := hSM.hvy.at (i := 0) (by simp [HN.out]; omega)
              obtain ⟨rfl, rfl⟩ : hA = some ⟨gh, 0, none⟩ ∧ hcap = ch := by injection evh with e1 e2 e3; exact ⟨e1, e3⟩
              have HELH := Lib.hid helh
              have hfb : -1000001000 ≤ f (bestTo f k) ∧ f (bestTo f k) ≤ 1000001000 := by
                have h1 := HBC.out _ (List.getElem_mem (show bestTo f k < S0.length by omega))
                have h2 := HBW.out _ (List.getElem_mem (show bestTo f k < S0.length by omega))
                have e : f (bestTo f k) = (S0[bestTo f k]'(by omega)).credit + (S0[bestTo f k]'(by omega)).weight := by
                  conv => lhs; rw [← HF.out]
                  rw [crd_at _ _ (by simp; rw [HF.out]; omega)]
                  simp only [HF.out]
                  simp [addS]
                rw [e]; omega
              have htt := totTo_range S0 k HBW.out (by omega)
              have hBI : (bestTo f k : Int) < (k : Int) := by omega
              have HSI := Lib.hid (stepS_is S0 (bestTo f k) HSB.out (by omega))
              rw [HF.out, show totTo S0 S0.length = totTo S0 k by rw [HBL.out]] at HSI
              obtain ⟨x, hx⟩ : ∃ x, h[bestTo f k]? = some x := ⟨_, List.getElem?_eq_getElem (by rw [HN.out]; exact hblt)⟩
              have HX := Lib.hid hx
              have HSMR := Lib.hid (show RowN (wr.setCell ⟨g, bestTo f k * 3 + 2, none⟩ (.int .i64 (f (bestTo f k) - totTo S0 k))) base 72 3 (.slice (some ⟨g, 0, none⟩) k vc) ((stepS S0).map Sh.cs) by
                have hr := hSM.row.set (g := g) rfl (bestTo f k) (by simp [midS_len]; omega) 2 (by omega) (.int .i64 (f (bestTo f k) - totTo S0 k))
                rw [sh_set (bestTo f k) (by rw [midS_len]; omega)] at hr
                rw [HSI.out]
                simp only [HME.out] at hr
                exact hr)
              clear hx HSI hel ev evh hSL hSM helh
              obtain ⟨B, hB⟩ : ∃ B, bestTo f k = B := ⟨_, rfl⟩
              rw [hB] at s2 hfb hBI HSB HX hblt fz HSMR ⊢
              obtain ⟨bc, hbc⟩ : ∃ y, f B = y := ⟨_, rfl⟩
              rw [hbc] at s2 hfb HSMR
              generalize totTo S0 k = T at *
              clear hB hbc
              go_upto_region 24 with fail
              obtain ⟨w5, hw5⟩ : ∃ w5 : World, w5 = wr.setCell ⟨g, B * 3 + 2, none⟩ (.int .i64 (bc - T)) := ⟨_, rfl⟩
              rw [← hw5] at HSMR
              obtain ⟨cs, hbg⟩ := HSM.out.row.blk (g := g) rfl
              have hgs : sb ≠ g := fun e => HSM.out.row.ne HSM.out.blk (by decide) (by rw [e]; rfl)
              have hgh : w.heap.size ≠ g := fun e => HSM.out.row.ne HSM.out.res (by decide) (by rw [e]; rfl)
              have hgg : gh ≠ g := fun e => HSM.out.hvy.ne hbg (by decide) (by rw [e]; rfl)
              have HB5 := Lib.hid (show Blk w5 sb 35 #[nx, .slice (some ⟨g, 0, none⟩) k vc] by rw [hw5]; exact HSM.out.blk.far' hgs)
              have HRS5 := Lib.hid (show Blk w5 w.heap.size 45 #[.int .i64 0, .int .i64 0, .int .i64 0, .int .u32 0] by rw [hw5]; exact HSM.out.res.far' hgh)
              have HK5 := Lib.hid (show Kept (fun i => i = sb ∨ v.ownBlock = some i) w w5 by rw [hw5]; exact HSM.out.kept.setCell HSM.out.tg _)
              have hel5 : ElAt w5 gh 0 4 (h.map Cd.cs) := by rw [hw5]; exact HELH.out.keep (fun o => World.cell?_setCell_other _ _ _ _ (fun e => hgg (by have h1 := congrArg Addr.block e; first | exact h1 | exact h1.symm)))
              obtain ⟨hlt, rfl⟩ := List.getElem?_eq_some_iff.1 HX.out
              obtain ⟨d0, d1, d2, d3⟩ := cd_cells hel5 hlt
              simp only [Nat.zero_add] at d0 d1 d2 d3
              generalize h[B] = x at *
              have cR := HRS5.out.cell
              have fR := HRS5.out.frozen
              have lR := HRS5.out.lt
              have hsg : g < w5.heap.size := (HSMR.out.lt g rfl).2
              have hgl : g ≥ base := (HSMR.out.lt g rfl).1
              have hgr : g ≠ w.heap.size := Ne.symm hgh
              have hgs' : sb ≠ w.heap.size := by omega
              rw [← hw5]
              clear hw5 hbg hel5 s2 cB fz HELH HSM
              go_wp2_with fail
              refine bodyPost_ret (results_blk_tmp (P := Try.prog) Try.results18 _ _ w.heap.size 45 #[.int .i64 x.slot, .int .i64 x.backend, .int .i64 x.weight, .int .u32 x.load] _ rfl ?_ Try.underlying45 rfl (by kernel_rfl)) rfl (PickPost.yes (v' := .slice (some ⟨g, 0, none⟩) k vc) HHH.out HNE.out HS0.out HSB.out HX.out rfl ?_ ?_ ?_)
              · go_light
                repeat (first | (with_reducible apply Blk.set_to) | ((with_reducible apply Blk.far'); omega) | (with_reducible apply Blk.drewN) | (with_reducible apply Blk.alloc))
                exact HRS5.out
                all_goals rfl
              · go_light
                repeat (first | ((with_reducible apply Blk.far'); omega) | (with_reducible apply Blk.drewN) | (with_reducible apply Blk.alloc))
                exact HB5.out
              · go_light
                repeat (refine RowN.far ?_ (fun e => hgr (by simpa [Value.ownBlock] using e)))
                exact HSMR.out
              · go_light
                repeat (first | ((with_reducible apply Kept.setNew); omega) | (with_reducible apply Kept.drewN) | (with_reducible apply Kept.alloc))
                exact HK5.out
end Go.Proofs.Ytpakfepjfcpjkaa
