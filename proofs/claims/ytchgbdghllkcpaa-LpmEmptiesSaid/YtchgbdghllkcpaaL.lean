/- The law's to; the reference's Index. -/
import Derived.Test.YtchgbdghllkcpaaK
import Derived.Test.YtchgbdghllkcpaaRowE
import Derived.Test.YtchgbdghllkcpaaRowX
namespace Go.Proofs.Ytchgbdghllkcpaa
open Go.RowKit
set_option linter.unusedVariables false
structure En where
  a : Ad
  n : Int
  v : Int
def En.cs (x : En) : List Value := [.bool x.a.six, .int .u64 (x.a.hi : Int), .int .u64 (x.a.lo : Int), .int .i64 x.n, .int .i64 x.v]
theorem En.cs_len (x : En) : x.cs.length = 5 := rfl
theorem Try.infoEn : (Try.prog.info? 42).map (fun i => (i.zero, i.size, i.bytes)) = some (some (.agg #[.bool false, .int .u64 0, .int .u64 0, .int .i64 0, .int .i64 0]), 5, 40) := by kernel_rfl
theorem en_cells {w : World} {b off k : Nat} {L : List En} (h : ElAt w b off 5 (L.map En.cs)) (hk : k < L.length) :
    w.cell? ⟨b, off + k * 5, none⟩ = some (.bool L[k].a.six) ∧ w.cell? ⟨b, off + k * 5 + 1, none⟩ = some (.int .u64 (L[k].a.hi : Int)) ∧ w.cell? ⟨b, off + k * 5 + 2, none⟩ = some (.int .u64 (L[k].a.lo : Int)) ∧ w.cell? ⟨b, off + k * 5 + 3, none⟩ = some (.int .i64 L[k].n) ∧ w.cell? ⟨b, off + k * 5 + 4, none⟩ = some (.int .i64 L[k].v) := by
  have hk' : k < (L.map En.cs).length := by simpa using hk
  have h0 := h.get0 hk' (by omega)
  have h1 := h.get hk' 1 (by omega)
  have h2 := h.get hk' 2 (by omega)
  have h3 := h.get hk' 3 (by omega)
  have h4 := h.get hk' 4 (by omega)
  simp [En.cs] at h0 h1 h2 h3 h4
  exact ⟨h0, h1, h2, h3, h4⟩
theorem en_one (x : En) : ∀ u ∈ [x.cs].flatten, u.oneCell' = true := by
  intro u hu
  simp [En.cs] at hu
  rcases hu with rfl | rfl | rfl | rfl | rfl <;> rfl
theorem ens_one (l : List En) : ∀ u ∈ (l.map En.cs).flatten, u.oneCell' = true := by
  intro u hu
  obtain ⟨y, hy, hu⟩ := List.mem_flatten.1 hu
  obtain ⟨x, -, rfl⟩ := List.mem_map.1 hy
  exact en_one x u (by simpa using hu)
set_option maxHeartbeats 1000000 in
theorem to_any (x : En) (w : World) : Calls Try.prog 17 #[.agg #[.bool x.a.six, .int .u64 (x.a.hi : Int), .int .u64 (x.a.lo : Int), .int .i64 x.n, .int .i64 x.v]] w fun e w' => e = .returned (.agg #[.bool x.a.six, .int .u64 (x.a.hi : Int), .int .u64 (x.a.lo : Int), .int .i64 x.n]) ∧ Below w.heap.size w w' := by
  go_enter Try.func17, Try.ntmps17
  go_upto_region 1 with fail
  obtain ⟨w2, hw2⟩ : ∃ w2 : World, w2 = (w.alloc (.cells #[.bool x.a.six, .int .u64 (x.a.hi : Int), .int .u64 (x.a.lo : Int), .int .i64 x.n, .int .i64 x.v] 42)).alloc (.cells #[.bool false, .int .u64 0, .int .u64 0, .int .i64 0] 29) := ⟨_, rfl⟩
  have HX := Lib.hid (show Blk w2 w.heap.size 42 #[.bool x.a.six, .int .u64 (x.a.hi : Int), .int .u64 (x.a.lo : Int), .int .i64 x.n, .int .i64 x.v] by rw [hw2]; exact (Blk.new _ _ _).alloc _)
  have HY := Lib.hid (show Blk w2 (w.heap.size + 1) 29 #[.bool false, .int .u64 0, .int .u64 0, .int .i64 0] by rw [hw2]; exact Blk.new_ (by simp) _ _)
  have HB := Lib.hid (show Below w.heap.size w w2 by rw [hw2]; exact bel1.alloc (by simp) _)
  rw [← hw2]
  clear hw2
  have r0 := HX.out.cell
  have rl := HX.out.lt
  have cy := HY.out.cell
  have fy := HY.out.frozen
  have ly := HY.out.lt
  go_wp2_with fail
  refine bodyPost_ret (results_blk1 (P := Try.prog) Try.results17 _ _ (w.heap.size + 1) 29 #[.bool x.a.six, .int .u64 (x.a.hi : Int), .int .u64 (x.a.lo : Int), .int .i64 x.n] _ rfl ?_ Try.underlying29 rfl (by kernel_rfl)) rfl ⟨rfl, ?_⟩
  · go_light
    repeat (first | (with_reducible apply Blk.set_to) | ((with_reducible apply Blk.far'); omega))
    exact HY.out
    all_goals rfl
  · go_light
    refine Kept.below (S := fun i => w.heap.size ≤ i) ?_ (Nat.le_refl _) (fun i h => h)
    repeat (first | ((with_reducible apply Kept.setNew); omega))
    exact Kept.of_below HB.out (fun i _ h => h)
def IxE (l : List En) (a : Ad) (n z : Int) : Prop := (z = -1 ∧ ∀ x ∈ l, ¬ (x.a = a ∧ x.n = n)) ∨ ∃ (j : Nat) (h : j < l.length), z = (j : Int) ∧ l[j].a = a ∧ l[j].n = n
def IxPost (l : List En) (a : Ad) (n : Int) (w : World) (e : Ending) (w' : World) : Prop := ∃ z, e = .returned (.int .i64 z) ∧ IxE l a n z ∧ Below w.heap.size w w'
set_option maxHeartbeats 4000000 in
theorem refIndex_any (A : Option Addr) (c : Nat) (l : List En) (a : Ad) (n : Int) (w : World) (hl : l.length ≤ 10000) (hE : ES w w.heap.size A 5 (l.map En.cs)) :
    Calls Try.prog 36 #[.slice A l.length c, .agg #[.bool a.six, .int .u64 (a.hi : Int), .int .u64 (a.lo : Int)], .int .i64 n] w (IxPost l a n w) := by
  have HE := Lib.hid hE
  clear hE
  obtain ⟨s0, h0, l0⟩ := a
  obtain ⟨n0, hn0⟩ : ∃ n0, n = n0 := ⟨_, rfl⟩
  subst hn0
  go_enter Try.func36, Try.ntmps36
  go_wp2_with fail
  obtain ⟨w1, hw1⟩ : ∃ w1 : World, w1 = w.alloc (.cells #[.bool s0, .int .u64 (h0 : Int), .int .u64 (l0 : Int)] 24) := ⟨_, rfl⟩
  have HX1 := Lib.hid (show Blk w1 w.heap.size 24 #[.bool s0, .int .u64 (h0 : Int), .int .u64 (l0 : Int)] by rw [hw1]; exact Blk.new _ _ _)
  have HB1 := Lib.hid (show Below w.heap.size w w1 by rw [hw1]; exact bel1)
  have hs1 : w.heap.size + 1 ≤ w1.heap.size := by rw [hw1]; simp
  have HBR := Lib.hid (show Below w1.heap.size w1 w1 from Below.refl _ _)
  rw [← hw1]
  clear hw1
  go_loopw [7] (fun i wr => ∃ k : Nat, k ≤ l.length ∧ i = .int .i64 (k : Int) ∧ Hid (∀ i (hi : i < l.length), i < k → ¬ (l[i].a = ⟨s0, h0, l0⟩ ∧ l[i].n = n)) ∧ Hid (Below w.heap.size w wr ∧ Below w1.heap.size w1 wr)) (fun i _ => l.length - (intOf i).toNat)
  case atStart => exact ⟨0, by omega, rfl, Lib.hid (fun i hi h => by omega), Lib.hid ⟨HB1.out, HBR.out⟩⟩
  case round =>
    obtain ⟨k, hk, rfl, HI, HBB⟩ := hrel
    have HB := Lib.hid HBB.out.1
    have HB' := Lib.hid HBB.out.2
    have hsr := HB.out.size
    have hsr' := HB'.out.size
    by_cases hkl : k < l.length
    · obtain ⟨b, o, hb, rfl, hel⟩ := HE.out.at (k := k) (by simpa using hkl)
      obtain ⟨c0, c1, c2, c3, -⟩ := en_cells (hel.keep (w' := wr) (fun o => HB.out.cell (p := ⟨b, o, none⟩) hb)) hkl
      have HX := Lib.hid (HX1.out.below HB'.out HX1.out.lt)
      have x0 := HX.out.cell 0
      have x1 := HX.out.cell 1
      have x2 := HX.out.cell 2
      simp at x0 x1 x2
      have xlt := HX.out.lt
      have blt : b < wr.heap.size := by omega
      clear HX
      obtain ⟨x, hx⟩ : ∃ x, l[k] = x := ⟨_, rfl⟩
      rw [hx] at c0 c1 c2 c3
      have HX := Lib.hid hx
      have kI : (k : Int) < (l.length : Int) := by omega
      clear hel hx
      obtain ⟨⟨s1, h1, l1⟩, n1, v1⟩ := x
      simp only at c0 c1 c2 c3
      by_cases es : s1 = s0
      · subst es
        by_cases eh : h1 = h0
        · subst eh
          by_cases el : l1 = l0
          · subst el
            by_cases en : n1 = n
            · subst en
              go_upto_region 4 with fail
              refine wp_region_kept 16 [] ?st ?ne rfl (by kernel_rfl) (by kernel_rfl) ?_
              case st => intro p hp; cases hp
              case ne => intro p hp; cases hp
              simp only [List.take_succ_cons, List.take_zero, List.drop_succ_cons, List.drop_zero]
              intro G pick hR hp1 hp2
              have p0 : ∀ u, (pick u).cell? ⟨b, o + k * 5, none⟩ = some (.bool s1) := fun u => ((hp1 u).cell blt (fun h => h) _).trans c0
              have p1 : ∀ u, (pick u).cell? ⟨b, o + k * 5 + 1, none⟩ = some (.int .u64 (h1 : Int)) := fun u => ((hp1 u).cell blt (fun h => h) _).trans c1
              have p2 : ∀ u, (pick u).cell? ⟨b, o + k * 5 + 2, none⟩ = some (.int .u64 (l1 : Int)) := fun u => ((hp1 u).cell blt (fun h => h) _).trans c2
              have p3 : ∀ u, (pick u).cell? ⟨b, o + k * 5 + 3, none⟩ = some (.int .i64 n1) := fun u => ((hp1 u).cell blt (fun h => h) _).trans c3
              have q0 : ∀ u, (pick u).cell? ⟨w.heap.size, 0, none⟩ = some (.bool s1) := fun u => ((hp1 u).cell xlt (fun h => h) _).trans x0
              have q1 : ∀ u, (pick u).cell? ⟨w.heap.size, 1, none⟩ = some (.int .u64 (h1 : Int)) := fun u => ((hp1 u).cell xlt (fun h => h) _).trans x1
              have q2 : ∀ u, (pick u).cell? ⟨w.heap.size, 2, none⟩ = some (.int .u64 (l1 : Int)) := fun u => ((hp1 u).cell xlt (fun h => h) _).trans x2
              repeat (first | (refine wpR_det hp2 rfl ((hR.rel _).trans rfl) rfl ?_; intro K hK; go_big_quiet_op; go_big_quiet_on) | (refine wpR_ptr hp2 rfl ((hR.rel _).trans rfl) rfl rfl ?_; intro K hK; go_big_quiet_op; go_big_quiet_on) | (refine wpR_skip pick rfl ?_; intro K hK; go_big_quiet_op; go_big_quiet_on))
              refine wpR_nil ?_
              intro w2 hk2 hF hM
              have HB2 := Lib.hid (HB.out.trans (hk2.below hsr (fun i h => h.elim)))
              have HB2x := Lib.hid (HB'.out.trans (hk2.below hsr' (fun i h => h.elim)))
              clear hF hM hk2 hp1 hp2 hR p0 p1 p2 p3 q0 q1 q2 x0 x1 x2 c0 c1 c2 c3
              go_wp2_with fail
              go_ret
              exact ⟨_, rfl, .inr ⟨k, hkl, rfl, by rw [HX.out], by rw [HX.out]⟩, HB2.out⟩
            · have HNE := Lib.hid (show ¬ ((⟨⟨s1, h1, l1⟩, n1, v1⟩ : En).a = ⟨s1, h1, l1⟩ ∧ (⟨⟨s1, h1, l1⟩, n1, v1⟩ : En).n = n) from fun h => en h.2)
              have enB : (n1 == n) = false := beq_eq_false_iff_ne.2 en
              clear en
              go_upto_region 4 with fail
              refine wp_region_kept 16 [] ?st ?ne rfl (by kernel_rfl) (by kernel_rfl) ?_
              case st => intro p hp; cases hp
              case ne => intro p hp; cases hp
              simp only [List.take_succ_cons, List.take_zero, List.drop_succ_cons, List.drop_zero]
              intro G pick hR hp1 hp2
              have p0 : ∀ u, (pick u).cell? ⟨b, o + k * 5, none⟩ = some (.bool s1) := fun u => ((hp1 u).cell blt (fun h => h) _).trans c0
              have p1 : ∀ u, (pick u).cell? ⟨b, o + k * 5 + 1, none⟩ = some (.int .u64 (h1 : Int)) := fun u => ((hp1 u).cell blt (fun h => h) _).trans c1
              have p2 : ∀ u, (pick u).cell? ⟨b, o + k * 5 + 2, none⟩ = some (.int .u64 (l1 : Int)) := fun u => ((hp1 u).cell blt (fun h => h) _).trans c2
              have p3 : ∀ u, (pick u).cell? ⟨b, o + k * 5 + 3, none⟩ = some (.int .i64 n1) := fun u => ((hp1 u).cell blt (fun h => h) _).trans c3
              have q0 : ∀ u, (pick u).cell? ⟨w.heap.size, 0, none⟩ = some (.bool s1) := fun u => ((hp1 u).cell xlt (fun h => h) _).trans x0
              have q1 : ∀ u, (pick u).cell? ⟨w.heap.size, 1, none⟩ = some (.int .u64 (h1 : Int)) := fun u => ((hp1 u).cell xlt (fun h => h) _).trans x1
              have q2 : ∀ u, (pick u).cell? ⟨w.heap.size, 2, none⟩ = some (.int .u64 (l1 : Int)) := fun u => ((hp1 u).cell xlt (fun h => h) _).trans x2
              repeat (first | (refine wpR_det hp2 rfl ((hR.rel _).trans rfl) rfl ?_; intro K hK; go_big_quiet_op; go_big_quiet_on) | (refine wpR_ptr hp2 rfl ((hR.rel _).trans rfl) rfl rfl ?_; intro K hK; go_big_quiet_op; go_big_quiet_on) | (refine wpR_skip pick rfl ?_; intro K hK; go_big_quiet_op; go_big_quiet_on))
              refine wpR_nil ?_
              intro w2 hk2 hF hM
              have HB2 := Lib.hid (HB.out.trans (hk2.below hsr (fun i h => h.elim)))
              have HB2x := Lib.hid (HB'.out.trans (hk2.below hsr' (fun i h => h.elim)))
              clear hF hM hk2 hp1 hp2 hR p0 p1 p2 p3 q0 q1 q2 x0 x1 x2 c0 c1 c2 c3
              go_wp2_with fail
              go_roundw
              case rel => exact ⟨k + 1, by omega, by go_num, Lib.hid (fun i hi h => by
                by_cases e : i = k
                · subst e; rw [HX.out]; exact HNE.out
                · exact HI.out i hi (by omega)), Lib.hid ⟨HB2.out, HB2x.out⟩⟩
              case measure => simp [intOf]; omega
          · have HNE := Lib.hid (show ¬ ((⟨⟨s1, h1, l1⟩, n1, v1⟩ : En).a = ⟨s1, h1, l0⟩ ∧ (⟨⟨s1, h1, l1⟩, n1, v1⟩ : En).n = n) from fun h => el (by have := h.1; injection this))
            have elB : ((l1 : Int) == (l0 : Int)) = false := beq_eq_false_iff_ne.2 (by omega)
            clear el
            go_upto_region 4 with fail
            refine wp_region_kept 16 [] ?st ?ne rfl (by kernel_rfl) (by kernel_rfl) ?_
            case st => intro p hp; cases hp
            case ne => intro p hp; cases hp
            simp only [List.take_succ_cons, List.take_zero, List.drop_succ_cons, List.drop_zero]
            intro G pick hR hp1 hp2
            have p0 : ∀ u, (pick u).cell? ⟨b, o + k * 5, none⟩ = some (.bool s1) := fun u => ((hp1 u).cell blt (fun h => h) _).trans c0
            have p1 : ∀ u, (pick u).cell? ⟨b, o + k * 5 + 1, none⟩ = some (.int .u64 (h1 : Int)) := fun u => ((hp1 u).cell blt (fun h => h) _).trans c1
            have p2 : ∀ u, (pick u).cell? ⟨b, o + k * 5 + 2, none⟩ = some (.int .u64 (l1 : Int)) := fun u => ((hp1 u).cell blt (fun h => h) _).trans c2
            have p3 : ∀ u, (pick u).cell? ⟨b, o + k * 5 + 3, none⟩ = some (.int .i64 n1) := fun u => ((hp1 u).cell blt (fun h => h) _).trans c3
            have q0 : ∀ u, (pick u).cell? ⟨w.heap.size, 0, none⟩ = some (.bool s1) := fun u => ((hp1 u).cell xlt (fun h => h) _).trans x0
            have q1 : ∀ u, (pick u).cell? ⟨w.heap.size, 1, none⟩ = some (.int .u64 (h1 : Int)) := fun u => ((hp1 u).cell xlt (fun h => h) _).trans x1
            have q2 : ∀ u, (pick u).cell? ⟨w.heap.size, 2, none⟩ = some (.int .u64 (l0 : Int)) := fun u => ((hp1 u).cell xlt (fun h => h) _).trans x2
            repeat (first | (refine wpR_det hp2 rfl ((hR.rel _).trans rfl) rfl ?_; intro K hK; go_big_quiet_op; go_big_quiet_on) | (refine wpR_ptr hp2 rfl ((hR.rel _).trans rfl) rfl rfl ?_; intro K hK; go_big_quiet_op; go_big_quiet_on) | (refine wpR_skip pick rfl ?_; intro K hK; go_big_quiet_op; go_big_quiet_on))
            refine wpR_nil ?_
            intro w2 hk2 hF hM
            have HB2 := Lib.hid (HB.out.trans (hk2.below hsr (fun i h => h.elim)))
            have HB2x := Lib.hid (HB'.out.trans (hk2.below hsr' (fun i h => h.elim)))
            clear hF hM hk2 hp1 hp2 hR p0 p1 p2 p3 q0 q1 q2 x0 x1 x2 c0 c1 c2 c3
            go_wp2_with fail
            go_roundw
            case rel => exact ⟨k + 1, by omega, by go_num, Lib.hid (fun i hi h => by
              by_cases e : i = k
              · subst e; rw [HX.out]; exact HNE.out
              · exact HI.out i hi (by omega)), Lib.hid ⟨HB2.out, HB2x.out⟩⟩
            case measure => simp [intOf]; omega
        · have HNE := Lib.hid (show ¬ ((⟨⟨s1, h1, l1⟩, n1, v1⟩ : En).a = ⟨s1, h0, l0⟩ ∧ (⟨⟨s1, h1, l1⟩, n1, v1⟩ : En).n = n) from fun h => eh (by have := h.1; injection this))
          have ehB : ((h1 : Int) == (h0 : Int)) = false := beq_eq_false_iff_ne.2 (by omega)
          clear eh
          go_upto_region 4 with fail
          refine wp_region_kept 16 [] ?st ?ne rfl (by kernel_rfl) (by kernel_rfl) ?_
          case st => intro p hp; cases hp
          case ne => intro p hp; cases hp
          simp only [List.take_succ_cons, List.take_zero, List.drop_succ_cons, List.drop_zero]
          intro G pick hR hp1 hp2
          have p0 : ∀ u, (pick u).cell? ⟨b, o + k * 5, none⟩ = some (.bool s1) := fun u => ((hp1 u).cell blt (fun h => h) _).trans c0
          have p1 : ∀ u, (pick u).cell? ⟨b, o + k * 5 + 1, none⟩ = some (.int .u64 (h1 : Int)) := fun u => ((hp1 u).cell blt (fun h => h) _).trans c1
          have p2 : ∀ u, (pick u).cell? ⟨b, o + k * 5 + 2, none⟩ = some (.int .u64 (l1 : Int)) := fun u => ((hp1 u).cell blt (fun h => h) _).trans c2
          have p3 : ∀ u, (pick u).cell? ⟨b, o + k * 5 + 3, none⟩ = some (.int .i64 n1) := fun u => ((hp1 u).cell blt (fun h => h) _).trans c3
          have q0 : ∀ u, (pick u).cell? ⟨w.heap.size, 0, none⟩ = some (.bool s1) := fun u => ((hp1 u).cell xlt (fun h => h) _).trans x0
          have q1 : ∀ u, (pick u).cell? ⟨w.heap.size, 1, none⟩ = some (.int .u64 (h0 : Int)) := fun u => ((hp1 u).cell xlt (fun h => h) _).trans x1
          have q2 : ∀ u, (pick u).cell? ⟨w.heap.size, 2, none⟩ = some (.int .u64 (l0 : Int)) := fun u => ((hp1 u).cell xlt (fun h => h) _).trans x2
          repeat (first | (refine wpR_det hp2 rfl ((hR.rel _).trans rfl) rfl ?_; intro K hK; go_big_quiet_op; go_big_quiet_on) | (refine wpR_ptr hp2 rfl ((hR.rel _).trans rfl) rfl rfl ?_; intro K hK; go_big_quiet_op; go_big_quiet_on) | (refine wpR_skip pick rfl ?_; intro K hK; go_big_quiet_op; go_big_quiet_on))
          refine wpR_nil ?_
          intro w2 hk2 hF hM
          have HB2 := Lib.hid (HB.out.trans (hk2.below hsr (fun i h => h.elim)))
          have HB2x := Lib.hid (HB'.out.trans (hk2.below hsr' (fun i h => h.elim)))
          clear hF hM hk2 hp1 hp2 hR p0 p1 p2 p3 q0 q1 q2 x0 x1 x2 c0 c1 c2 c3
          go_wp2_with fail
          go_roundw
          case rel => exact ⟨k + 1, by omega, by go_num, Lib.hid (fun i hi h => by
            by_cases e : i = k
            · subst e; rw [HX.out]; exact HNE.out
            · exact HI.out i hi (by omega)), Lib.hid ⟨HB2.out, HB2x.out⟩⟩
          case measure => simp [intOf]; omega
      · have HNE := Lib.hid (show ¬ ((⟨⟨s1, h1, l1⟩, n1, v1⟩ : En).a = ⟨s0, h0, l0⟩ ∧ (⟨⟨s1, h1, l1⟩, n1, v1⟩ : En).n = n) from fun h => es (by have := h.1; injection this))
        have esB : (s1 == s0) = false := beq_eq_false_iff_ne.2 es
        clear es
        go_upto_region 4 with fail
        refine wp_region_kept 16 [] ?st ?ne rfl (by kernel_rfl) (by kernel_rfl) ?_
        case st => intro p hp; cases hp
        case ne => intro p hp; cases hp
        simp only [List.take_succ_cons, List.take_zero, List.drop_succ_cons, List.drop_zero]
        intro G pick hR hp1 hp2
        have p0 : ∀ u, (pick u).cell? ⟨b, o + k * 5, none⟩ = some (.bool s1) := fun u => ((hp1 u).cell blt (fun h => h) _).trans c0
        have p1 : ∀ u, (pick u).cell? ⟨b, o + k * 5 + 1, none⟩ = some (.int .u64 (h1 : Int)) := fun u => ((hp1 u).cell blt (fun h => h) _).trans c1
        have p2 : ∀ u, (pick u).cell? ⟨b, o + k * 5 + 2, none⟩ = some (.int .u64 (l1 : Int)) := fun u => ((hp1 u).cell blt (fun h => h) _).trans c2
        have p3 : ∀ u, (pick u).cell? ⟨b, o + k * 5 + 3, none⟩ = some (.int .i64 n1) := fun u => ((hp1 u).cell blt (fun h => h) _).trans c3
        have q0 : ∀ u, (pick u).cell? ⟨w.heap.size, 0, none⟩ = some (.bool s0) := fun u => ((hp1 u).cell xlt (fun h => h) _).trans x0
        have q1 : ∀ u, (pick u).cell? ⟨w.heap.size, 1, none⟩ = some (.int .u64 (h0 : Int)) := fun u => ((hp1 u).cell xlt (fun h => h) _).trans x1
        have q2 : ∀ u, (pick u).cell? ⟨w.heap.size, 2, none⟩ = some (.int .u64 (l0 : Int)) := fun u => ((hp1 u).cell xlt (fun h => h) _).trans x2
        repeat (first | (refine wpR_det hp2 rfl ((hR.rel _).trans rfl) rfl ?_; intro K hK; go_big_quiet_op; go_big_quiet_on) | (refine wpR_ptr hp2 rfl ((hR.rel _).trans rfl) rfl rfl ?_; intro K hK; go_big_quiet_op; go_big_quiet_on) | (refine wpR_skip pick rfl ?_; intro K hK; go_big_quiet_op; go_big_quiet_on))
        refine wpR_nil ?_
        intro w2 hk2 hF hM
        have HB2 := Lib.hid (HB.out.trans (hk2.below hsr (fun i h => h.elim)))
        have HB2x := Lib.hid (HB'.out.trans (hk2.below hsr' (fun i h => h.elim)))
        clear hF hM hk2 hp1 hp2 hR p0 p1 p2 p3 q0 q1 q2 x0 x1 x2 c0 c1 c2 c3
        go_wp2_with fail
        go_roundw
        case rel => exact ⟨k + 1, by omega, by go_num, Lib.hid (fun i hi h => by
          by_cases e : i = k
          · subst e; rw [HX.out]; exact HNE.out
          · exact HI.out i hi (by omega)), Lib.hid ⟨HB2.out, HB2x.out⟩⟩
        case measure => simp [intOf]; omega
    · obtain rfl : k = l.length := by omega
      have hkn : ¬ (l.length : Int) < (l.length : Int) := by omega
      go_wp2_with fail
      go_ret
      exact ⟨_, rfl, .inl ⟨rfl, fun x hx => by obtain ⟨i, hi, rfl⟩ := List.mem_iff_getElem.1 hx; exact HI.out i hi hi⟩, HB.out⟩
end Go.Proofs.Ytchgbdghllkcpaa
