/- The law's first. -/
import Derived.Test.YtikakdcjbnbacaaPlainR
namespace Go.Proofs.Ytikakdcjbnbacaa
open Go.RowKit
set_option linter.unusedVariables false
theorem belK {w w1 w2 : World} (h : Below w.heap.size w w1) (hb : Below w1.heap.size w1 w2) : Below w.heap.size w w2 := h.trans (hb.mono h.size)
theorem keptK {w w1 w2 : World} (h1 : Below w.heap.size w w1) (h2 : Kept (fun _ => False) w1 w2) : Below w.heap.size w w2 := h1.trans (h2.below h1.size (fun i h => h.elim))
theorem hel_keep {w w' : World} {b o B : Nat} {L : List (List Value)} (h : ElAt w b o 2 L) (hk : Below B w w') (hb : b < B) : ElAt w' b o 2 L := h.keep (fun o => hk.cell (p := ⟨b, o, none⟩) hb)
set_option maxHeartbeats 2000000 in
theorem lfirst_nil (qb base : Nat) (v : Value) (A : Option Addr) (c : Nat) (w : World) (h : QuS qb base v [] w) :
    Calls Try.prog 20 #[.pointer (some ⟨qb, 0, none⟩), .slice A 0 c] w fun e w' => e = .returned (.bool true) ∧ Below w.heap.size w w' := by
  have HF := Lib.hid (qfirst_empty qb base v w h)
  have HQ := Lib.hid h
  clear h
  go_enter Try.func20, Try.ntmps20
  go_wp2_with fail
  refine HF.out.mono ?_
  rintro e w1 ⟨rfl, hb1⟩
  have HB1 := Lib.hid hb1
  have HL := Lib.hid (qlen_any qb base v [] _ ((HQ.out.onB hb1).on0 ((Kept.refl _ _).alloc (.cells #[.int .u64 0, .int .i64 0] 42))))
  clear hb1 HF
  go_wp2_with fail
  refine HL.out.mono ?_
  rintro e w2 ⟨rfl, rfl⟩
  clear HL
  go_upto_region 4 with fail
  obtain ⟨w3, hw3⟩ : ∃ w3 : World, w3 = w1.alloc (.cells #[.int .u64 0, .int .i64 0] 42) := ⟨_, rfl⟩
  have HX3 := Lib.hid (show Blk w3 w1.heap.size 42 #[.int .u64 0, .int .i64 0] by rw [hw3]; exact Blk.new _ _ _)
  have HB3 := Lib.hid (show Below w.heap.size w w3 by rw [hw3]; exact HB1.out.alloc HB1.out.size _)
  rw [← hw3]
  clear hw3
  have x0 := HX3.out.cell 0
  have x1 := HX3.out.cell 1
  simp at x0 x1
  have xlt := HX3.out.lt
  refine wp_region_kept 19 [] ?st ?ne rfl (by kernel_rfl) (by kernel_rfl) ?_
  case st => intro p hp; cases hp
  case ne => intro p hp; cases hp
  simp only [List.take_succ_cons, List.take_zero, List.drop_succ_cons, List.drop_zero]
  intro G pick hR hp1 hp2
  have q0 : ∀ u, (pick u).cell? ⟨w1.heap.size, 0, none⟩ = some (.int .u64 0) := fun u => ((hp1 u).cell xlt (fun h => h) _).trans x0
  have q1 : ∀ u, (pick u).cell? ⟨w1.heap.size, 1, none⟩ = some (.int .i64 0) := fun u => ((hp1 u).cell xlt (fun h => h) _).trans x1
  repeat (first | (refine wpR_det hp2 rfl ((hR.rel _).trans rfl) rfl ?_; intro K hK; go_big_quiet_op; go_big_quiet_on) | (refine wpR_ptr hp2 rfl ((hR.rel _).trans rfl) rfl rfl ?_; intro K hK; go_big_quiet_op; go_big_quiet_on) | (refine wpR_skip pick rfl ?_; intro K hK; go_big_quiet_op; go_big_quiet_on))
  refine wpR_nil ?_
  intro w5 hk2 hF hM
  have HB8 := Lib.hid (keptK HB3.out hk2)
  clear hF hM hk2 hp1 hp2 hR q0 q1 x0 x1
  go_wp2_with fail
  go_ret
  exact ⟨rfl, HB8.out⟩
set_option maxHeartbeats 2000000 in
theorem lfirst_any (qb base : Nat) (v : Value) (H T R : List It) (n : Nat) (xw xi : Int) (A : Option Addr) (c : Nat) (w : World) (hH : H = ⟨xw, xi⟩ :: T) (hn : H.length = n) (hl : H.length ≤ 10000) (hR : (⟨xw, xi⟩ :: R).length = n) (h : QuS qb base v H w) (hE : ES w w.heap.size A 2 ((⟨xw, xi⟩ :: R).map It.cs)) :
    Calls Try.prog 20 #[.pointer (some ⟨qb, 0, none⟩), .slice A n c] w fun e w' => e = .returned (.bool true) ∧ Below w.heap.size w w' := by
  obtain ⟨b, o, hb, rfl, hel⟩ := hE.at (k := 0) (by simp)
  have HF := Lib.hid (qfirst_any qb base v H ⟨xw, xi⟩ T w hH h hl)
  have HQ := Lib.hid h
  have HE := Lib.hid hel
  have n0 : 0 < n := by simp at hR; omega
  have HLN := Lib.hid (fun u (hq : QuS qb base v H u) => (hn ▸ qlen_any qb base v H u hq : Calls Try.prog 15 #[.pointer (some ⟨qb, 0, none⟩)] u fun e w' => e = .returned (.int .i64 (n : Int)) ∧ u = w'))
  have nI : (0 : Int) < (n : Int) := by omega
  clear h hE hel hR hH hn
  go_enter Try.func20, Try.ntmps20
  go_wp2_with fail
  refine HF.out.mono ?_
  rintro e w1 ⟨rfl, hb1⟩
  have HB1 := Lib.hid hb1
  have HL := Lib.hid (HLN.out _ ((HQ.out.onB hb1).on0 ((Kept.refl _ _).alloc (.cells #[.int .u64 xw, .int .i64 xi] 42))))
  clear hb1 HF HLN
  go_wp2_with fail
  refine HL.out.mono ?_
  rintro e w2 ⟨rfl, rfl⟩
  clear HL
  go_upto_region 4 with fail
  obtain ⟨w3, hw3⟩ : ∃ w3 : World, w3 = w1.alloc (.cells #[.int .u64 xw, .int .i64 xi] 42) := ⟨_, rfl⟩
  have HX3 := Lib.hid (show Blk w3 w1.heap.size 42 #[.int .u64 xw, .int .i64 xi] by rw [hw3]; exact Blk.new _ _ _)
  have HB3 := Lib.hid (show Below w.heap.size w w3 by rw [hw3]; exact HB1.out.alloc HB1.out.size _)
  rw [← hw3]
  clear hw3
  have hs3 := HB3.out.size
  have blt : b < w3.heap.size := by omega
  obtain ⟨c0, c1⟩ := it_cells (hel_keep HE.out HB3.out hb) (k := 0) (by simp)
  simp at c0 c1
  have x0 := HX3.out.cell 0
  have x1 := HX3.out.cell 1
  simp at x0 x1
  have xlt := HX3.out.lt
  refine wp_region_kept 19 [(14, fun v u => v = .agg #[.int .u64 xw, .int .i64 xi])] ?st ?ne rfl (by kernel_rfl) (by kernel_rfl) ?_
  case st =>
    intro p hp
    simp only [List.mem_cons, List.not_mem_nil, or_false] at hp
    subst hp
    · intro v u u' h hk; exact h
  case ne =>
    intro p hp
    simp only [List.mem_cons, List.not_mem_nil, or_false] at hp
    subst hp
    · exact ⟨_, _, Kept.refl _ _, rfl⟩
  simp only [List.take_succ_cons, List.take_zero, List.drop_succ_cons, List.drop_zero]
  intro G pick hR hp1 hp2
  have q0 : ∀ u, (pick u).cell? ⟨w1.heap.size, 0, none⟩ = some (.int .u64 xw) := fun u => ((hp1 u).cell xlt (fun h => h) _).trans x0
  have q1 : ∀ u, (pick u).cell? ⟨w1.heap.size, 1, none⟩ = some (.int .i64 xi) := fun u => ((hp1 u).cell xlt (fun h => h) _).trans x1
  have p0 : ∀ u, (pick u).cell? ⟨b, o, none⟩ = some (.int .u64 xw) := fun u => ((hp1 u).cell blt (fun h => h) _).trans c0
  have p1 : ∀ u, (pick u).cell? ⟨b, o + 1, none⟩ = some (.int .i64 xi) := fun u => ((hp1 u).cell blt (fun h => h) _).trans c1
  repeat (first | (refine wpR_det hp2 rfl ((hR.rel _).trans rfl) rfl ?_; intro K hK; go_big_quiet_op; go_big_quiet_on) | (refine wpR_ptr hp2 rfl ((hR.rel _).trans rfl) rfl rfl ?_; intro K hK; go_big_quiet_op; go_big_quiet_on) | (refine wpR_skip pick rfl ?_; intro K hK; go_big_quiet_op; go_big_quiet_on))
  refine wpR_rel pick rfl ((hR.rel _).trans rfl) ((hR.turns _).trans rfl) ?_ ?_
  · intro u hu
    have hk := hR.since hu.1
    have hks := hk.size
    unfold relAt
    go_simp
    refine (to_any xw xi u).mono ?_
    rintro e w' ⟨rfl, hb'⟩
    exact ⟨_, rfl, hR.intoB hb', hR.put 0 rfl rfl rfl⟩
  intro v hv
  obtain ⟨u, _, hu⟩ := hv
  obtain rfl := hR.get 0 rfl hu
  clear hu
  intro K hK
  go_big_quiet_op
  go_big_quiet_on
  repeat (first | (refine wpR_det hp2 rfl ((hR.rel _).trans rfl) rfl ?_; intro K hK; go_big_quiet_op; go_big_quiet_on) | (refine wpR_ptr hp2 rfl ((hR.rel _).trans rfl) rfl rfl ?_; intro K hK; go_big_quiet_op; go_big_quiet_on) | (refine wpR_skip pick rfl ?_; intro K hK; go_big_quiet_op; go_big_quiet_on))
  refine wpR_nil ?_
  intro w5 hk2 hF hM
  have HB8 := Lib.hid (keptK HB3.out hk2)
  clear hF hM hk2 hp1 hp2 hR q0 q1 x0 x1 p0 p1 c0 c1
  go_wp2_with fail
  go_ret
  exact ⟨rfl, HB8.out⟩
end Go.Proofs.Ytikakdcjbnbacaa
