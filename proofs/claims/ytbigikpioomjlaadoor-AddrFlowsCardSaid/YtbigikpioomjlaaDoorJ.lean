/- AddrFlows where all addresses may be. -/
import Derived.Test.YtbigikpioomjlaaDoorI
namespace Go.Proofs.YtbigikpioomjlaaDoor
open Go.RowKit
set_option linter.unusedVariables false
theorem relAt_str {w : World} {o : Oper} {a : Act} {R : Value → World → Prop} (x : Operand) (ho : o.op = .convert 31 9 x) {v : Value} {l : List UInt8} (hx : a.eval x = v) (hb : Byt w v l) (h0 : l ≠ []) (h : R (.string ⟨l.toArray⟩) w) : relAt Tryd.prog o a w R := by
  obtain ⟨A, c, rfl, -, -, hbs⟩ := hb
  rcases hbs with e | ⟨b, off, -, rfl, hat⟩
  · exact absurd e h0
  · have hr := run_convert_bytes_back (P := Tryd.prog) w 31 9 5 ⟨b, off, none⟩ c l Tryd.underlying31 Tryd.underlying5 Tryd.underlying9 (fun j hj => by rw [Addr.add_lit]; exact hat j hj)
    unfold relAt execOp
    simp only [ho, hx]
    simp only [Sem.run_bind, hr, Result.andThen, Sem.run_pure]
    exact h
theorem flat_if {α : Type} (f g : Fl) (E : Bool) (hE : E = true ↔ f = g) (F : Bool → α) : (if f.src.six = g.src.six then if f.src.high = g.src.high then if f.src.low = g.src.low then if f.dst.six = g.dst.six then if f.dst.high = g.dst.high then if f.dst.low = g.dst.low then if f.sp = g.sp then if f.dp = g.dp then if f.pr = g.pr then F true else F false else F false else F false else F false else F false else F false else F false else F false else F false) = F E := by
  obtain ⟨⟨a, b, c⟩, ⟨d, e, k⟩, p, q, r⟩ := f
  obtain ⟨⟨a', b', c'⟩, ⟨d', e', k'⟩, p', q', r'⟩ := g
  simp only [Fl.mk.injEq, Ad.mk.injEq] at hE ⊢
  cases E with
  | true =>
    obtain ⟨⟨h1, h2, h3⟩, ⟨h4, h5, h6⟩, h7, h8, h9⟩ := hE.1 rfl
    rw [if_pos h1, if_pos h2, if_pos h3, if_pos h4, if_pos h5, if_pos h6, if_pos h7, if_pos h8, if_pos h9]
  | false =>
    split
    · rename_i h1
      split
      · rename_i h2
        split
        · rename_i h3
          split
          · rename_i h4
            split
            · rename_i h5
              split
              · rename_i h6
                split
                · rename_i h7
                  split
                  · rename_i h8
                    split
                    · rename_i h9
                      exact absurd (hE.2 ⟨⟨h1, h2, h3⟩, ⟨h4, h5, h6⟩, h7, h8, h9⟩) Bool.false_ne_true
                    · rfl
                  · rfl
                · rfl
              · rfl
            · rfl
          · rfl
        · rfl
      · rfl
    · rfl
def alB (f g : Fl) : Bool := (f.src.six == f.dst.six) && (g.src.six == f.src.six) && (g.dst.six == f.src.six)
theorem Fl.key_ne (f : Fl) : f.key ≠ [] := fun e => by have := f.key_len; rw [e] at this; simp at this
set_option maxRecDepth 4000 in
set_option maxHeartbeats 8000000 in
theorem flows_good (f g : Fl) (w : World) (hf : f.wf) (hg : g.wf) (r0 : f.src.okB = true) (r1 : f.dst.okB = true) (r2 : g.src.okB = true) (r3 : g.dst.okB = true) : Calls Tryd.prog 3 #[.agg #[.bool f.src.six, .int .u64 f.src.high, .int .u64 f.src.low, .bool f.dst.six, .int .u64 f.dst.high, .int .u64 f.dst.low, .int .u16 f.sp, .int .u16 f.dp, .int .u8 f.pr], .agg #[.bool g.src.six, .int .u64 g.src.high, .int .u64 g.src.low, .bool g.dst.six, .int .u64 g.dst.high, .int .u64 g.dst.low, .int .u16 g.sp, .int .u16 g.dp, .int .u8 g.pr]] w fun e w' => e = .returned (.bool true) ∧ Below w.heap.size w w' := by
  obtain ⟨E, hE⟩ : ∃ E : Bool, E = true ↔ f = g := by
    by_cases h : f = g
    · exact ⟨true, by simp [h]⟩
    · exact ⟨false, by simp [h]⟩
  have HE := Lib.hid hE
  have HK := Lib.hid (show alB f g = true → (f.key = g.key ↔ f = g) from fun hal => ⟨fun h => by
    have hal' := hal
    simp only [alB, Bool.and_eq_true, beq_iff_eq] at hal'
    exact Fl.key_inj hf hg r0 r1 r2 r3 hal'.1.2.symm (hal'.1.1.symm.trans hal'.2.symm) h, fun h => by rw [h]⟩)
  have HF := Lib.hid hf
  have HG := Lib.hid hg
  clear hE hf hg
  have R0 := Lib.hid (fun u => refRightA_any f.src u)
  rw [r0] at R0
  have R1 := Lib.hid (fun u => refRightA_any f.dst u)
  rw [r1] at R1
  have R2 := Lib.hid (fun u => refRightA_any g.src u)
  rw [r2] at R2
  have R3 := Lib.hid (fun u => refRightA_any g.dst u)
  rw [r3] at R3
  clear r0 r1 r2 r3
  go_enter Tryd.func3, Tryd.ntmps3
  go_upto_region 1 with fail
  generalize hw2 : (World.alloc _ _) = w2
  have HN := Lib.hid (show Blk w2 w.heap.size 27 #[.bool f.src.six, .int .u64 f.src.high, .int .u64 f.src.low, .bool f.dst.six, .int .u64 f.dst.high, .int .u64 f.dst.low, .int .u16 f.sp, .int .u16 f.dp, .int .u8 f.pr] ∧ Blk w2 (w.heap.size + 1) 27 #[.bool g.src.six, .int .u64 g.src.high, .int .u64 g.src.low, .bool g.dst.six, .int .u64 g.dst.high, .int .u64 g.dst.low, .int .u16 g.sp, .int .u16 g.dp, .int .u8 g.pr] ∧ Below w.heap.size w w2 by
    rw [← hw2]
    exact ⟨(Blk.new _ _ _).alloc _, Blk.new_ (by simp) _ _, ((Below.refl _ _).alloc (Nat.le_refl _) _).alloc (by simp) _⟩)
  have hl1 := HN.out.1.lt
  have hl2 := HN.out.2.1.lt
  clear hw2
  have HA := Lib.hid (show ∀ W : World, Below w2.heap.size w2 W → W.cell? ⟨w.heap.size, 0, none⟩ = some (.bool f.src.six) ∧ W.cell? ⟨w.heap.size, 1, none⟩ = some (.int .u64 f.src.high) ∧ W.cell? ⟨w.heap.size, 2, none⟩ = some (.int .u64 f.src.low) ∧ W.cell? ⟨w.heap.size, 3, none⟩ = some (.bool f.dst.six) ∧ W.cell? ⟨w.heap.size, 4, none⟩ = some (.int .u64 f.dst.high) ∧ W.cell? ⟨w.heap.size, 5, none⟩ = some (.int .u64 f.dst.low) ∧ W.cell? ⟨w.heap.size, 6, none⟩ = some (.int .u16 f.sp) ∧ W.cell? ⟨w.heap.size, 7, none⟩ = some (.int .u16 f.dp) ∧ W.cell? ⟨w.heap.size, 8, none⟩ = some (.int .u8 f.pr) ∧ W.cell? ⟨w.heap.size + 1, 0, none⟩ = some (.bool g.src.six) ∧ W.cell? ⟨w.heap.size + 1, 1, none⟩ = some (.int .u64 g.src.high) ∧ W.cell? ⟨w.heap.size + 1, 2, none⟩ = some (.int .u64 g.src.low) ∧ W.cell? ⟨w.heap.size + 1, 3, none⟩ = some (.bool g.dst.six) ∧ W.cell? ⟨w.heap.size + 1, 4, none⟩ = some (.int .u64 g.dst.high) ∧ W.cell? ⟨w.heap.size + 1, 5, none⟩ = some (.int .u64 g.dst.low) ∧ W.cell? ⟨w.heap.size + 1, 6, none⟩ = some (.int .u16 g.sp) ∧ W.cell? ⟨w.heap.size + 1, 7, none⟩ = some (.int .u16 g.dp) ∧ W.cell? ⟨w.heap.size + 1, 8, none⟩ = some (.int .u8 g.pr) from fun W h => by
    have p := HN.out.1.below h hl1
    have q := HN.out.2.1.below h hl2
    exact ⟨(p.cell 0).trans rfl, (p.cell 1).trans rfl, (p.cell 2).trans rfl, (p.cell 3).trans rfl, (p.cell 4).trans rfl, (p.cell 5).trans rfl, (p.cell 6).trans rfl, (p.cell 7).trans rfl, (p.cell 8).trans rfl, (q.cell 0).trans rfl, (q.cell 1).trans rfl, (q.cell 2).trans rfl, (q.cell 3).trans rfl, (q.cell 4).trans rfl, (q.cell 5).trans rfl, (q.cell 6).trans rfl, (q.cell 7).trans rfl, (q.cell 8).trans rfl⟩)
  obtain ⟨x0, x1, x2, x3, x4, x5, x6, x7, x8, y0, y1, y2, y3, y4, y5, y6, y7, y8⟩ := HA.out _ (Below.refl _ _)
  go_wp2_with fail
  refine (R0.out _).mono ?_
  rintro e w3 ⟨rfl, hb⟩
  have HBw3 := Lib.hid (hb)
  clear hb x0 x1 x2 x3 x4 x5 x6 x7 x8 y0 y1 y2 y3 y4 y5 y6 y7 y8
  obtain ⟨x0, x1, x2, x3, x4, x5, x6, x7, x8, y0, y1, y2, y3, y4, y5, y6, y7, y8⟩ := HA.out _ HBw3.out
  go_wp2_with fail
  refine (R1.out _).mono ?_
  rintro e w4 ⟨rfl, hb⟩
  have HBw4 := Lib.hid (HBw3.out.trans (hb.mono HBw3.out.size))
  clear hb x0 x1 x2 x3 x4 x5 x6 x7 x8 y0 y1 y2 y3 y4 y5 y6 y7 y8
  obtain ⟨x0, x1, x2, x3, x4, x5, x6, x7, x8, y0, y1, y2, y3, y4, y5, y6, y7, y8⟩ := HA.out _ HBw4.out
  go_wp2_with fail
  refine (R2.out _).mono ?_
  rintro e w5 ⟨rfl, hb⟩
  have HBw5 := Lib.hid (HBw4.out.trans (hb.mono HBw4.out.size))
  clear hb x0 x1 x2 x3 x4 x5 x6 x7 x8 y0 y1 y2 y3 y4 y5 y6 y7 y8
  obtain ⟨x0, x1, x2, x3, x4, x5, x6, x7, x8, y0, y1, y2, y3, y4, y5, y6, y7, y8⟩ := HA.out _ HBw5.out
  go_wp2_with fail
  refine (R3.out _).mono ?_
  rintro e w6 ⟨rfl, hb⟩
  have HBw6 := Lib.hid (HBw5.out.trans (hb.mono HBw5.out.size))
  clear hb x0 x1 x2 x3 x4 x5 x6 x7 x8 y0 y1 y2 y3 y4 y5 y6 y7 y8
  obtain ⟨x0, x1, x2, x3, x4, x5, x6, x7, x8, y0, y1, y2, y3, y4, y5, y6, y7, y8⟩ := HA.out _ HBw6.out
  go_wp2_with fail
  refine (back_any _ _ _ _ _ _ _ _ _ _).mono ?_
  rintro e w7 ⟨rfl, hb⟩
  have HB7 := Lib.hid (HBw6.out.trans (hb.mono HBw6.out.size))
  clear hb x0 x1 x2 x3 x4 x5 x6 x7 x8 y0 y1 y2 y3 y4 y5 y6 y7 y8
  go_upto_region 4 with fail
  generalize hw8 : (World.alloc _ _) = w8
  have HZ := Lib.hid (show Blk w8 w7.heap.size 27 #[.bool f.dst.six, .int .u64 f.dst.high, .int .u64 f.dst.low, .bool f.src.six, .int .u64 f.src.high, .int .u64 f.src.low, .int .u16 f.dp, .int .u16 f.sp, .int .u8 f.pr] ∧ Below w2.heap.size w2 w8 by
    rw [← hw8]
    exact ⟨Blk.new _ _ _, HB7.out.alloc HB7.out.size _⟩)
  clear hw8
  have hl3 := HZ.out.1.lt
  have hl4 := HZ.out.2.size
  have HX := Lib.hid (show Blk w8 w.heap.size 27 #[.bool f.src.six, .int .u64 f.src.high, .int .u64 f.src.low, .bool f.dst.six, .int .u64 f.dst.high, .int .u64 f.dst.low, .int .u16 f.sp, .int .u16 f.dp, .int .u8 f.pr] ∧ Blk w8 (w.heap.size + 1) 27 #[.bool g.src.six, .int .u64 g.src.high, .int .u64 g.src.low, .bool g.dst.six, .int .u64 g.dst.high, .int .u64 g.dst.low, .int .u16 g.sp, .int .u16 g.dp, .int .u8 g.pr] from ⟨HN.out.1.below HZ.out.2 hl1, HN.out.2.1.below HZ.out.2 hl2⟩)
  have hl5 := HX.out.1.lt
  have hl6 := HX.out.2.lt
  refine wp_region_kept 39 [(35, fun v u => v = .agg #[.bool f.src.six, .int .u64 f.src.high, .int .u64 f.src.low, .bool f.dst.six, .int .u64 f.dst.high, .int .u64 f.dst.low, .int .u16 f.sp, .int .u16 f.dp, .int .u8 f.pr])] ?st ?ne rfl (by kernel_rfl) (by kernel_rfl) ?_
  case st =>
    intro p hp
    simp only [List.mem_cons, List.not_mem_nil, or_false] at hp
    subst hp
    intro v u u' h hk; exact h
  case ne =>
    intro p hp
    simp only [List.mem_cons, List.not_mem_nil, or_false] at hp
    subst hp
    exact ⟨_, _, Kept.refl _ _, rfl⟩
  simp only [List.take_succ_cons, List.take_zero, List.drop_succ_cons, List.drop_zero]
  intro G pick hR hp1 hp2
  have pa : ∀ u i, (pick u).cell? ⟨w.heap.size, i, none⟩ = _ := fun u i => ((hp1 u).cell hl5 (fun h => h) _).trans (HX.out.1.cell i)
  have pz : ∀ u i, (pick u).cell? ⟨w7.heap.size, i, none⟩ = _ := fun u i => ((hp1 u).cell hl3 (fun h => h) _).trans (HZ.out.1.cell i)
  repeat (first | (refine wpR_det hp2 rfl ((hR.rel _).trans rfl) rfl ?_; intro K hK; go_big_quiet_op; go_big_quiet_on) | (refine wpR_ptr hp2 rfl ((hR.rel _).trans rfl) rfl rfl ?_; intro K hK; go_big_quiet_op; go_big_quiet_on) | (refine wpR_skip pick rfl ?_; intro K hK; go_big_quiet_op; go_big_quiet_on))
  refine wpR_rel pick rfl ((hR.rel _).trans rfl) ((hR.turns _).trans rfl) ?_ ?_
  · intro u hu
    have hk := hR.since hu.1
    have hks := hk.size
    unfold relAt
    go_simp
    refine (back_any _ _ _ _ _ _ _ _ _ u).mono ?_
    rintro e w' ⟨rfl, hb⟩
    exact ⟨_, rfl, hR.intoB hb, hR.put 0 rfl rfl rfl⟩
  intro v hv
  obtain ⟨u, _, hu⟩ := hv
  obtain rfl := hR.get 0 rfl hu
  clear hu
  intro K hK
  go_big_quiet_op
  go_big_quiet_on
  repeat (first | (refine wpR_det hp2 rfl ((hR.rel _).trans rfl) rfl ?_; intro K hK; go_big_quiet_op; go_big_quiet_on) | (refine wpR_ptr hp2 rfl ((hR.rel _).trans rfl) rfl rfl ?_; intro K hK; go_big_quiet_op; go_big_quiet_on) | (refine wpR_skip pick rfl ?_; intro K hK; go_big_quiet_op; go_big_quiet_on))
  refine wpR_nil ?_
  intro w9 hk9 hF hM
  have HY := Lib.hid (hk9.below (Nat.le_refl _) (fun i h => h.elim))
  clear hF hM hk9 hp1 hp2 hR pa pz
  obtain ⟨x0, x1, x2, x3, x4, x5, x6, x7, x8, y0, y1, y2, y3, y4, y5, y6, y7, y8⟩ := HA.out _ (HZ.out.2.trans (HY.out.mono hl4))
  go_upto_region 6 with fail
  go_cut [6] (fun s wx => s = .bool (alB f g) ∧ w9 = wx)
  case first =>
    obtain b1 | b1 : f.src.six = true ∨ f.src.six = false := by cases f.src.six <;> simp
    all_goals
      obtain b2 | b2 : f.dst.six = true ∨ f.dst.six = false := by cases f.dst.six <;> simp
    all_goals
      obtain b3 | b3 : g.src.six = true ∨ g.src.six = false := by cases g.src.six <;> simp
    all_goals
      obtain b4 | b4 : g.dst.six = true ∨ g.dst.six = false := by cases g.dst.six <;> simp
    all_goals
      rw [b1] at x0
      rw [b2] at x3
      rw [b3] at y0
      rw [b4] at y3
      have B1 := Lib.hid b1
      have B2 := Lib.hid b2
      have B3 := Lib.hid b3
      have B4 := Lib.hid b4
      clear b1 b2 b3 b4
      go_wp2_with fail
      go_meet
      exact ⟨congrArg Value.bool (by simp [alB, B1.out, B2.out, B3.out, B4.out]), rfl⟩
  case rest =>
    obtain ⟨rfl, rfl⟩ := hcut
    have HX9 := Lib.hid (show Blk w9 w.heap.size 27 #[.bool f.src.six, .int .u64 f.src.high, .int .u64 f.src.low, .bool f.dst.six, .int .u64 f.dst.high, .int .u64 f.dst.low, .int .u16 f.sp, .int .u16 f.dp, .int .u8 f.pr] ∧ Blk w9 (w.heap.size + 1) 27 #[.bool g.src.six, .int .u64 g.src.high, .int .u64 g.src.low, .bool g.dst.six, .int .u64 g.dst.high, .int .u64 g.dst.low, .int .u16 g.sp, .int .u16 g.dp, .int .u8 g.pr] from ⟨HX.out.1.below HY.out hl5, HX.out.2.below HY.out hl6⟩)
    have hl7 := HX9.out.1.lt
    have hl8 := HX9.out.2.lt
    clear x0 x1 x2 x3 x4 x5 x6 x7 x8 y0 y1 y2 y3 y4 y5 y6 y7 y8
    go_upto_region 7 with fail
    obtain hal | hal : alB f g = true ∨ alB f g = false := by cases alB f g <;> simp
    · have HAL := Lib.hid hal
      rw [hal]
      clear hal
      refine wp_region_kept 27 [(1, fun v u => Byt u v f.key), (2, fun v u => v = .string ⟨f.key.toArray⟩), (4, fun v u => Byt u v f.key), (5, fun v u => v = .string ⟨f.key.toArray⟩), (12, fun v u => Byt u v f.key), (13, fun v u => v = .string ⟨f.key.toArray⟩), (15, fun v u => Byt u v g.key), (16, fun v u => v = .string ⟨g.key.toArray⟩), (17, fun v u => v = .bool E), (20, fun v u => v = .bool E), (25, fun v u => v = .bool true)] ?st ?ne rfl (by kernel_rfl) (by kernel_rfl) ?_
      case st =>
        intro p hp
        simp only [List.mem_cons, List.not_mem_nil, or_false] at hp
        rcases hp with rfl | rfl | rfl | rfl | rfl | rfl | rfl | rfl | rfl | rfl | rfl
        · intro v u u' h hk; exact h.on0 hk
        · intro v u u' h hk; exact h
        · intro v u u' h hk; exact h.on0 hk
        · intro v u u' h hk; exact h
        · intro v u u' h hk; exact h.on0 hk
        · intro v u u' h hk; exact h
        · intro v u u' h hk; exact h.on0 hk
        · intro v u u' h hk; exact h
        · intro v u u' h hk; exact h
        · intro v u u' h hk; exact h
        · intro v u u' h hk; exact h
      case ne =>
        intro p hp
        simp only [List.mem_cons, List.not_mem_nil, or_false] at hp
        rcases hp with rfl | rfl | rfl | rfl | rfl | rfl | rfl | rfl | rfl | rfl | rfl
        · exact Byt.some _ _ (by have := f.key_len; unfold maxLen; omega)
        · exact ⟨_, _, Kept.refl _ _, rfl⟩
        · exact Byt.some _ _ (by have := f.key_len; unfold maxLen; omega)
        · exact ⟨_, _, Kept.refl _ _, rfl⟩
        · exact Byt.some _ _ (by have := f.key_len; unfold maxLen; omega)
        · exact ⟨_, _, Kept.refl _ _, rfl⟩
        · exact Byt.some _ _ (by have := g.key_len; unfold maxLen; omega)
        · exact ⟨_, _, Kept.refl _ _, rfl⟩
        · exact ⟨_, _, Kept.refl _ _, rfl⟩
        · exact ⟨_, _, Kept.refl _ _, rfl⟩
        · exact ⟨_, _, Kept.refl _ _, rfl⟩
      simp only [List.take_succ_cons, List.take_zero, List.drop_succ_cons, List.drop_zero]
      intro G pick hR hp1 hp2
      have pa : ∀ u i, (pick u).cell? ⟨w.heap.size, i, none⟩ = _ := fun u i => ((hp1 u).cell hl7 (fun h => h) _).trans (HX9.out.1.cell i)
      have pb : ∀ u i, (pick u).cell? ⟨w.heap.size + 1, i, none⟩ = _ := fun u i => ((hp1 u).cell hl8 (fun h => h) _).trans (HX9.out.2.cell i)
      repeat (first | (refine wpR_det hp2 rfl ((hR.rel _).trans rfl) rfl ?_; intro K hK; go_big_quiet_op; go_big_quiet_on) | (refine wpR_ptr hp2 rfl ((hR.rel _).trans rfl) rfl rfl ?_; intro K hK; go_big_quiet_op; go_big_quiet_on) | (refine wpR_skip pick rfl ?_; intro K hK; go_big_quiet_op; go_big_quiet_on))
      refine wpR_rel pick rfl ((hR.rel _).trans rfl) ((hR.turns _).trans rfl) ?_ ?_
      · intro u hu
        have hk := hR.since hu.1
        have hks := hk.size
        unfold relAt
        go_simp
        refine (adKey_any f u HF.out).mono ?_
        rintro e w' ⟨v, rfl, hy, hb⟩
        exact ⟨_, rfl, hR.intoB hb, hR.put 0 rfl rfl hy⟩
      intro v hv
      obtain ⟨u, _, hu⟩ := hv
      obtain ⟨A1, c1, rfl, -, -, -⟩ := hR.get 0 rfl hu
      clear hu
      intro K hK
      go_big_quiet_op
      go_big_quiet_on
      repeat (first | (refine wpR_det hp2 rfl ((hR.rel _).trans rfl) rfl ?_; intro K hK; go_big_quiet_op; go_big_quiet_on) | (refine wpR_ptr hp2 rfl ((hR.rel _).trans rfl) rfl rfl ?_; intro K hK; go_big_quiet_op; go_big_quiet_on) | (refine wpR_skip pick rfl ?_; intro K hK; go_big_quiet_op; go_big_quiet_on))
      refine wpR_rel pick rfl ((hR.rel _).trans rfl) ((hR.turns _).trans rfl) ?_ ?_
      · intro u hu
        have hk := hR.since hu.1
        have hks := hk.size
        have hy := hR.get 0 rfl (hu.2 _ _ (Got.upd_self _ _ _) (by kernel_rfl))
        exact relAt_str _ rfl rfl hy (Fl.key_ne f) ⟨hR.intoB (Below.refl _ _), hR.put 1 rfl rfl rfl⟩
      intro v hv
      obtain ⟨u, _, hu⟩ := hv
      obtain rfl := hR.get 1 rfl hu
      clear hu
      intro K hK
      go_big_quiet_op
      go_big_quiet_on
      repeat (first | (refine wpR_det hp2 rfl ((hR.rel _).trans rfl) rfl ?_; intro K hK; go_big_quiet_op; go_big_quiet_on) | (refine wpR_ptr hp2 rfl ((hR.rel _).trans rfl) rfl rfl ?_; intro K hK; go_big_quiet_op; go_big_quiet_on) | (refine wpR_skip pick rfl ?_; intro K hK; go_big_quiet_op; go_big_quiet_on))
      refine wpR_rel pick rfl ((hR.rel _).trans rfl) ((hR.turns _).trans rfl) ?_ ?_
      · intro u hu
        have hk := hR.since hu.1
        have hks := hk.size
        unfold relAt
        go_simp
        refine (refAdKey_any f u HF.out).mono ?_
        rintro e w' ⟨v, rfl, hy, hb⟩
        exact ⟨_, rfl, hR.intoB hb, hR.put 2 rfl rfl hy⟩
      intro v hv
      obtain ⟨u, _, hu⟩ := hv
      obtain ⟨A4, c4, rfl, -, -, -⟩ := hR.get 2 rfl hu
      clear hu
      intro K hK
      go_big_quiet_op
      go_big_quiet_on
      repeat (first | (refine wpR_det hp2 rfl ((hR.rel _).trans rfl) rfl ?_; intro K hK; go_big_quiet_op; go_big_quiet_on) | (refine wpR_ptr hp2 rfl ((hR.rel _).trans rfl) rfl rfl ?_; intro K hK; go_big_quiet_op; go_big_quiet_on) | (refine wpR_skip pick rfl ?_; intro K hK; go_big_quiet_op; go_big_quiet_on))
      refine wpR_rel pick rfl ((hR.rel _).trans rfl) ((hR.turns _).trans rfl) ?_ ?_
      · intro u hu
        have hk := hR.since hu.1
        have hks := hk.size
        have hy := hR.get 2 rfl (hu.2 _ _ (Got.upd_self _ _ _) (by kernel_rfl))
        exact relAt_str _ rfl rfl hy (Fl.key_ne f) ⟨hR.intoB (Below.refl _ _), hR.put 3 rfl rfl rfl⟩
      intro v hv
      obtain ⟨u, _, hu⟩ := hv
      obtain rfl := hR.get 3 rfl hu
      clear hu
      intro K hK
      go_big_quiet_op
      go_big_quiet_on
      repeat (first | (refine wpR_det hp2 rfl ((hR.rel _).trans rfl) rfl ?_; intro K hK; go_big_quiet_op; go_big_quiet_on) | (refine wpR_ptr hp2 rfl ((hR.rel _).trans rfl) rfl rfl ?_; intro K hK; go_big_quiet_op; go_big_quiet_on) | (refine wpR_skip pick rfl ?_; intro K hK; go_big_quiet_op; go_big_quiet_on))
      refine wpR_rel pick rfl ((hR.rel _).trans rfl) ((hR.turns _).trans rfl) ?_ ?_
      · intro u hu
        have hk := hR.since hu.1
        have hks := hk.size
        unfold relAt
        go_simp
        refine (adKey_any f u HF.out).mono ?_
        rintro e w' ⟨v, rfl, hy, hb⟩
        exact ⟨_, rfl, hR.intoB hb, hR.put 4 rfl rfl hy⟩
      intro v hv
      obtain ⟨u, _, hu⟩ := hv
      obtain ⟨A12, c12, rfl, -, -, -⟩ := hR.get 4 rfl hu
      clear hu
      intro K hK
      go_big_quiet_op
      go_big_quiet_on
      repeat (first | (refine wpR_det hp2 rfl ((hR.rel _).trans rfl) rfl ?_; intro K hK; go_big_quiet_op; go_big_quiet_on) | (refine wpR_ptr hp2 rfl ((hR.rel _).trans rfl) rfl rfl ?_; intro K hK; go_big_quiet_op; go_big_quiet_on) | (refine wpR_skip pick rfl ?_; intro K hK; go_big_quiet_op; go_big_quiet_on))
      refine wpR_rel pick rfl ((hR.rel _).trans rfl) ((hR.turns _).trans rfl) ?_ ?_
      · intro u hu
        have hk := hR.since hu.1
        have hks := hk.size
        have hy := hR.get 4 rfl (hu.2 _ _ (Got.upd_self _ _ _) (by kernel_rfl))
        exact relAt_str _ rfl rfl hy (Fl.key_ne f) ⟨hR.intoB (Below.refl _ _), hR.put 5 rfl rfl rfl⟩
      intro v hv
      obtain ⟨u, _, hu⟩ := hv
      obtain rfl := hR.get 5 rfl hu
      clear hu
      intro K hK
      go_big_quiet_op
      go_big_quiet_on
      repeat (first | (refine wpR_det hp2 rfl ((hR.rel _).trans rfl) rfl ?_; intro K hK; go_big_quiet_op; go_big_quiet_on) | (refine wpR_ptr hp2 rfl ((hR.rel _).trans rfl) rfl rfl ?_; intro K hK; go_big_quiet_op; go_big_quiet_on) | (refine wpR_skip pick rfl ?_; intro K hK; go_big_quiet_op; go_big_quiet_on))
      refine wpR_rel pick rfl ((hR.rel _).trans rfl) ((hR.turns _).trans rfl) ?_ ?_
      · intro u hu
        have hk := hR.since hu.1
        have hks := hk.size
        unfold relAt
        go_simp
        refine (adKey_any g u HG.out).mono ?_
        rintro e w' ⟨v, rfl, hy, hb⟩
        exact ⟨_, rfl, hR.intoB hb, hR.put 6 rfl rfl hy⟩
      intro v hv
      obtain ⟨u, _, hu⟩ := hv
      obtain ⟨A15, c15, rfl, -, -, -⟩ := hR.get 6 rfl hu
      clear hu
      intro K hK
      go_big_quiet_op
      go_big_quiet_on
      repeat (first | (refine wpR_det hp2 rfl ((hR.rel _).trans rfl) rfl ?_; intro K hK; go_big_quiet_op; go_big_quiet_on) | (refine wpR_ptr hp2 rfl ((hR.rel _).trans rfl) rfl rfl ?_; intro K hK; go_big_quiet_op; go_big_quiet_on) | (refine wpR_skip pick rfl ?_; intro K hK; go_big_quiet_op; go_big_quiet_on))
      refine wpR_rel pick rfl ((hR.rel _).trans rfl) ((hR.turns _).trans rfl) ?_ ?_
      · intro u hu
        have hk := hR.since hu.1
        have hks := hk.size
        have hy := hR.get 6 rfl (hu.2 _ _ (Got.upd_self _ _ _) (by kernel_rfl))
        exact relAt_str _ rfl rfl hy (Fl.key_ne g) ⟨hR.intoB (Below.refl _ _), hR.put 7 rfl rfl rfl⟩
      intro v hv
      obtain ⟨u, _, hu⟩ := hv
      obtain rfl := hR.get 7 rfl hu
      clear hu
      intro K hK
      go_big_quiet_op
      go_big_quiet_on
      repeat (first | (refine wpR_det hp2 rfl ((hR.rel _).trans rfl) rfl ?_; intro K hK; go_big_quiet_op; go_big_quiet_on) | (refine wpR_ptr hp2 rfl ((hR.rel _).trans rfl) rfl rfl ?_; intro K hK; go_big_quiet_op; go_big_quiet_on) | (refine wpR_skip pick rfl ?_; intro K hK; go_big_quiet_op; go_big_quiet_on))
      refine wpR_rel pick rfl ((hR.rel _).trans rfl) ((hR.turns _).trans rfl) ?_ ?_
      · intro u hu
        have hk := hR.since hu.1
        have hks := hk.size
        unfold relAt
        go_simp
        rw [show (f.key == g.key) = E from Bool.eq_iff_iff.2 (beq_iff_eq.trans ((HK.out HAL.out).trans HE.out.symm))]
        exact ⟨hR.intoB (Below.refl _ _), hR.put 8 rfl rfl rfl⟩
      intro v hv
      obtain ⟨u, _, hu⟩ := hv
      obtain rfl := hR.get 8 rfl hu
      clear hu
      intro K hK
      go_big_quiet_op
      go_big_quiet_on
      repeat (first | (refine wpR_det hp2 rfl ((hR.rel _).trans rfl) rfl ?_; intro K hK; go_big_quiet_op; go_big_quiet_on) | (refine wpR_ptr hp2 rfl ((hR.rel _).trans rfl) rfl rfl ?_; intro K hK; go_big_quiet_op; go_big_quiet_on) | (refine wpR_skip pick rfl ?_; intro K hK; go_big_quiet_op; go_big_quiet_on))
      refine wpR_rel pick rfl ((hR.rel _).trans rfl) ((hR.turns _).trans rfl) ?_ ?_
      · intro u hu
        have hk := hR.since hu.1
        have hks := hk.size
        unfold relAt
        go_simp
        have e := flat_if f g E HE.out (fun b => (Result.ok (Next.value (Value.bool b)) u : Result Next))
        rw [e]
        exact ⟨hR.intoB (Below.refl _ _), hR.put 9 rfl rfl rfl⟩
      intro v hv
      obtain ⟨u, _, hu⟩ := hv
      obtain rfl := hR.get 9 rfl hu
      clear hu
      intro K hK
      go_big_quiet_op
      go_big_quiet_on
      repeat (first | (refine wpR_det hp2 rfl ((hR.rel _).trans rfl) rfl ?_; intro K hK; go_big_quiet_op; go_big_quiet_on) | (refine wpR_ptr hp2 rfl ((hR.rel _).trans rfl) rfl rfl ?_; intro K hK; go_big_quiet_op; go_big_quiet_on) | (refine wpR_skip pick rfl ?_; intro K hK; go_big_quiet_op; go_big_quiet_on))
      refine wpR_rel pick rfl ((hR.rel _).trans rfl) ((hR.turns _).trans rfl) ?_ ?_
      · intro u hu
        have hk := hR.since hu.1
        have hks := hk.size
        unfold relAt
        go_simp
        refine (awake_any u).mono ?_
        rintro e w' ⟨rfl, hb⟩
        exact ⟨_, rfl, hR.intoB hb, hR.put 10 rfl rfl rfl⟩
      intro v hv
      obtain ⟨u, _, hu⟩ := hv
      obtain rfl := hR.get 10 rfl hu
      clear hu
      intro K hK
      go_big_quiet_op
      go_big_quiet_on
      repeat (first | (refine wpR_det hp2 rfl ((hR.rel _).trans rfl) rfl ?_; intro K hK; go_big_quiet_op; go_big_quiet_on) | (refine wpR_ptr hp2 rfl ((hR.rel _).trans rfl) rfl rfl ?_; intro K hK; go_big_quiet_op; go_big_quiet_on) | (refine wpR_skip pick rfl ?_; intro K hK; go_big_quiet_op; go_big_quiet_on))
      refine wpR_nil ?_
      intro w10 hk10 hF hM
      have HV := Lib.hid (HN.out.2.2.trans ((HZ.out.2.trans ((HY.out.trans (hk10.below HY.out.size (fun i h => h.elim))).mono hl4)).mono (by have := HN.out.2.2.size; omega)))
      clear hF hM hk10 hp1 hp2 hR pa pb
      go_wp2_with fail
      go_ret
      exact ⟨rfl, HV.out⟩
    · have HAL := Lib.hid hal
      rw [hal]
      clear hal
      refine wp_region_kept 27 [(1, fun v u => Byt u v f.key), (2, fun v u => v = .string ⟨f.key.toArray⟩), (4, fun v u => Byt u v f.key), (5, fun v u => v = .string ⟨f.key.toArray⟩), (12, fun v u => Byt u v f.key), (13, fun v u => v = .string ⟨f.key.toArray⟩), (15, fun v u => Byt u v g.key), (16, fun v u => v = .string ⟨g.key.toArray⟩), (17, fun v u => v = .bool E), (20, fun v u => v = .bool E), (25, fun v u => v = .bool true)] ?st ?ne rfl (by kernel_rfl) (by kernel_rfl) ?_
      case st =>
        intro p hp
        simp only [List.mem_cons, List.not_mem_nil, or_false] at hp
        rcases hp with rfl | rfl | rfl | rfl | rfl | rfl | rfl | rfl | rfl | rfl | rfl
        · intro v u u' h hk; exact h.on0 hk
        · intro v u u' h hk; exact h
        · intro v u u' h hk; exact h.on0 hk
        · intro v u u' h hk; exact h
        · intro v u u' h hk; exact h.on0 hk
        · intro v u u' h hk; exact h
        · intro v u u' h hk; exact h.on0 hk
        · intro v u u' h hk; exact h
        · intro v u u' h hk; exact h
        · intro v u u' h hk; exact h
        · intro v u u' h hk; exact h
      case ne =>
        intro p hp
        simp only [List.mem_cons, List.not_mem_nil, or_false] at hp
        rcases hp with rfl | rfl | rfl | rfl | rfl | rfl | rfl | rfl | rfl | rfl | rfl
        · exact Byt.some _ _ (by have := f.key_len; unfold maxLen; omega)
        · exact ⟨_, _, Kept.refl _ _, rfl⟩
        · exact Byt.some _ _ (by have := f.key_len; unfold maxLen; omega)
        · exact ⟨_, _, Kept.refl _ _, rfl⟩
        · exact Byt.some _ _ (by have := f.key_len; unfold maxLen; omega)
        · exact ⟨_, _, Kept.refl _ _, rfl⟩
        · exact Byt.some _ _ (by have := g.key_len; unfold maxLen; omega)
        · exact ⟨_, _, Kept.refl _ _, rfl⟩
        · exact ⟨_, _, Kept.refl _ _, rfl⟩
        · exact ⟨_, _, Kept.refl _ _, rfl⟩
        · exact ⟨_, _, Kept.refl _ _, rfl⟩
      simp only [List.take_succ_cons, List.take_zero, List.drop_succ_cons, List.drop_zero]
      intro G pick hR hp1 hp2
      have pa : ∀ u i, (pick u).cell? ⟨w.heap.size, i, none⟩ = _ := fun u i => ((hp1 u).cell hl7 (fun h => h) _).trans (HX9.out.1.cell i)
      have pb : ∀ u i, (pick u).cell? ⟨w.heap.size + 1, i, none⟩ = _ := fun u i => ((hp1 u).cell hl8 (fun h => h) _).trans (HX9.out.2.cell i)
      repeat (first | (refine wpR_det hp2 rfl ((hR.rel _).trans rfl) rfl ?_; intro K hK; go_big_quiet_op; go_big_quiet_on) | (refine wpR_ptr hp2 rfl ((hR.rel _).trans rfl) rfl rfl ?_; intro K hK; go_big_quiet_op; go_big_quiet_on) | (refine wpR_skip pick rfl ?_; intro K hK; go_big_quiet_op; go_big_quiet_on))
      refine wpR_rel pick rfl ((hR.rel _).trans rfl) ((hR.turns _).trans rfl) ?_ ?_
      · intro u hu
        have hk := hR.since hu.1
        have hks := hk.size
        unfold relAt
        go_simp
        refine (adKey_any f u HF.out).mono ?_
        rintro e w' ⟨v, rfl, hy, hb⟩
        exact ⟨_, rfl, hR.intoB hb, hR.put 0 rfl rfl hy⟩
      intro v hv
      obtain ⟨u, _, hu⟩ := hv
      obtain ⟨A1, c1, rfl, -, -, -⟩ := hR.get 0 rfl hu
      clear hu
      intro K hK
      go_big_quiet_op
      go_big_quiet_on
      repeat (first | (refine wpR_det hp2 rfl ((hR.rel _).trans rfl) rfl ?_; intro K hK; go_big_quiet_op; go_big_quiet_on) | (refine wpR_ptr hp2 rfl ((hR.rel _).trans rfl) rfl rfl ?_; intro K hK; go_big_quiet_op; go_big_quiet_on) | (refine wpR_skip pick rfl ?_; intro K hK; go_big_quiet_op; go_big_quiet_on))
      refine wpR_rel pick rfl ((hR.rel _).trans rfl) ((hR.turns _).trans rfl) ?_ ?_
      · intro u hu
        have hk := hR.since hu.1
        have hks := hk.size
        have hy := hR.get 0 rfl (hu.2 _ _ (Got.upd_self _ _ _) (by kernel_rfl))
        exact relAt_str _ rfl rfl hy (Fl.key_ne f) ⟨hR.intoB (Below.refl _ _), hR.put 1 rfl rfl rfl⟩
      intro v hv
      obtain ⟨u, _, hu⟩ := hv
      obtain rfl := hR.get 1 rfl hu
      clear hu
      intro K hK
      go_big_quiet_op
      go_big_quiet_on
      repeat (first | (refine wpR_det hp2 rfl ((hR.rel _).trans rfl) rfl ?_; intro K hK; go_big_quiet_op; go_big_quiet_on) | (refine wpR_ptr hp2 rfl ((hR.rel _).trans rfl) rfl rfl ?_; intro K hK; go_big_quiet_op; go_big_quiet_on) | (refine wpR_skip pick rfl ?_; intro K hK; go_big_quiet_op; go_big_quiet_on))
      refine wpR_rel pick rfl ((hR.rel _).trans rfl) ((hR.turns _).trans rfl) ?_ ?_
      · intro u hu
        have hk := hR.since hu.1
        have hks := hk.size
        unfold relAt
        go_simp
        refine (refAdKey_any f u HF.out).mono ?_
        rintro e w' ⟨v, rfl, hy, hb⟩
        exact ⟨_, rfl, hR.intoB hb, hR.put 2 rfl rfl hy⟩
      intro v hv
      obtain ⟨u, _, hu⟩ := hv
      obtain ⟨A4, c4, rfl, -, -, -⟩ := hR.get 2 rfl hu
      clear hu
      intro K hK
      go_big_quiet_op
      go_big_quiet_on
      repeat (first | (refine wpR_det hp2 rfl ((hR.rel _).trans rfl) rfl ?_; intro K hK; go_big_quiet_op; go_big_quiet_on) | (refine wpR_ptr hp2 rfl ((hR.rel _).trans rfl) rfl rfl ?_; intro K hK; go_big_quiet_op; go_big_quiet_on) | (refine wpR_skip pick rfl ?_; intro K hK; go_big_quiet_op; go_big_quiet_on))
      refine wpR_rel pick rfl ((hR.rel _).trans rfl) ((hR.turns _).trans rfl) ?_ ?_
      · intro u hu
        have hk := hR.since hu.1
        have hks := hk.size
        have hy := hR.get 2 rfl (hu.2 _ _ (Got.upd_self _ _ _) (by kernel_rfl))
        exact relAt_str _ rfl rfl hy (Fl.key_ne f) ⟨hR.intoB (Below.refl _ _), hR.put 3 rfl rfl rfl⟩
      intro v hv
      obtain ⟨u, _, hu⟩ := hv
      obtain rfl := hR.get 3 rfl hu
      clear hu
      intro K hK
      go_big_quiet_op
      go_big_quiet_on
      repeat (first | (refine wpR_det hp2 rfl ((hR.rel _).trans rfl) rfl ?_; intro K hK; go_big_quiet_op; go_big_quiet_on) | (refine wpR_ptr hp2 rfl ((hR.rel _).trans rfl) rfl rfl ?_; intro K hK; go_big_quiet_op; go_big_quiet_on) | (refine wpR_skip pick rfl ?_; intro K hK; go_big_quiet_op; go_big_quiet_on))
      refine wpR_rel pick rfl ((hR.rel _).trans rfl) ((hR.turns _).trans rfl) ?_ ?_
      · intro u hu
        have hk := hR.since hu.1
        have hks := hk.size
        unfold relAt
        go_simp
        refine (awake_any u).mono ?_
        rintro e w' ⟨rfl, hb⟩
        exact ⟨_, rfl, hR.intoB hb, hR.put 10 rfl rfl rfl⟩
      intro v hv
      obtain ⟨u, _, hu⟩ := hv
      obtain rfl := hR.get 10 rfl hu
      clear hu
      intro K hK
      go_big_quiet_op
      go_big_quiet_on
      repeat (first | (refine wpR_det hp2 rfl ((hR.rel _).trans rfl) rfl ?_; intro K hK; go_big_quiet_op; go_big_quiet_on) | (refine wpR_ptr hp2 rfl ((hR.rel _).trans rfl) rfl rfl ?_; intro K hK; go_big_quiet_op; go_big_quiet_on) | (refine wpR_skip pick rfl ?_; intro K hK; go_big_quiet_op; go_big_quiet_on))
      refine wpR_nil ?_
      intro w10 hk10 hF hM
      have HV := Lib.hid (HN.out.2.2.trans ((HZ.out.2.trans ((HY.out.trans (hk10.below HY.out.size (fun i h => h.elim))).mono hl4)).mono (by have := HN.out.2.2.size; omega)))
      clear hF hM hk10 hp1 hp2 hR pa pb
      go_wp2_with fail
      go_ret
      exact ⟨rfl, HV.out⟩
end Go.Proofs.YtbigikpioomjlaaDoor
