/- Table.Find. -/
import Derived.Test.YtchgbdghllkcpaaF
namespace Go.Proofs.Ytchgbdghllkcpaa
open Go.RowKit
set_option linter.unusedVariables false
theorem results_cell_tmp2 {fn : Func} {p u v : Tmp} {ty : TypeId} (h : fn.results = #[.cell p ty, .tmp u, .tmp v]) (tmps : Array Value) (P : Program) (w : World) :
    (results fn tmps).run P w =
      ((asAddr (tmps.getD p undef)).run P w).andThen fun a w₁ => ((loadVar ty a).run P w₁).andThen fun x w₂ => .ok (.tuple #[x, tmps.getD u undef, tmps.getD v undef]) w₂ := by
  simp only [results, h]
  simp [Sem.run_bind, Result.andThen]
theorem results_blk_tmp2 {P : Program} {fn : Func} {p u v : Tmp} {ty : TypeId} (h : fn.results = #[.cell p ty, .tmp u, .tmp v]) (tmps : Array Value) (w : World) (g : Nat) (t : TypeId) (cs : Array Value) (d : TypeDesc)
    (hp : tmps.getD p undef = .pointer (some ⟨g, 0, none⟩)) (hg : Blk w g t cs)
    (hu : P.underlying ty = some d) (hd : (match d with | .struct _ | .array _ _ => true | _ => false) = true) (hi : (P.info? ty).map (·.size) = some cs.size) :
    (results fn tmps).run P w = .ok (.tuple #[.agg cs, tmps.getD u undef, tmps.getD v undef]) w := by
  rw [results_cell_tmp2 h, hp]
  simp [asAddr, run_loadVar_row w g t ty cs (0, 0) d hg hu hd hi, Result.andThen]
/-- The longest found so far, of those ahead of k. -/
def Best (g : Nat → Option Int) (k : Nat) (sz val : Int) (fd : Bool) : Prop := (fd = false ∧ sz = 0 ∧ val = 0 ∧ ∀ j, j < k → g j = none) ∨ (fd = true ∧ ∃ j : Nat, j < k ∧ sz = (j : Int) ∧ g j = some val ∧ ∀ i, j < i → i < k → g i = none)
theorem Best.zero (g : Nat → Option Int) : Best g 0 0 0 false := .inl ⟨rfl, rfl, rfl, fun j h => by omega⟩
theorem Best.no {g : Nat → Option Int} {k : Nat} {sz val : Int} {fd : Bool} (h : Best g k sz val fd) (hk : g k = none) : Best g (k + 1) sz val fd := by
  rcases h with ⟨h1, h2, h3, h4⟩ | ⟨h1, j, h2, h3, h4, h5⟩
  · refine .inl ⟨h1, h2, h3, fun j hj => ?_⟩
    by_cases e : j = k
    · rw [e]; exact hk
    · exact h4 j (by omega)
  · refine .inr ⟨h1, j, by omega, h3, h4, fun i hi hik => ?_⟩
    by_cases e : i = k
    · rw [e]; exact hk
    · exact h5 i hi (by omega)
theorem Best.yes {g : Nat → Option Int} {k : Nat} {v : Int} (hk : g k = some v) : Best g (k + 1) (k : Int) v true := .inr ⟨rfl, k, by omega, rfl, hk, fun i h1 h2 => by omega⟩
theorem Best.far {g : Nat → Option Int} {k K : Nat} {sz val : Int} {fd : Bool} (h : Best g k sz val fd) (hk : ∀ i, k ≤ i → g i = none) (hK : k ≤ K) : Best g K sz val fd := by
  rcases h with ⟨h1, h2, h3, h4⟩ | ⟨h1, j, h2, h3, h4, h5⟩
  · exact .inl ⟨h1, h2, h3, fun j hj => by
      rcases Nat.lt_or_ge j k with e | e
      · exact h4 j e
      · exact hk j e⟩
  · exact .inr ⟨h1, j, by omega, h3, h4, fun i hi hik => by
      rcases Nat.lt_or_ge i k with e | e
      · exact h5 i hi e
      · exact hk i e⟩
/-- Below a path that is no node there are none. -/
theorem Tri.deep {tb base : Nat} {N : Bool → Path → Option Nat} {H : Bool → Path → Bool} {V : Bool → Path → Int} {sz : Int} {w : World} (h : Tri tb base N H V sz w) {a : Ad} {k : Nat} (hk : 0 < k) (hN : N a.six (a.path k) = none) : ∀ i, k ≤ i → N a.six (a.path i) = none ∧ mapOf H V a.six (a.path i) = none := by
  have hne : ∀ i, 0 < i → a.path i ≠ [] := fun i hi e => by have := congrArg List.length e; rw [Ad.path_len] at this; simp at this; omega
  have key : ∀ i, k ≤ i → N a.six (a.path i) = none := by
    intro i hi
    induction i with
    | zero => omega
    | succ i ih =>
      by_cases e : k = i + 1
      · rw [← e]; exact hN
      · rw [Ad.path_succ]
        exact h.up _ _ _ (hne i (by omega)) (ih (by omega))
  intro i hi
  refine ⟨key i hi, ?_⟩
  unfold mapOf
  rw [h.has _ _ (hne i (by omega)) (key i hi)]
  rfl
def FindP (g : Nat → Option Int) (a : Ad) (w : World) (e : Ending) (w' : World) : Prop := (∃ sz val fd, Best g (a.bits + 1) sz val fd ∧
    e = .returned (.tuple #[if fd then .agg #[.bool (a.cut sz).six, .int .u64 ((a.cut sz).hi : Int), .int .u64 ((a.cut sz).lo : Int), .int .i64 sz] else .agg #[.bool false, .int .u64 0, .int .u64 0, .int .i64 0], .int .i64 val, .bool fd])) ∧ Below w.heap.size w w'
set_option maxHeartbeats 4000000 in
theorem find_no (tb : Nat) (a : Ad) (w : World) (hr : ¬ a.right) : Calls Try.prog 15 #[.pointer (some ⟨tb, 0, none⟩), .agg #[.bool a.six, .int .u64 (a.hi : Int), .int .u64 (a.lo : Int)]] w fun e w' => e = .returned (.tuple #[.agg #[.bool false, .int .u64 0, .int .u64 0, .int .i64 0], .int .i64 0, .bool false]) ∧ Below w.heap.size w w' := by
  have HR := Lib.hid (show decide a.right = false from decide_eq_false hr)
  have HRT := Lib.hid (fun u => addrRight_any a u)
  rw [HR.out] at HRT
  clear hr
  go_enter Try.func15, Try.ntmps15
  go_wp2_with fail
  refine (HRT.out _).mono ?_
  rintro e w1 ⟨rfl, hb1⟩
  have HB1 := Lib.hid hb1
  have HY := Lib.hid (show Blk w1 (w.heap.size + 1) 29 #[.bool false, .int .u64 0, .int .u64 0, .int .i64 0] from (Blk.new_ (w := w.alloc _) (by simp) _ _).below hb1 (by simp))
  have hs1 : w.heap.size + 2 ≤ w1.heap.size := by have := hb1.size; simpa using this
  have y0 := HY.out.cell
  have yf := HY.out.frozen
  have ylt := HY.out.lt
  clear hb1
  go_wp2_with fail
  refine bodyPost_ret (results_blk_tmp2 (P := Try.prog) Try.results15 _ _ (w.heap.size + 1) 29 #[.bool false, .int .u64 0, .int .u64 0, .int .i64 0] _ rfl ?_ Try.underlying29 rfl (by kernel_rfl)) rfl ⟨rfl, ?_⟩
  · go_light
    repeat (first | (with_reducible apply Blk.set_to) | ((with_reducible apply Blk.far'); omega))
    exact HY.out
    all_goals rfl
  · go_light
    refine Kept.below (S := fun i => w.heap.size ≤ i) ?_ (Nat.le_refl _) (fun i h => h)
    repeat (first | ((with_reducible apply Kept.setNew); omega))
    exact (((Kept.refl _ _).alloc _).alloc _).trans (Kept.of_below HB1.out (fun i hi h => by simp at h hi; omega))
set_option maxHeartbeats 16000000 in
set_option maxRecDepth 100000 in
theorem find_yes (tb base : Nat) (M : Bool → Path → Option Int) (sz : Int) (a : Ad) (w : World) (hw : a.wf) (hr : a.right) (hT : TabS tb base M sz w) :
    Calls Try.prog 15 #[.pointer (some ⟨tb, 0, none⟩), .agg #[.bool a.six, .int .u64 (a.hi : Int), .int .u64 (a.lo : Int)]] w (FindP (fun k => M a.six (a.path k)) a w) := by
  obtain ⟨N, H, V, hT, rfl⟩ := hT
  obtain ⟨g, hg⟩ : ∃ g : Nat → Option Int, (fun k => mapOf H V a.six (a.path k)) = g := ⟨_, rfl⟩
  have HG := Lib.hid (show ∀ k, g k = mapOf H V a.six (a.path k) from fun k => by rw [← hg])
  rw [hg]
  clear hg
  have HR := Lib.hid (show decide a.right = true from decide_eq_true hr)
  have HRT := Lib.hid (fun u => addrRight_any a u)
  rw [HR.out] at HRT
  have HW := Lib.hid hw
  have HRR := Lib.hid hr
  have HT := Lib.hid hT
  have hB128 : a.bits ≤ 128 := by unfold Ad.bits; split <;> omega
  clear hr hw hT
  go_enter Try.func15, Try.ntmps15
  go_wp2_with fail
  refine (HRT.out _).mono ?_
  rintro e w1 ⟨rfl, hb1⟩
  have HX1 := Lib.hid (show Blk w1 w.heap.size 24 #[.bool a.six, .int .u64 (a.hi : Int), .int .u64 (a.lo : Int)] from ((Blk.new w 24 _).alloc _).below hb1 (by simp; omega))
  have HY1 := Lib.hid (show Blk w1 (w.heap.size + 1) 29 #[.bool false, .int .u64 0, .int .u64 0, .int .i64 0] from (Blk.new_ (w := w.alloc _) (by simp) _ _).below hb1 (by simp))
  have HT1 := Lib.hid (((HT.out.onB bel1).onB bel1).onB hb1)
  have hs1 : w.heap.size + 2 ≤ w1.heap.size := by have := hb1.size; simpa using this
  have HB1 := Lib.hid (show Below w.heap.size w w1 from (bel1.alloc (by simp) _).trans (hb1.mono (by simp; omega)))
  have x0 := HX1.out.cell
  have xlt := HX1.out.lt
  clear hb1 HRT HT
  go_wp2_with fail
  refine (root_any tb a w1).mono ?_
  rintro e w0 ⟨rfl, hb2⟩
  have HX0 := Lib.hid (HX1.out.below hb2 HX1.out.lt)
  have HY0 := Lib.hid (HY1.out.below hb2 HY1.out.lt)
  have HT0 := Lib.hid (HT1.out.onB hb2)
  have HB0 := Lib.hid (HB1.out.trans (hb2.mono (by omega)))
  have hs0 : w.heap.size + 2 ≤ w0.heap.size := by have := hb2.size; omega
  clear hb2 x0 xlt HX1 HY1 HT1 HB1
  have HBR := Lib.hid (show Below w0.heap.size w0 w0 from Below.refl _ _)
  go_wp2_with fail
  go_loopw [7, 8, 9, 10, 11] (fun zv vv fv at_ iv wr => ∃ (k : Nat) (zs val : Int) (fd : Bool) (p : Option Addr), k ≤ a.bits + 1 ∧ iv = .int .i64 (k : Int) ∧ zv = .int .i64 zs ∧ vv = .int .i64 val ∧ fv = .bool fd ∧ at_ = .pointer p ∧ Hid (Best g k zs val fd) ∧ Hid ((∃ ab ao, p = some ⟨ab, ao, none⟩ ∧ k ≤ a.bits ∧ AtN tb N a.six (a.path k) ab ao) ∨ (p = none ∧ N a.six (a.path k) = none ∧ 0 < k)) ∧ Hid (Below w0.heap.size w0 wr)) (fun _ _ _ _ iv _ => a.bits + 1 - (intOf iv).toNat)
  case atStart => exact ⟨0, 0, 0, false, _, by omega, rfl, rfl, rfl, rfl, rfl, Lib.hid (Best.zero g), Lib.hid (.inl ⟨tb, _, rfl, by omega, AtN.root⟩), HBR⟩
  case round =>
    clear HBR
    obtain ⟨k, zs, val, fd, p, hk, rfl, rfl, rfl, rfl, rfl, HBS, HP, HB⟩ := hrel
    have hsr := HB.out.size
    rcases HP.out with ⟨ab, ao, rfl, hk, hA⟩ | ⟨rfl, hNk, hk0⟩
    · have HA := Lib.hid hA
      clear hA HP
      have HTr := Lib.hid (HT0.out.onB HB.out)
      have HC := Lib.hid (HTr.out.cells HA.out)
      have clt := HC.out.2.2.2.2.2.1
      obtain ⟨hh, hhe⟩ : ∃ h, H a.six (a.path k) = h := ⟨_, rfl⟩
      have c2 : wr.cell? ⟨ab, ao + 2, none⟩ = some (.bool hh) := by rw [← hhe]; exact HC.out.2.2.1
      cases hh with
      | false =>
        have HBE := Lib.hid (HBS.out.no (by rw [HG.out]; unfold mapOf; rw [hhe]; rfl))
        have HX := Lib.hid (HX0.out.below HB.out HX0.out.lt)
        clear hhe
        have HBi := Lib.hid (fun u => bits_any a u)
        have x0 := HX.out.cell
        have xlt0 := HX.out.lt
        go_wp2_with fail
        refine (HBi.out _).mono ?_
        rintro e w4 ⟨rfl, hb4⟩
        have HB4 := Lib.hid (HB.out.trans (hb4.mono (by have := HB.out.size; omega)))
        have hs4 := HB4.out.size
        clear hb4 x0 xlt0 HBi
        obtain ⟨B, hB⟩ : ∃ B, a.bits = B := ⟨_, rfl⟩
        have HBB := Lib.hid hB
        rw [hB] at hk ⊢
        clear hB
        by_cases hend : k = B
        · subst hend
          have keI : ((k : Int) == (k : Int)) = true := by simp
          have HBF := Lib.hid (show Best g (a.bits + 1) _ _ _ by rw [HBB.out]; exact HBE.out)
          cases fd with
          | false =>
            have HY8 := Lib.hid (HY0.out.below HB4.out HY0.out.lt)
            have y0 := HY8.out.cell
            have yf := HY8.out.frozen
            have ylt := HY8.out.lt
            go_wp2_with fail
            refine bodyPost_ret (results_blk_tmp2 (P := Try.prog) Try.results15 _ _ (w.heap.size + 1) 29 #[.bool false, .int .u64 0, .int .u64 0, .int .i64 0] _ rfl ?_ Try.underlying29 rfl (by kernel_rfl)) rfl ⟨⟨zs, 0, false, (by rcases HBF.out with ⟨a1, a2, a3, a4⟩ | ⟨a1, _⟩; exact .inl ⟨a1, a2, rfl, a4⟩; cases a1), rfl⟩, ?_⟩
            · go_light
              repeat (first | (with_reducible apply Blk.set_to) | ((with_reducible apply Blk.far'); omega))
              exact HY8.out
              all_goals rfl
            · go_light
              refine Kept.below (S := fun i => w.heap.size ≤ i) ?_ (Nat.le_refl _) (fun i h => h)
              repeat (first | ((with_reducible apply Kept.setNew); omega))
              exact Kept.of_below (HB0.out.trans (HB4.out.mono (by omega))) (fun i _ h => h)
          | true =>
            have HX8 := Lib.hid (HX0.out.below HB4.out HX0.out.lt)
            have x0 := HX8.out.cell
            have xlt := HX8.out.lt
            go_wp2_with fail
            refine (cut_any a zs _ HW.out HRR.out).mono ?_
            rintro e w8 ⟨rfl, hb8⟩
            have HY8 := Lib.hid ((HY0.out.below HB4.out HY0.out.lt).below hb8 (HY0.out.below HB4.out HY0.out.lt).lt)
            have HB8 := Lib.hid ((HB0.out.trans (HB4.out.mono (by omega))).trans (hb8.mono (by have := HB4.out.size; omega)))
            have y0 := HY8.out.cell
            have yf := HY8.out.frozen
            have ylt := HY8.out.lt
            clear hb8 x0 xlt
            go_wp2_with fail
            refine bodyPost_ret (results_blk_tmp2 (P := Try.prog) Try.results15 _ _ (w.heap.size + 1) 29 #[.bool (a.cut zs).six, .int .u64 ((a.cut zs).hi : Int), .int .u64 ((a.cut zs).lo : Int), .int .i64 zs] _ rfl ?_ Try.underlying29 rfl (by kernel_rfl)) rfl ⟨⟨zs, val, true, HBF.out, rfl⟩, ?_⟩
            · go_light
              repeat (first | (with_reducible apply Blk.set_to) | ((with_reducible apply Blk.far'); omega))
              exact HY8.out
              all_goals rfl
            · go_light
              refine Kept.below (S := fun i => w.heap.size ≤ i) ?_ (Nat.le_refl _) (fun i h => h)
              repeat (first | ((with_reducible apply Kept.setNew); omega))
              exact Kept.of_below HB8.out (fun i _ h => h)
        · have keI : ((k : Int) == (B : Int)) = false := beq_eq_false_iff_ne.2 (by omega)
          have HT4 := Lib.hid (HT0.out.onB HB4.out)
          have HC4 := Lib.hid (HT4.out.cells HA.out)
          have HX4 := Lib.hid (HX0.out.below HB4.out HX0.out.lt)
          have clt := HC4.out.2.2.2.2.2.1
          have x0 := HX4.out.cell 0
          have x1 := HX4.out.cell 1
          have x2 := HX4.out.cell 2
          simp at x0 x1 x2
          have xlt := HX4.out.lt
          have hbit := fun u => bit_any a k u HW.out (by rw [HBB.out]; omega)
          obtain ⟨b, hbv⟩ : ∃ b, a.bit k = b := ⟨_, rfl⟩
          have HBV := Lib.hid hbv
          rw [hbv] at hbit
          clear hbv
          cases b with
          | false =>
            rw [show bI false = 0 from rfl] at hbit
            have HBT := Lib.hid hbit
            clear hbit
            cases hN : N a.six (a.path k ++ [false]) with
            | none =>
              have cc : w4.cell? ⟨ab, ao, none⟩ = some (.pointer none) := by have := HC4.out.1; rw [hN] at this; exact this
              have HN := Lib.hid hN
              clear hN
              go_upto_region 11 with fail
              refine wp_region_kept 9 [(3, fun v u => v = .int .i64 0)] ?st ?ne rfl (by kernel_rfl) (by kernel_rfl) ?_
              case st =>
                intro p hp
                simp only [List.mem_cons, List.not_mem_nil, or_false] at hp
                subst hp
                · intro v u u' h hk; exact h
              case ne =>
                intro p hp
                simp only [List.mem_cons, List.not_mem_nil, or_false] at hp
                subst hp
                · exact ⟨_, _, Kept.refl _ _, rfl⟩
              simp only [List.take_succ_cons, List.take_zero, List.drop_succ_cons, List.drop_zero]
              intro G pick hR hp1 hp2
              have p0 : ∀ u, (pick u).cell? ⟨w.heap.size, 0, none⟩ = some (.bool a.six) := fun u => ((hp1 u).cell xlt (fun h => h) _).trans x0
              have p1 : ∀ u, (pick u).cell? ⟨w.heap.size, 1, none⟩ = some (.int .u64 (a.hi : Int)) := fun u => ((hp1 u).cell xlt (fun h => h) _).trans x1
              have p2 : ∀ u, (pick u).cell? ⟨w.heap.size, 2, none⟩ = some (.int .u64 (a.lo : Int)) := fun u => ((hp1 u).cell xlt (fun h => h) _).trans x2
              have pc : ∀ u, (pick u).cell? ⟨ab, ao, none⟩ = some (.pointer none) := fun u => ((hp1 u).cell clt (fun h => h) _).trans cc
              repeat (first | (refine wpR_det hp2 rfl ((hR.rel _).trans rfl) rfl ?_; intro K hK; go_big_quiet_op; go_big_quiet_on) | (refine wpR_ptr hp2 rfl ((hR.rel _).trans rfl) rfl rfl ?_; intro K hK; go_big_quiet_op; go_big_quiet_on) | (refine wpR_skip pick rfl ?_; intro K hK; go_big_quiet_op; go_big_quiet_on))
              refine wpR_rel pick rfl ((hR.rel _).trans rfl) ((hR.turns _).trans rfl) ?_ ?_
              · intro u hu
                have hk := hR.since hu.1
                have hks := hk.size
                unfold relAt
                go_simp
                refine (HBT.out u).mono ?_
                rintro e w' ⟨rfl, hb'⟩
                exact ⟨_, rfl, hR.intoB hb', hR.put 0 rfl rfl rfl⟩
              intro v hv
              obtain ⟨u, _, hu⟩ := hv
              obtain rfl := hR.get 0 rfl hu
              clear hu
              intro K hK
              go_big_quiet_op
              go_big_quiet_on
              repeat (first | (refine wpR_det hp2 rfl ((hR.rel _).trans rfl) rfl ?_; intro K hK; go_big_quiet_op; go_big_quiet_on) | (refine wpR_ptr hp2 rfl ((hR.rel _).trans rfl) rfl rfl ?_; intro K hK; go_big_quiet_op; go_big_quiet_on) | (refine wpR_skip pick rfl ?_; intro K hK; go_big_quiet_op; go_big_quiet_on))
              refine wpR_nil ?_
              intro w5 hk2 hF hM
              have HB5 := Lib.hid (HB4.out.trans (hk2.below (by omega) (fun i h => h.elim)))
              clear hF hM hk2 hp1 hp2 hR p0 p1 p2 pc x0 x1 x2 cc
              go_wp2_with fail
              go_roundw
              case rel => exact ⟨k + 1, _, _, _, _, by have := HBB.out; omega, by go_num, rfl, rfl, rfl, rfl, HBE, Lib.hid (.inr ⟨rfl, by rw [Ad.path_succ, HBV.out]; exact HN.out, by omega⟩), HB5⟩
              case measure => have := HBB.out; simp [intOf]; omega
            | some cb =>
              have cc : w4.cell? ⟨ab, ao, none⟩ = some (.pointer (some ⟨cb, 0, none⟩)) := by have := HC4.out.1; rw [hN] at this; exact this
              have HN := Lib.hid hN
              clear hN
              go_upto_region 11 with fail
              refine wp_region_kept 9 [(3, fun v u => v = .int .i64 0)] ?st ?ne rfl (by kernel_rfl) (by kernel_rfl) ?_
              case st =>
                intro p hp
                simp only [List.mem_cons, List.not_mem_nil, or_false] at hp
                subst hp
                · intro v u u' h hk; exact h
              case ne =>
                intro p hp
                simp only [List.mem_cons, List.not_mem_nil, or_false] at hp
                subst hp
                · exact ⟨_, _, Kept.refl _ _, rfl⟩
              simp only [List.take_succ_cons, List.take_zero, List.drop_succ_cons, List.drop_zero]
              intro G pick hR hp1 hp2
              have p0 : ∀ u, (pick u).cell? ⟨w.heap.size, 0, none⟩ = some (.bool a.six) := fun u => ((hp1 u).cell xlt (fun h => h) _).trans x0
              have p1 : ∀ u, (pick u).cell? ⟨w.heap.size, 1, none⟩ = some (.int .u64 (a.hi : Int)) := fun u => ((hp1 u).cell xlt (fun h => h) _).trans x1
              have p2 : ∀ u, (pick u).cell? ⟨w.heap.size, 2, none⟩ = some (.int .u64 (a.lo : Int)) := fun u => ((hp1 u).cell xlt (fun h => h) _).trans x2
              have pc : ∀ u, (pick u).cell? ⟨ab, ao, none⟩ = some (.pointer (some ⟨cb, 0, none⟩)) := fun u => ((hp1 u).cell clt (fun h => h) _).trans cc
              repeat (first | (refine wpR_det hp2 rfl ((hR.rel _).trans rfl) rfl ?_; intro K hK; go_big_quiet_op; go_big_quiet_on) | (refine wpR_ptr hp2 rfl ((hR.rel _).trans rfl) rfl rfl ?_; intro K hK; go_big_quiet_op; go_big_quiet_on) | (refine wpR_skip pick rfl ?_; intro K hK; go_big_quiet_op; go_big_quiet_on))
              refine wpR_rel pick rfl ((hR.rel _).trans rfl) ((hR.turns _).trans rfl) ?_ ?_
              · intro u hu
                have hk := hR.since hu.1
                have hks := hk.size
                unfold relAt
                go_simp
                refine (HBT.out u).mono ?_
                rintro e w' ⟨rfl, hb'⟩
                exact ⟨_, rfl, hR.intoB hb', hR.put 0 rfl rfl rfl⟩
              intro v hv
              obtain ⟨u, _, hu⟩ := hv
              obtain rfl := hR.get 0 rfl hu
              clear hu
              intro K hK
              go_big_quiet_op
              go_big_quiet_on
              repeat (first | (refine wpR_det hp2 rfl ((hR.rel _).trans rfl) rfl ?_; intro K hK; go_big_quiet_op; go_big_quiet_on) | (refine wpR_ptr hp2 rfl ((hR.rel _).trans rfl) rfl rfl ?_; intro K hK; go_big_quiet_op; go_big_quiet_on) | (refine wpR_skip pick rfl ?_; intro K hK; go_big_quiet_op; go_big_quiet_on))
              refine wpR_nil ?_
              intro w5 hk2 hF hM
              have HB5 := Lib.hid (HB4.out.trans (hk2.below (by omega) (fun i h => h.elim)))
              clear hF hM hk2 hp1 hp2 hR p0 p1 p2 pc x0 x1 x2 cc
              go_wp2_with fail
              go_roundw
              case rel => exact ⟨k + 1, _, _, _, _, by have := HBB.out; omega, by go_num, rfl, rfl, rfl, rfl, HBE, Lib.hid (.inl ⟨cb, 0, rfl, by have := HBB.out; omega, by rw [Ad.path_succ, HBV.out]; exact AtN.child HN.out⟩), HB5⟩
              case measure => have := HBB.out; simp [intOf]; omega
          | true =>
            rw [show bI true = 1 from rfl] at hbit
            have HBT := Lib.hid hbit
            clear hbit
            cases hN : N a.six (a.path k ++ [true]) with
            | none =>
              have cc : w4.cell? ⟨ab, ao + 1, none⟩ = some (.pointer none) := by have := HC4.out.2.1; rw [hN] at this; exact this
              have HN := Lib.hid hN
              clear hN
              go_upto_region 11 with fail
              refine wp_region_kept 9 [(3, fun v u => v = .int .i64 1)] ?st ?ne rfl (by kernel_rfl) (by kernel_rfl) ?_
              case st =>
                intro p hp
                simp only [List.mem_cons, List.not_mem_nil, or_false] at hp
                subst hp
                · intro v u u' h hk; exact h
              case ne =>
                intro p hp
                simp only [List.mem_cons, List.not_mem_nil, or_false] at hp
                subst hp
                · exact ⟨_, _, Kept.refl _ _, rfl⟩
              simp only [List.take_succ_cons, List.take_zero, List.drop_succ_cons, List.drop_zero]
              intro G pick hR hp1 hp2
              have p0 : ∀ u, (pick u).cell? ⟨w.heap.size, 0, none⟩ = some (.bool a.six) := fun u => ((hp1 u).cell xlt (fun h => h) _).trans x0
              have p1 : ∀ u, (pick u).cell? ⟨w.heap.size, 1, none⟩ = some (.int .u64 (a.hi : Int)) := fun u => ((hp1 u).cell xlt (fun h => h) _).trans x1
              have p2 : ∀ u, (pick u).cell? ⟨w.heap.size, 2, none⟩ = some (.int .u64 (a.lo : Int)) := fun u => ((hp1 u).cell xlt (fun h => h) _).trans x2
              have pc : ∀ u, (pick u).cell? ⟨ab, ao + 1, none⟩ = some (.pointer none) := fun u => ((hp1 u).cell clt (fun h => h) _).trans cc
              repeat (first | (refine wpR_det hp2 rfl ((hR.rel _).trans rfl) rfl ?_; intro K hK; go_big_quiet_op; go_big_quiet_on) | (refine wpR_ptr hp2 rfl ((hR.rel _).trans rfl) rfl rfl ?_; intro K hK; go_big_quiet_op; go_big_quiet_on) | (refine wpR_skip pick rfl ?_; intro K hK; go_big_quiet_op; go_big_quiet_on))
              refine wpR_rel pick rfl ((hR.rel _).trans rfl) ((hR.turns _).trans rfl) ?_ ?_
              · intro u hu
                have hk := hR.since hu.1
                have hks := hk.size
                unfold relAt
                go_simp
                refine (HBT.out u).mono ?_
                rintro e w' ⟨rfl, hb'⟩
                exact ⟨_, rfl, hR.intoB hb', hR.put 0 rfl rfl rfl⟩
              intro v hv
              obtain ⟨u, _, hu⟩ := hv
              obtain rfl := hR.get 0 rfl hu
              clear hu
              intro K hK
              go_big_quiet_op
              go_big_quiet_on
              repeat (first | (refine wpR_det hp2 rfl ((hR.rel _).trans rfl) rfl ?_; intro K hK; go_big_quiet_op; go_big_quiet_on) | (refine wpR_ptr hp2 rfl ((hR.rel _).trans rfl) rfl rfl ?_; intro K hK; go_big_quiet_op; go_big_quiet_on) | (refine wpR_skip pick rfl ?_; intro K hK; go_big_quiet_op; go_big_quiet_on))
              refine wpR_nil ?_
              intro w5 hk2 hF hM
              have HB5 := Lib.hid (HB4.out.trans (hk2.below (by omega) (fun i h => h.elim)))
              clear hF hM hk2 hp1 hp2 hR p0 p1 p2 pc x0 x1 x2 cc
              go_wp2_with fail
              go_roundw
              case rel => exact ⟨k + 1, _, _, _, _, by have := HBB.out; omega, by go_num, rfl, rfl, rfl, rfl, HBE, Lib.hid (.inr ⟨rfl, by rw [Ad.path_succ, HBV.out]; exact HN.out, by omega⟩), HB5⟩
              case measure => have := HBB.out; simp [intOf]; omega
            | some cb =>
              have cc : w4.cell? ⟨ab, ao + 1, none⟩ = some (.pointer (some ⟨cb, 0, none⟩)) := by have := HC4.out.2.1; rw [hN] at this; exact this
              have HN := Lib.hid hN
              clear hN
              go_upto_region 11 with fail
              refine wp_region_kept 9 [(3, fun v u => v = .int .i64 1)] ?st ?ne rfl (by kernel_rfl) (by kernel_rfl) ?_
              case st =>
                intro p hp
                simp only [List.mem_cons, List.not_mem_nil, or_false] at hp
                subst hp
                · intro v u u' h hk; exact h
              case ne =>
                intro p hp
                simp only [List.mem_cons, List.not_mem_nil, or_false] at hp
                subst hp
                · exact ⟨_, _, Kept.refl _ _, rfl⟩
              simp only [List.take_succ_cons, List.take_zero, List.drop_succ_cons, List.drop_zero]
              intro G pick hR hp1 hp2
              have p0 : ∀ u, (pick u).cell? ⟨w.heap.size, 0, none⟩ = some (.bool a.six) := fun u => ((hp1 u).cell xlt (fun h => h) _).trans x0
              have p1 : ∀ u, (pick u).cell? ⟨w.heap.size, 1, none⟩ = some (.int .u64 (a.hi : Int)) := fun u => ((hp1 u).cell xlt (fun h => h) _).trans x1
              have p2 : ∀ u, (pick u).cell? ⟨w.heap.size, 2, none⟩ = some (.int .u64 (a.lo : Int)) := fun u => ((hp1 u).cell xlt (fun h => h) _).trans x2
              have pc : ∀ u, (pick u).cell? ⟨ab, ao + 1, none⟩ = some (.pointer (some ⟨cb, 0, none⟩)) := fun u => ((hp1 u).cell clt (fun h => h) _).trans cc
              repeat (first | (refine wpR_det hp2 rfl ((hR.rel _).trans rfl) rfl ?_; intro K hK; go_big_quiet_op; go_big_quiet_on) | (refine wpR_ptr hp2 rfl ((hR.rel _).trans rfl) rfl rfl ?_; intro K hK; go_big_quiet_op; go_big_quiet_on) | (refine wpR_skip pick rfl ?_; intro K hK; go_big_quiet_op; go_big_quiet_on))
              refine wpR_rel pick rfl ((hR.rel _).trans rfl) ((hR.turns _).trans rfl) ?_ ?_
              · intro u hu
                have hk := hR.since hu.1
                have hks := hk.size
                unfold relAt
                go_simp
                refine (HBT.out u).mono ?_
                rintro e w' ⟨rfl, hb'⟩
                exact ⟨_, rfl, hR.intoB hb', hR.put 0 rfl rfl rfl⟩
              intro v hv
              obtain ⟨u, _, hu⟩ := hv
              obtain rfl := hR.get 0 rfl hu
              clear hu
              intro K hK
              go_big_quiet_op
              go_big_quiet_on
              repeat (first | (refine wpR_det hp2 rfl ((hR.rel _).trans rfl) rfl ?_; intro K hK; go_big_quiet_op; go_big_quiet_on) | (refine wpR_ptr hp2 rfl ((hR.rel _).trans rfl) rfl rfl ?_; intro K hK; go_big_quiet_op; go_big_quiet_on) | (refine wpR_skip pick rfl ?_; intro K hK; go_big_quiet_op; go_big_quiet_on))
              refine wpR_nil ?_
              intro w5 hk2 hF hM
              have HB5 := Lib.hid (HB4.out.trans (hk2.below (by omega) (fun i h => h.elim)))
              clear hF hM hk2 hp1 hp2 hR p0 p1 p2 pc x0 x1 x2 cc
              go_wp2_with fail
              go_roundw
              case rel => exact ⟨k + 1, _, _, _, _, by have := HBB.out; omega, by go_num, rfl, rfl, rfl, rfl, HBE, Lib.hid (.inl ⟨cb, 0, rfl, by have := HBB.out; omega, by rw [Ad.path_succ, HBV.out]; exact AtN.child HN.out⟩), HB5⟩
              case measure => have := HBB.out; simp [intOf]; omega
      | true =>
        obtain ⟨vv, hvv⟩ : ∃ v, V a.six (a.path k) = v := ⟨_, rfl⟩
        have c3 : wr.cell? ⟨ab, ao + 3, none⟩ = some (.int .i64 vv) := by rw [← hvv]; exact HC.out.2.2.2.1
        have HBE := Lib.hid (Best.yes (show g k = some vv by rw [HG.out]; unfold mapOf; rw [hhe, hvv]; rfl))
        clear hhe hvv
        go_upto_region 9 with fail
        refine wp_region_kept 8 [] ?st ?ne rfl (by kernel_rfl) (by kernel_rfl) ?_
        case st => intro p hp; cases hp
        case ne => intro p hp; cases hp
        simp only [List.take_succ_cons, List.take_zero, List.drop_succ_cons, List.drop_zero]
        intro G pick hR hp1 hp2
        have p3 : ∀ u, (pick u).cell? ⟨ab, ao + 3, none⟩ = some (.int .i64 vv) := fun u => ((hp1 u).cell clt (fun h => h) _).trans c3
        repeat (first | (refine wpR_det hp2 rfl ((hR.rel _).trans rfl) rfl ?_; intro K hK; go_big_quiet_op; go_big_quiet_on) | (refine wpR_ptr hp2 rfl ((hR.rel _).trans rfl) rfl rfl ?_; intro K hK; go_big_quiet_op; go_big_quiet_on) | (refine wpR_skip pick rfl ?_; intro K hK; go_big_quiet_op; go_big_quiet_on))
        refine wpR_nil ?_
        intro w2 hk2 hF hM
        have HB9 := Lib.hid (HB.out.trans (hk2.below hsr (fun i h => h.elim)))
        have HX := Lib.hid (HX0.out.below HB9.out HX0.out.lt)
        have hs9 := HB9.out.size
        clear hF hM hk2 hp1 hp2 hR p3 c2 c3
        have HBi := Lib.hid (fun u => bits_any a u)
        have x0 := HX.out.cell
        have xlt0 := HX.out.lt
        go_wp2_with fail
        refine (HBi.out _).mono ?_
        rintro e w4 ⟨rfl, hb4⟩
        have HB4 := Lib.hid (HB9.out.trans (hb4.mono (by have := HB9.out.size; omega)))
        have hs4 := HB4.out.size
        clear hb4 x0 xlt0 HBi
        obtain ⟨B, hB⟩ : ∃ B, a.bits = B := ⟨_, rfl⟩
        have HBB := Lib.hid hB
        rw [hB] at hk ⊢
        clear hB
        by_cases hend : k = B
        · subst hend
          have keI : ((k : Int) == (k : Int)) = true := by simp
          have HBF := Lib.hid (show Best g (a.bits + 1) _ _ _ by rw [HBB.out]; exact HBE.out)
          have HX8 := Lib.hid (HX0.out.below HB4.out HX0.out.lt)
          have x0 := HX8.out.cell
          have xlt := HX8.out.lt
          go_wp2_with fail
          refine (cut_any a (k : Int) _ HW.out HRR.out).mono ?_
          rintro e w8 ⟨rfl, hb8⟩
          have HY8 := Lib.hid ((HY0.out.below HB4.out HY0.out.lt).below hb8 (HY0.out.below HB4.out HY0.out.lt).lt)
          have HB8 := Lib.hid ((HB0.out.trans (HB4.out.mono (by omega))).trans (hb8.mono (by have := HB4.out.size; omega)))
          have y0 := HY8.out.cell
          have yf := HY8.out.frozen
          have ylt := HY8.out.lt
          clear hb8 x0 xlt
          go_wp2_with fail
          refine bodyPost_ret (results_blk_tmp2 (P := Try.prog) Try.results15 _ _ (w.heap.size + 1) 29 #[.bool (a.cut (k : Int)).six, .int .u64 ((a.cut (k : Int)).hi : Int), .int .u64 ((a.cut (k : Int)).lo : Int), .int .i64 (k : Int)] _ rfl ?_ Try.underlying29 rfl (by kernel_rfl)) rfl ⟨⟨(k : Int), vv, true, HBF.out, rfl⟩, ?_⟩
          · go_light
            repeat (first | (with_reducible apply Blk.set_to) | ((with_reducible apply Blk.far'); omega))
            exact HY8.out
            all_goals rfl
          · go_light
            refine Kept.below (S := fun i => w.heap.size ≤ i) ?_ (Nat.le_refl _) (fun i h => h)
            repeat (first | ((with_reducible apply Kept.setNew); omega))
            exact Kept.of_below HB8.out (fun i _ h => h)
        · have keI : ((k : Int) == (B : Int)) = false := beq_eq_false_iff_ne.2 (by omega)
          have HT4 := Lib.hid (HT0.out.onB HB4.out)
          have HC4 := Lib.hid (HT4.out.cells HA.out)
          have HX4 := Lib.hid (HX0.out.below HB4.out HX0.out.lt)
          have clt := HC4.out.2.2.2.2.2.1
          have x0 := HX4.out.cell 0
          have x1 := HX4.out.cell 1
          have x2 := HX4.out.cell 2
          simp at x0 x1 x2
          have xlt := HX4.out.lt
          have hbit := fun u => bit_any a k u HW.out (by rw [HBB.out]; omega)
          obtain ⟨b, hbv⟩ : ∃ b, a.bit k = b := ⟨_, rfl⟩
          have HBV := Lib.hid hbv
          rw [hbv] at hbit
          clear hbv
          cases b with
          | false =>
            rw [show bI false = 0 from rfl] at hbit
            have HBT := Lib.hid hbit
            clear hbit
            cases hN : N a.six (a.path k ++ [false]) with
            | none =>
              have cc : w4.cell? ⟨ab, ao, none⟩ = some (.pointer none) := by have := HC4.out.1; rw [hN] at this; exact this
              have HN := Lib.hid hN
              clear hN
              go_upto_region 11 with fail
              refine wp_region_kept 9 [(3, fun v u => v = .int .i64 0)] ?st ?ne rfl (by kernel_rfl) (by kernel_rfl) ?_
              case st =>
                intro p hp
                simp only [List.mem_cons, List.not_mem_nil, or_false] at hp
                subst hp
                · intro v u u' h hk; exact h
              case ne =>
                intro p hp
                simp only [List.mem_cons, List.not_mem_nil, or_false] at hp
                subst hp
                · exact ⟨_, _, Kept.refl _ _, rfl⟩
              simp only [List.take_succ_cons, List.take_zero, List.drop_succ_cons, List.drop_zero]
              intro G pick hR hp1 hp2
              have p0 : ∀ u, (pick u).cell? ⟨w.heap.size, 0, none⟩ = some (.bool a.six) := fun u => ((hp1 u).cell xlt (fun h => h) _).trans x0
              have p1 : ∀ u, (pick u).cell? ⟨w.heap.size, 1, none⟩ = some (.int .u64 (a.hi : Int)) := fun u => ((hp1 u).cell xlt (fun h => h) _).trans x1
              have p2 : ∀ u, (pick u).cell? ⟨w.heap.size, 2, none⟩ = some (.int .u64 (a.lo : Int)) := fun u => ((hp1 u).cell xlt (fun h => h) _).trans x2
              have pc : ∀ u, (pick u).cell? ⟨ab, ao, none⟩ = some (.pointer none) := fun u => ((hp1 u).cell clt (fun h => h) _).trans cc
              repeat (first | (refine wpR_det hp2 rfl ((hR.rel _).trans rfl) rfl ?_; intro K hK; go_big_quiet_op; go_big_quiet_on) | (refine wpR_ptr hp2 rfl ((hR.rel _).trans rfl) rfl rfl ?_; intro K hK; go_big_quiet_op; go_big_quiet_on) | (refine wpR_skip pick rfl ?_; intro K hK; go_big_quiet_op; go_big_quiet_on))
              refine wpR_rel pick rfl ((hR.rel _).trans rfl) ((hR.turns _).trans rfl) ?_ ?_
              · intro u hu
                have hk := hR.since hu.1
                have hks := hk.size
                unfold relAt
                go_simp
                refine (HBT.out u).mono ?_
                rintro e w' ⟨rfl, hb'⟩
                exact ⟨_, rfl, hR.intoB hb', hR.put 0 rfl rfl rfl⟩
              intro v hv
              obtain ⟨u, _, hu⟩ := hv
              obtain rfl := hR.get 0 rfl hu
              clear hu
              intro K hK
              go_big_quiet_op
              go_big_quiet_on
              repeat (first | (refine wpR_det hp2 rfl ((hR.rel _).trans rfl) rfl ?_; intro K hK; go_big_quiet_op; go_big_quiet_on) | (refine wpR_ptr hp2 rfl ((hR.rel _).trans rfl) rfl rfl ?_; intro K hK; go_big_quiet_op; go_big_quiet_on) | (refine wpR_skip pick rfl ?_; intro K hK; go_big_quiet_op; go_big_quiet_on))
              refine wpR_nil ?_
              intro w5 hk2 hF hM
              have HB5 := Lib.hid (HB4.out.trans (hk2.below (by omega) (fun i h => h.elim)))
              clear hF hM hk2 hp1 hp2 hR p0 p1 p2 pc x0 x1 x2 cc
              go_wp2_with fail
              go_roundw
              case rel => exact ⟨k + 1, _, _, _, _, by have := HBB.out; omega, by go_num, rfl, rfl, rfl, rfl, HBE, Lib.hid (.inr ⟨rfl, by rw [Ad.path_succ, HBV.out]; exact HN.out, by omega⟩), HB5⟩
              case measure => have := HBB.out; simp [intOf]; omega
            | some cb =>
              have cc : w4.cell? ⟨ab, ao, none⟩ = some (.pointer (some ⟨cb, 0, none⟩)) := by have := HC4.out.1; rw [hN] at this; exact this
              have HN := Lib.hid hN
              clear hN
              go_upto_region 11 with fail
              refine wp_region_kept 9 [(3, fun v u => v = .int .i64 0)] ?st ?ne rfl (by kernel_rfl) (by kernel_rfl) ?_
              case st =>
                intro p hp
                simp only [List.mem_cons, List.not_mem_nil, or_false] at hp
                subst hp
                · intro v u u' h hk; exact h
              case ne =>
                intro p hp
                simp only [List.mem_cons, List.not_mem_nil, or_false] at hp
                subst hp
                · exact ⟨_, _, Kept.refl _ _, rfl⟩
              simp only [List.take_succ_cons, List.take_zero, List.drop_succ_cons, List.drop_zero]
              intro G pick hR hp1 hp2
              have p0 : ∀ u, (pick u).cell? ⟨w.heap.size, 0, none⟩ = some (.bool a.six) := fun u => ((hp1 u).cell xlt (fun h => h) _).trans x0
              have p1 : ∀ u, (pick u).cell? ⟨w.heap.size, 1, none⟩ = some (.int .u64 (a.hi : Int)) := fun u => ((hp1 u).cell xlt (fun h => h) _).trans x1
              have p2 : ∀ u, (pick u).cell? ⟨w.heap.size, 2, none⟩ = some (.int .u64 (a.lo : Int)) := fun u => ((hp1 u).cell xlt (fun h => h) _).trans x2
              have pc : ∀ u, (pick u).cell? ⟨ab, ao, none⟩ = some (.pointer (some ⟨cb, 0, none⟩)) := fun u => ((hp1 u).cell clt (fun h => h) _).trans cc
              repeat (first | (refine wpR_det hp2 rfl ((hR.rel _).trans rfl) rfl ?_; intro K hK; go_big_quiet_op; go_big_quiet_on) | (refine wpR_ptr hp2 rfl ((hR.rel _).trans rfl) rfl rfl ?_; intro K hK; go_big_quiet_op; go_big_quiet_on) | (refine wpR_skip pick rfl ?_; intro K hK; go_big_quiet_op; go_big_quiet_on))
              refine wpR_rel pick rfl ((hR.rel _).trans rfl) ((hR.turns _).trans rfl) ?_ ?_
              · intro u hu
                have hk := hR.since hu.1
                have hks := hk.size
                unfold relAt
                go_simp
                refine (HBT.out u).mono ?_
                rintro e w' ⟨rfl, hb'⟩
                exact ⟨_, rfl, hR.intoB hb', hR.put 0 rfl rfl rfl⟩
              intro v hv
              obtain ⟨u, _, hu⟩ := hv
              obtain rfl := hR.get 0 rfl hu
              clear hu
              intro K hK
              go_big_quiet_op
              go_big_quiet_on
              repeat (first | (refine wpR_det hp2 rfl ((hR.rel _).trans rfl) rfl ?_; intro K hK; go_big_quiet_op; go_big_quiet_on) | (refine wpR_ptr hp2 rfl ((hR.rel _).trans rfl) rfl rfl ?_; intro K hK; go_big_quiet_op; go_big_quiet_on) | (refine wpR_skip pick rfl ?_; intro K hK; go_big_quiet_op; go_big_quiet_on))
              refine wpR_nil ?_
              intro w5 hk2 hF hM
              have HB5 := Lib.hid (HB4.out.trans (hk2.below (by omega) (fun i h => h.elim)))
              clear hF hM hk2 hp1 hp2 hR p0 p1 p2 pc x0 x1 x2 cc
              go_wp2_with fail
              go_roundw
              case rel => exact ⟨k + 1, _, _, _, _, by have := HBB.out; omega, by go_num, rfl, rfl, rfl, rfl, HBE, Lib.hid (.inl ⟨cb, 0, rfl, by have := HBB.out; omega, by rw [Ad.path_succ, HBV.out]; exact AtN.child HN.out⟩), HB5⟩
              case measure => have := HBB.out; simp [intOf]; omega
          | true =>
            rw [show bI true = 1 from rfl] at hbit
            have HBT := Lib.hid hbit
            clear hbit
            cases hN : N a.six (a.path k ++ [true]) with
            | none =>
              have cc : w4.cell? ⟨ab, ao + 1, none⟩ = some (.pointer none) := by have := HC4.out.2.1; rw [hN] at this; exact this
              have HN := Lib.hid hN
              clear hN
              go_upto_region 11 with fail
              refine wp_region_kept 9 [(3, fun v u => v = .int .i64 1)] ?st ?ne rfl (by kernel_rfl) (by kernel_rfl) ?_
              case st =>
                intro p hp
                simp only [List.mem_cons, List.not_mem_nil, or_false] at hp
                subst hp
                · intro v u u' h hk; exact h
              case ne =>
                intro p hp
                simp only [List.mem_cons, List.not_mem_nil, or_false] at hp
                subst hp
                · exact ⟨_, _, Kept.refl _ _, rfl⟩
              simp only [List.take_succ_cons, List.take_zero, List.drop_succ_cons, List.drop_zero]
              intro G pick hR hp1 hp2
              have p0 : ∀ u, (pick u).cell? ⟨w.heap.size, 0, none⟩ = some (.bool a.six) := fun u => ((hp1 u).cell xlt (fun h => h) _).trans x0
              have p1 : ∀ u, (pick u).cell? ⟨w.heap.size, 1, none⟩ = some (.int .u64 (a.hi : Int)) := fun u => ((hp1 u).cell xlt (fun h => h) _).trans x1
              have p2 : ∀ u, (pick u).cell? ⟨w.heap.size, 2, none⟩ = some (.int .u64 (a.lo : Int)) := fun u => ((hp1 u).cell xlt (fun h => h) _).trans x2
              have pc : ∀ u, (pick u).cell? ⟨ab, ao + 1, none⟩ = some (.pointer none) := fun u => ((hp1 u).cell clt (fun h => h) _).trans cc
              repeat (first | (refine wpR_det hp2 rfl ((hR.rel _).trans rfl) rfl ?_; intro K hK; go_big_quiet_op; go_big_quiet_on) | (refine wpR_ptr hp2 rfl ((hR.rel _).trans rfl) rfl rfl ?_; intro K hK; go_big_quiet_op; go_big_quiet_on) | (refine wpR_skip pick rfl ?_; intro K hK; go_big_quiet_op; go_big_quiet_on))
              refine wpR_rel pick rfl ((hR.rel _).trans rfl) ((hR.turns _).trans rfl) ?_ ?_
              · intro u hu
                have hk := hR.since hu.1
                have hks := hk.size
                unfold relAt
                go_simp
                refine (HBT.out u).mono ?_
                rintro e w' ⟨rfl, hb'⟩
                exact ⟨_, rfl, hR.intoB hb', hR.put 0 rfl rfl rfl⟩
              intro v hv
              obtain ⟨u, _, hu⟩ := hv
              obtain rfl := hR.get 0 rfl hu
              clear hu
              intro K hK
              go_big_quiet_op
              go_big_quiet_on
              repeat (first | (refine wpR_det hp2 rfl ((hR.rel _).trans rfl) rfl ?_; intro K hK; go_big_quiet_op; go_big_quiet_on) | (refine wpR_ptr hp2 rfl ((hR.rel _).trans rfl) rfl rfl ?_; intro K hK; go_big_quiet_op; go_big_quiet_on) | (refine wpR_skip pick rfl ?_; intro K hK; go_big_quiet_op; go_big_quiet_on))
              refine wpR_nil ?_
              intro w5 hk2 hF hM
              have HB5 := Lib.hid (HB4.out.trans (hk2.below (by omega) (fun i h => h.elim)))
              clear hF hM hk2 hp1 hp2 hR p0 p1 p2 pc x0 x1 x2 cc
              go_wp2_with fail
              go_roundw
              case rel => exact ⟨k + 1, _, _, _, _, by have := HBB.out; omega, by go_num, rfl, rfl, rfl, rfl, HBE, Lib.hid (.inr ⟨rfl, by rw [Ad.path_succ, HBV.out]; exact HN.out, by omega⟩), HB5⟩
              case measure => have := HBB.out; simp [intOf]; omega
            | some cb =>
              have cc : w4.cell? ⟨ab, ao + 1, none⟩ = some (.pointer (some ⟨cb, 0, none⟩)) := by have := HC4.out.2.1; rw [hN] at this; exact this
              have HN := Lib.hid hN
              clear hN
              go_upto_region 11 with fail
              refine wp_region_kept 9 [(3, fun v u => v = .int .i64 1)] ?st ?ne rfl (by kernel_rfl) (by kernel_rfl) ?_
              case st =>
                intro p hp
                simp only [List.mem_cons, List.not_mem_nil, or_false] at hp
                subst hp
                · intro v u u' h hk; exact h
              case ne =>
                intro p hp
                simp only [List.mem_cons, List.not_mem_nil, or_false] at hp
                subst hp
                · exact ⟨_, _, Kept.refl _ _, rfl⟩
              simp only [List.take_succ_cons, List.take_zero, List.drop_succ_cons, List.drop_zero]
              intro G pick hR hp1 hp2
              have p0 : ∀ u, (pick u).cell? ⟨w.heap.size, 0, none⟩ = some (.bool a.six) := fun u => ((hp1 u).cell xlt (fun h => h) _).trans x0
              have p1 : ∀ u, (pick u).cell? ⟨w.heap.size, 1, none⟩ = some (.int .u64 (a.hi : Int)) := fun u => ((hp1 u).cell xlt (fun h => h) _).trans x1
              have p2 : ∀ u, (pick u).cell? ⟨w.heap.size, 2, none⟩ = some (.int .u64 (a.lo : Int)) := fun u => ((hp1 u).cell xlt (fun h => h) _).trans x2
              have pc : ∀ u, (pick u).cell? ⟨ab, ao + 1, none⟩ = some (.pointer (some ⟨cb, 0, none⟩)) := fun u => ((hp1 u).cell clt (fun h => h) _).trans cc
              repeat (first | (refine wpR_det hp2 rfl ((hR.rel _).trans rfl) rfl ?_; intro K hK; go_big_quiet_op; go_big_quiet_on) | (refine wpR_ptr hp2 rfl ((hR.rel _).trans rfl) rfl rfl ?_; intro K hK; go_big_quiet_op; go_big_quiet_on) | (refine wpR_skip pick rfl ?_; intro K hK; go_big_quiet_op; go_big_quiet_on))
              refine wpR_rel pick rfl ((hR.rel _).trans rfl) ((hR.turns _).trans rfl) ?_ ?_
              · intro u hu
                have hk := hR.since hu.1
                have hks := hk.size
                unfold relAt
                go_simp
                refine (HBT.out u).mono ?_
                rintro e w' ⟨rfl, hb'⟩
                exact ⟨_, rfl, hR.intoB hb', hR.put 0 rfl rfl rfl⟩
              intro v hv
              obtain ⟨u, _, hu⟩ := hv
              obtain rfl := hR.get 0 rfl hu
              clear hu
              intro K hK
              go_big_quiet_op
              go_big_quiet_on
              repeat (first | (refine wpR_det hp2 rfl ((hR.rel _).trans rfl) rfl ?_; intro K hK; go_big_quiet_op; go_big_quiet_on) | (refine wpR_ptr hp2 rfl ((hR.rel _).trans rfl) rfl rfl ?_; intro K hK; go_big_quiet_op; go_big_quiet_on) | (refine wpR_skip pick rfl ?_; intro K hK; go_big_quiet_op; go_big_quiet_on))
              refine wpR_nil ?_
              intro w5 hk2 hF hM
              have HB5 := Lib.hid (HB4.out.trans (hk2.below (by omega) (fun i h => h.elim)))
              clear hF hM hk2 hp1 hp2 hR p0 p1 p2 pc x0 x1 x2 cc
              go_wp2_with fail
              go_roundw
              case rel => exact ⟨k + 1, _, _, _, _, by have := HBB.out; omega, by go_num, rfl, rfl, rfl, rfl, HBE, Lib.hid (.inl ⟨cb, 0, rfl, by have := HBB.out; omega, by rw [Ad.path_succ, HBV.out]; exact AtN.child HN.out⟩), HB5⟩
              case measure => have := HBB.out; simp [intOf]; omega
    · have HNK := Lib.hid hNk
      have HBF := Lib.hid (HBS.out.far (K := a.bits + 1) (fun i hi => by rw [HG.out]; exact (HT0.out.deep hk0 HNK.out i hi).2) hk)
      clear hNk HP
      cases fd with
      | false =>
        have HY8 := Lib.hid (HY0.out.below HB.out HY0.out.lt)
        have y0 := HY8.out.cell
        have yf := HY8.out.frozen
        have ylt := HY8.out.lt
        go_wp2_with fail
        refine bodyPost_ret (results_blk_tmp2 (P := Try.prog) Try.results15 _ _ (w.heap.size + 1) 29 #[.bool false, .int .u64 0, .int .u64 0, .int .i64 0] _ rfl ?_ Try.underlying29 rfl (by kernel_rfl)) rfl ⟨⟨zs, 0, false, (by rcases HBF.out with ⟨a1, a2, a3, a4⟩ | ⟨a1, _⟩; exact .inl ⟨a1, a2, rfl, a4⟩; cases a1), rfl⟩, ?_⟩
        · go_light
          repeat (first | (with_reducible apply Blk.set_to) | ((with_reducible apply Blk.far'); omega))
          exact HY8.out
          all_goals rfl
        · go_light
          refine Kept.below (S := fun i => w.heap.size ≤ i) ?_ (Nat.le_refl _) (fun i h => h)
          repeat (first | ((with_reducible apply Kept.setNew); omega))
          exact Kept.of_below (HB0.out.trans (HB.out.mono (by omega))) (fun i _ h => h)
      | true =>
        have HX8 := Lib.hid (HX0.out.below HB.out HX0.out.lt)
        have x0 := HX8.out.cell
        have xlt := HX8.out.lt
        go_wp2_with fail
        refine (cut_any a zs _ HW.out HRR.out).mono ?_
        rintro e w8 ⟨rfl, hb8⟩
        have HY8 := Lib.hid ((HY0.out.below HB.out HY0.out.lt).below hb8 (HY0.out.below HB.out HY0.out.lt).lt)
        have HB8 := Lib.hid ((HB0.out.trans (HB.out.mono (by omega))).trans (hb8.mono (by have := HB.out.size; omega)))
        have y0 := HY8.out.cell
        have yf := HY8.out.frozen
        have ylt := HY8.out.lt
        clear hb8 x0 xlt
        go_wp2_with fail
        refine bodyPost_ret (results_blk_tmp2 (P := Try.prog) Try.results15 _ _ (w.heap.size + 1) 29 #[.bool (a.cut zs).six, .int .u64 ((a.cut zs).hi : Int), .int .u64 ((a.cut zs).lo : Int), .int .i64 zs] _ rfl ?_ Try.underlying29 rfl (by kernel_rfl)) rfl ⟨⟨zs, val, true, HBF.out, rfl⟩, ?_⟩
        · go_light
          repeat (first | (with_reducible apply Blk.set_to) | ((with_reducible apply Blk.far'); omega))
          exact HY8.out
          all_goals rfl
        · go_light
          refine Kept.below (S := fun i => w.heap.size ≤ i) ?_ (Nat.le_refl _) (fun i h => h)
          repeat (first | ((with_reducible apply Kept.setNew); omega))
          exact Kept.of_below HB8.out (fun i _ h => h)
end Go.Proofs.Ytchgbdghllkcpaa
