/- Swap, Push, Pop of a pile; how heap's calls find them. -/
import Derived.Test.YtikakdcjbnbacaaA
namespace Go.Proofs.Ytikakdcjbnbacaa
open Go.RowKit
set_option linter.unusedVariables false
theorem Try.infoIt : (Try.prog.info? 42).map (fun i => (i.zero, i.size, i.bytes)) = some (some (.agg #[.int .u64 0, .int .i64 0]), 2, 16) := by kernel_rfl
theorem rowI_put {w : World} {base g cap n : Nat} {M : List It} (h : RowN w base 42 2 (.slice (some ⟨g, 0, none⟩) n cap) (M.map It.cs)) (i : Nat) (hi : i < M.length) (x : It) :
    RowN ((w.setCell ⟨g, i * 2, none⟩ (.int .u64 x.w)).setCell ⟨g, i * 2 + 1, none⟩ (.int .i64 x.id)) base 42 2 (.slice (some ⟨g, 0, none⟩) n cap) ((M.set i x).map It.cs) := by
  have hi' : i < (M.map It.cs).length := by simpa using hi
  have a := h.set (g := g) rfl i hi' 0 (by omega) (.int .u64 x.w)
  have b := a.set (g := g) rfl i (by rw [List.length_set]; exact hi') 1 (by omega) (.int .i64 x.id)
  have e : (M.set i x).map It.cs = (M.map It.cs).set i [.int .u64 x.w, .int .i64 x.id] := by rw [List.map_set]; rfl
  rw [e]
  simp only [List.getElem_set_self, List.set_set, List.getElem_map, It.cs] at b
  exact b
def swapL (H : List It) (i j : Nat) : List It := match H[i]?, H[j]? with
  | some x, some y => (H.set i y).set j x
  | _, _ => H
theorem swapL_eq (H : List It) (i j : Nat) (hi : i < H.length) (hj : j < H.length) : swapL H i j = (H.set i H[j]).set j H[i] := by
  unfold swapL
  rw [List.getElem?_eq_getElem hi, List.getElem?_eq_getElem hj]
theorem swapL_len (H : List It) (i j : Nat) : (swapL H i j).length = H.length := by
  unfold swapL; split <;> simp
theorem kept2 {g o p : Nat} (w : World) (a b : Value) : Kept (fun i => i = g) w ((w.setCell ⟨g, o, none⟩ a).setCell ⟨g, p, none⟩ b) :=
  ((Kept.refl (fun i => i = g) w).setCell (p := ⟨g, o, none⟩) (.inl rfl) a).setCell (p := ⟨g, p, none⟩) (.inl rfl) b
set_option maxHeartbeats 2000000 in
theorem swap_any (g c base : Nat) (H : List It) (i j : Nat) (hi : i < H.length) (hj : j < H.length) (w : World) (hl : H.length ≤ 100000) (hR : RowN w base 42 2 (.slice (some ⟨g, 0, none⟩) H.length c) (H.map It.cs)) :
    Calls Try.prog 49 #[(.slice (some ⟨g, 0, none⟩) H.length c), .int .i64 (i : Int), .int .i64 (j : Int)] w fun e w' => e = .returned (.tuple #[]) ∧ RowN w' base 42 2 (.slice (some ⟨g, 0, none⟩) H.length c) ((swapL H i j).map It.cs) ∧ Kept (fun k => k = g) w w' := by
  obtain ⟨g', c', e, -, hgl, hel⟩ := hR.at (i := i) (by simpa using hi)
  injection e with e1 e2 e3
  injection e1 with e1
  injection e1 with e1
  subst e1
  clear e2 e3
  obtain ⟨c0, c1⟩ := it_cells hel hi
  obtain ⟨d0, d1⟩ := it_cells hel hj
  rw [swapL_eq H i j hi hj]
  obtain ⟨x, hx⟩ : ∃ x, H[i] = x := ⟨_, rfl⟩
  obtain ⟨y, hy⟩ : ∃ y, H[j] = y := ⟨_, rfl⟩
  rw [hx] at c0 c1 ⊢
  rw [hy] at d0 d1 ⊢
  simp only [Nat.zero_add] at c0 c1 d0 d1
  have HR := Lib.hid hR
  clear hR hel hx hy
  have iI : (i : Int) < (H.length : Int) := by omega
  have jI : (j : Int) < (H.length : Int) := by omega
  have i0 : (0 : Int) ≤ (i : Int) := by omega
  have j0 : (0 : Int) ≤ (j : Int) := by omega
  go_enter Try.func49, Try.ntmps49
  go_upto_region 0 with fail
  refine wp_region_peek 16 (fun k => k = g) [13, 15] [] [7, 11] [(13, fun v u => RowN u base 42 2 (.slice (some ⟨g, 0, none⟩) H.length c) ((H.set i y).map It.cs)), (15, fun v u => RowN u base 42 2 (.slice (some ⟨g, 0, none⟩) H.length c) (((H.set i y).set j x).map It.cs))] ?st ?ne rfl (by kernel_rfl) (by kernel_rfl) (by kernel_rfl) (by kernel_rfl) ?_
  case st =>
    intro p hp
    simp only [List.mem_cons, List.not_mem_nil, or_false] at hp
    rcases hp with rfl | rfl
    · intro v u u' h hk; exact h.kept hk (fun _ _ h => h)
    · intro v u u' h hk; exact h.kept hk (fun _ _ h => h)
  case ne =>
    intro p hp
    simp only [List.mem_cons, List.not_mem_nil, or_false] at hp
    rcases hp with rfl | rfl
    · exact ⟨undef, _, kept2 _ _ _, rowI_put HR.out i hi y⟩
    · exact ⟨undef, _, (kept2 _ _ _).trans (kept2 _ _ _), rowI_put (rowI_put HR.out i hi y) j (by simpa using hj) x⟩
  simp only [List.take_succ_cons, List.take_zero, List.drop_succ_cons, List.drop_zero]
  intro G pick pick0 hR hp1 hp2 hpk hq1 hq2
  have p0 : ∀ u, (pick0 u).cell? ⟨g, i * 2, none⟩ = some (.int .u64 x.w) := fun u => ((hq1 u).cell hgl (fun h => h) _).trans c0
  have p1 : ∀ u, (pick0 u).cell? ⟨g, i * 2 + 1, none⟩ = some (.int .i64 x.id) := fun u => ((hq1 u).cell hgl (fun h => h) _).trans c1
  have q0 : ∀ u, (pick0 u).cell? ⟨g, j * 2, none⟩ = some (.int .u64 y.w) := fun u => ((hq1 u).cell hgl (fun h => h) _).trans d0
  have q1 : ∀ u, (pick0 u).cell? ⟨g, j * 2 + 1, none⟩ = some (.int .i64 y.id) := fun u => ((hq1 u).cell hgl (fun h => h) _).trans d1
  repeat (first | (refine wpR_peek hq2 rfl ((hR.rel _).trans rfl) ((hpk _).trans rfl) rfl ?_; intro K hK; go_big_quiet_op; go_big_quiet_on) | (refine wpR_det hp2 rfl ((hR.rel _).trans rfl) rfl ?_; intro K hK; go_big_quiet_op; go_big_quiet_on) | (refine wpR_ptr hp2 rfl ((hR.rel _).trans rfl) rfl rfl ?_; intro K hK; go_big_quiet_op; go_big_quiet_on) | (refine wpR_skip pick rfl ?_; intro K hK; go_big_quiet_op; go_big_quiet_on))
  refine wpR_turn pick rfl ((hR.rel _).trans rfl) ((hR.turns _).trans rfl) ((hR.adds _).trans rfl) ?_ ?_
  · intro u hu hM
    have hk := hR.since hu.1
    have hks := hk.size
    have hK0 := hR.first hM
    have hR0 := HR.out.kept hK0 (fun _ _ h => h)
    obtain ⟨g'', c'', e, -, -, hel0⟩ := hR0.at (i := i) (by simpa using hi)
    injection e with e1 e2 e3
    injection e1 with e1
    injection e1 with e1
    subst e1
    clear e2 e3
    obtain ⟨x0, x1⟩ := it_cells hel0 hi
    simp only [Nat.zero_add] at x0 x1
    have fz := fun o => hR0.frozen (g := g) rfl o
    have hlt := hks
    unfold relAt
    go_simp
    exact ⟨hR.into (kept2 _ _ _), hR.put 0 rfl rfl (rowI_put hR0 i hi y)⟩
  intro v hv
  obtain ⟨u, _, hu⟩ := hv
  obtain - := hR.get 0 rfl hu
  clear hu
  intro K hK
  go_big_quiet_op
  go_big_quiet_on
  repeat (first | (refine wpR_peek hq2 rfl ((hR.rel _).trans rfl) ((hpk _).trans rfl) rfl ?_; intro K hK; go_big_quiet_op; go_big_quiet_on) | (refine wpR_det hp2 rfl ((hR.rel _).trans rfl) rfl ?_; intro K hK; go_big_quiet_op; go_big_quiet_on) | (refine wpR_ptr hp2 rfl ((hR.rel _).trans rfl) rfl rfl ?_; intro K hK; go_big_quiet_op; go_big_quiet_on) | (refine wpR_skip pick rfl ?_; intro K hK; go_big_quiet_op; go_big_quiet_on))
  refine wpR_turn pick rfl ((hR.rel _).trans rfl) ((hR.turns _).trans rfl) ((hR.adds _).trans rfl) ?_ ?_
  · intro u hu hM
    have hk := hR.since hu.1
    have hks := hk.size
    have hM0 := hR.get 0 rfl hM
    have hj' : j < (H.set i y).length := by simpa using hj
    obtain ⟨g'', c'', e, -, -, hel0⟩ := hM0.at (i := j) (by simpa using hj)
    obtain ⟨x0, x1⟩ : (∃ a, u.cell? ⟨g, j * 2, none⟩ = some a) ∧ (∃ a, u.cell? ⟨g, j * 2 + 1, none⟩ = some a) := by
      injection e with e1 e2 e3
      injection e1 with e1
      injection e1 with e1
      subst e1
      obtain ⟨x0, x1⟩ := it_cells hel0 hj'
      simp only [Nat.zero_add] at x0 x1
      exact ⟨⟨_, x0⟩, ⟨_, x1⟩⟩
    obtain ⟨a0, x0⟩ := x0
    obtain ⟨a1, x1⟩ := x1
    have fz := fun o => hM0.frozen (g := g) rfl o
    clear e hel0
    unfold relAt
    go_simp
    exact ⟨hR.into (kept2 _ _ _), hR.put 1 rfl rfl (rowI_put hM0 j hj' x)⟩
  intro v hv
  obtain ⟨u, _, hu⟩ := hv
  obtain - := hR.get 1 rfl hu
  clear hu
  intro K hK
  go_big_quiet_op
  go_big_quiet_on
  repeat (first | (refine wpR_peek hq2 rfl ((hR.rel _).trans rfl) ((hpk _).trans rfl) rfl ?_; intro K hK; go_big_quiet_op; go_big_quiet_on) | (refine wpR_det hp2 rfl ((hR.rel _).trans rfl) rfl ?_; intro K hK; go_big_quiet_op; go_big_quiet_on) | (refine wpR_ptr hp2 rfl ((hR.rel _).trans rfl) rfl rfl ?_; intro K hK; go_big_quiet_op; go_big_quiet_on) | (refine wpR_skip pick rfl ?_; intro K hK; go_big_quiet_op; go_big_quiet_on))
  refine wpR_nil ?_
  intro w2 hk2 hF hM
  have HZ := Lib.hid (hR.get 1 rfl hM)
  have HK := Lib.hid hk2
  clear hF hM hk2 hp1 hp2 hR hpk hq1 hq2 p0 p1 q0 q1
  go_wp2_with fail
  go_end0
  have hz := HZ.out
  rw [List.map_set, List.map_set] at hz
  exact ⟨rfl, hz, HK.out⟩
/-! ### How a method of '*pile' is found -/
theorem meth_push (a : Option Addr) (w : World) : (method 195 61 (.pointer a) "Push").run Try.prog w = .ok (56, .pointer a) w := by kernel_rfl
theorem meth_pop (a : Option Addr) (w : World) : (method 195 61 (.pointer a) "Pop").run Try.prog w = .ok (55, .pointer a) w := by kernel_rfl
theorem meth_Len {qb : Nat} {A : Option Addr} {n c : Nat} {w : World} (h : Blk w qb 38 #[.slice A n c]) : (method 195 61 (.pointer (some ⟨qb, 0, none⟩)) "Len").run Try.prog w = .ok (26, .slice A n c) w := by
  have hc := h.cell 0
  simp at hc
  obtain ⟨i, hi, hzz⟩ := Option.map_eq_some_iff.1 (show (Try.prog.info? 61).map (fun i => (i.methods.find? (·.name == "Len")).map fun m => (m.path, m.func)) = some (some (#[], some (26, false))) by kernel_rfl)
  obtain ⟨m, hm, e⟩ := Option.map_eq_some_iff.1 hzz
  injection e with e1 e2
  have key : ∀ fuel : Nat, (method (fuel + 1) 61 (.pointer (some ⟨qb, 0, none⟩)) "Len").run Try.prog w = .ok (26, .slice A n c) w := by
    intro fuel
    unfold method
    simp only [Sem.run_bind, typeInfo, run_program, Result.andThen_ok, hi, Sem.run_pure, hm, e1, e2, follow]
    have hw : (Builtin.ssaWrapNilChk_ #[61] 61 #[.pointer (some ⟨qb, 0, none⟩), strVal "", strVal (("Len".splitOn ".").getLastD "Len")]).run Try.prog w = .ok (.pointer (some ⟨qb, 0, none⟩)) w := rfl
    simp only [receiverAt, Sem.run_bind, run_underlying Try.underlying61, Result.andThen_ok, Place.get, Sem.run_pure, asAddr, Array.isEmpty_empty, if_true, hw]
    simp [go_sem, loadVar, hc]
  exact key 194
theorem meth_Less {qb : Nat} {A : Option Addr} {n c : Nat} {w : World} (h : Blk w qb 38 #[.slice A n c]) : (method 195 61 (.pointer (some ⟨qb, 0, none⟩)) "Less").run Try.prog w = .ok (48, .slice A n c) w := by
  have hc := h.cell 0
  simp at hc
  obtain ⟨i, hi, hzz⟩ := Option.map_eq_some_iff.1 (show (Try.prog.info? 61).map (fun i => (i.methods.find? (·.name == "Less")).map fun m => (m.path, m.func)) = some (some (#[], some (48, false))) by kernel_rfl)
  obtain ⟨m, hm, e⟩ := Option.map_eq_some_iff.1 hzz
  injection e with e1 e2
  have key : ∀ fuel : Nat, (method (fuel + 1) 61 (.pointer (some ⟨qb, 0, none⟩)) "Less").run Try.prog w = .ok (48, .slice A n c) w := by
    intro fuel
    unfold method
    simp only [Sem.run_bind, typeInfo, run_program, Result.andThen_ok, hi, Sem.run_pure, hm, e1, e2, follow]
    have hw : (Builtin.ssaWrapNilChk_ #[61] 61 #[.pointer (some ⟨qb, 0, none⟩), strVal "", strVal (("Less".splitOn ".").getLastD "Less")]).run Try.prog w = .ok (.pointer (some ⟨qb, 0, none⟩)) w := rfl
    simp only [receiverAt, Sem.run_bind, run_underlying Try.underlying61, Result.andThen_ok, Place.get, Sem.run_pure, asAddr, Array.isEmpty_empty, if_true, hw]
    simp [go_sem, loadVar, hc]
  exact key 194
theorem meth_Swap {qb : Nat} {A : Option Addr} {n c : Nat} {w : World} (h : Blk w qb 38 #[.slice A n c]) : (method 195 61 (.pointer (some ⟨qb, 0, none⟩)) "Swap").run Try.prog w = .ok (49, .slice A n c) w := by
  have hc := h.cell 0
  simp at hc
  obtain ⟨i, hi, hzz⟩ := Option.map_eq_some_iff.1 (show (Try.prog.info? 61).map (fun i => (i.methods.find? (·.name == "Swap")).map fun m => (m.path, m.func)) = some (some (#[], some (49, false))) by kernel_rfl)
  obtain ⟨m, hm, e⟩ := Option.map_eq_some_iff.1 hzz
  injection e with e1 e2
  have key : ∀ fuel : Nat, (method (fuel + 1) 61 (.pointer (some ⟨qb, 0, none⟩)) "Swap").run Try.prog w = .ok (49, .slice A n c) w := by
    intro fuel
    unfold method
    simp only [Sem.run_bind, typeInfo, run_program, Result.andThen_ok, hi, Sem.run_pure, hm, e1, e2, follow]
    have hw : (Builtin.ssaWrapNilChk_ #[61] 61 #[.pointer (some ⟨qb, 0, none⟩), strVal "", strVal (("Swap".splitOn ".").getLastD "Swap")]).run Try.prog w = .ok (.pointer (some ⟨qb, 0, none⟩)) w := rfl
    simp only [receiverAt, Sem.run_bind, run_underlying Try.underlying61, Result.andThen_ok, Place.get, Sem.run_pure, asAddr, Array.isEmpty_empty, if_true, hw]
    simp [go_sem, loadVar, hc]
  exact key 194
end Go.Proofs.Ytikakdcjbnbacaa
