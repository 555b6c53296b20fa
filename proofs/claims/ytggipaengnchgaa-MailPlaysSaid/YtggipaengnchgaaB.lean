/- slices.Delete at letters; Take. -/
import Derived.Test.YtggipaengnchgaaA
import Derived.Test.YtggipaengnchgaaRowX
namespace Go.Proofs.Ytggipaengnchgaa
open Go.RowKit
set_option linter.unusedVariables false
theorem zero31 (w : World) : (zeroValue 31).run Try.prog w = .ok (.agg #[.int .i64 0, .bool false, .slice none 0 0]) w := by kernel_rfl
theorem take_drop_erase {α : Type} (L : List α) (i : Nat) : L.take i ++ L.drop (i + 1) = L.eraseIdx i := (List.eraseIdx_eq_take_drop_succ L i).symm
theorem le_one (L : List Le) (base : Nat) (w : World) (h : ∀ x ∈ L, x.ok base w) : ∀ u ∈ (L.map Le.cs).flatten, u.oneCell' = true := by
  intro u hu
  obtain ⟨cs, hcs, hu⟩ := List.mem_flatten.1 hu
  obtain ⟨x, hx, rfl⟩ := List.mem_map.1 hcs
  obtain ⟨A, c, e, -, -⟩ := (show Row w base 5 x.v (bcs x.l) from h x hx).shape
  simp only [Le.cs, List.mem_cons, List.not_mem_nil, or_false] at hu
  rcases hu with rfl | rfl | rfl
  · rfl
  · rfl
  · rw [e]; rfl
set_option maxHeartbeats 2000000 in
theorem delete_any (g cap base i : Nat) (L : List (List Value)) (w : World) (hi : i < L.length) (hl : L.length ≤ 100000) (hone : ∀ u ∈ L.flatten, u.oneCell' = true) (hR : RowN w base 31 3 (.slice (some ⟨g, 0, none⟩) L.length cap) L) :
    Calls Try.prog 23 #[.slice (some ⟨g, 0, none⟩) L.length cap, .int .i64 (i : Int), .int .i64 ((i : Int) + 1)] w fun e w' => e = .returned (.slice (some ⟨g, 0, none⟩) (L.length - 1) cap) ∧ RowN w' base 31 3 (.slice (some ⟨g, 0, none⟩) (L.length - 1) cap) (L.eraseIdx i) ∧ Kept (· = g) w w' := by
  obtain ⟨-, hbg, -, -, hnc, hcm, -, -⟩ := hR.parts
  obtain ⟨g', c', e, -, hgl, hel⟩ := hR.at hi
  cases e
  have HEL := Lib.hid hel
  have HR := Lib.hid hR
  have HON := Lib.hid hone
  unfold maxLen at hcm
  clear hel hR hone
  obtain ⟨m, hn⟩ : ∃ m, L.length = m + 1 := ⟨L.length - 1, by omega⟩
  rw [hn] at hi hl hnc HR ⊢
  rw [show m + 1 - 1 = m by omega]
  have HN := Lib.hid hn
  clear hn
  have niI : (i : Int) < ((m + 1 : Nat) : Int) := by omega
  have i0 : (0 : Int) ≤ (i : Int) := by omega
  have ncI : ((m + 1 : Nat) : Int) ≤ (cap : Int) := by omega
  by_cases hcj : cap = i + 1
  · subst hcj
    obtain rfl : i = m := by omega
    go_enter Try.func23, Try.ntmps23
    go_upto_region 5 with fail
    refine wp_region_kept 6 [] ?st ?ne rfl (by kernel_rfl) (by kernel_rfl) ?_
    case st => intro p hp; cases hp
    case ne => intro p hp; cases hp
    simp only [List.take_succ_cons, List.take_zero, List.drop_succ_cons, List.drop_zero]
    intro G pick hR hp1 hp2
    repeat (first | (refine wpR_det hp2 rfl ((hR.rel _).trans rfl) rfl ?_; intro K hK; go_big_quiet_op; go_big_quiet_on) | (refine wpR_ptr hp2 rfl ((hR.rel _).trans rfl) rfl rfl ?_; intro K hK; go_big_quiet_op; go_big_quiet_on) | (refine wpR_skip pick rfl ?_; intro K hK; go_big_quiet_op; go_big_quiet_on))
    refine wpR_nil ?_
    intro w1 hk2 hF hM
    have HR1 := Lib.hid (HR.out.kept hk2 (fun _ _ h => h))
    have HE1 := Lib.hid (HEL.out.keep (fun o => hk2.cell hgl (fun h => h) o))
    have HK1 := Lib.hid hk2
    clear hF hM hk2 hp1 hp2 hR
    go_wp2_with (at_builtin; refine wpList_append_spareN rfl (.tmp 22) (.tmp 25) 50 rfl base 31 _ 3 40 Try.underlying50 Try.infoLe g i (i + 1) (L.take i) rfl ⟨g, 0, none⟩ 0 _ (L.drop (i + 1)) rfl ?m1b ?r1b ?h1b ?s1b ?o1b ?q1b ?_)
    case m1b => rw [List.length_drop, HN.out]; omega
    case r1b => exact HR1.out.cut i (by rw [HN.out]; omega)
    case h1b => exact fun x hx => HR.out.1 x (List.mem_of_mem_drop hx)
    case s1b => exact fun j u hu => by rw [List.drop_eq_nil_of_le (by rw [HN.out]; omega)] at hu; simp at hu
    case o1b => exact fun u hu => by obtain ⟨x, hx, hu⟩ := List.mem_flatten.1 hu; exact HON.out u (List.mem_flatten.2 ⟨x, List.mem_of_mem_drop hx, hu⟩)
    case q1b => omega
    intro w2 hrow hgr
    rw [Nat.add_zero, take_drop_erase] at hrow
    rw [Nat.add_zero]
    have HR2 := Lib.hid hrow
    have HK2 := Lib.hid ((HK1.out.mono (T := (· = g)) (fun _ _ h => h.elim)).trans (kept_grown hgr (fun j e _ => by injection e with e; exact e.symm)))
    clear hrow hgr HR1 HE1 HK1
    go_wp2_with (with_reducible refine wpList_clear_rowN rfl (.tmp 31) 50 rfl base 31 (.agg #[.int .i64 0, .bool false, .slice none 0 0]) 3 Try.underlying50 zero31 rfl (by decide) ?z1b g i 1 (i + 1) 1 (L.eraseIdx i) ?z2b (by decide) (by omega) HR2.out ?_)
    case z1b => decide
    case z2b => rfl
    intro w3 hrow hk3
    have HR3 := Lib.hid hrow
    have HK3 := Lib.hid (HK2.out.trans hk3)
    clear hrow hk3
    go_wp2_with fail
    go_ret
    exact ⟨rfl, HR3.out, HK3.out⟩
  · go_enter Try.func23, Try.ntmps23
    go_upto_region 5 with fail
    refine wp_region_kept 6 [] ?st ?ne rfl (by kernel_rfl) (by kernel_rfl) ?_
    case st => intro p hp; cases hp
    case ne => intro p hp; cases hp
    simp only [List.take_succ_cons, List.take_zero, List.drop_succ_cons, List.drop_zero]
    intro G pick hR hp1 hp2
    repeat (first | (refine wpR_det hp2 rfl ((hR.rel _).trans rfl) rfl ?_; intro K hK; go_big_quiet_op; go_big_quiet_on) | (refine wpR_ptr hp2 rfl ((hR.rel _).trans rfl) rfl rfl ?_; intro K hK; go_big_quiet_op; go_big_quiet_on) | (refine wpR_skip pick rfl ?_; intro K hK; go_big_quiet_op; go_big_quiet_on))
    refine wpR_nil ?_
    intro w1 hk2 hF hM
    have HR1 := Lib.hid (HR.out.kept hk2 (fun _ _ h => h))
    have HE1 := Lib.hid (HEL.out.keep (fun o => hk2.cell hgl (fun h => h) o))
    have HK1 := Lib.hid hk2
    clear hF hM hk2 hp1 hp2 hR
    go_wp2_with (at_builtin; refine wpList_append_spareN rfl (.tmp 22) (.tmp 25) 50 rfl base 31 _ 3 40 Try.underlying50 Try.infoLe g i cap (L.take i) rfl ⟨g, (i + 1) * 3, none⟩ (m - i) _ (L.drop (i + 1)) rfl ?m1 ?r1 ?h1 ?s1 ?o1 ?q1 ?_)
    case m1 => rw [List.length_drop, HN.out]; omega
    case r1 => exact HR1.out.cut i (by rw [HN.out]; omega)
    case h1 => exact fun x hx => HR.out.1 x (List.mem_of_mem_drop hx)
    case s1 => exact fun j u hu => by rw [Addr.add_lit]; have := (HE1.out.drop (i + 1) (by rw [HN.out]; omega)).2 j u hu; rwa [Nat.zero_add] at this
    case o1 => exact fun u hu => by obtain ⟨x, hx, hu⟩ := List.mem_flatten.1 hu; exact HON.out u (List.mem_flatten.2 ⟨x, List.mem_of_mem_drop hx, hu⟩)
    case q1 => omega
    intro w2 hrow hgr
    rw [show i + (m - i) = m by omega, take_drop_erase] at hrow
    rw [show i + (m - i) = m by omega]
    have HR2 := Lib.hid hrow
    have HK2 := Lib.hid ((HK1.out.mono (T := (· = g)) (fun _ _ h => h.elim)).trans (kept_grown hgr (fun j e _ => by injection e with e; exact e.symm)))
    clear hrow hgr HR1 HE1 HK1
    go_wp2_with (with_reducible refine wpList_clear_rowN rfl (.tmp 31) 50 rfl base 31 (.agg #[.int .i64 0, .bool false, .slice none 0 0]) 3 Try.underlying50 zero31 rfl (by decide) ?z1 g m 1 cap (cap - m) (L.eraseIdx i) ?z2 (by decide) (by omega) HR2.out ?_)
    case z1 => decide
    case z2 => rfl
    intro w3 hrow hk3
    have HR3 := Lib.hid hrow
    have HK3 := Lib.hid (HK2.out.trans hk3)
    clear hrow hk3
    go_wp2_with fail
    go_ret
    exact ⟨rfl, HR3.out, HK3.out⟩
end Go.Proofs.Ytggipaengnchgaa
