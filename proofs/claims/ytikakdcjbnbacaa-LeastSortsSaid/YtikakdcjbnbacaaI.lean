/- The chapter's example. -/
import Derived.Test.YtikakdcjbnbacaaH
import Derived.Test.YtikakdcjbnbacaaPlainQ
namespace Go.Proofs.Ytikakdcjbnbacaa
open Go.RowKit
set_option linter.unusedVariables false
theorem ix_mem (H : List It) (k : Nat) (h : k < H.length) : ix H k ∈ H := by rw [ix_eq H k h]; exact List.getElem_mem h
theorem mem_ix (H : List It) (x : It) (h : x ∈ H) : ∃ k, k < H.length ∧ ix H k = x := by
  obtain ⟨k, hk, e⟩ := List.mem_iff_getElem.1 h
  exact ⟨k, hk, by rw [ix_eq H k hk]; exact e⟩
/-- The first item of a heap is the least. -/
theorem hp_first (H : List It) (x : It) (h : IsHp H H.length) (hx : x ∈ H) (hm : ∀ y ∈ H, ¬ ltI y x) : ix H 0 = x := by
  obtain ⟨k, hk, e⟩ := mem_ix H x hx
  have h1 := hp_min H _ h k hk
  rw [e] at h1
  exact le_antisymm (hm _ (ix_mem H 0 (by omega))) h1 |>.symm
theorem hp_nil : IsHp [] ([] : List It).length := fun k h h1 => by simp at h1
set_option maxHeartbeats 4000000 in
theorem awake_any (w : World) : Calls Try.prog 6 #[] w fun e w' => e = .returned (.bool true) ∧ Below w.heap.size w w' := by
  go_enter Try.func6, Try.ntmps6
  go_wp2_with fail
  obtain ⟨w1, hw1⟩ : ∃ w1 : World, w1 = w.alloc (.cells #[.slice none 0 0] 38) := ⟨_, rfl⟩
  have HQ1 := Lib.hid (show QuS w.heap.size w.heap.size (.slice none 0 0) [] w1 by rw [hw1]; exact ⟨Blk.new _ _ _, RowN.nil _ _ _ _, Nat.le_refl _⟩)
  have HB1 := Lib.hid (show Below w.heap.size w w1 by rw [hw1]; exact bel1)
  rw [← hw1]
  clear hw1
  have hs1 := HB1.out.size
  have HZ1 := Lib.hid (qpush_any w.heap.size w.heap.size (.slice none 0 0) [] ⟨5, 1⟩ w1 HQ1.out (by simp) hs1)
  refine HZ1.out.mono ?_
  rintro e w2 ⟨rfl, v2, hQ2, hk2, -⟩
  obtain ⟨H2, hH2⟩ : ∃ H2, upL ([] ++ [(⟨5, 1⟩ : It)]) ([] : List It).length = H2 := ⟨_, rfl⟩
  have HP2 := Lib.hid (show IsHp H2 H2.length by rw [← hH2]; exact push_hp _ _ hp_nil)
  have HM2 := Lib.hid (show H2.Perm (⟨5, 1⟩ :: []) by rw [← hH2]; exact push_perm _ _)
  have HL2 := Lib.hid (show H2.length = 1 by rw [← hH2, upL_len]; simp)
  rw [hH2] at hQ2
  have HQ2 := Lib.hid hQ2
  have HB2 := Lib.hid (HB1.out.trans (hk2.below hs1 (fun g hg => (HQ1.out.lt hg).1)))
  have hs2 := HB2.out.size
  clear hQ2 hk2 hH2 HQ1 HB1 HZ1
  have HZ2 := Lib.hid (qpush_any w.heap.size w.heap.size v2 H2 ⟨3, 2⟩ w2 HQ2.out (by rw [HL2.out]; omega) hs2)
  go_wp2_with fail
  refine HZ2.out.mono ?_
  rintro e w3 ⟨rfl, v3, hQ3, hk3, -⟩
  obtain ⟨H3, hH3⟩ : ∃ H3, upL (H2 ++ [(⟨3, 2⟩ : It)]) (H2 : List It).length = H3 := ⟨_, rfl⟩
  have HP3 := Lib.hid (show IsHp H3 H3.length by rw [← hH3]; exact push_hp _ _ HP2.out)
  have HM3 := Lib.hid (show H3.Perm (⟨3, 2⟩ :: H2) by rw [← hH3]; exact push_perm _ _)
  have HL3 := Lib.hid (show H3.length = 2 by rw [← hH3, upL_len]; simp [HL2.out])
  rw [hH3] at hQ3
  have HQ3 := Lib.hid hQ3
  have HB3 := Lib.hid (HB2.out.trans (hk3.below hs2 (fun g hg => (HQ2.out.lt hg).1)))
  have hs3 := HB3.out.size
  clear hQ3 hk3 hH3 HQ2 HB2 HZ2
  have HZ3 := Lib.hid (qpush_any w.heap.size w.heap.size v3 H3 ⟨3, 1⟩ w3 HQ3.out (by rw [HL3.out]; omega) hs3)
  go_wp2_with fail
  refine HZ3.out.mono ?_
  rintro e w4 ⟨rfl, v4, hQ4, hk4, -⟩
  obtain ⟨H4, hH4⟩ : ∃ H4, upL (H3 ++ [(⟨3, 1⟩ : It)]) (H3 : List It).length = H4 := ⟨_, rfl⟩
  have HP4 := Lib.hid (show IsHp H4 H4.length by rw [← hH4]; exact push_hp _ _ HP3.out)
  have HM4 := Lib.hid (show H4.Perm (⟨3, 1⟩ :: H3) by rw [← hH4]; exact push_perm _ _)
  have HL4 := Lib.hid (show H4.length = 3 by rw [← hH4, upL_len]; simp [HL3.out])
  rw [hH4] at hQ4
  have HQ4 := Lib.hid hQ4
  have HB4 := Lib.hid (HB3.out.trans (hk4.below hs3 (fun g hg => (HQ3.out.lt hg).1)))
  have hs4 := HB4.out.size
  clear hQ4 hk4 hH4 HQ3 HB3 HZ3
  have hmin : ix (popK H4 2) 2 = ⟨3, 1⟩ := by
    rw [pop_last H4 2 HL4.out]
    have hmem : ∀ y ∈ H4, y = ⟨3, 1⟩ ∨ y = ⟨3, 2⟩ ∨ y = ⟨5, 1⟩ := fun y hy => by
      have h1 := HM4.out.mem_iff.1 hy
      simp only [List.mem_cons] at h1
      rcases h1 with h1 | h1
      · exact .inl h1
      · have h2 := HM3.out.mem_iff.1 h1
        simp only [List.mem_cons] at h2
        rcases h2 with h2 | h2
        · exact .inr (.inl h2)
        · have h3 := HM2.out.mem_iff.1 h2
          simp at h3
          exact .inr (.inr h3)
    refine hp_first H4 _ HP4.out (HM4.out.mem_iff.2 (List.mem_cons_self ..)) (fun y hy => ?_)
    rcases hmem y hy with rfl | rfl | rfl <;> decide
  have hz := qpop_any w.heap.size w.heap.size v4 H4 2 w4 HQ4.out HL4.out (by rw [HL4.out]; omega) hs4
  rw [hmin] at hz
  have HZ := Lib.hid hz
  clear hz hmin HM4 HM3 HM2 HP4 HP3 HP2 HL3 HL2
  go_wp2_with fail
  refine HZ.out.mono ?_
  rintro e w5 ⟨rfl, hP5⟩
  have HB5 := Lib.hid (HB4.out.trans (QuP.bel HQ4.out hP5 hs4))
  have hs5 := HB5.out.size
  clear hP5 HZ HQ4
  go_wp2_with fail
  go_ret
  exact ⟨rfl, HB5.out.alloc hs5 _⟩
end Go.Proofs.Ytikakdcjbnbacaa
