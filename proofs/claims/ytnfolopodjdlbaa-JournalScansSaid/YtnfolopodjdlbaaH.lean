/- The reference's Same, walked. -/
import Derived.Test.YtnfolopodjdlbaaG
namespace Go.Proofs.Ytnfolopodjdlbaa
open Go.RowKit
set_option linter.unusedVariables false
/-- A slice of slices of bytes, read. -/
def Lst (w : World) (A : Option Addr) (ls : List (List UInt8)) : Prop := ls = [] ∨ ∃ b off, b < w.heap.size ∧ A = some ⟨b, off, none⟩ ∧ ∀ k (h : k < ls.length), ∃ C c, w.cell? ⟨b, off + k, none⟩ = some (.slice C ls[k].length c) ∧ BS w w.heap.size C ls[k]
theorem Lst.on {w w' : World} {A : Option Addr} {ls : List (List UInt8)} (h : Lst w A ls) (hk : Kept (fun _ => False) w w') : Lst w' A ls := by
  rcases h with h | ⟨b, off, hb, rfl, h⟩
  · exact .inl h
  · refine .inr ⟨b, off, Nat.lt_of_lt_of_le hb hk.size, rfl, fun k hk' => ?_⟩
    obtain ⟨C, c, h1, h2⟩ := h k hk'
    exact ⟨C, c, (hk.cell hb (fun h => h) _).trans h1, h2.on hk (fun _ _ h => h)⟩
theorem Recs.lst {w : World} {base n c : Nat} {A : Option Addr} {ls : List (List UInt8)} (h : Recs w base (.slice A n c) ls) : Lst w A ls := by
  obtain ⟨vs, h1, h2, h3⟩ := h
  by_cases h0 : ls.length = 0
  · exact .inl (List.eq_nil_of_length_eq_zero h0)
  · obtain ⟨g, c', e, hb, hlt, hc⟩ := h1.at (i := 0) (by omega)
    injection e with e1 e2 e3
    subst e1
    refine .inr ⟨g, 0, hlt, rfl, fun k hk => ?_⟩
    have hk' : k < vs.length := by omega
    obtain ⟨C, cc, e, h4, h5, h6⟩ := (h3 k hk' hk).byt
    exact ⟨C, cc, by rw [Nat.zero_add, hc k hk', e], h6⟩
theorem RecsR.lst {w : World} {B base n c : Nat} {A : Option Addr} {ls : List (List UInt8)} (h : RecsR w B base (.slice A n c) ls) (hB : B ≤ w.heap.size) : Lst w A ls := by
  obtain ⟨vs, h1, h2, h3⟩ := h
  by_cases h0 : ls.length = 0
  · exact .inl (List.eq_nil_of_length_eq_zero h0)
  · obtain ⟨g, c', e, hb, hlt, hc⟩ := h1.at (i := 0) (by omega)
    injection e with e1 e2 e3
    subst e1
    refine .inr ⟨g, 0, hlt, rfl, fun k hk => ?_⟩
    have hk' : k < vs.length := by omega
    obtain ⟨C, cc, e, h4, h5, h6⟩ := h3 k hk' hk
    exact ⟨C, cc, by rw [Nat.zero_add, hc k hk', e], h6.more hB⟩
theorem take_eq_snoc {α : Type} {l m : List α} {k : Nat} (h : l.take k = m.take k) (hk : k < l.length) (hm : k < m.length) (e : l[k] = m[k]) : l.take (k + 1) = m.take (k + 1) := by
  rw [List.take_succ_eq_append_getElem hk, List.take_succ_eq_append_getElem hm, h, e]
set_option maxHeartbeats 4000000 in
theorem recSame_any (A C : Option Addr) (a c : Nat) (ls ms : List (List UInt8)) (w : World) (hl : ls.length ≤ 100000) (hm : ms.length ≤ 100000) (hA : Lst w A ls) (hC : Lst w C ms) :
    Calls Try.prog 9 #[.slice A ls.length a, .slice C ms.length c] w fun e w' => e = .returned (.bool (decide (ls = ms))) ∧ Kept (fun _ => False) w w' := by
  have HA := Lib.hid hA
  have HC := Lib.hid hC
  clear hA hC
  go_enter Try.func9, Try.ntmps9
  go_wp2_with fail
  go_loopw [5] (fun i wr => ∃ k : Nat, k ≤ ls.length ∧ k ≤ ms.length ∧ i = .int .i64 (k : Int) ∧ Hid (ls.take k = ms.take k) ∧ Hid (Kept (fun _ => False) w wr)) (fun i _ => ls.length - (intOf i).toNat)
  case atStart => exact ⟨0, by omega, by omega, rfl, Lib.hid (by simp), Lib.hid (Kept.refl _ _)⟩
  case round =>
    obtain ⟨k, hk, hk', rfl, HT, HK⟩ := hrel
    have k0 : (0 : Int) ≤ (k : Int) := Int.natCast_nonneg _
    have k9 : (k : Int) ≤ 100000 := by omega
    by_cases hlt : k < ls.length ∧ k < ms.length
    · obtain ⟨h1, h2⟩ := hlt
      have i1 : (k : Int) < (ls.length : Int) := by omega
      have i2 : (k : Int) < (ms.length : Int) := by omega
      obtain ⟨b, off, hb, rfl, hc1⟩ : ∃ b off, b < wr.heap.size ∧ A = some ⟨b, off, none⟩ ∧ ∀ k (h : k < ls.length), ∃ C c, wr.cell? ⟨b, off + k, none⟩ = some (.slice C ls[k].length c) ∧ BS w w.heap.size C ls[k] := by
        rcases HA.out with h | ⟨b, off, hb, rfl, h⟩
        · rw [h] at h1; simp at h1
        · refine ⟨b, off, Nat.lt_of_lt_of_le hb HK.out.size, rfl, fun k hk => ?_⟩
          obtain ⟨C, c, e1, e2⟩ := h k hk
          exact ⟨C, c, (HK.out.cell hb (fun h => h) _).trans e1, e2⟩
      obtain ⟨b', off', hb', rfl, hc2⟩ : ∃ b off, b < wr.heap.size ∧ C = some ⟨b, off, none⟩ ∧ ∀ k (h : k < ms.length), ∃ C c, wr.cell? ⟨b, off + k, none⟩ = some (.slice C ms[k].length c) ∧ BS w w.heap.size C ms[k] := by
        rcases HC.out with h | ⟨b, off, hb, rfl, h⟩
        · rw [h] at h2; simp at h2
        · refine ⟨b, off, Nat.lt_of_lt_of_le hb HK.out.size, rfl, fun k hk => ?_⟩
          obtain ⟨C, c, e1, e2⟩ := h k hk
          exact ⟨C, c, (HK.out.cell hb (fun h => h) _).trans e1, e2⟩
      obtain ⟨P, p, c1, hx⟩ := hc1 k h1
      obtain ⟨Q, q, c2, hy⟩ := hc2 k h2
      have HNE := Lib.hid (show ls = ms → ls[k] = ms[k] from fun h => by subst h; rfl)
      have HST := Lib.hid (fun h : ls[k] = ms[k] => take_eq_snoc HT.out h1 h2 h)
      generalize ls[k] = x at c1 hx HNE HST
      generalize ms[k] = y at c2 hy HNE HST
      have HCx := Lib.hid hx
      have HCy := Lib.hid hy
      have lb := hb
      have lb' := hb'
      clear hx hy hc1 hc2
      go_wp2_with fail
      refine wp_region_kept 10 [(4, fun v u => v = .string ⟨x.toArray⟩), (9, fun v u => v = .string ⟨y.toArray⟩)] ?st ?ne rfl (by kernel_rfl) (by kernel_rfl) ?_
      case st =>
        intro p hp
        simp only [List.mem_cons, List.not_mem_nil, or_false] at hp
        rcases hp with rfl | rfl
        · intro v u u' h hk; exact h
        · intro v u u' h hk; exact h
      case ne =>
        intro p hp
        simp only [List.mem_cons, List.not_mem_nil, or_false] at hp
        rcases hp with rfl | rfl
        · exact ⟨_, _, Kept.refl _ _, rfl⟩
        · exact ⟨_, _, Kept.refl _ _, rfl⟩
      simp only [List.take_succ_cons, List.take_zero, List.drop_succ_cons, List.drop_zero]
      intro G pick hR hp1 hp2
      have r1 : ∀ u, (pick u).cell? ⟨b, off + k, none⟩ = some (.slice P x.length p) := fun u => ((hp1 u).cell lb (fun h => h) _).trans c1
      have r2 : ∀ u, (pick u).cell? ⟨b', off' + k, none⟩ = some (.slice Q y.length q) := fun u => ((hp1 u).cell lb' (fun h => h) _).trans c2
      repeat (first | (refine wpR_det hp2 rfl ((hR.rel _).trans rfl) rfl ?_; intro K hK; go_big_quiet_op; go_big_quiet_on) | (refine wpR_ptr hp2 rfl ((hR.rel _).trans rfl) rfl rfl ?_; intro K hK; go_big_quiet_op; go_big_quiet_on) | (refine wpR_skip pick rfl ?_; intro K hK; go_big_quiet_op; go_big_quiet_on))
      refine wpR_rel pick rfl ((hR.rel _).trans rfl) ((hR.turns _).trans rfl) ?_ ?_
      · intro u hu
        have hk := hR.since hu.1
        have hks := hk.size
        have hB := HCx.out.on (HK.out.trans hk) (fun _ _ h => h)
        have hcv := hB.conv (P := Try.prog) (c := p) Try.underlying22 Try.underlying5 Try.underlying9
        clear hB
        unfold relAt
        go_simp
        exact ⟨hR.into0 (Kept.refl _ _), hR.put 0 rfl rfl rfl⟩
      intro v hv
      obtain ⟨u, _, hu⟩ := hv
      obtain rfl := hR.get 0 rfl hu
      clear hu
      intro K hK
      go_big_quiet_op
      go_big_quiet_on
      repeat (first | (refine wpR_det hp2 rfl ((hR.rel _).trans rfl) rfl ?_; intro K hK; go_big_quiet_op; go_big_quiet_on) | (refine wpR_ptr hp2 rfl ((hR.rel _).trans rfl) rfl rfl ?_; intro K hK; go_big_quiet_op; go_big_quiet_on) | (refine wpR_skip pick rfl ?_; intro K hK; go_big_quiet_op; go_big_quiet_on))
      refine wpR_rel pick rfl ((hR.rel _).trans rfl) ((hR.turns _).trans rfl) ?_ ?_
      · intro u hu
        have hk := hR.since hu.1
        have hks := hk.size
        have hB := HCy.out.on (HK.out.trans hk) (fun _ _ h => h)
        have hcv := hB.conv (P := Try.prog) (c := q) Try.underlying22 Try.underlying5 Try.underlying9
        clear hB
        unfold relAt
        go_simp
        exact ⟨hR.into0 (Kept.refl _ _), hR.put 1 rfl rfl rfl⟩
      intro v hv
      obtain ⟨u, _, hu⟩ := hv
      obtain rfl := hR.get 1 rfl hu
      clear hu
      intro K hK
      go_big_quiet_op
      go_big_quiet_on
      repeat (first | (refine wpR_det hp2 rfl ((hR.rel _).trans rfl) rfl ?_; intro K hK; go_big_quiet_op; go_big_quiet_on) | (refine wpR_ptr hp2 rfl ((hR.rel _).trans rfl) rfl rfl ?_; intro K hK; go_big_quiet_op; go_big_quiet_on) | (refine wpR_skip pick rfl ?_; intro K hK; go_big_quiet_op; go_big_quiet_on))
      refine wpR_nil ?_
      intro w2 hk2 hF hM
      have HK2 := Lib.hid (HK.out.trans hk2)
      clear hF hM hk2 hp1 hp2 hR r1 r2 c1 c2
      by_cases heq : x = y
      · have hb : (x == y) = true := by simpa using heq
        have HST2 := Lib.hid (HST.out heq)
        clear heq
        go_wp2_with fail
        go_roundw
        case rel => exact ⟨k + 1, by omega, by omega, by go_num, HST2, HK2⟩
        case measure => simp [intOf]; omega
      · have hb : (x == y) = false := by simpa using heq
        have HNO := Lib.hid (show ¬ ls = ms from fun h => heq (HNE.out h))
        clear heq
        go_wp2_with fail
        go_ret
        exact ⟨congrArg (fun z => Ending.returned (.bool z)) (decide_eq_false HNO.out).symm, HK2.out⟩
    · have HEQ := Lib.hid (show decide (ls = ms) = ((ls.length : Int) == (ms.length : Int)) from by
        by_cases h : ls = ms
        · subst h; simp
        · rw [decide_eq_false h]
          symm
          rw [beq_eq_false_iff_ne]
          intro hI
          have hn : ls.length = ms.length := by omega
          have hkl : k = ls.length := by omega
          apply h
          have := HT.out
          rw [hkl, List.take_length, hn, List.take_length] at this
          exact this)
      by_cases h1 : k < ls.length
      · have i1 : (k : Int) < (ls.length : Int) := by omega
        have i2 : ¬ (k : Int) < (ms.length : Int) := by omega
        go_wp2_with fail
        go_ret
        exact ⟨congrArg (fun z => Ending.returned (.bool z)) HEQ.out.symm, HK.out⟩
      · have i1 : ¬ (k : Int) < (ls.length : Int) := by omega
        go_wp2_with fail
        go_ret
        exact ⟨congrArg (fun z => Ending.returned (.bool z)) HEQ.out.symm, HK.out⟩
end Go.Proofs.Ytnfolopodjdlbaa
