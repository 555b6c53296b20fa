/- A queue's at, Fix, Drop. -/
import Derived.Test.YtikakdcjbnbacaaG
namespace Go.Proofs.Ytikakdcjbnbacaa
open Go.RowKit
set_option linter.unusedVariables false
def IxP (H : List It) (id z : Int) : Prop := (z = -1 ∧ ∀ x ∈ H, x.id ≠ id) ∨ ∃ (j : Nat) (h : j < H.length), z = (j : Int) ∧ H[j].id = id ∧ ∀ i (hi : i < H.length), i < j → H[i].id ≠ id
def IxPost (H : List It) (id : Int) (w : World) (e : Ending) (w' : World) : Prop := ∃ z, e = .returned (.int .i64 z) ∧ IxP H id z ∧ Below w.heap.size w w'
theorem at_none (id : Int) (w : World) : Calls Try.prog 27 #[.pointer none, .int .i64 id] w fun e w' => e = .returned (.int .i64 (-1)) ∧ w = w' := by
  go_enter Try.func27, Try.ntmps27
  go_wp2_with fail
  go_ret
  exact ⟨rfl, rfl⟩
set_option maxHeartbeats 2000000 in
theorem at_any (qb base : Nat) (v : Value) (H : List It) (id : Int) (w : World) (h : QuS qb base v H w) (hl : H.length ≤ 10000) :
    Calls Try.prog 27 #[.pointer (some ⟨qb, 0, none⟩), .int .i64 id] w (IxPost H id w) := by
  obtain ⟨A, c, rfl, -, -⟩ := h.shape
  have HE := Lib.hid (row_es h.row)
  have q0 := h.blk.cell
  have qlt := h.blk.lt
  clear h
  go_enter Try.func27, Try.ntmps27
  go_wp2_with fail
  go_loopw [14] (fun i wr => ∃ k : Nat, k ≤ H.length ∧ i = .int .i64 (k : Int) ∧ Hid (∀ i (hi : i < H.length), i < k → H[i].id ≠ id) ∧ Hid (Below w.heap.size w wr)) (fun i _ => H.length - (intOf i).toNat)
  case atStart => exact ⟨0, by omega, rfl, Lib.hid (fun i hi h => by omega), Lib.hid (Below.refl _ _)⟩
  case round =>
    obtain ⟨k, hk, rfl, HI, HB⟩ := hrel
    have hsw := HB.out.size
    by_cases hkl : k < H.length
    · obtain ⟨b, o, hb, rfl, hel⟩ := HE.out.at (k := k) (by simpa using hkl)
      obtain ⟨c0, c1⟩ := it_cells (hel.keep (w' := wr) (fun o => HB.out.cell (p := ⟨b, o, none⟩) hb)) hkl
      obtain ⟨x, hx⟩ : ∃ x, H[k] = x := ⟨_, rfl⟩
      rw [hx] at c0 c1
      have HX := Lib.hid hx
      have kI : (k : Int) < (H.length : Int) := by omega
      have blt : b < wr.heap.size := by omega
      clear hel hx
      by_cases he : x.id = id
      · have heb : (x.id == id) = true := by simpa using he
        have HEE := Lib.hid he
        clear he
        go_wp2_with fail
        go_ret
        exact ⟨_, rfl, .inr ⟨k, hkl, rfl, by rw [HX.out]; exact HEE.out, HI.out⟩, HB.out.alloc hsw _⟩
      · have heb : (x.id == id) = false := beq_eq_false_iff_ne.2 he
        have HEE := Lib.hid he
        clear he
        go_wp2_with fail
        go_roundw
        case rel => exact ⟨k + 1, by omega, by go_num, Lib.hid (fun i hi h => by
          by_cases e : i = k
          · subst e; rw [HX.out]; exact HEE.out
          · exact HI.out i hi (by omega)), Lib.hid (HB.out.alloc hsw _)⟩
        case measure => simp [intOf]; omega
    · obtain rfl : k = H.length := by omega
      have hkn : ¬ (H.length : Int) < (H.length : Int) := by omega
      go_wp2_with fail
      go_ret
      exact ⟨_, rfl, .inl ⟨rfl, fun x hx => by obtain ⟨i, hi, rfl⟩ := List.mem_iff_getElem.1 hx; exact HI.out i hi hi⟩, HB.out⟩
theorem qfix_none (id wt : Int) (w : World) : Calls Try.prog 17 #[.pointer none, .int .i64 id, .int .u64 wt] w fun e w' => e = .returned (.bool false) ∧ w = w' := by
  go_enter Try.func17, Try.ntmps17
  go_wp2_with fail
  refine (at_none _ _).mono ?_
  rintro e w1 ⟨rfl, rfl⟩
  go_wp2_with fail
  go_ret
  exact ⟨rfl, rfl⟩
set_option maxHeartbeats 2000000 in
theorem qfix_no (qb base : Nat) (v : Value) (H : List It) (id wt : Int) (w : World) (h : QuS qb base v H w) (hl : H.length ≤ 10000) (hno : ∀ x ∈ H, x.id ≠ id) :
    Calls Try.prog 17 #[.pointer (some ⟨qb, 0, none⟩), .int .i64 id, .int .u64 wt] w fun e w' => e = .returned (.bool false) ∧ Below w.heap.size w w' := by
  have HA := Lib.hid ((at_any qb base v H id w h hl).mono (R' := fun e w' => e = .returned (.int .i64 (-1)) ∧ Below w.heap.size w w') (by
    rintro e w' ⟨z, rfl, hz, hb⟩
    rcases hz with ⟨rfl, -⟩ | ⟨j, hj, -, he, -⟩
    · exact ⟨rfl, hb⟩
    · exact absurd he (hno _ (List.getElem_mem hj))))
  clear h hno
  go_enter Try.func17, Try.ntmps17
  go_wp2_with fail
  refine HA.out.mono ?_
  rintro e w1 ⟨rfl, hb1⟩
  have HB := Lib.hid hb1
  clear hb1 HA
  go_wp2_with fail
  go_ret
  exact ⟨rfl, HB.out⟩
theorem qdrop_none (id : Int) (w : World) : Calls Try.prog 19 #[.pointer none, .int .i64 id] w fun e w' => e = .returned (.bool false) ∧ w = w' := by
  go_enter Try.func19, Try.ntmps19
  go_wp2_with fail
  refine (at_none _ _).mono ?_
  rintro e w1 ⟨rfl, rfl⟩
  go_wp2_with fail
  go_ret
  exact ⟨rfl, rfl⟩
set_option maxHeartbeats 2000000 in
theorem qdrop_no (qb base : Nat) (v : Value) (H : List It) (id : Int) (w : World) (h : QuS qb base v H w) (hl : H.length ≤ 10000) (hno : ∀ x ∈ H, x.id ≠ id) :
    Calls Try.prog 19 #[.pointer (some ⟨qb, 0, none⟩), .int .i64 id] w fun e w' => e = .returned (.bool false) ∧ Below w.heap.size w w' := by
  have HA := Lib.hid ((at_any qb base v H id w h hl).mono (R' := fun e w' => e = .returned (.int .i64 (-1)) ∧ Below w.heap.size w w') (by
    rintro e w' ⟨z, rfl, hz, hb⟩
    rcases hz with ⟨rfl, -⟩ | ⟨j, hj, -, he, -⟩
    · exact ⟨rfl, hb⟩
    · exact absurd he (hno _ (List.getElem_mem hj))))
  clear h hno
  go_enter Try.func19, Try.ntmps19
  go_wp2_with fail
  refine HA.out.mono ?_
  rintro e w1 ⟨rfl, hb1⟩
  have HB := Lib.hid hb1
  clear hb1 HA
  go_wp2_with fail
  go_ret
  exact ⟨rfl, HB.out⟩
set_option maxHeartbeats 2000000 in
theorem qfix_any (qb base : Nat) (v : Value) (H : List It) (id wt : Int) (j : Nat) (w : World) (h : QuS qb base v H w) (hl : H.length ≤ 10000) (hb : base ≤ w.heap.size) (hj : j < H.length) (hid : H[j].id = id) (hfst : ∀ i (hi : i < H.length), i < j → H[i].id ≠ id) :
    Calls Try.prog 17 #[.pointer (some ⟨qb, 0, none⟩), .int .i64 id, .int .u64 wt] w fun e w' => e = .returned (.bool true) ∧ QuP qb base v (fixL (H.set j ⟨wt, id⟩) j H.length) w w' := by
  have HA := Lib.hid ((at_any qb base v H id w h hl).mono (R' := fun e w' => e = .returned (.int .i64 (j : Int)) ∧ Below w.heap.size w w') (by
    rintro e w' ⟨z, rfl, hz, hb⟩
    rcases hz with ⟨-, hn⟩ | ⟨k, hk, rfl, he, hf⟩
    · exact absurd hid (hn _ (List.getElem_mem hj))
    · obtain rfl : k = j := by
        rcases Nat.lt_trichotomy k j with h1 | h1 | h1
        · exact absurd he (hfst k hk h1)
        · exact h1
        · exact absurd hid (hf j hj h1)
      exact ⟨rfl, hb⟩))
  obtain ⟨g, c, hv, -, -, -⟩ := h.row.at (i := j) (by simpa using hj)
  rw [List.length_map] at hv
  subst hv
  have HQ := Lib.hid h
  have HID := Lib.hid hid
  have jI : (j : Int) < (H.length : Int) := by omega
  have j0 : ¬ (j : Int) < 0 := by omega
  have qlt0 := h.blk.lt
  clear h hid hfst
  go_enter Try.func17, Try.ntmps17
  go_wp2_with fail
  refine HA.out.mono ?_
  rintro e w1 ⟨rfl, hb1⟩
  have hs1 := hb1.size
  have HQ1 := Lib.hid (HQ.out.onB hb1)
  have HB1 := Lib.hid hb1
  obtain ⟨g', c', e, -, hgl, hel⟩ := HQ1.out.row.at (i := j) (by simpa using hj)
  have hg : g' = g := by injection e with e; injection e with e; injection e with e; exact e.symm
  subst hg
  obtain ⟨c0, c1⟩ := it_cells hel hj
  simp only [Nat.zero_add] at c0 c1
  rw [HID.out] at c1
  have q0 := HQ1.out.blk.cell
  have qlt := HQ1.out.blk.lt
  have fz := fun o => HQ1.out.row.frozen (g := g') rfl o
  clear hb1 HA e hel
  go_upto_region 5 with fail
  obtain ⟨w2, hw2⟩ : ∃ w2 : World, w2 = w1.setCell ⟨g', j * 2, none⟩ (.int .u64 wt) := ⟨_, rfl⟩
  have hrow : RowN w2 base 42 2 (.slice (some ⟨g', 0, none⟩) H.length c) ((H.set j ⟨wt, id⟩).map It.cs) := by
    have hj' : j < (H.map It.cs).length := by simpa using hj
    have a := HQ1.out.row.set (g := g') rfl j hj' 0 (by omega) (.int .u64 wt)
    have e : (H.set j ⟨wt, id⟩).map It.cs = (H.map It.cs).set j (((H.map It.cs)[j]'hj').set 0 (.int .u64 wt)) := by
      rw [List.map_set]; congr 1; simp [It.cs, HID.out]
    rw [e, hw2]
    exact a
  have HQ2 := Lib.hid (show QuS qb base (.slice (some ⟨g', 0, none⟩) H.length c) (H.set j ⟨wt, id⟩) w2 from ⟨by rw [hw2]; exact HQ1.out.blk.far' (fun e => HQ1.out.ne (by rw [e]; rfl)), hrow, HQ.out.lo⟩)
  have HK2 := Lib.hid (show Kept (QOwn qb (.slice (some ⟨g', 0, none⟩) H.length c)) w w2 by rw [hw2]; exact (Kept.ofB HB1.out).setCell (.inl (.inr rfl)) _)
  rw [← hw2]
  clear hw2 hrow c0 c1 q0 qlt fz HQ1 HB1
  have hfx := hfix_any qb base _ (H.set j ⟨wt, id⟩) j w2 HQ2.out (by simpa using hj) (by simpa using hl)
  rw [List.length_set] at hfx
  have HFX := Lib.hid hfx
  clear hfx
  go_wp2_with fail
  refine HFX.out.mono ?_
  rintro e w3 ⟨rfl, hQ3, hk3⟩
  have HQ3 := Lib.hid hQ3
  have HK3 := Lib.hid hk3
  clear hQ3 hk3 HFX
  go_wp2_with fail
  go_ret
  exact ⟨rfl, QuP.in_ HK2.out (fun g hg => .inl hg) HQ3.out HK3.out⟩
set_option maxHeartbeats 2000000 in
theorem qdrop_any (qb base : Nat) (v : Value) (H : List It) (id : Int) (j n : Nat) (w : World) (h : QuS qb base v H w) (hl : H.length ≤ 10000) (hn : H.length = n + 1) (hb : base ≤ w.heap.size) (hj : j < H.length) (hid : H[j].id = id) (hfst : ∀ i (hi : i < H.length), i < j → H[i].id ≠ id) :
    Calls Try.prog 19 #[.pointer (some ⟨qb, 0, none⟩), .int .i64 id] w fun e w' => e = .returned (.bool true) ∧ QuP qb base v ((remL H j n).take n) w w' := by
  have HA := Lib.hid ((at_any qb base v H id w h hl).mono (R' := fun e w' => e = .returned (.int .i64 (j : Int)) ∧ Below w.heap.size w w') (by
    rintro e w' ⟨z, rfl, hz, hb⟩
    rcases hz with ⟨-, hn⟩ | ⟨k, hk, rfl, he, hf⟩
    · exact absurd hid (hn _ (List.getElem_mem hj))
    · obtain rfl : k = j := by
        rcases Nat.lt_trichotomy k j with h1 | h1 | h1
        · exact absurd he (hfst k hk h1)
        · exact h1
        · exact absurd hid (hf j hj h1)
      exact ⟨rfl, hb⟩))
  obtain ⟨x, hx⟩ : ∃ x, ix (remL H j n) n = x := ⟨_, rfl⟩
  have HRM := Lib.hid (fun u (hu : Below w.heap.size w u) => hrem_any qb base v H j n u (h.onB hu) hn (by omega) hl (Nat.le_trans hb hu.size))
  unfold BI at HRM
  rw [hx] at HRM
  have hta := run_ta (.agg #[.int .u64 x.w, .int .i64 x.id])
  have qlt0 := h.blk.lt
  have jI : (j : Int) < (H.length : Int) := by omega
  have j0 : ¬ (j : Int) < 0 := by omega
  clear h hid hfst hx hn
  go_enter Try.func19, Try.ntmps19
  go_wp2_with fail
  refine HA.out.mono ?_
  rintro e w1 ⟨rfl, hb1⟩
  have hs1 := hb1.size
  have HB1 := Lib.hid hb1
  have qlt := Nat.lt_of_lt_of_le qlt0 hs1
  clear hb1 HA
  go_wp2_with fail
  refine (HRM.out w1 HB1.out).mono ?_
  rintro e w2 ⟨rfl, hP2⟩
  have HP2 := Lib.hid hP2
  clear hP2 HRM
  go_wp2_with fail
  go_ret
  exact ⟨rfl, (QuP.then (Kept.ofB HB1.out) (fun g hg => .inl hg) HP2.out hs1).onB bel1⟩
end Go.Proofs.Ytikakdcjbnbacaa
