/- Contracts of spread.New, Pick, Count; the chapter's example. -/
import Derived.Test.YtkkmlpaadbphjaaA
namespace Go.Proofs.Ytkkmlpaadbphjaa
open Go.RowKit
set_option linter.unusedVariables false

/-- Whole numbers as cells. -/
def is (l : List Int) : List Value := l.map (Value.int .i64)
theorem is_length (l : List Int) : (is l).length = l.length := by simp [is]
theorem is_set (l : List Int) (k : Nat) (x : Int) : (is l).toArray.setIfInBounds k (.int .i64 x) = (is (l.set k x)).toArray := by simp [is, List.map_set]
theorem is_get (l : List Int) (k : Nat) (h : k < l.length) : (is l).toArray[k]? = some (.int .i64 l[k]) := by simp [is, h]
/-- Who has the n places. -/
def places (n : Nat) (t : List Int) : List Int := (List.range n).map fun i => t.getD (i % t.length) 0
theorem places_length (n : Nat) (t : List Int) : (places n t).length = n := by simp [places]
def fillTo (n : Nat) (t : List Int) (k : Nat) : List Int := (places n t).take k ++ List.replicate (n - k) 0
theorem fillTo_length (n : Nat) (t : List Int) (k : Nat) (h : k ≤ n) : (fillTo n t k).length = n := by simp [fillTo, places_length]; omega
theorem fillTo_zero (n : Nat) (t : List Int) : fillTo n t 0 = List.replicate n 0 := by simp [fillTo]
theorem fillTo_end (n : Nat) (t : List Int) : fillTo n t n = places n t := by simp [fillTo, places_length, List.take_of_length_le]
theorem places_get (n : Nat) (t : List Int) (k : Nat) (h : k < n) (ht : 0 < t.length) : (places n t)[k]'(by rw [places_length]; exact h) = t[k % t.length]'(Nat.mod_lt _ ht) := by
  simp [places, List.getD_eq_getElem?_getD, Nat.mod_lt _ ht]
theorem fillTo_step (n : Nat) (t : List Int) (k : Nat) (h : k < n) (ht : 0 < t.length) : (fillTo n t k).set k (t[k % t.length]'(Nat.mod_lt _ ht)) = fillTo n t (k + 1) := by
  have h1 : ((places n t).take k).length = k := by simp [places_length]; omega
  unfold fillTo
  rw [List.set_append_right _ _ (by omega), h1, Nat.sub_self, show n - k = (n - (k + 1)) + 1 by omega, List.replicate_succ, List.set_cons_zero,
    List.take_succ_eq_append_getElem (by rw [places_length]; exact h), places_get n t k h ht, List.append_assoc, List.singleton_append]

theorem make_ints (n : Nat) (W : World) (hn : n ≤ 1000000) :
    (Instr.makeSlice 27 (.int .i64 (n : Int)) (.int .i64 (n : Int))).run Try.prog W = .ok (.slice (some ⟨W.heap.size, 0, none⟩) n n) (W.alloc (.cells (madeCells #[.int .i64 0] n) 3)) :=
  run_make_row' 27 3 (.int .i64 0) 8 Try.underlying27 (by kernel_rfl) rfl .i64 .i64 n (by omega) (by omega) W
theorem madeCells_ints (n : Nat) : madeCells #[.int .i64 0] n = (is (List.replicate n 0)).toArray := by
  apply Array.ext
  · simp [is, size_madeCells]
  · intro i h1 h2; simp [madeCells, is, Nat.mod_one]

set_option maxHeartbeats 1000000 in
theorem new_ok (A : Option Addr) (c n : Nat) (t : List Int) (w : World) (n1 : 1 ≤ n) (n2 : n ≤ 4096) (hp : bits .and .i64 (n : Int) ((n : Int) - 1) = 0) (ht : 0 < t.length) (htl : t.length ≤ 1000000) (hA : NS w w.heap.size A .i64 t) :
    Calls Try.prog 8 #[.int .i64 (n : Int), .slice A t.length c] w fun e w' => e = .returned (.tuple #[.agg #[.slice (some ⟨w.heap.size + 1, 0, none⟩) n n], .int .i64 0]) ∧ Blk w' (w.heap.size + 1) 3 (is (places n t)).toArray ∧ Below w.heap.size w w' := by
  have hmk := fun W => make_ints n W (by omega)
  have HA := Lib.hid hA
  have t0 : ((t.length : Int) == 0) = false := beq_eq_false_iff_ne.2 (by omega)
  have hpp : (bits .and .i64 (n : Int) ((n : Int) - 1) != 0) = false := by rw [hp]; rfl
  clear hA hp
  go_enter Try.func8, Try.ntmps8
  go_wp2_with fail
  go_loopw [7, 31] (fun _ i wr => ∃ k : Nat, k ≤ n ∧ i = .int .i64 (k : Int) ∧ Hid (Blk wr w.heap.size 29 #[.slice none 0 0]) ∧ Hid (Blk wr (w.heap.size + 1) 3 (is (fillTo n t k)).toArray) ∧ Hid (Kept (fun i => w.heap.size ≤ i) w wr)) (fun _ i _ => n - (intOf i).toNat)
  case atStart =>
    refine ⟨0, by omega, rfl, Lib.hid ((Blk.new _ _ _).alloc _), Lib.hid ?_, Lib.hid (((Kept.refl _ _).alloc _).alloc _)⟩
    rw [fillTo_zero, madeCells_ints]
    exact Blk.new_ (by simp) _ _
  case round =>
    obtain ⟨k, hk, rfl, HB, HR, HK⟩ := hrel
    by_cases hlt : k < n
    · have hkt : k % t.length < t.length := Nat.mod_lt _ ht
      obtain ⟨b, o, hb, rfl, hca⟩ := (HA.out.kept HK.out (Nat.le_refl _) (fun i hi h => by omega)).at hkt
      have c1 := hca _ hkt
      have HST := Lib.hid (fillTo_step n t k hlt ht)
      have cr := HR.out.cell k
      rw [is_get _ _ (by rw [fillTo_length _ _ _ hk]; exact hlt)] at cr
      have fr := HR.out.frozen k
      have kI : (k : Int) < (n : Int) := by omega
      generalize t[k % t.length] = x at c1 HST
      have hbne : b < w.heap.size := hb
      clear hca
      go_wp2_with fail
      go_roundw
      case rel =>
        go_light
        refine ⟨k + 1, by omega, by go_num, Lib.hid (HB.out.far' (by omega)), Lib.hid ?_, Lib.hid (HK.out.setIn (by omega))⟩
        rw [← HST.out, ← is_set]
        exact HR.out.set_ k _
      case measure => simp [intOf]; omega
    · obtain rfl : k = n := by omega
      have cb := HB.out.cell
      have fb := HB.out.frozen
      go_wp2_with fail
      refine bodyPost_ret (results_blk_tmp rfl _ _ _ _ _ _ rfl (HB.out.set_ 0 _) Try.underlying29 rfl (by kernel_rfl)) rfl ?_
      refine ⟨rfl, ?_, (HK.out.setIn (Nat.le_refl _)).below (Nat.le_refl _) (fun i h => h)⟩
      have := HR.out
      rw [fillTo_end] at this
      exact this.far' (by omega)

theorem NS.of_blk {w : World} {g : Nat} {l : List Int} (h : Blk w g 3 (is l).toArray) : NS w w.heap.size (some ⟨g, 0, none⟩) .i64 l :=
  .inr ⟨g, 0, h.lt, rfl, fun i hi => by rw [Nat.zero_add, h.cell i, is_get l i hi]⟩
theorem NS.onB {w w' : World} {A : Option Addr} {l : List Int} (h : NS w w.heap.size A .i64 l) (hk : Below w.heap.size w w') : NS w' w'.heap.size A .i64 l := (h.below hk).more hk.size
theorem NS.on0 {w w' : World} {A : Option Addr} {l : List Int} (h : NS w w.heap.size A .i64 l) (hk : Kept (fun _ => False) w w') : NS w' w'.heap.size A .i64 l := (h.kept hk (Nat.le_refl _) (fun _ _ h => h)).more hk.size
def pickI (l : List Int) (s : Int) : Int := if l.length = 0 then -1 else l.getD (s.toNat % l.length) 0
set_option maxHeartbeats 1000000 in
theorem pick_any (A : Option Addr) (c : Nat) (l : List Int) (s : Int) (w : World) (s0 : 0 ≤ s) (s1 : s ≤ 4294967295) (hl : l.length ≤ 1000000) (hA : NS w w.heap.size A .i64 l) :
    Calls Try.prog 10 #[.agg #[.slice A l.length c], .int .u32 s] w fun e w' => e = .returned (.int .i64 (pickI l s)) ∧ Below w.heap.size w w' := by
  rcases Nat.eq_zero_or_pos l.length with h0 | h0
  · have HP := Lib.hid (show pickI l s = -1 by rw [pickI, if_pos h0])
    rw [h0]
    clear hA h0 hl
    go_enter Try.func10, Try.ntmps10
    go_wp2_with fail
    go_ret
    exact ⟨ret_int (by rw [HP.out]), (Below.refl _ _).alloc (Nat.le_refl _) _⟩
  · obtain ⟨m, rfl⟩ := Int.eq_ofNat_of_zero_le s0
    have hm : m % l.length < l.length := Nat.mod_lt _ h0
    obtain ⟨b, o, hb, rfl, hca⟩ := hA.at hm
    have c1 := hca _ hm
    have HP := Lib.hid (show pickI l (m : Int) = l[m % l.length] by rw [pickI, if_neg (by omega)]; simp [List.getD_eq_getElem?_getD, hm])
    have l0 : ((l.length : Int) == 0) = false := beq_eq_false_iff_ne.2 (by omega)
    generalize l[m % l.length] = x at c1 HP
    have hbw : b < w.heap.size := hb
    clear hca hA
    go_enter Try.func10, Try.ntmps10
    go_wp2_with fail
    have q1 : (0 : Int) ≤ (m : Int) % (l.length : Int) := Int.emod_nonneg _ (by omega)
    have q2 : (m : Int) % (l.length : Int) < (l.length : Int) := Int.emod_lt_of_pos _ (by omega)
    have q3 : ((m : Int) % (l.length : Int)).toNat = m % l.length := by omega
    go_quiet (fail)
    go_wp2_with fail
    go_ret
    exact ⟨ret_int (by rw [HP.out]), belowN ((Below.refl _ _).alloc (Nat.le_refl _) _) _⟩

set_option maxHeartbeats 1000000 in
theorem awake_any (w : World) : Calls Try.prog 6 #[] w fun e w' => e = .returned (.bool true) ∧ Below w.heap.size w w' := by
  have hN := Lib.hid (fun (W : World) (h : NS W W.heap.size (some ⟨w.heap.size, 0, none⟩) .i64 [7, 8]) => new_ok (some ⟨w.heap.size, 0, none⟩) 2 4 [7, 8] W (by omega) (by omega) (by decide) (by decide) (by decide) h)
  go_enter Try.func6, Try.ntmps6
  go_wp2_with fail
  have hn := hN.out (w.alloc (.cells #[.int .i64 7, .int .i64 8] 3)) (.inr ⟨w.heap.size, 0, by simp, rfl, fun i hi => by
    have := (Blk.new w 3 #[.int .i64 7, .int .i64 8]).cell i
    rw [Nat.zero_add, this]
    match i, hi with
    | 0, _ => rfl
    | 1, _ => rfl⟩)
  refine hn.mono ?_
  rintro e w1 ⟨rfl, hB, hb⟩
  have hs := hb.size
  simp only [World.size_alloc] at hs
  have HB1 := Lib.hid (show Below w.heap.size w w1 from ((Below.refl _ _).alloc (Nat.le_refl _) _).trans (hb.mono (by simp)))
  rw [World.size_alloc] at hB
  have hlt := hB.lt
  have HT := Lib.hid hB
  clear hB hb hn
  go_wp2_with fail
  have hT1 : Blk (w1.alloc (.cells #[.slice (some ⟨w.heap.size + 1 + 1, 0, none⟩) 4 4] 29)) (w.heap.size + 1 + 1) 3 (is [7, 8, 7, 8]).toArray := by
    have := HT.out.alloc (.cells #[.slice (some ⟨w.heap.size + 1 + 1, 0, none⟩) 4 4] 29)
    rw [show places 4 [7, 8] = [7, 8, 7, 8] by decide] at this
    exact this
  have HT1 := Lib.hid hT1
  clear hT1
  refine (pick_any (some ⟨w.heap.size + 1 + 1, 0, none⟩) 4 [7, 8, 7, 8] 0 _ (by omega) (by omega) (by decide) (NS.of_blk HT1.out)).mono ?_
  rintro e w2 ⟨rfl, hb2⟩
  rw [show pickI [7, 8, 7, 8] 0 = 7 by decide]
  have cv := (Blk.below (Blk.new w1 29 #[.slice (some ⟨w.heap.size + 1 + 1, 0, none⟩) 4 4]) hb2 (by simp)).cell
  have HT2 := Lib.hid (HT1.out.below hb2 (by simp; omega))
  have hs2 := hb2.size
  simp only [World.size_alloc] at hs2
  have HB2 := Lib.hid (show Below w.heap.size w w2 from (HB1.out.alloc (by omega) _).trans (hb2.mono (by simp; omega)))
  clear hb2
  go_wp2_with fail
  refine (pick_any (some ⟨w.heap.size + 1 + 1, 0, none⟩) 4 [7, 8, 7, 8] 5 _ (by omega) (by omega) (by decide) (NS.of_blk HT2.out)).mono ?_
  rintro e w3 ⟨rfl, hb3⟩
  rw [show pickI [7, 8, 7, 8] 5 = 8 by decide]
  have HB3 := Lib.hid (HB2.out.trans (hb3.mono (by omega)))
  clear hb3
  go_wp2_with fail
  go_ret
  exact ⟨rfl, HB3.out⟩
end Go.Proofs.Ytkkmlpaadbphjaa
