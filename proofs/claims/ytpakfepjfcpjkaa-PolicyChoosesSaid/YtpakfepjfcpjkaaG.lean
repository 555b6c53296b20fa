/- policy.Fits; the reference's Choose in the ways 3 and 4; 'to' with its capacity. -/
import Derived.Test.YtpakfepjfcpjkaaA
import Derived.Test.YtpakfepjfcpjkaaF
import Derived.Test.YtpakfepjfcpjkaaCdTwo
import Derived.Test.YtpakfepjfcpjkaaCdLaw
namespace Go.Proofs.Ytpakfepjfcpjkaa
open Go.RowKit
set_option linter.unusedVariables false

def ToC (l : List Cd) (w : World) (e : Ending) (w' : World) : Prop :=
  Below w.heap.size w w' ∧ ((l = [] ∧ e = .returned (.slice none 0 0)) ∨ (l ≠ [] ∧ ∃ g c, e = .returned (.slice (some ⟨g, 0, none⟩) l.length c) ∧ w.heap.size ≤ g ∧ g < w'.heap.size ∧ CellsAt w' g 0 l ∧ l.length ≤ c ∧ c ≤ maxLen))
theorem toC_any (A : Option Addr) (c : Nat) (l : List Cd) (w : World) (hl : l.length ≤ 70) (hE : ES w w.heap.size A 4 (l.map Cd.cs)) : Calls Try.prog 13 #[.slice A l.length c] w (ToC l w) := by
  by_cases h0 : l = []
  · subst h0
    refine (to_nil A c w).mono ?_
    rintro e w' ⟨rfl, rfl⟩
    exact ⟨Below.refl _ _, .inl ⟨rfl, rfl⟩⟩
  · rcases es_cands hE with h | ⟨b, off, hb, rfl, hc⟩
    · exact absurd h h0
    refine (to_any b off c l w hl hc hb).mono ?_
    rintro e w' ⟨v, rfl, ho, hbel⟩
    refine ⟨hbel, .inr ⟨h0, ?_⟩⟩
    obtain ⟨g, c, rfl, h1, h2⟩ := ho.form (List.length_pos_iff.2 h0)
    refine ⟨g, c, rfl, h1, h2, own_cells ho, ?_⟩
    obtain ⟨-, ⟨hv, -⟩ | ⟨g', cap, cur, hv, -, -, h3, h4, -, -⟩⟩ := ho
    · cases hv
    · injection hv with _ _ e; subst e; exact ⟨h3, h4⟩

def qI (l : List Cd) (x : Int) : Nat := (x % (l.length : Int)).toNat
theorem qI_lt (l : List Cd) (x : Int) (h : 0 < l.length) : qI l x < l.length := by
  have h1 := Int.emod_lt_of_pos x (show (0 : Int) < (l.length : Int) by omega)
  have h2 := Int.emod_nonneg x (show (l.length : Int) ≠ 0 by omega)
  unfold qI; omega
theorem qI_eq (l : List Cd) (x : Int) (h : 0 < l.length) : x % (l.length : Int) = (qI l x : Int) := by
  have h2 := Int.emod_nonneg x (show (l.length : Int) ≠ 0 by omega)
  unfold qI; omega
def qOf (l : List Cd) (x y : Int) : Nat := if h : 0 < l.length then refTwoI l (qI l x) (qI l y) (qI_lt l x h) (qI_lt l y h) else 0
theorem qOf_lt (l : List Cd) (x y : Int) (h : 0 < l.length) : qOf l x y < l.length := by
  unfold qOf; rw [dif_pos h]; exact refTwoI_lt _ _ _ _ _
def FitsP (way : Int) (l : List Cd) (x y : Int) (z : Cd) : Prop := z ∈ l ∧ (way = 1 ∨ (way = 2 ∧ 0 < z.weight) ∨ (way = 3 ∧ l[lbTo l l.length]? = some z) ∨ (way = 4 ∧ l[qOf l x y]? = some z))
theorem mem_slot {l : List Cd} (hr : rightFrom (-1) l = true) {a b : Cd} (ha : a ∈ l) (hb : b ∈ l) (h : a.slot = b.slot) : a = b := by
  obtain ⟨i, hi, rfl⟩ := List.mem_iff_getElem.1 ha
  obtain ⟨j, hj, rfl⟩ := List.mem_iff_getElem.1 hb
  rcases Nat.lt_trichotomy i j with h1 | rfl | h1
  · have := rf_lt hr i j hj h1; omega
  · rfl
  · have := rf_lt hr j i hi h1; omega
def FitsPost (way : Int) (l : List Cd) (x y : Int) (z : Cd) (w : World) (e : Ending) (w' : World) : Prop := ∃ b : Bool, e = .returned (.bool b) ∧ (b = true ↔ FitsP way l x y z) ∧ Below w.heap.size w w'
theorem bel_of {H : Nat} {w w1 w2 : World} (h1 : Below w.heap.size w w1) (h2 : Below w1.heap.size w1 w2) : Below w.heap.size w w2 := h1.trans (Kept.below (S := fun _ => False) (Kept.ofB h2) h1.size (fun i h => h.elim))
set_option maxRecDepth 100000 in
set_option maxHeartbeats 2000000 in
theorem fits_any (way : Int) (g c : Nat) (l : List Cd) (x y : Int) (z : Cd) (w : World) (h0 : 0 < l.length) (hl : l.length ≤ 30) (hr : rightFrom (-1) l = true) (hcc : l.length ≤ c) (hcm : c ≤ maxLen)
    (hx : 0 ≤ x) (hx' : x ≤ 4294967295) (hy : 0 ≤ y) (hy' : y ≤ 4294967295) (hc : CellsAt w g 0 l) (hg : g < w.heap.size) :
    Calls Try.prog 15 #[.int .i64 way, .slice (some ⟨g, 0, none⟩) l.length c, .int .u32 x, .int .u32 y, z.agg] w (FitsPost way l x y z w) := by
  have HE := Lib.hid (show ES w w.heap.size (some ⟨g, 0, none⟩) 4 (l.map Cd.cs) from .inr ⟨g, 0, hg, rfl, cells_el hc⟩)
  have HR := Lib.hid hr
  have HCM := Lib.hid hcm
  have HCI := Lib.hid (fun u h => contains_any (some ⟨g, 0, none⟩) c l z u (by omega) h)
  have HQ := Lib.hid (fun u (hc : CellsAt u g 0 l) (hg : g < u.heap.size) => two_any g c l x y (qI l x) (qI l y) (qOf l x y) u HR.out (by omega) hc hg hx hx' hy hy' (qI_lt l x h0) (qI_lt l y h0) (qI_eq l x h0) (qI_eq l y h0) (qOf_lt l x y h0) (by unfold qOf; rw [dif_pos h0]))
  clear hr hcm hc
  obtain ⟨z0, z1, z2, z3⟩ := z
  unfold Cd.agg at HCI ⊢
  go_enter Try.func15, Try.ntmps15
  go_wp2_with fail
  refine (HCI.out _ ((HE.out.alloc (Nat.le_refl _) _).more (by simp))).mono ?_
  rintro e w1 ⟨b, rfl, hm, hb⟩
  have hs1 : w.heap.size + 1 ≤ w1.heap.size := by have := hb.size; simpa using this
  have HZ := Lib.hid ((Blk.new w 45 #[.int .i64 z0, .int .i64 z1, .int .i64 z2, .int .u32 z3]).below hb (by simp))
  have HB := Lib.hid (show Below w.heap.size w w1 from Kept.below (S := fun _ => False) (((Kept.refl _ _).alloc _).then (Kept.ofB (S := fun _ => False) hb) (fun _ _ h => h.elim)) (Nat.le_refl _) (fun i h => h.elim))
  have HE1 := Lib.hid (HE.out.onB HB.out (Nat.le_refl _))
  have HM := Lib.hid hm
  have cZ := HZ.out.cell
  have lZ := HZ.out.lt
  clear hb hm HCI
  cases b with
  | false =>
    go_wp2_with fail
    go_ret
    exact ⟨false, rfl, ⟨(fun h => by cases h), fun h => absurd (HM.out.2 h.1) (by decide)⟩, HB.out⟩
  | true =>
    have HMT := Lib.hid (HM.out.1 rfl)
    clear HM
    by_cases h1 : way = 1
    · subst h1
      go_wp2_with fail
      go_ret
      exact ⟨true, rfl, ⟨fun _ => ⟨HMT.out, .inl rfl⟩, fun _ => rfl⟩, HB.out⟩
    have b1 : (way == 1) = false := beq_eq_false_iff_ne.2 h1
    by_cases h2 : way = 2
    · subst h2
      by_cases h3 : 0 < z2
      · go_wp2_with fail
        go_ret
        exact ⟨_, rfl, ⟨fun _ => ⟨HMT.out, .inr (.inl ⟨rfl, h3⟩)⟩, fun _ => by simp⟩, HB.out⟩
      · have hd : decide (0 < z2) = false := by simpa using h3
        go_wp2_with fail
        go_ret
        refine ⟨_, rfl, ⟨(fun h => by simp at h), (fun h => ?_)⟩, HB.out⟩
        obtain ⟨-, h | h | h | h⟩ := h
        · omega
        · exact absurd h.2 (by simp; omega)
        · omega
        · omega
    have b2 : (way == 2) = false := beq_eq_false_iff_ne.2 h2
    by_cases h3 : way = 3
    · subst h3
      clear b1 b2
      have HLP := Lib.hid (lpick_any (some ⟨g, 0, none⟩) c l w1 h0 (by omega) hcc HCM.out (fun i j hj hij => rf_lt HR.out i j hj hij) HE1.out)
      go_wp2_with fail
      refine HLP.out.mono ?_
      rintro e w2 ⟨bx, hbx, rfl, hb2⟩
      have hs2 := hb2.size
      have HB2 := Lib.hid (HB.out.trans (Kept.below (S := fun _ => False) (Kept.ofB hb2) (by omega) (fun i h => h.elim)))
      have HZ2 := Lib.hid (HZ.out.below hb2 HZ.out.lt)
      have HX := Lib.hid hbx
      have HBM := Lib.hid (List.mem_of_getElem? hbx)
      have cZ2 := HZ2.out.cell
      have lZ2 := HZ2.out.lt
      clear hbx hb2 HLP cZ lZ
      by_cases he : z0 = bx.slot
      · obtain rfl : (⟨z0, z1, z2, z3⟩ : Cd) = bx := mem_slot HR.out HMT.out HBM.out he
        clear he
        go_wp2_with fail
        go_ret
        refine ⟨_, rfl, ⟨fun _ => ⟨HMT.out, .inr (.inr (.inl ⟨rfl, HX.out⟩))⟩, fun _ => by simp⟩, ?_⟩
        go_light
        exact (HB2.out.alloc (by omega) _)
      · obtain ⟨b0, c1, c2, c3⟩ := bx
        have hne : ¬ b0 = z0 := fun h => he h.symm
        simp only at he
        go_wp2_with fail
        go_ret
        refine ⟨_, rfl, ⟨fun h => by simp at h, fun h => ?_⟩, ?_⟩
        · obtain ⟨-, h | h | h | h⟩ := h
          · simp at h
          · simp at h
          · have h' := h.2; rw [HX.out] at h'; injection h' with h'; injection h' with h'; exact absurd h' hne
          · simp at h
        · go_light
          exact (HB2.out.alloc (by omega) _)
    have b3 : (way == 3) = false := beq_eq_false_iff_ne.2 h3
    by_cases h4 : way = 4
    · subst h4
      clear b1 b2 b3
      have HLP := Lib.hid (HQ.out w1 (fun k hk => by have := es_cands HE1.out; rcases this with h | ⟨b, o, _, e, h⟩; · subst h; simp at hk
                                                     · injection e with e; injection e with e1 e2; subst e1 e2; exact h k hk) (by omega))
      obtain ⟨bx, hbx⟩ : ∃ bx, l[qOf l x y]'(qOf_lt l x y h0) = bx := ⟨_, rfl⟩
      rw [hbx] at HLP
      have HX := Lib.hid (show l[qOf l x y]? = some bx by rw [← hbx]; exact List.getElem?_eq_getElem _)
      clear hbx
      go_wp2_with fail
      refine HLP.out.mono ?_
      rintro e w2 ⟨rfl, hb2⟩
      have hs2 := hb2.size
      have HB2 := Lib.hid (HB.out.trans (Kept.below (S := fun _ => False) (Kept.ofB hb2) (by omega) (fun i h => h.elim)))
      have HZ2 := Lib.hid (HZ.out.below hb2 HZ.out.lt)
      have HBM := Lib.hid (List.mem_of_getElem? HX.out)
      have cZ2 := HZ2.out.cell
      have lZ2 := HZ2.out.lt
      clear hb2 HLP cZ lZ
      by_cases he : z0 = bx.slot
      · obtain rfl : (⟨z0, z1, z2, z3⟩ : Cd) = bx := mem_slot HR.out HMT.out HBM.out he
        clear he
        go_wp2_with fail
        go_ret
        refine ⟨_, rfl, ⟨fun _ => ⟨HMT.out, .inr (.inr (.inr ⟨rfl, HX.out⟩))⟩, fun _ => by simp⟩, ?_⟩
        go_light
        exact (HB2.out.alloc (by omega) _)
      · obtain ⟨b0, c1, c2, c3⟩ := bx
        have hne : ¬ b0 = z0 := fun h => he h.symm
        simp only at he
        go_wp2_with fail
        go_ret
        refine ⟨_, rfl, ⟨fun h => by simp at h, fun h => ?_⟩, ?_⟩
        · obtain ⟨-, h | h | h | h⟩ := h
          · simp at h
          · simp at h
          · simp at h
          · have h' := h.2; rw [HX.out] at h'; injection h' with h'; injection h' with h'; exact absurd h' hne
        · go_light
          exact (HB2.out.alloc (by omega) _)
    have b4 : (way == 4) = false := beq_eq_false_iff_ne.2 h4
    go_wp2_with fail
    go_ret
    refine ⟨false, rfl, ⟨(fun h => by cases h), (fun h => ?_)⟩, HB.out⟩
    obtain ⟨-, h | h | h | h⟩ := h
    · exact absurd h h1
    · exact absurd h.1 h2
    · exact absurd h.1 h3
    · exact absurd h.1 h4
end Go.Proofs.Ytpakfepjfcpjkaa
