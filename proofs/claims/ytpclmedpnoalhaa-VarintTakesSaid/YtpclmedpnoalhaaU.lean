/- Contract of varint.All. -/
import Derived.Test.YtpclmedpnoalhaaT
import Derived.Test.YtpclmedpnoalhaaNums
namespace Go.Proofs.Ytpclmedpnoalhaa
open Go.RowKit
set_option linter.unusedVariables false

/-- All numbers that bytes are. -/
def allOf (l : List UInt8) : Option (List Int) :=
  if l = [] then some [] else if h : tkN l = 0 then none else (allOf (l.drop (tkN l))).map (tkV l :: ·)
termination_by l.length
decreasing_by
  have := tkN_le l
  rw [List.length_drop]; omega
theorem allOf_nil : allOf [] = some [] := by rw [allOf]; simp
theorem allOf_none (l : List UInt8) (h : l ≠ []) (h0 : tkN l = 0) : allOf l = none := by rw [allOf]; simp [h, h0]
theorem allOf_some (l : List UInt8) (h0 : tkN l ≠ 0) : allOf l = (allOf (l.drop (tkN l))).map (tkV l :: ·) := by
  have h : l ≠ [] := by rintro rfl; exact h0 rfl
  rw [allOf]; simp [h, h0]
/-- What was found so far, and what is left. -/
def Thus (l : List UInt8) (ds : List Int) (r : List UInt8) : Prop := allOf l = (allOf r).map (ds ++ ·)
theorem Thus.start (l : List UInt8) : Thus l [] l := by unfold Thus; cases allOf l <;> rfl
theorem Thus.step {l : List UInt8} {ds : List Int} {r : List UInt8} (h : Thus l ds r) (h0 : tkN r ≠ 0) : Thus l (ds ++ [tkV r]) (r.drop (tkN r)) := by
  unfold Thus at *
  rw [h, allOf_some r h0]
  cases allOf (r.drop (tkN r)) <;> simp
theorem Thus.stop {l : List UInt8} {ds : List Int} {r : List UInt8} (h : Thus l ds r) (hr : r ≠ []) (h0 : tkN r = 0) : allOf l = none := by
  unfold Thus at h
  rw [h, allOf_none r hr h0]; rfl
theorem Thus.done {l : List UInt8} {ds : List Int} (h : Thus l ds []) : allOf l = some ds := by
  unfold Thus at h
  rw [h, allOf_nil]; simp
def us (l : List Int) : List Value := l.map (Value.int .u64)
theorem us_length (l : List Int) : (us l).length = l.length := by simp [us]
theorem us_append (l m : List Int) : us (l ++ m) = us l ++ us m := by simp [us]
theorem Try.info22 : (Try.prog.info? 22).map (fun i => (i.zero, i.size, i.bytes)) = some (some (.int .u64 0), 1, 8) := by kernel_rfl
theorem one_u (x : Value) (hx : x.oneCell' = true) : ∀ u ∈ [x], u.oneCell' = true := by
  intro u hu; simp at hu; subst hu; exact hx

def AllPost (w : World) (l : List UInt8) (e : Ending) (w' : World) : Prop :=
  (allOf l = none ∧ e = .returned (.tuple #[.slice none 0 0, .int .i64 20]) ∨ ∃ ds v, allOf l = some ds ∧ e = .returned (.tuple #[v, .int .i64 0]) ∧ Row w' w.heap.size 22 v (us ds)) ∧ Below w.heap.size w w'
set_option maxHeartbeats 2000000 in
theorem all_any (A : Option Addr) (c : Nat) (l : List UInt8) (w : World) (hl : l.length ≤ 1000) (hc : l.length ≤ c) (hcm : c ≤ maxLen) (hB : BS w w.heap.size A l) :
    Calls Try.prog 14 #[.slice A l.length c] w (AllPost w l) := by
  have h5 := Try.info22
  have HB := Lib.hid hB
  have HCM := Lib.hid hcm
  clear hB
  go_enter Try.func14, Try.ntmps14
  go_wp2_with fail
  go_loopw [0, 4, 5, 6] (fun b v _ _ wr => ∃ (A' : Option Addr) (c' : Nat) (r : List UInt8) (ds : List Int), b = .slice A' r.length c' ∧ r.length ≤ c' ∧ c' ≤ c ∧ ds.length + r.length ≤ l.length ∧ Hid (Thus l ds r) ∧ Hid (BS w w.heap.size A' r) ∧ Hid (Row wr w.heap.size 22 v (us ds)) ∧ Hid (Below w.heap.size w wr)) (fun b _ _ _ _ => match b with | .slice _ n _ => n | _ => 0)
  case atStart => exact ⟨A, c, l, [], rfl, hc, Nat.le_refl _, by simp, Lib.hid (Thus.start l), HB, Lib.hid (Row.nil _ _ _), Lib.hid (Below.refl _ _)⟩
  case round =>
    obtain ⟨A', c', r, ds, rfl, hr1, hr2, hr3, HTH, HBR, HRW, HBW⟩ := hrel
    have hsw := HBW.out.size
    rcases Nat.eq_zero_or_pos r.length with h0 | h0
    · obtain rfl : r = [] := List.eq_nil_of_length_eq_zero h0
      go_wp2_with fail
      go_ret2
      exact ⟨.inr ⟨ds, _, HTH.out.done, rfl, HRW.out⟩, HBW.out⟩
    · have h0I : (0 : Int) < (r.length : Int) := by omega
      have hne : r ≠ [] := List.length_pos_iff.1 h0
      have HF := Lib.hid (first_any A' c' r wr (by omega) hr1 (by have := HCM.out; omega) ((HBR.out.below HBW.out).more hsw))
      have hn := tkN_le r
      have hv := tkV_range r
      by_cases ht : tkN r = 0
      · have HS := Lib.hid (HTH.out.stop hne ht)
        rw [ht] at HF
        go_wp2_with fail
        refine HF.out.mono ?_
        rintro e w1 ⟨rfl, hb1⟩
        have HB1 := Lib.hid (HBW.out.trans (hb1.mono hsw))
        clear hb1
        go_wp2_with fail
        go_ret2
        exact ⟨.inl ⟨HS.out, rfl⟩, HB1.out⟩
      · have HST := Lib.hid (HTH.out.step ht)
        have HDL := Lib.hid (show (r.drop (tkN r)).length = r.length - tkN r by simp)
        obtain ⟨b, o, hb, rfl, _⟩ := HBR.out.at (k := 0) h0
        have HBD := Lib.hid (HBR.out.drop_ (tkN r))
        obtain ⟨n, hnn⟩ : ∃ n, tkN r = n := ⟨_, rfl⟩
        obtain ⟨V, hV⟩ : ∃ V, tkV r = V := ⟨_, rfl⟩
        rw [hnn] at ht HF HST HDL HBD hn
        rw [hV] at HF HST hv
        have n0 : ((n : Int) == 0) = false := beq_eq_false_iff_ne.2 (by omega)
        have HUL := Lib.hid (us_length ds)
        obtain ⟨vA, vc, hve, _⟩ := HRW.out.shape
        subst hve
        have hnp : 0 < n := Nat.pos_of_ne_zero ht
        clear hnn hV ht
        by_cases hcn : c' = n
        · subst hcn
          have hrn : r.length - c' = 0 := by omega
          go_wp2_with fail
          refine HF.out.mono ?_
          rintro e w1 ⟨rfl, hb1⟩
          have hs1 := hb1.size
          have HR1 := Lib.hid (HRW.out.belowAll hb1)
          have HB1 := Lib.hid (HBW.out.trans (hb1.mono hsw))
          clear hb1
          go_wp2_with (at_builtin; refine wpList_append_row rfl (.tmp 17) (.tmp 19) 39 rfl w.heap.size 22 (.int .u64 0) 8 Try.underlying39 h5 rfl _ (us ds) rfl (some ⟨w1.heap.size, 0, none⟩) 1 1 [.int .u64 V] rfl rfl (HR1.out.alloc _) ?a2 (one_u _ rfl) ?a3 ?a4 ?a5 ?_)
          case a2 => exact Src.new _ _ _ rfl
          case a3 => rw [HUL.out]; unfold maxLen; simp; omega
          case a4 => rw [HUL.out]; simp; omega
          case a5 => simp; omega
          intro v1 w2 hrow hgr _
          have HR2 := Lib.hid (show Row w2 w.heap.size 22 v1 (us (ds ++ [V])) by rw [us_append]; exact hrow)
          have HB2 := Lib.hid ((HB1.out.alloc (by omega) (.cells #[.int .u64 V] 22)).trans (below_grown hgr (fun i e => (HR1.out.lt i e).1) (by simp; omega)))
          clear hrow hgr
          go_wp2_with fail
          go_roundw
          case rel => exact ⟨some ⟨b, o, none⟩, 0, r.drop c', ds ++ [V], by rw [HDL.out, hrn], by rw [HDL.out]; omega, by omega, by rw [List.length_append, HDL.out]; simp; omega, HST, Lib.hid (.inl (List.drop_eq_nil_of_le hr1)), HR2, HB2⟩
          case measure => show 0 < r.length; exact h0
        · have hcn' : ¬ n = c' := fun h => hcn h.symm
          go_wp2_with fail
          refine HF.out.mono ?_
          rintro e w1 ⟨rfl, hb1⟩
          have hs1 := hb1.size
          have HR1 := Lib.hid (HRW.out.belowAll hb1)
          have HB1 := Lib.hid (HBW.out.trans (hb1.mono hsw))
          clear hb1
          go_wp2_with (at_builtin; refine wpList_append_row rfl (.tmp 17) (.tmp 19) 39 rfl w.heap.size 22 (.int .u64 0) 8 Try.underlying39 h5 rfl _ (us ds) rfl (some ⟨w1.heap.size, 0, none⟩) 1 1 [.int .u64 V] rfl rfl (HR1.out.alloc _) ?a2 (one_u _ rfl) ?a3 ?a4 ?a5 ?_)
          case a2 => exact Src.new _ _ _ rfl
          case a3 => rw [HUL.out]; unfold maxLen; simp; omega
          case a4 => rw [HUL.out]; simp; omega
          case a5 => simp; omega
          intro v1 w2 hrow hgr _
          have HR2 := Lib.hid (show Row w2 w.heap.size 22 v1 (us (ds ++ [V])) by rw [us_append]; exact hrow)
          have HB2 := Lib.hid ((HB1.out.alloc (by omega) (.cells #[.int .u64 V] 22)).trans (below_grown hgr (fun i e => (HR1.out.lt i e).1) (by simp; omega)))
          clear hrow hgr
          go_wp2_with fail
          go_roundw
          case rel => exact ⟨some ⟨b, o + n, none⟩, c' - n, r.drop n, ds ++ [V], by rw [HDL.out], by rw [HDL.out]; omega, by omega, by rw [List.length_append, HDL.out]; simp; omega, HST, HBD, HR2, HB2⟩
          case measure => show r.length - n < r.length; omega
end Go.Proofs.Ytpclmedpnoalhaa
