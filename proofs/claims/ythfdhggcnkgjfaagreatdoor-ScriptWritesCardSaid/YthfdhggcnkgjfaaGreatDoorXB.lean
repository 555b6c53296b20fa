/- The document's Words and split at any text. -/
import Derived.Test.YthfdhggcnkgjfaaGreatDoorXA
import Derived.Test.YthfdhggcnkgjfaaGreatDoorPlainU
import Derived.Test.YthfdhggcnkgjfaaGreatDoorBase
namespace Go.Proofs.YthfdhggcnkgjfaaGreatDoor
open Go.RowKit
set_option linter.unusedVariables false
set_option linter.unusedSimpArgs false
def PartsP (c : UInt8) (s : ByteArray) (w : World) (e : Ending) (w' : World) : Prop := ∃ v, ∃ xs : List ByteArray, e = .returned v ∧ Row w' w.heap.size 9 v (xs.map Value.string) ∧ xs.map (·.data.toList) = parts c s.data.toList ∧ Below w.heap.size w w'
def Cutting (c : UInt8) (l : List UInt8) (D : List (List UInt8)) (a i : Nat) : Prop := (i ≤ l.length ∧ a ≤ i ∧ parts c l = D ++ parts c (l.drop a) ∧ c ∉ (l.drop a).take (i - a)) ∨ (l.length < i ∧ parts c l = D)
section
variable {c : UInt8} {l : List UInt8} {D : List (List UInt8)} {a i : Nat}
theorem Cutting.start (c : UInt8) (l : List UInt8) : Cutting c l [] 0 0 := .inl ⟨Nat.zero_le _, Nat.le_refl _, rfl, by simp⟩
theorem Cutting.le (h : Cutting c l D a i) (hi : i ≤ l.length) : a ≤ i := by
  rcases h with h | h
  · exact h.2.1
  · omega
theorem Cutting.done (h : Cutting c l D a i) (hi : ¬ i ≤ l.length) : D = parts c l := by
  rcases h with h | h
  · omega
  · exact h.2.symm
theorem Cutting.last (h : Cutting c l D a i) (hi : i = l.length) : Cutting c l (D ++ [(l.drop a).take (i - a)]) (i + 1) (i + 1) := by
  rcases h with ⟨h1, h2, h3, h4⟩ | h
  · refine .inr ⟨by omega, ?_⟩
    have e : (l.drop a).take (i - a) = l.drop a := List.take_of_length_le (by rw [List.length_drop]; omega)
    rw [e] at h4 ⊢
    rw [h3, parts_one h4]
  · omega
theorem Cutting.split (h : a ≤ i) (hi : i < l.length) : l.drop a = (l.drop a).take (i - a) ++ l[i] :: l.drop (i + 1) := by
  have e := (List.take_append_drop (i - a) (l.drop a)).symm
  rw [List.drop_drop, show a + (i - a) = i by omega, List.drop_eq_getElem_cons hi] at e
  exact e
theorem Cutting.cut (h : Cutting c l D a i) (hi : i < l.length) (hx : l[i] = c) : Cutting c l (D ++ [(l.drop a).take (i - a)]) (i + 1) (i + 1) := by
  rcases h with ⟨h1, h2, h3, h4⟩ | h
  · refine .inl ⟨by omega, Nat.le_refl _, ?_, by simp⟩
    have e := Cutting.split h2 hi
    rw [hx] at e
    rw [h3, e, parts_app h4, List.append_assoc]
    rw [← e]
    rfl
  · omega
theorem Cutting.on (h : Cutting c l D a i) (hi : i < l.length) (hx : l[i] ≠ c) : Cutting c l D a (i + 1) := by
  rcases h with ⟨h1, h2, h3, h4⟩ | h
  · refine .inl ⟨by omega, by omega, h3, ?_⟩
    have e := Cutting.split h2 hi
    have hl : ((l.drop a).take (i - a)).length = i - a := by rw [List.length_take, List.length_drop]; omega
    rw [e, List.take_append, hl, show i + 1 - a - (i - a) = 1 by omega, List.take_succ_cons, List.take_zero, List.take_of_length_le (by omega)]
    simp only [List.mem_append, List.mem_singleton, not_or]
    exact ⟨h4, fun e => hx e.symm⟩
  · omega
end
theorem extract_mid (s : ByteArray) (a b : Nat) : (s.extract a b).data.toList = (s.data.toList.drop a).take (b - a) := by
  rw [Lib.extract_data]
set_option maxRecDepth 20000 in
set_option maxHeartbeats 8000000 in
theorem words_any (s : ByteArray) (hz : s.size ≤ 4000) (w : World) : Calls Tryz.prog 17 #[.string s] w (PartsP 32 s w) := by
  have h9 : (Tryz.prog.info? 9).map (fun i => (i.zero, i.size, i.bytes)) = some (some (.string ⟨#[]⟩), 1, 16) := by kernel_rfl
  go_enter Tryz.func17, Tryz.ntmps17
  go_wp2_with fail
  go_loopw [3, 4, 5] (fun o f n wr' => ∃ (a i : Nat) (xs : List ByteArray), f = .int .i64 (a : Int) ∧ n = .int .i64 (i : Int) ∧ i ≤ s.size + 1 ∧ xs.length ≤ i ∧ Hid (Row wr' w.heap.size 9 o (xs.map Value.string)) ∧ Hid (Below w.heap.size w wr') ∧ Hid (Cutting 32 s.data.toList (xs.map (·.data.toList)) a i)) (fun _ _ n _ => s.size + 1 - (intOf n).toNat)
  case atStart => exact ⟨0, 0, [], rfl, rfl, by omega, by simp, Lib.hid (Row.nil _ _ _), Lib.hid (Below.refl _ _), Lib.hid (Cutting.start _ _)⟩
  case round =>
    obtain ⟨a, i, xs, rfl, rfl, hi, hxl, HR, HW, HC⟩ := hrel
    have i0 : (0 : Int) ≤ (i : Int) := Int.natCast_nonneg _
    have a0 : (0 : Int) ≤ (a : Int) := Int.natCast_nonneg _
    have hwr : w.heap.size ≤ wr.heap.size := HW.out.size
    by_cases his : i ≤ s.size
    · have j1 : (i : Int) ≤ (s.size : Int) := by omega
      have hai := HC.out.le (by rw [← Lib.size_eq]; exact his)
      have j2 : (a : Int) ≤ (i : Int) := by omega
      have HX := Lib.hid (show (s.extract a i).data.toList = (s.data.toList.drop a).take (i - a) from extract_mid s a i)
      by_cases hie : i = s.size
      · have j3 : (i : Int) = (s.size : Int) := by omega
        have j3b : ((i : Int) == (s.size : Int)) = true := by simpa using j3
        have HC6 := Lib.hid (show Cutting 32 s.data.toList ((xs ++ [s.extract a s.size]).map (·.data.toList)) (i + 1) (i + 1) by
          rw [List.map_append, List.map_cons, List.map_nil, extract_mid, ← hie]
          exact HC.out.last (by rw [← Lib.size_eq]; exact hie))
        clear hie
        go_wp2_with (at_builtin; go_loud (refine wpList_append_row rfl (.tmp 22) (.tmp 27) 54 rfl w.heap.size 9 (.string ⟨#[]⟩) 16 Tryz.underlying54 h9 rfl _ (xs.map Value.string) rfl (some ⟨wr.heap.size, 0, none⟩) 1 1 [.string (s.extract a s.size)] rfl rfl (HR.out.alloc _) (Src.blk (Blk.new _ _ _) rfl) (by simp [Value.oneCell']) ?a3 ?a4 ?a5 ?_))
        case a3 => simp; unfold maxLen; omega
        case a4 => simp; omega
        case a5 => simp; omega
        intro v6 w6 hr6 hg6 _
        have HR6 := Lib.hid (show Row w6 w.heap.size 9 v6 ((xs ++ [s.extract a s.size]).map Value.string) by rw [List.map_append]; exact hr6)
        have HW6 := Lib.hid (show Below w.heap.size w w6 from (HW.out.alloc hwr _).trans (below_grown hg6 (fun i hi => (HR.out.lt i hi).1) (by simp; omega)))
        clear hr6 hg6 HR HW
        go_wp2_with fail
        go_roundw
        case rel => exact ⟨i + 1, i + 1, xs ++ [s.extract a s.size], by go_num, by go_num, by omega, by simp; omega, HR6, HW6, HC6⟩
        case measure => simp [intOf]; omega
      · have j3 : ¬ (i : Int) = (s.size : Int) := by omega
        have j3b : ((i : Int) == (s.size : Int)) = false := by simpa using j3
        have hil : i < s.size := by omega
        have j4 : (i : Int) < (s.size : Int) := by omega
        by_cases hx : ((s[i]'hil).toNat : Int) = 32
        · have hxb : (((s[i]'hil).toNat : Int) == 32) = true := by simpa using hx
          have HC6 := Lib.hid (show Cutting 32 s.data.toList ((xs ++ [s.extract a i]).map (·.data.toList)) (i + 1) (i + 1) by
            rw [List.map_append, List.map_cons, List.map_nil, HX.out]
            have e : (s[i]'hil) = 32 := by
              apply UInt8.toNat_inj.1
              have : ((32 : UInt8)).toNat = 32 := rfl
              omega
            exact HC.out.cut (by rw [← Lib.size_eq]; exact hil) e)
          go_wp2_with (at_builtin; go_loud (refine wpList_append_row rfl (.tmp 22) (.tmp 27) 54 rfl w.heap.size 9 (.string ⟨#[]⟩) 16 Tryz.underlying54 h9 rfl _ (xs.map Value.string) rfl (some ⟨wr.heap.size, 0, none⟩) 1 1 [.string (s.extract a i)] rfl rfl (HR.out.alloc _) (Src.blk (Blk.new _ _ _) rfl) (by simp [Value.oneCell']) ?a3 ?a4 ?a5 ?_))
          case a3 => simp; unfold maxLen; omega
          case a4 => simp; omega
          case a5 => simp; omega
          intro v6 w6 hr6 hg6 _
          have HR6 := Lib.hid (show Row w6 w.heap.size 9 v6 ((xs ++ [s.extract a i]).map Value.string) by rw [List.map_append]; exact hr6)
          have HW6 := Lib.hid (show Below w.heap.size w w6 from (HW.out.alloc hwr _).trans (below_grown hg6 (fun i hi => (HR.out.lt i hi).1) (by simp; omega)))
          clear hr6 hg6 HR HW
          go_wp2_with fail
          go_roundw
          case rel => exact ⟨i + 1, i + 1, xs ++ [s.extract a i], by go_num, by go_num, by omega, by simp; omega, HR6, HW6, HC6⟩
          case measure => simp [intOf]; omega
        · have hxb : (((s[i]'hil).toNat : Int) == 32) = false := by simpa using hx
          have HC6 := Lib.hid (show Cutting 32 s.data.toList (xs.map (·.data.toList)) a (i + 1) from HC.out.on (by rw [← Lib.size_eq]; exact hil) (fun e => hx (by
            have e' : (s[i]'hil) = 32 := e
            rw [e']; rfl)))
          go_wp2_with fail
          go_roundw
          case rel => exact ⟨a, i + 1, xs, rfl, by go_num, by omega, by omega, HR, HW, HC6⟩
          case measure => simp [intOf]; omega
    · have j1 : ¬ (i : Int) ≤ (s.size : Int) := by omega
      have HE := Lib.hid (HC.out.done (by rw [← Lib.size_eq]; omega))
      go_wp2_with fail
      go_ret
      exact ⟨_, xs, rfl, HR.out, HE.out, HW.out⟩
set_option maxRecDepth 20000 in
set_option maxHeartbeats 8000000 in
theorem split46 (s : ByteArray) (hz : s.size ≤ 4000) (w : World) : Calls Tryz.prog 60 #[.string s, .int .u8 46] w (PartsP 46 s w) := by
  have h9 : (Tryz.prog.info? 9).map (fun i => (i.zero, i.size, i.bytes)) = some (some (.string ⟨#[]⟩), 1, 16) := by kernel_rfl
  go_enter Tryz.func60, Tryz.ntmps60
  go_wp2_with fail
  go_loopw [5, 6, 7] (fun o f n wr' => ∃ (a i : Nat) (xs : List ByteArray), f = .int .i64 (a : Int) ∧ n = .int .i64 (i : Int) ∧ i ≤ s.size + 1 ∧ xs.length ≤ i ∧ Hid (Row wr' w.heap.size 9 o (xs.map Value.string)) ∧ Hid (Below w.heap.size w wr') ∧ Hid (Cutting 46 s.data.toList (xs.map (·.data.toList)) a i)) (fun _ _ n _ => s.size + 1 - (intOf n).toNat)
  case atStart => exact ⟨0, 0, [], rfl, rfl, by omega, by simp, Lib.hid (Row.nil _ _ _), Lib.hid (Below.refl _ _), Lib.hid (Cutting.start _ _)⟩
  case round =>
    obtain ⟨a, i, xs, rfl, rfl, hi, hxl, HR, HW, HC⟩ := hrel
    have i0 : (0 : Int) ≤ (i : Int) := Int.natCast_nonneg _
    have a0 : (0 : Int) ≤ (a : Int) := Int.natCast_nonneg _
    have hwr : w.heap.size ≤ wr.heap.size := HW.out.size
    by_cases his : i ≤ s.size
    · have j1 : (i : Int) ≤ (s.size : Int) := by omega
      have hai := HC.out.le (by rw [← Lib.size_eq]; exact his)
      have j2 : (a : Int) ≤ (i : Int) := by omega
      have HX := Lib.hid (show (s.extract a i).data.toList = (s.data.toList.drop a).take (i - a) from extract_mid s a i)
      by_cases hie : i = s.size
      · have j3 : (i : Int) = (s.size : Int) := by omega
        have j3b : ((i : Int) == (s.size : Int)) = true := by simpa using j3
        have HC6 := Lib.hid (show Cutting 46 s.data.toList ((xs ++ [s.extract a s.size]).map (·.data.toList)) (i + 1) (i + 1) by
          rw [List.map_append, List.map_cons, List.map_nil, extract_mid, ← hie]
          exact HC.out.last (by rw [← Lib.size_eq]; exact hie))
        clear hie
        go_wp2_with (at_builtin; go_loud (refine wpList_append_row rfl (.tmp 25) (.tmp 30) 54 rfl w.heap.size 9 (.string ⟨#[]⟩) 16 Tryz.underlying54 h9 rfl _ (xs.map Value.string) rfl (some ⟨wr.heap.size, 0, none⟩) 1 1 [.string (s.extract a s.size)] rfl rfl (HR.out.alloc _) (Src.blk (Blk.new _ _ _) rfl) (by simp [Value.oneCell']) ?a3 ?a4 ?a5 ?_))
        case a3 => simp; unfold maxLen; omega
        case a4 => simp; omega
        case a5 => simp; omega
        intro v6 w6 hr6 hg6 _
        have HR6 := Lib.hid (show Row w6 w.heap.size 9 v6 ((xs ++ [s.extract a s.size]).map Value.string) by rw [List.map_append]; exact hr6)
        have HW6 := Lib.hid (show Below w.heap.size w w6 from (HW.out.alloc hwr _).trans (below_grown hg6 (fun i hi => (HR.out.lt i hi).1) (by simp; omega)))
        clear hr6 hg6 HR HW
        go_wp2_with fail
        go_roundw
        case rel => exact ⟨i + 1, i + 1, xs ++ [s.extract a s.size], by go_num, by go_num, by omega, by simp; omega, HR6, HW6, HC6⟩
        case measure => simp [intOf]; omega
      · have j3 : ¬ (i : Int) = (s.size : Int) := by omega
        have j3b : ((i : Int) == (s.size : Int)) = false := by simpa using j3
        have hil : i < s.size := by omega
        have j4 : (i : Int) < (s.size : Int) := by omega
        by_cases hx : ((s[i]'hil).toNat : Int) = 46
        · have hxb : (((s[i]'hil).toNat : Int) == 46) = true := by simpa using hx
          have HC6 := Lib.hid (show Cutting 46 s.data.toList ((xs ++ [s.extract a i]).map (·.data.toList)) (i + 1) (i + 1) by
            rw [List.map_append, List.map_cons, List.map_nil, HX.out]
            have e : (s[i]'hil) = 46 := by
              apply UInt8.toNat_inj.1
              have : ((46 : UInt8)).toNat = 46 := rfl
              omega
            exact HC.out.cut (by rw [← Lib.size_eq]; exact hil) e)
          go_wp2_with (at_builtin; go_loud (refine wpList_append_row rfl (.tmp 25) (.tmp 30) 54 rfl w.heap.size 9 (.string ⟨#[]⟩) 16 Tryz.underlying54 h9 rfl _ (xs.map Value.string) rfl (some ⟨wr.heap.size, 0, none⟩) 1 1 [.string (s.extract a i)] rfl rfl (HR.out.alloc _) (Src.blk (Blk.new _ _ _) rfl) (by simp [Value.oneCell']) ?a3 ?a4 ?a5 ?_))
          case a3 => simp; unfold maxLen; omega
          case a4 => simp; omega
          case a5 => simp; omega
          intro v6 w6 hr6 hg6 _
          have HR6 := Lib.hid (show Row w6 w.heap.size 9 v6 ((xs ++ [s.extract a i]).map Value.string) by rw [List.map_append]; exact hr6)
          have HW6 := Lib.hid (show Below w.heap.size w w6 from (HW.out.alloc hwr _).trans (below_grown hg6 (fun i hi => (HR.out.lt i hi).1) (by simp; omega)))
          clear hr6 hg6 HR HW
          go_wp2_with fail
          go_roundw
          case rel => exact ⟨i + 1, i + 1, xs ++ [s.extract a i], by go_num, by go_num, by omega, by simp; omega, HR6, HW6, HC6⟩
          case measure => simp [intOf]; omega
        · have hxb : (((s[i]'hil).toNat : Int) == 46) = false := by simpa using hx
          have HC6 := Lib.hid (show Cutting 46 s.data.toList (xs.map (·.data.toList)) a (i + 1) from HC.out.on (by rw [← Lib.size_eq]; exact hil) (fun e => hx (by
            have e' : (s[i]'hil) = 46 := e
            rw [e']; rfl)))
          go_wp2_with fail
          go_roundw
          case rel => exact ⟨a, i + 1, xs, rfl, by go_num, by omega, by omega, HR, HW, HC6⟩
          case measure => simp [intOf]; omega
    · have j1 : ¬ (i : Int) ≤ (s.size : Int) := by omega
      have HE := Lib.hid (HC.out.done (by rw [← Lib.size_eq]; omega))
      go_wp2_with fail
      go_ret
      exact ⟨_, xs, rfl, HR.out, HE.out, HW.out⟩
set_option maxRecDepth 20000 in
set_option maxHeartbeats 8000000 in
theorem split58 (s : ByteArray) (hz : s.size ≤ 4000) (w : World) : Calls Tryz.prog 60 #[.string s, .int .u8 58] w (PartsP 58 s w) := by
  have h9 : (Tryz.prog.info? 9).map (fun i => (i.zero, i.size, i.bytes)) = some (some (.string ⟨#[]⟩), 1, 16) := by kernel_rfl
  go_enter Tryz.func60, Tryz.ntmps60
  go_wp2_with fail
  go_loopw [5, 6, 7] (fun o f n wr' => ∃ (a i : Nat) (xs : List ByteArray), f = .int .i64 (a : Int) ∧ n = .int .i64 (i : Int) ∧ i ≤ s.size + 1 ∧ xs.length ≤ i ∧ Hid (Row wr' w.heap.size 9 o (xs.map Value.string)) ∧ Hid (Below w.heap.size w wr') ∧ Hid (Cutting 58 s.data.toList (xs.map (·.data.toList)) a i)) (fun _ _ n _ => s.size + 1 - (intOf n).toNat)
  case atStart => exact ⟨0, 0, [], rfl, rfl, by omega, by simp, Lib.hid (Row.nil _ _ _), Lib.hid (Below.refl _ _), Lib.hid (Cutting.start _ _)⟩
  case round =>
    obtain ⟨a, i, xs, rfl, rfl, hi, hxl, HR, HW, HC⟩ := hrel
    have i0 : (0 : Int) ≤ (i : Int) := Int.natCast_nonneg _
    have a0 : (0 : Int) ≤ (a : Int) := Int.natCast_nonneg _
    have hwr : w.heap.size ≤ wr.heap.size := HW.out.size
    by_cases his : i ≤ s.size
    · have j1 : (i : Int) ≤ (s.size : Int) := by omega
      have hai := HC.out.le (by rw [← Lib.size_eq]; exact his)
      have j2 : (a : Int) ≤ (i : Int) := by omega
      have HX := Lib.hid (show (s.extract a i).data.toList = (s.data.toList.drop a).take (i - a) from extract_mid s a i)
      by_cases hie : i = s.size
      · have j3 : (i : Int) = (s.size : Int) := by omega
        have j3b : ((i : Int) == (s.size : Int)) = true := by simpa using j3
        have HC6 := Lib.hid (show Cutting 58 s.data.toList ((xs ++ [s.extract a s.size]).map (·.data.toList)) (i + 1) (i + 1) by
          rw [List.map_append, List.map_cons, List.map_nil, extract_mid, ← hie]
          exact HC.out.last (by rw [← Lib.size_eq]; exact hie))
        clear hie
        go_wp2_with (at_builtin; go_loud (refine wpList_append_row rfl (.tmp 25) (.tmp 30) 54 rfl w.heap.size 9 (.string ⟨#[]⟩) 16 Tryz.underlying54 h9 rfl _ (xs.map Value.string) rfl (some ⟨wr.heap.size, 0, none⟩) 1 1 [.string (s.extract a s.size)] rfl rfl (HR.out.alloc _) (Src.blk (Blk.new _ _ _) rfl) (by simp [Value.oneCell']) ?a3 ?a4 ?a5 ?_))
        case a3 => simp; unfold maxLen; omega
        case a4 => simp; omega
        case a5 => simp; omega
        intro v6 w6 hr6 hg6 _
        have HR6 := Lib.hid (show Row w6 w.heap.size 9 v6 ((xs ++ [s.extract a s.size]).map Value.string) by rw [List.map_append]; exact hr6)
        have HW6 := Lib.hid (show Below w.heap.size w w6 from (HW.out.alloc hwr _).trans (below_grown hg6 (fun i hi => (HR.out.lt i hi).1) (by simp; omega)))
        clear hr6 hg6 HR HW
        go_wp2_with fail
        go_roundw
        case rel => exact ⟨i + 1, i + 1, xs ++ [s.extract a s.size], by go_num, by go_num, by omega, by simp; omega, HR6, HW6, HC6⟩
        case measure => simp [intOf]; omega
      · have j3 : ¬ (i : Int) = (s.size : Int) := by omega
        have j3b : ((i : Int) == (s.size : Int)) = false := by simpa using j3
        have hil : i < s.size := by omega
        have j4 : (i : Int) < (s.size : Int) := by omega
        by_cases hx : ((s[i]'hil).toNat : Int) = 58
        · have hxb : (((s[i]'hil).toNat : Int) == 58) = true := by simpa using hx
          have HC6 := Lib.hid (show Cutting 58 s.data.toList ((xs ++ [s.extract a i]).map (·.data.toList)) (i + 1) (i + 1) by
            rw [List.map_append, List.map_cons, List.map_nil, HX.out]
            have e : (s[i]'hil) = 58 := by
              apply UInt8.toNat_inj.1
              have : ((58 : UInt8)).toNat = 58 := rfl
              omega
            exact HC.out.cut (by rw [← Lib.size_eq]; exact hil) e)
          go_wp2_with (at_builtin; go_loud (refine wpList_append_row rfl (.tmp 25) (.tmp 30) 54 rfl w.heap.size 9 (.string ⟨#[]⟩) 16 Tryz.underlying54 h9 rfl _ (xs.map Value.string) rfl (some ⟨wr.heap.size, 0, none⟩) 1 1 [.string (s.extract a i)] rfl rfl (HR.out.alloc _) (Src.blk (Blk.new _ _ _) rfl) (by simp [Value.oneCell']) ?a3 ?a4 ?a5 ?_))
          case a3 => simp; unfold maxLen; omega
          case a4 => simp; omega
          case a5 => simp; omega
          intro v6 w6 hr6 hg6 _
          have HR6 := Lib.hid (show Row w6 w.heap.size 9 v6 ((xs ++ [s.extract a i]).map Value.string) by rw [List.map_append]; exact hr6)
          have HW6 := Lib.hid (show Below w.heap.size w w6 from (HW.out.alloc hwr _).trans (below_grown hg6 (fun i hi => (HR.out.lt i hi).1) (by simp; omega)))
          clear hr6 hg6 HR HW
          go_wp2_with fail
          go_roundw
          case rel => exact ⟨i + 1, i + 1, xs ++ [s.extract a i], by go_num, by go_num, by omega, by simp; omega, HR6, HW6, HC6⟩
          case measure => simp [intOf]; omega
        · have hxb : (((s[i]'hil).toNat : Int) == 58) = false := by simpa using hx
          have HC6 := Lib.hid (show Cutting 58 s.data.toList (xs.map (·.data.toList)) a (i + 1) from HC.out.on (by rw [← Lib.size_eq]; exact hil) (fun e => hx (by
            have e' : (s[i]'hil) = 58 := e
            rw [e']; rfl)))
          go_wp2_with fail
          go_roundw
          case rel => exact ⟨a, i + 1, xs, rfl, by go_num, by omega, by omega, HR, HW, HC6⟩
          case measure => simp [intOf]; omega
    · have j1 : ¬ (i : Int) ≤ (s.size : Int) := by omega
      have HE := Lib.hid (HC.out.done (by rw [← Lib.size_eq]; omega))
      go_wp2_with fail
      go_ret
      exact ⟨_, xs, rfl, HR.out, HE.out, HW.out⟩
end Go.Proofs.YthfdhggcnkgjfaaGreatDoor
