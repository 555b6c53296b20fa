/- addr.Text; the word for an address. -/
import Derived.Test.YthfdhggcnkgjfaaGreatDoorUB
import Derived.Test.YthfdhggcnkgjfaaGreatDoorAdrB
namespace Go.Proofs.YthfdhggcnkgjfaaGreatDoor
open Go.RowKit
set_option linter.unusedVariables false
set_option linter.unusedSimpArgs false
theorem join_eq (c : UInt8) : ∀ (ps : List (List UInt8)), Lib.join ps [c] = joinC c ps
  | [] => rfl
  | [p] => Lib.join_one p [c]
  | p :: q :: ps => by
    rw [joinC_cons2, ← join_eq c (q :: ps), Lib.join_cons, Lib.join_cons]
    simp [Lib.joinTail]
theorem info9s : (Tryz.prog.info? 9).map (fun i => (i.zero, i.size, i.bytes)) = some (some (.string ByteArray.empty), 1, 16) := by kernel_rfl
theorem and16 (H p : Nat) (x : Int) (hH : H < 18446744073709551616) (hp : 0 < p) (hx : x = ((H / p : Nat) : Int)) : bits .and .u64 x 65535 = ((H / p % 65536 : Nat) : Int) := by
  rw [hx]
  exact (u64_and_nat (H / p) 65535 (Nat.lt_of_le_of_lt (Nat.div_le_self _ _) hH) (by omega)).trans (by rw [show H / p &&& 65535 = H / p % 65536 from Nat.and_two_pow_sub_one_eq_mod (H / p) 16])
theorem joinC_len_le (c : UInt8) (M : Nat) : ∀ (ps : List (List UInt8)), (∀ p ∈ ps, p.length ≤ M) → (joinC c ps).length ≤ ps.length * (M + 1)
  | [], _ => by simp [joinC]
  | [p], h => by
    have := h p (by simp)
    simp only [joinC, List.length_cons, List.length_nil]
    omega
  | p :: q :: ps, h => by
    have h1 := h p (by simp)
    have h2 := joinC_len_le c M (q :: ps) fun x hx => h x (List.mem_cons_of_mem _ hx)
    rw [joinC_cons2, List.length_append, List.length_cons, List.length_cons, Nat.add_mul]
    omega
theorem grp_lt {a b q : Nat} (h : q ∈ grp a ++ grp b) : q < 16 ^ (3 + 1) := by
  have e : (16 ^ (3 + 1) : Nat) = 65536 := rfl
  rw [e]
  unfold grp at h
  simp only [List.mem_append, List.mem_cons, List.not_mem_nil, or_false] at h
  omega
/-- Words joined. -/
theorem join_row {w : World} {base : Nat} {v : Value} (c : UInt8) (xs : List ByteArray) (h : Row w base 9 v (xs.map Value.string)) (hne : xs ≠ []) (hn : xs.length ≤ 1000) (hlen : (joinC c (xs.map (·.data.toList))).length ≤ 140737488355328) :
    Calls Tryz.prog 67 #[v, .string ⟨#[c]⟩] w (WordR w (joinC c (xs.map (·.data.toList)))) := by
  have hp : 0 < (xs.map Value.string).length := by rw [List.length_map]; exact List.length_pos_iff.2 hne
  obtain ⟨g, cp, rfl, hg2, hg3, hcs⟩ := h.at (i := 0) hp
  obtain ⟨_, _, hve, hvl, _⟩ := h.shape
  injection hve with _ _ hcc
  subst hcc
  rw [List.length_map] at hvl ⊢
  have hj := Tryz.strings_Join g 0 _ xs ⟨#[c]⟩ w (fun j x hj => by
    have hjl : j < xs.length := by
      rcases Nat.lt_or_ge j xs.length with h | h
      · exact h
      · rw [List.getElem?_eq_none h] at hj; cases hj
    rw [Nat.zero_add, hcs j (by rw [List.length_map]; exact hjl), List.getElem_map]
    rw [List.getElem?_eq_getElem hjl] at hj
    injection hj with hj
    rw [hj]) hg3 (by omega) hvl (by
      show (Lib.join (xs.map (·.data.toList)) [c]).length ≤ _
      rw [join_eq]; exact hlen)
  refine hj.mono ?_
  rintro e w' ⟨rfl, hb⟩
  refine ⟨_, rfl, ?_, Kept.ofB hb⟩
  show (Lib.join (xs.map (·.data.toList)) [c]) = _
  exact join_eq c _
set_option maxRecDepth 20000 in
set_option maxHeartbeats 8000000 in
theorem textA_six (hi lo : Nat) (h1 : hi < 18446744073709551616) (l1 : lo < 18446744073709551616) (w : World) (hT : Tabs w) : Calls Tryz.prog 69 #[.agg #[.bool true, .int .u64 (hi : Int), .int .u64 (lo : Int)]] w (WordR w (adrT ⟨true, hi, lo⟩)) := by
  have h9 := info9s
  have i0 : (0 : Int) ≤ (hi : Int) := Int.natCast_nonneg _
  have i1 : (hi : Int) ≤ 18446744073709551615 := by omega
  have j0 : (0 : Int) ≤ (lo : Int) := Int.natCast_nonneg _
  have j1 : (lo : Int) ≤ 18446744073709551615 := by omega
  have HT := Lib.hid hT
  clear hT
  go_enter Tryz.func69, Tryz.ntmps69
  go_wp2_with fail
  go_loopw [3, 16] (fun v n wr => ∃ (i : Nat) (xs : List ByteArray), i ≤ 2 ∧ n = .int .i64 (i : Int) ∧ Hid (Row wr w.heap.size 9 v (xs.map Value.string)) ∧ Hid (xs.map (·.data.toList) = ((if 1 ≤ i then grp hi else []) ++ (if 2 ≤ i then grp lo else [])).map (digB 16)) ∧ Hid (Kept (fun _ => False) w wr)) (fun _ n _ => 2 - (intOf n).toNat)
  case atStart => exact ⟨0, [], by omega, rfl, Lib.hid (Row.nil _ _ _), Lib.hid rfl, Lib.hid ((Kept.refl _ _).alloc _)⟩
  case round =>
    obtain ⟨i, xs, hi2, rfl, HR, HX, HK⟩ := hrel
    have wz := HK.out.size
    by_cases hlt : i < 2
    · obtain ⟨H, hHe⟩ : ∃ H, (if i = 0 then hi else lo) = H := ⟨_, rfl⟩
      have ii : i = 0 ∨ i = 1 := by omega
      have hH : H < 18446744073709551616 := by rw [← hHe]; split <;> omega
      have H0 : (0 : Int) ≤ (H : Int) := Int.natCast_nonneg _
      have H1 : (H : Int) ≤ 18446744073709551615 := by omega
      have hix : ∀ W : World, (Instr.index 119 (.agg #[.int .u64 (hi : Int), .int .u64 (lo : Int)]) (.int .i64 (i : Int))).run Tryz.prog W = .ok (.int .u64 (H : Int)) W := fun W => by
        rcases ii with rfl | rfl
        · obtain rfl : hi = H := hHe
          kernel_rfl
        · obtain rfl : lo = H := hHe
          kernel_rfl
      have HXE := Lib.hid (show ((if 1 ≤ i then grp hi else []) ++ (if 2 ≤ i then grp lo else [])) ++ grp H = ((if 1 ≤ i + 1 then grp hi else []) ++ (if 2 ≤ i + 1 then grp lo else [])) by
        rcases ii with rfl | rfl
        · obtain rfl : hi = H := hHe
          simp
        · obtain rfl : lo = H := hHe
          simp)
      obtain ⟨pre, hpre⟩ : ∃ pre, ((if 1 ≤ i then grp hi else []) ++ (if 2 ≤ i then grp lo else [])) = pre := ⟨_, rfl⟩
      rw [hpre] at HX HXE
      have HPL := Lib.hid (show pre.length ≤ 8 by rw [← hpre]; split <;> split <;> simp [grp])
      clear hHe hpre ii
      have iI : (i : Int) < 2 := by omega
      have i00 : (0 : Int) ≤ (i : Int) := Int.natCast_nonneg _
      go_upto_region 6 with fail
      go_upto_region 7 with fail
      go_loopw [3, 6] (fun v n wr2 => ∃ (j : Nat) (ys : List ByteArray) (s : Int), (j = 0 ∧ s = 48 ∨ j = 1 ∧ s = 32 ∨ j = 2 ∧ s = 16 ∨ j = 3 ∧ s = 0 ∨ j = 4 ∧ s = -16) ∧ n = .int .i64 s ∧ Hid (Row wr2 w.heap.size 9 v (ys.map Value.string)) ∧ Hid (ys.map (·.data.toList) = (pre.map (digB 16)) ++ ((grp H).take j).map (digB 16)) ∧ Hid (Kept (fun _ => False) w wr2)) (fun _ n _ => (intOf n + 16).toNat)
      case atStart => exact ⟨0, xs, 48, by omega, rfl, HR, Lib.hid (by rw [HX.out]; simp), HK⟩
      case round =>
        obtain ⟨j, ys, s, hjs, rfl, HR2, HX2, HK2⟩ := hrel
        have HLN := Lib.hid (show ys.length ≤ 12 by
          have := congrArg List.length HX2.out
          have hp := HPL.out
          simp only [List.length_map, List.length_append, List.length_take] at this
          omega)
        have hln := HLN.out
        rcases hjs with ⟨rfl, rfl⟩ | ⟨rfl, rfl⟩ | ⟨rfl, rfl⟩ | ⟨rfl, rfl⟩ | ⟨rfl, rfl⟩
        · skip
          have hand : bits .and .u64 ((H : Int) / 281474976710656) 65535 = ((H / 281474976710656 % 65536 : Nat) : Int) := and16 H 281474976710656 _ hH (by decide) (by omega)
          have hm0 : (0 : Int) ≤ ((H / 281474976710656 % 65536 : Nat) : Int) := Int.natCast_nonneg _
          have hm1 : ((H / 281474976710656 % 65536 : Nat) : Int) ≤ 65535 := by omega
          have HF := Lib.hid (format16 (H / 281474976710656 % 65536) (by omega) wr (HT.out.on HK2.out))
          go_wp2_with fail
          refine HF.out.mono ?_
          rintro e w3 ⟨y, rfl, hy, hk⟩
          have HY := Lib.hid hy
          have HR3 := Lib.hid (show Row w3 w.heap.size 9 u3 (ys.map Value.string) from Row.kept HR2.out hk (fun _ _ h => h))
          have HK3 := Lib.hid (HK2.out.trans hk)
          have wz3 := HK3.out.size
          clear hy hk HF hand hm0 hm1
          go_wp2_with (at_builtin; refine wpList_append_row rfl (.tmp 23) (.tmp 29) 54 rfl w.heap.size 9 (.string ByteArray.empty) 16 Tryz.underlying54 h9 rfl _ (ys.map Value.string) rfl (some ⟨_, 0, none⟩) 1 1 [.string y] rfl rfl (HR3.out.alloc _) (Src.new _ _ _ rfl) ?one ?a3 ?a4 ?a5 ?_)
          case one => simp [Value.oneCell']
          case a3 => simp; unfold maxLen; omega
          case a4 => simp; omega
          case a5 => simp; omega
          intro v4 w4 hrow hgr _
          have HR4 := Lib.hid (show Row w4 w.heap.size 9 v4 ((ys ++ [y]).map Value.string) by rw [List.map_append]; exact hrow)
          have HK4 := Lib.hid (HK3.out.then (((Kept.refl (fun i => w.heap.size ≤ i) _).alloc _).trans (Kept.of_grown hgr (fun i hi e => (HR3.out.lt i e.symm).1))) (fun i hi h => by omega))
          have wz4 := HK4.out.size
          clear hrow hgr
          go_wp2_with fail
          go_roundw
          case rel => exact ⟨0 + 1, ys ++ [y], 32, by omega, rfl, HR4, Lib.hid (by rw [List.map_append, HX2.out, List.map_cons, HY.out, List.append_assoc]; rfl), HK4⟩
          case measure => simp [intOf] <;> omega
        · skip
          have hand : bits .and .u64 ((H : Int) / 4294967296) 65535 = ((H / 4294967296 % 65536 : Nat) : Int) := and16 H 4294967296 _ hH (by decide) (by omega)
          have hm0 : (0 : Int) ≤ ((H / 4294967296 % 65536 : Nat) : Int) := Int.natCast_nonneg _
          have hm1 : ((H / 4294967296 % 65536 : Nat) : Int) ≤ 65535 := by omega
          have HF := Lib.hid (format16 (H / 4294967296 % 65536) (by omega) wr (HT.out.on HK2.out))
          go_wp2_with fail
          refine HF.out.mono ?_
          rintro e w3 ⟨y, rfl, hy, hk⟩
          have HY := Lib.hid hy
          have HR3 := Lib.hid (show Row w3 w.heap.size 9 u3 (ys.map Value.string) from Row.kept HR2.out hk (fun _ _ h => h))
          have HK3 := Lib.hid (HK2.out.trans hk)
          have wz3 := HK3.out.size
          clear hy hk HF hand hm0 hm1
          go_wp2_with (at_builtin; refine wpList_append_row rfl (.tmp 23) (.tmp 29) 54 rfl w.heap.size 9 (.string ByteArray.empty) 16 Tryz.underlying54 h9 rfl _ (ys.map Value.string) rfl (some ⟨_, 0, none⟩) 1 1 [.string y] rfl rfl (HR3.out.alloc _) (Src.new _ _ _ rfl) ?one ?a3 ?a4 ?a5 ?_)
          case one => simp [Value.oneCell']
          case a3 => simp; unfold maxLen; omega
          case a4 => simp; omega
          case a5 => simp; omega
          intro v4 w4 hrow hgr _
          have HR4 := Lib.hid (show Row w4 w.heap.size 9 v4 ((ys ++ [y]).map Value.string) by rw [List.map_append]; exact hrow)
          have HK4 := Lib.hid (HK3.out.then (((Kept.refl (fun i => w.heap.size ≤ i) _).alloc _).trans (Kept.of_grown hgr (fun i hi e => (HR3.out.lt i e.symm).1))) (fun i hi h => by omega))
          have wz4 := HK4.out.size
          clear hrow hgr
          go_wp2_with fail
          go_roundw
          case rel => exact ⟨1 + 1, ys ++ [y], 16, by omega, rfl, HR4, Lib.hid (by rw [List.map_append, HX2.out, List.map_cons, HY.out, List.append_assoc]; rfl), HK4⟩
          case measure => simp [intOf] <;> omega
        · skip
          have hand : bits .and .u64 ((H : Int) / 65536) 65535 = ((H / 65536 % 65536 : Nat) : Int) := and16 H 65536 _ hH (by decide) (by omega)
          have hm0 : (0 : Int) ≤ ((H / 65536 % 65536 : Nat) : Int) := Int.natCast_nonneg _
          have hm1 : ((H / 65536 % 65536 : Nat) : Int) ≤ 65535 := by omega
          have HF := Lib.hid (format16 (H / 65536 % 65536) (by omega) wr (HT.out.on HK2.out))
          go_wp2_with fail
          refine HF.out.mono ?_
          rintro e w3 ⟨y, rfl, hy, hk⟩
          have HY := Lib.hid hy
          have HR3 := Lib.hid (show Row w3 w.heap.size 9 u3 (ys.map Value.string) from Row.kept HR2.out hk (fun _ _ h => h))
          have HK3 := Lib.hid (HK2.out.trans hk)
          have wz3 := HK3.out.size
          clear hy hk HF hand hm0 hm1
          go_wp2_with (at_builtin; refine wpList_append_row rfl (.tmp 23) (.tmp 29) 54 rfl w.heap.size 9 (.string ByteArray.empty) 16 Tryz.underlying54 h9 rfl _ (ys.map Value.string) rfl (some ⟨_, 0, none⟩) 1 1 [.string y] rfl rfl (HR3.out.alloc _) (Src.new _ _ _ rfl) ?one ?a3 ?a4 ?a5 ?_)
          case one => simp [Value.oneCell']
          case a3 => simp; unfold maxLen; omega
          case a4 => simp; omega
          case a5 => simp; omega
          intro v4 w4 hrow hgr _
          have HR4 := Lib.hid (show Row w4 w.heap.size 9 v4 ((ys ++ [y]).map Value.string) by rw [List.map_append]; exact hrow)
          have HK4 := Lib.hid (HK3.out.then (((Kept.refl (fun i => w.heap.size ≤ i) _).alloc _).trans (Kept.of_grown hgr (fun i hi e => (HR3.out.lt i e.symm).1))) (fun i hi h => by omega))
          have wz4 := HK4.out.size
          clear hrow hgr
          go_wp2_with fail
          go_roundw
          case rel => exact ⟨2 + 1, ys ++ [y], 0, by omega, rfl, HR4, Lib.hid (by rw [List.map_append, HX2.out, List.map_cons, HY.out, List.append_assoc]; rfl), HK4⟩
          case measure => simp [intOf] <;> omega
        · skip
          have hand : bits .and .u64 (H : Int) 65535 = ((H % 65536 : Nat) : Int) := (and16 H 1 _ hH (by decide) (by simp)).trans (by rw [Nat.div_one])
          have hm0 : (0 : Int) ≤ ((H % 65536 : Nat) : Int) := Int.natCast_nonneg _
          have hm1 : ((H % 65536 : Nat) : Int) ≤ 65535 := by omega
          have HF := Lib.hid (format16 (H % 65536) (by omega) wr (HT.out.on HK2.out))
          go_wp2_with fail
          refine HF.out.mono ?_
          rintro e w3 ⟨y, rfl, hy, hk⟩
          have HY := Lib.hid hy
          have HR3 := Lib.hid (show Row w3 w.heap.size 9 u3 (ys.map Value.string) from Row.kept HR2.out hk (fun _ _ h => h))
          have HK3 := Lib.hid (HK2.out.trans hk)
          have wz3 := HK3.out.size
          clear hy hk HF hand hm0 hm1
          go_wp2_with (at_builtin; refine wpList_append_row rfl (.tmp 23) (.tmp 29) 54 rfl w.heap.size 9 (.string ByteArray.empty) 16 Tryz.underlying54 h9 rfl _ (ys.map Value.string) rfl (some ⟨_, 0, none⟩) 1 1 [.string y] rfl rfl (HR3.out.alloc _) (Src.new _ _ _ rfl) ?one ?a3 ?a4 ?a5 ?_)
          case one => simp [Value.oneCell']
          case a3 => simp; unfold maxLen; omega
          case a4 => simp; omega
          case a5 => simp; omega
          intro v4 w4 hrow hgr _
          have HR4 := Lib.hid (show Row w4 w.heap.size 9 v4 ((ys ++ [y]).map Value.string) by rw [List.map_append]; exact hrow)
          have HK4 := Lib.hid (HK3.out.then (((Kept.refl (fun i => w.heap.size ≤ i) _).alloc _).trans (Kept.of_grown hgr (fun i hi e => (HR3.out.lt i e.symm).1))) (fun i hi h => by omega))
          have wz4 := HK4.out.size
          clear hrow hgr
          go_wp2_with fail
          go_roundw
          case rel => exact ⟨3 + 1, ys ++ [y], -16, by omega, rfl, HR4, Lib.hid (by rw [List.map_append, HX2.out, List.map_cons, HY.out, List.append_assoc]; rfl), HK4⟩
          case measure => simp [intOf] <;> omega
        · skip
          go_wp2_with fail
          go_roundw
          case rel => exact ⟨i + 1, ys, by omega, by go_num, HR2, Lib.hid (by rw [HX2.out, ← HXE.out, List.map_append]; rfl), HK2⟩
          case measure => simp [intOf] <;> omega
    · obtain rfl : i = 2 := by omega
      have HX2 := Lib.hid (show xs.map (·.data.toList) = (grp hi ++ grp lo).map (digB 16) from HX.out)
      have hne : xs ≠ [] := fun e => by have := HX2.out; rw [e] at this; cases this
      have hln : xs.length = 8 := by have := congrArg List.length HX2.out; simpa [grp] using this
      have HJ := Lib.hid (join_row 58 xs HR.out hne (by omega) (by
        rw [HX2.out]
        refine Nat.le_trans (joinC_len_le 58 4 _ ?_) (by simp [grp])
        intro p hp
        obtain ⟨q, hq, rfl⟩ := List.mem_map.1 hp
        exact digB_len (b := 16) (by omega) 3 q (grp_lt hq)))
      rw [HX2.out] at HJ
      go_wp2_with fail
      refine HJ.out.mono ?_
      rintro e w3 ⟨y, rfl, hy, hk⟩
      have HY := Lib.hid hy
      have HK3 := Lib.hid (HK.out.trans hk)
      clear hy hk
      go_wp2_with fail
      go_ret
      exact ⟨y, rfl, HY.out, HK3.out⟩
theorem b8_nat (n : Int) (h : 0 ≤ n) : (b8 n).toNat = n.toNat % 256 := by
  have := b8_val n
  omega
theorem digs_by4 (lo : Nat) : (digs 4 (lo : Int)).map (·.toNat) = by4 lo := by
  unfold digs digs digs digs digs by4
  simp only [List.map_append, List.map_cons, List.map_nil, List.nil_append, List.cons_append]
  rw [b8_nat _ (by omega), b8_nat _ (by omega), b8_nat _ (by omega), b8_nat _ (by omega)]
  simp only [List.cons.injEq, and_true]
  omega
set_option maxRecDepth 20000 in
set_option maxHeartbeats 8000000 in
theorem textA_four (hi lo : Nat) (h1 : hi < 18446744073709551616) (l1 : lo < 18446744073709551616) (w : World) (hT : Tabs w) : Calls Tryz.prog 69 #[.agg #[.bool false, .int .u64 (hi : Int), .int .u64 (lo : Int)]] w (WordR w (adrT ⟨false, hi, lo⟩)) := by
  have h9 := info9s
  have HT := Lib.hid hT
  have HBY := Lib.hid (fun W => adBytes_any ⟨false, (hi : Int), (lo : Int)⟩ W ⟨Int.natCast_nonneg _, by show (hi : Int) < 18446744073709551616; omega, Int.natCast_nonneg _, by show (lo : Int) < 18446744073709551616; omega⟩)
  clear hT
  go_enter Tryz.func69, Tryz.ntmps69
  go_wp2_with fail
  refine (HBY.out _).mono ?_
  rintro e w2 ⟨v, rfl, hrow, hb⟩
  obtain ⟨bs, hbs⟩ : ∃ bs, digs 4 (lo : Int) = bs := ⟨_, rfl⟩
  have hrow' : Row w2 (w.alloc (.cells #[.bool false, .int .u64 (hi : Int), .int .u64 (lo : Int)] 25)).heap.size 5 v (bcs bs) := by rw [← hbs]; exact hrow
  have hl4 : bs.length = 4 := by rw [← hbs, digs_length]
  have HBS := Lib.hid (show bs.map (·.toNat) = by4 lo by rw [← hbs]; exact digs_by4 lo)
  obtain ⟨g, c, rfl, hg0, hg1, hcs⟩ := hrow'.at (i := 0) (by rw [bcs_length]; omega)
  have HK := Lib.hid (show Kept (fun _ => False) w w2 from ((Kept.refl _ _).alloc _).trans (Kept.ofB hb))
  have wz := HK.out.size
  have HC := Lib.hid hcs
  have hbl : (bcs bs).length = 4 := by rw [bcs_length, hl4]
  rw [hbl]
  clear hrow hrow' hb hcs hg0 hbs
  go_wp2_with fail
  go_loopw [3, 37] (fun v n wr => ∃ (k : Nat) (xs : List ByteArray), k ≤ 4 ∧ n = .int .i64 (k : Int) ∧ Hid (Row wr w2.heap.size 9 v (xs.map Value.string)) ∧ Hid (xs.map (·.data.toList) = (bs.take k).map fun b => digB 10 b.toNat) ∧ Hid (Kept (fun _ => False) w2 wr)) (fun _ n _ => 4 - (intOf n).toNat)
  case atStart => exact ⟨0, [], by omega, rfl, Lib.hid (Row.nil _ _ _), Lib.hid rfl, Lib.hid (Kept.refl _ _)⟩
  case round =>
    obtain ⟨k, xs, hk, rfl, HR2, HX, HK2⟩ := hrel
    have wz2 := HK2.out.size
    have HLN := Lib.hid (show xs.length ≤ 4 by
      have := congrArg List.length HX.out
      simp only [List.length_map, List.length_take] at this
      omega)
    have hln := HLN.out
    by_cases hlt : k < 4
    · have hkb : k < bs.length := by omega
      obtain ⟨x, hx⟩ : ∃ x, bs[k] = x := ⟨_, rfl⟩
      have c0 : wr.cell? ⟨g, k, none⟩ = some (.int .u8 (x.toNat : Int)) := by
        rw [HK2.out.cell hg1 (fun h => h), HC.out k (by rw [bcs_length]; exact hkb)]
        simp [bcs, ← hx]
      have HTK := Lib.hid (show bs.take (k + 1) = bs.take k ++ [x] by rw [List.take_succ_eq_append_getElem hkb, hx])
      have kI : (k : Int) < 4 := by omega
      have k0 : (0 : Int) ≤ (k : Int) := Int.natCast_nonneg _
      have x0 : (0 : Int) ≤ (x.toNat : Int) := Int.natCast_nonneg _
      have x1 := byte_le x
      have HD := Lib.hid (decimal_any (x.toNat : Int) (by omega) (by omega) wr ((HT.out.on HK.out).on HK2.out))
      clear hx
      go_wp2_with fail
      refine HD.out.mono ?_
      rintro e w3 ⟨y, rfl, hy, hk3⟩
      have HY := Lib.hid (show y.data.toList = digB 10 x.toNat by rw [hy, numT_nat])
      have HR3 := Lib.hid (show Row w3 w2.heap.size 9 u3 (xs.map Value.string) from Row.kept HR2.out hk3 (fun _ _ h => h))
      have HK3 := Lib.hid (HK2.out.trans hk3)
      have wz3 := HK3.out.size
      clear hy hk3 HD c0
      go_wp2_with (at_builtin; refine wpList_append_row rfl (.tmp 41) (.tmp 45) 54 rfl w2.heap.size 9 (.string ByteArray.empty) 16 Tryz.underlying54 h9 rfl _ (xs.map Value.string) rfl (some ⟨_, 0, none⟩) 1 1 [.string y] rfl rfl (HR3.out.alloc _) (Src.new _ _ _ rfl) ?one ?a3 ?a4 ?a5 ?_)
      case one => simp [Value.oneCell']
      case a3 => simp; unfold maxLen; omega
      case a4 => simp; omega
      case a5 => simp; omega
      intro v4 w4 hrow hgr _
      have HR4 := Lib.hid (show Row w4 w2.heap.size 9 v4 ((xs ++ [y]).map Value.string) by rw [List.map_append]; exact hrow)
      have HK4 := Lib.hid (HK3.out.then (((Kept.refl (fun i => w2.heap.size ≤ i) _).alloc _).trans (Kept.of_grown hgr (fun i hi e => (HR3.out.lt i e.symm).1))) (fun i hi h => by omega))
      have wz4 := HK4.out.size
      clear hrow hgr
      go_wp2_with fail
      go_roundw
      case rel => exact ⟨k + 1, xs ++ [y], by omega, by go_num, HR4, Lib.hid (by rw [List.map_append, HX.out, HTK.out, List.map_append, List.map_cons, HY.out]; rfl), HK4⟩
      case measure => simp [intOf] <;> omega
    · obtain rfl : k = 4 := by omega
      have HX2 := Lib.hid (show xs.map (·.data.toList) = (by4 lo).map (digB 10) by
        rw [HX.out, List.take_of_length_le (by omega), ← HBS.out, List.map_map]
        rfl)
      have hne : xs ≠ [] := fun e => by have := HX2.out; rw [e] at this; cases this
      have HJ := Lib.hid (join_row 46 xs HR2.out hne (by omega) (by
        rw [HX2.out]
        refine Nat.le_trans (joinC_len_le 46 3 _ ?_) (by simp [by4])
        intro p hp
        obtain ⟨q, hq, rfl⟩ := List.mem_map.1 hp
        refine digB_len (b := 10) (by omega) 2 q ?_
        have e : (10 ^ (2 + 1) : Nat) = 1000 := rfl
        rw [e]
        unfold by4 at hq
        simp only [List.mem_cons, List.not_mem_nil, or_false] at hq
        omega))
      rw [HX2.out] at HJ
      go_wp2_with fail
      refine HJ.out.mono ?_
      rintro e w3 ⟨y, rfl, hy, hk3⟩
      have HY := Lib.hid hy
      have HK3 := Lib.hid ((HK.out.trans HK2.out).trans hk3)
      clear hy hk3
      go_wp2_with fail
      go_ret
      exact ⟨y, rfl, HY.out, HK3.out⟩
theorem addrText_any (a : Adr) (h1 : a.hi < 18446744073709551616) (l1 : a.lo < 18446744073709551616) (w : World) (hT : Tabs w) : Calls Tryz.prog 69 #[.agg #[.bool a.six, .int .u64 (a.hi : Int), .int .u64 (a.lo : Int)]] w (WordR w (adrT a)) := by
  obtain ⟨six, hi, lo⟩ := a
  cases six with
  | true => exact textA_six hi lo h1 l1 w hT
  | false => exact textA_four hi lo h1 l1 w hT
set_option maxHeartbeats 2000000 in
theorem right_any (a : Adr) (w : World) : Calls Tryz.prog 68 #[.agg #[.bool a.six, .int .u64 (a.hi : Int), .int .u64 (a.lo : Int)]] w fun e w' => e = .returned (.bool (rightA a)) ∧ Kept (fun _ => False) w w' := by
  obtain ⟨six, hi, lo⟩ := a
  simp only
  cases six with
  | true =>
    go_enter Tryz.func68, Tryz.ntmps68
    go_wp2_with fail
    go_ret
    exact ⟨rfl, (Kept.refl _ _).alloc _⟩
  | false =>
    by_cases h : hi = 0
    · subst h
      have HE := Lib.hid (show rightA ⟨false, 0, lo⟩ = decide ((lo : Int) < 4294967296) by unfold rightA; simp; omega)
      go_enter Tryz.func68, Tryz.ntmps68
      go_wp2_with fail
      go_ret
      exact ⟨by rw [HE.out]; rfl, (Kept.refl _ _).alloc _⟩
    · have h' : ((hi : Int) == 0) = false := by simp; omega
      have HE := Lib.hid (show rightA ⟨false, hi, lo⟩ = false by unfold rightA; simp [h])
      go_enter Tryz.func68, Tryz.ntmps68
      go_wp2_with fail
      go_ret
      exact ⟨by rw [HE.out]; rfl, (Kept.refl _ _).alloc _⟩
set_option maxRecDepth 20000 in
set_option maxHeartbeats 2000000 in
theorem text_any (a : Adr) (h1 : a.hi < 18446744073709551616) (l1 : a.lo < 18446744073709551616) (w : World) (hT : Tabs w) : Calls Tryz.prog 45 #[.agg #[.bool a.six, .int .u64 (a.hi : Int), .int .u64 (a.lo : Int)]] w (WordR w (textA a)) := by
  have HT := Lib.hid hT
  have HRT := Lib.hid (fun W => right_any a W)
  have HTX := Lib.hid (fun W h => addrText_any a h1 l1 W h)
  have HE := Lib.hid (show textA a = if rightA a = true then adrT a else [] from rfl)
  generalize textA a = t at HE
  generalize adrT a = t2 at HE HTX
  generalize rightA a = b at HE HRT
  clear hT
  go_enter Tryz.func45, Tryz.ntmps45
  go_upto_region 1 with fail
  obtain ⟨w1, hw1⟩ : ∃ w1 : World, w1 = w.alloc (.cells #[.bool a.six, .int .u64 (a.hi : Int), .int .u64 (a.lo : Int)] 25) := ⟨_, rfl⟩
  have HK1 := Lib.hid (show Kept (fun _ => False) w w1 by rw [hw1]; exact (Kept.refl _ _).alloc _)
  have HN := Lib.hid (show Blk w1 w.heap.size 25 #[.bool a.six, .int .u64 (a.hi : Int), .int .u64 (a.lo : Int)] by rw [hw1]; exact Blk.new _ _ _)
  rw [← hw1]
  clear hw1
  have cB := HN.out.cell
  go_wp2_with fail
  refine (HRT.out w1).mono ?_
  rintro e w2 ⟨rfl, hk⟩
  have HK2 := Lib.hid (HK1.out.trans hk)
  have HN2 := Lib.hid (HN.out.kept hk (fun h => h))
  clear hk cB HN HK1
  have cB := HN2.out.cell
  cases b with
  | true =>
    go_wp2_with fail
    refine (HTX.out w2 (HT.out.on HK2.out)).mono ?_
    rintro e w3 ⟨y, rfl, hy, hk⟩
    have HY := Lib.hid (show y.data.toList = t by rw [HE.out, hy]; rfl)
    have HK3 := Lib.hid (HK2.out.trans hk)
    clear hy hk
    go_wp2_with fail
    go_ret
    exact ⟨y, rfl, HY.out, HK3.out⟩
  | false =>
    go_wp2_with fail
    go_ret
    exact ⟨_, rfl, by rw [HE.out]; rfl, HK2.out⟩
end Go.Proofs.YthfdhggcnkgjfaaGreatDoor
