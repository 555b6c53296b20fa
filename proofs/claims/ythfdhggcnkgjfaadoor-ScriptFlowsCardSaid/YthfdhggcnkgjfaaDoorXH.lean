/- The document's Flow at any text. -/
import Derived.Test.YthfdhggcnkgjfaaDoorXG
import Derived.Test.YthfdhggcnkgjfaaDoorRgF
import Derived.Test.YthfdhggcnkgjfaaDoorWF
namespace Go.Proofs.YthfdhggcnkgjfaaDoor
open Go.RowKit
set_option linter.unusedVariables false
set_option linter.unusedSimpArgs false
theorem fit2 (a p : List UInt8) : fitS [97, 80] [a, p] Fd.zero = (addrP a).bind fun x => (numP 10 65535 p).map fun n => { Fd.zero with a := x, po := n } := by
  rw [fitS, fitStep_a]
  cases addrP a with
  | none => rfl
  | some x =>
    show fitS [80] [p] _ = _
    rw [fitS, fitStep_P]
    cases numP 10 65535 p <;> rfl
theorem fit3 (a p r : List UInt8) : fitS [97, 80, 112] [a, p, r] Fd.zero = (addrP a).bind fun x => (numP 10 65535 p).bind fun n => (protoP r).map fun t => { Fd.zero with a := x, po := n, p := t } := by
  rw [fitS, fitStep_a]
  cases addrP a with
  | none => rfl
  | some x =>
    show fitS [80, 112] [p, r] _ = _
    rw [fitS, fitStep_P]
    cases numP 10 65535 p with
    | none => rfl
    | some n =>
      show fitS [112] [r] _ = _
      rw [fitS, fitStep_p]
      cases protoP r <;> rfl
def pairF (a b : Option Fd) : Option Flw := match a, b with
  | some f, some g => some ⟨f.a, g.a, f.po, g.po, g.p⟩
  | _, _ => none
theorem flowW_fit (ws : List (List UInt8)) : flowW ws = if ws.length = 5 then pairF (fitS [97, 80] (ws.take 2) Fd.zero) (fitS [97, 80, 112] (ws.drop 2) Fd.zero) else none := by
  match ws with
  | [] => rfl
  | [_] => rfl
  | [_, _] => rfl
  | [_, _, _] => rfl
  | [_, _, _, _] => rfl
  | _ :: _ :: _ :: _ :: _ :: _ :: l =>
    rw [if_neg (by simp)]
    rfl
  | [a, p, b, q, r] =>
    rw [if_pos (show [a, p, b, q, r].length = 5 from rfl)]
    show flowW [a, p, b, q, r] = pairF (fitS [97, 80] [a, p] Fd.zero) (fitS [97, 80, 112] [b, q, r] Fd.zero)
    rw [fit2, fit3]
    unfold flowW
    simp only
    cases addrP a with
    | none => rfl
    | some x =>
      cases numP 10 65535 p with
      | none => rfl
      | some n =>
        cases addrP b with
        | none => rfl
        | some y =>
          cases numP 10 65535 q with
          | none => rfl
          | some m => cases protoP r <;> rfl
theorem fitStep_po {c : UInt8} {ws ws' : List (List UInt8)} {f g : Fd} (h : fitStep c ws f = some (ws', g)) (hf : f.po ≤ 65535) : g.po ≤ 65535 := by
  unfold fitStep at h
  cases ws with
  | nil => cases h
  | cons w ws =>
    simp only at h
    repeat' split at h
    all_goals try (simp only [Option.map_eq_some_iff] at h)
    all_goals try (obtain ⟨a, ha, h⟩ := h)
    all_goals try (injection h with h1 h2)
    all_goals try (injection h1 with h1 h2)
    all_goals try (subst h2)
    all_goals first | exact hf | exact numP_le ha
theorem fitS_po : ∀ {p : List UInt8} {ws : List (List UInt8)} {f g : Fd}, fitS p ws f = some g → f.po ≤ 65535 → g.po ≤ 65535
  | [], ws, f, g, h, hf => by
    unfold fitS at h
    split at h
    · injection h with h; subst h; exact hf
    · cases h
  | c :: p, ws, f, g, h, hf => by
    unfold fitS at h
    cases hs : fitStep c ws f with
    | none => rw [hs] at h; cases h
    | some q =>
      obtain ⟨ws', f'⟩ := q
      rw [hs] at h
      exact fitS_po h (fitStep_po hs hf)
/-- What a fit hands back, without its memory. -/
def FitV (o : Option Fd) (v : Value) : Prop := ∃ LA ln lc NA nn nc, ∃ f : Fd, ∃ ok : Bool, v = .agg #[.int .i64 0, .int .i64 0, .int .i64 0, .int .i64 0, .int .i64 0, .bool false, .int .u64 0, .int .u64 0, .int .u16 0, .int .u8 0, .int .i64 0, .slice none 0 0, .int .i64 0, .int .i64 0, .int .u8 0, (.slice LA ln lc), .int .u32 0, .int .u32 0, .int .u32 0, .bool false, .int .u64 0, .int .u64 0, .int .u16 0, (.slice NA nn nc), .bool f.a.six, .int .u64 (f.a.hi : Int), .int .u64 (f.a.lo : Int), .int .i64 (f.po : Int), .int .u8 (f.p : Int), .int .i64 (f.wy : Int), .bool ok] ∧ (match o with
  | none => ok = false
  | some g => ok = true ∧ f = g)
theorem FitV.some (o : Option Fd) : ∃ v, FitV o v := by
  cases o with
  | none => exact ⟨_, none, 0, 0, none, 0, 0, Fd.zero, false, rfl, rfl⟩
  | some f => exact ⟨_, none, 0, 0, none, 0, 0, f, true, rfl, rfl, rfl⟩
theorem fitRet_fv {w w' : World} {o : Option Fd} {e : Ending} (h : FitRet w o e w') : ∃ v, e = .returned v ∧ FitV o v := by
  obtain ⟨hb, hm⟩ := h
  cases o with
  | none => exact ⟨_, hm, none, 0, 0, none, 0, 0, Fd.zero, false, rfl, rfl⟩
  | some f =>
    obtain ⟨lv, nv, he, hl, hn⟩ := hm
    obtain ⟨LA, lc, rfl, -⟩ := hl
    obtain ⟨NA, nc, rfl, -⟩ := hn.shape
    exact ⟨_, he, LA, _, lc, NA, _, nc, f, true, rfl, rfl, rfl⟩
theorem Blk.setsFar {w : World} {g b t : Nat} {cs : Array Value} {vs : List Value} {o : Nat} (h : Blk w b t cs) (hne : g ≠ b) : Blk (w.setCells g o vs) b t cs :=
  h.kept (Kept.setCells (S := fun i => i = g) rfl vs o (Kept.refl _ _)) (fun e => hne e.symm)
theorem Blk.setsFar' {w : World} {g b t : Nat} {cs : Array Value} {vs : List Value} {o : Nat} (h : Blk w g t cs) (hne : g ≠ b) : Blk (w.setCells b o vs) g t cs := h.setsFar (fun e => hne e.symm)
theorem fresh_alloc (o : Oper) (ho : o.op = .alloc 63) : FreshOp Tryd.prog o := FreshOp.of fun a w => ⟨.cells #[.int .i64 0, .int .i64 0, .int .i64 0, .int .i64 0, .int .i64 0, .bool false, .int .u64 0, .int .u64 0, .int .u16 0, .int .u8 0, .int .i64 0, .slice none 0 0, .int .i64 0, .int .i64 0, .int .u8 0, .slice none 0 0, .int .u32 0, .int .u32 0, .int .u32 0, .bool false, .int .u64 0, .int .u64 0, .int .u16 0, .slice none 0 0, .bool false, .int .u64 0, .int .u64 0, .int .i64 0, .int .u8 0, .int .i64 0, .bool false] 63, by
  cases o
  subst ho
  go_simp⟩
set_option maxRecDepth 20000 in
set_option maxHeartbeats 16000000 in
theorem refFlow_any (s : ByteArray) (hz : s.size ≤ 1000) (w : World) : Calls Tryd.prog 7 #[.string s] w fun e w' => e = .returned (.tuple #[flowV (flowP s.data.toList), .bool (flowP s.data.toList).isSome]) ∧ Below w.heap.size w w' := by
  have HW := Lib.hid (fun W => words_any s hz W)
  go_enter Tryd.func7, Tryd.ntmps7
  go_upto_region 1 with fail
  obtain ⟨w1, hw1⟩ : ∃ w1 : World, w1 = w.alloc (.cells #[.bool false, .int .u64 0, .int .u64 0, .bool false, .int .u64 0, .int .u64 0, .int .u16 0, .int .u16 0, .int .u8 0] 28) := ⟨_, rfl⟩
  have HR1 := Lib.hid (show Blk w1 w.heap.size 28 #[.bool false, .int .u64 0, .int .u64 0, .bool false, .int .u64 0, .int .u64 0, .int .u16 0, .int .u16 0, .int .u8 0] by rw [hw1]; exact Blk.new _ _ _)
  have HK1 := Lib.hid (show Kept (fun _ => False) w w1 by rw [hw1]; exact (Kept.refl _ _).alloc _)
  rw [← hw1]
  clear hw1
  obtain ⟨rb, hrb⟩ : ∃ rb, w.heap.size = rb := ⟨_, rfl⟩
  have HRB := Lib.hid hrb
  rw [hrb] at HR1 ⊢
  clear hrb
  go_wp2_with fail
  refine (HW.out w1).mono ?_
  rintro e w2 ⟨v, xs, rfl, hrow, hxp, hb2⟩
  have HR2 := Lib.hid (HR1.out.below hb2 HR1.out.lt)
  have HK2 := Lib.hid (HK1.out.trans (Kept.ofB (S := fun _ => False) hb2))
  have HFL := Lib.hid (show flowP s.data.toList = flowW (parts 32 s.data.toList) from rfl)
  rw [flowW_fit, ← hxp] at HFL
  have HZ := Lib.hid (show (joinC 32 (xs.map (·.data.toList))).length ≤ 1000 by rw [hxp, join_parts, ← Lib.size_eq]; exact hz)
  clear hb2 HW HR1 HK1 hxp
  obtain ⟨A0, c, rfl, hc1, hc2⟩ := hrow.shape
  rw [List.length_map] at hc1 ⊢
  by_cases h5 : xs.length = 5
  · match xs, h5 with
    | [x0, x1, x2, x3, x4], _ =>
      obtain ⟨g, c', hve, hgb, hgl, hce⟩ := hrow.at (i := 0) (by simp)
      injection hve with e1 e2 e3
      subst e1
      unfold maxLen at hc2
      simp only [List.length_cons, List.length_nil] at hc1
      have HT := Lib.hid (show StrAt w2 g 0 [x0, x1, x2, x3, x4] from fun k hk => by
        rw [Nat.zero_add, hce k (by simpa using hk)]
        exact congrArg some (List.getElem_map _))
      have HS1 := Lib.hid (show ∀ u, Kept (fun _ => False) w2 u → SS u u.heap.size (some ⟨g, 0, none⟩) [x0, x1] from fun u hk => .inr ⟨g, 0, Nat.lt_of_lt_of_le hgl hk.size, rfl, fun k hk' => by
        have hk2 : k < 2 := by simpa using hk'
        rw [hk.cell hgl (fun h => h), HT.out k (by simp; omega)]
        match k, hk2 with
        | 0, _ => rfl
        | 1, _ => rfl⟩)
      have HS2 := Lib.hid (show ∀ u, Kept (fun _ => False) w2 u → SS u u.heap.size (some ⟨g, 2, none⟩) [x2, x3, x4] from fun u hk => .inr ⟨g, 2, Nat.lt_of_lt_of_le hgl hk.size, rfl, fun k hk' => by
        have hk2 : k < 3 := by simpa using hk'
        have := HT.out (2 + k) (by simp; omega)
        rw [Nat.zero_add] at this
        rw [hk.cell hgl (fun h => h), this]
        match k, hk2 with
        | 0, _ => rfl
        | 1, _ => rfl
        | 2, _ => rfl⟩)
      have HZ1 := Lib.hid (show (joinC 32 ([x0, x1].map (·.data.toList))).length ≤ 1000 from Nat.le_trans (joinC_take_le 32 ([x0, x1, x2, x3, x4].map (·.data.toList)) 2) HZ.out)
      have HZ2 := Lib.hid (show (joinC 32 ([x2, x3, x4].map (·.data.toList))).length ≤ 1000 by
        have h1 := (joinC_tail_len x0.data.toList ([x1, x2, x3, x4].map (·.data.toList))).2
        have h2 := (joinC_tail_len x1.data.toList ([x2, x3, x4].map (·.data.toList))).2
        have h3 := HZ.out
        simp only [List.map_cons] at h1 h2 h3 ⊢
        omega)
      rw [if_pos (show (([x0, x1, x2, x3, x4] : List ByteArray).map (·.data.toList)).length = 5 from rfl)] at HFL
      obtain ⟨o1, ho1⟩ : ∃ o1, fitS [97, 80] ([x0, x1].map (·.data.toList)) Fd.zero = o1 := ⟨_, rfl⟩
      obtain ⟨o2, ho2⟩ : ∃ o2, fitS [97, 80, 112] ([x2, x3, x4].map (·.data.toList)) Fd.zero = o2 := ⟨_, rfl⟩
      have HFW := Lib.hid (show flowP s.data.toList = pairF o1 o2 by rw [HFL.out, ← ho1, ← ho2]; rfl)
      have HP1 := Lib.hid (show ∀ f, o1 = some f → f.po ≤ 65535 from fun f e => fitS_po (ho1.trans e) (by decide))
      have HP2 := Lib.hid (show ∀ f, o2 = some f → f.po ≤ 65535 from fun f e => fitS_po (ho2.trans e) (by decide))
      have HO1 := Lib.hid ho1
      have HO2 := Lib.hid ho2
      clear hrow hce e2 e3 HFL ho1 ho2 HZ
      have hc2' : ¬ c = 2 := by omega
      have hcI : (2 : Int) ≤ (c : Int) := by omega
      go_upto_region 4 with fail
      refine wp_region_fresh 8 (fun _ => False) [] [] [] [(2, fun v u => FitV o1 v), (5, fun v u => FitV o2 v), (6, fun v u => ∃ g, v = .pointer (some ⟨g, 0, none⟩) ∧ w2.heap.size ≤ g ∧ Blk u g 63 #[.int .i64 0, .int .i64 0, .int .i64 0, .int .i64 0, .int .i64 0, .bool false, .int .u64 0, .int .u64 0, .int .u16 0, .int .u8 0, .int .i64 0, .slice none 0 0, .int .i64 0, .int .i64 0, .int .u8 0, .slice none 0 0, .int .u32 0, .int .u32 0, .int .u32 0, .bool false, .int .u64 0, .int .u64 0, .int .u16 0, .slice none 0 0, .bool false, .int .u64 0, .int .u64 0, .int .i64 0, .int .u8 0, .int .i64 0, .bool false]), (7, fun v u => ∃ g, v = .pointer (some ⟨g, 0, none⟩) ∧ w2.heap.size ≤ g ∧ Blk u g 63 #[.int .i64 0, .int .i64 0, .int .i64 0, .int .i64 0, .int .i64 0, .bool false, .int .u64 0, .int .u64 0, .int .u16 0, .int .u8 0, .int .i64 0, .slice none 0 0, .int .i64 0, .int .i64 0, .int .u8 0, .slice none 0 0, .int .u32 0, .int .u32 0, .int .u32 0, .bool false, .int .u64 0, .int .u64 0, .int .u16 0, .slice none 0 0, .bool false, .int .u64 0, .int .u64 0, .int .i64 0, .int .u8 0, .int .i64 0, .bool false])] [6, 7] ?fr ?st ?ne rfl (by kernel_rfl) (by kernel_rfl) (by kernel_rfl) (by kernel_rfl) ?_
      case fr =>
        intro i o ho hi
        have hi' : i = 6 ∨ i = 7 := by simpa using hi
        rcases hi' with rfl | rfl
        all_goals (injection (show some _ = some o from ho) with e; subst e; exact @fresh_alloc _ rfl)
      case st =>
        intro p hp
        simp only [List.mem_cons, List.not_mem_nil, or_false] at hp
        rcases hp with rfl | rfl | rfl | rfl
        · intro v u u' h hk; exact h
        · intro v u u' h hk; exact h
        · rintro v u u' ⟨g, rfl, h1, h⟩ hk; exact ⟨g, rfl, h1, h.kept hk (fun h => h)⟩
        · rintro v u u' ⟨g, rfl, h1, h⟩ hk; exact ⟨g, rfl, h1, h.kept hk (fun h => h)⟩
      case ne =>
        intro p hp
        simp only [List.mem_cons, List.not_mem_nil, or_false] at hp
        rcases hp with rfl | rfl | rfl | rfl
        · exact ⟨_, _, Kept.refl _ _, (FitV.some o1).choose_spec⟩
        · exact ⟨_, _, Kept.refl _ _, (FitV.some o2).choose_spec⟩
        · exact ⟨_, _, (Kept.refl _ _).alloc _, _, rfl, Nat.le_refl _, Blk.new _ _ _⟩
        · exact ⟨_, _, (Kept.refl _ _).alloc _, _, rfl, Nat.le_refl _, Blk.new _ _ _⟩
      simp only [List.take_succ_cons, List.take_zero, List.drop_succ_cons, List.drop_zero]
      intro G pick pick0 hR hp1 hp2 hpk hq1 hq2
      repeat (first | (refine wpR_peek hq2 rfl ((hR.rel _).trans rfl) ((hpk _).trans rfl) rfl ?_; intro K hK; go_big_quiet_op; go_big_quiet_on) | (refine wpR_det hp2 rfl ((hR.rel _).trans rfl) rfl ?_; intro K hK; go_big_quiet_op; go_big_quiet_on) | (refine wpR_ptr hp2 rfl ((hR.rel _).trans rfl) rfl rfl ?_; intro K hK; go_big_quiet_op; go_big_quiet_on) | (refine wpR_skip pick rfl ?_; intro K hK; go_big_quiet_op; go_big_quiet_on))
      refine wpR_rel pick rfl ((hR.rel _).trans rfl) ((hR.turns _).trans rfl) ?_ ?_
      · intro u hu
        have hk := hR.since hu.1
        have hks := hk.size
        have hz := fit_any ⟨#[97, 80]⟩ [x0, x1] (some ⟨g, 0, none⟩) (c) u (by decide) (by simp; omega) (by unfold maxLen; omega) HZ1.out (HS1.out u hk)
        unfold relAt
        go_simp
        refine hz.mono ?_
        rintro e w' ⟨hb', hf'⟩
        obtain ⟨v', rfl, hv'⟩ := fitRet_fv (o := o1) (e := e) (w' := w') (w := u) ⟨hb', by rw [← HO1.out]; exact hf'⟩
        exact ⟨_, rfl, hR.intoB hb', hR.put 0 rfl rfl hv'⟩
      intro v hv
      obtain ⟨u, _, hu⟩ := hv
      obtain ⟨LA1, ln1, lc1, NA1, nn1, nc1, f1, ok1, rfl, hf1⟩ := hR.get 0 rfl hu
      clear hu
      have HF1 := Lib.hid hf1
      clear hf1
      intro K hK
      go_big_quiet_op
      go_big_quiet_on
      repeat (first | (refine wpR_peek hq2 rfl ((hR.rel _).trans rfl) ((hpk _).trans rfl) rfl ?_; intro K hK; go_big_quiet_op; go_big_quiet_on) | (refine wpR_det hp2 rfl ((hR.rel _).trans rfl) rfl ?_; intro K hK; go_big_quiet_op; go_big_quiet_on) | (refine wpR_ptr hp2 rfl ((hR.rel _).trans rfl) rfl rfl ?_; intro K hK; go_big_quiet_op; go_big_quiet_on) | (refine wpR_skip pick rfl ?_; intro K hK; go_big_quiet_op; go_big_quiet_on))
      refine wpR_rel pick rfl ((hR.rel _).trans rfl) ((hR.turns _).trans rfl) ?_ ?_
      · intro u hu
        have hk := hR.since hu.1
        have hks := hk.size
        have hz := fit_any ⟨#[97, 80, 112]⟩ [x2, x3, x4] (some ⟨g, 2, none⟩) (c - 2) u (by decide) (by simp; omega) (by unfold maxLen; omega) HZ2.out (HS2.out u hk)
        unfold relAt
        go_simp
        refine hz.mono ?_
        rintro e w' ⟨hb', hf'⟩
        obtain ⟨v', rfl, hv'⟩ := fitRet_fv (o := o2) (e := e) (w' := w') (w := u) ⟨hb', by rw [← HO2.out]; exact hf'⟩
        exact ⟨_, rfl, hR.intoB hb', hR.put 1 rfl rfl hv'⟩
      intro v hv
      obtain ⟨u, _, hu⟩ := hv
      obtain ⟨LA2, ln2, lc2, NA2, nn2, nc2, f2, ok2, rfl, hf2⟩ := hR.get 1 rfl hu
      clear hu
      have HF2 := Lib.hid hf2
      clear hf2
      intro K hK
      go_big_quiet_op
      go_big_quiet_on
      repeat (first | (refine wpR_peek hq2 rfl ((hR.rel _).trans rfl) ((hpk _).trans rfl) rfl ?_; intro K hK; go_big_quiet_op; go_big_quiet_on) | (refine wpR_det hp2 rfl ((hR.rel _).trans rfl) rfl ?_; intro K hK; go_big_quiet_op; go_big_quiet_on) | (refine wpR_ptr hp2 rfl ((hR.rel _).trans rfl) rfl rfl ?_; intro K hK; go_big_quiet_op; go_big_quiet_on) | (refine wpR_skip pick rfl ?_; intro K hK; go_big_quiet_op; go_big_quiet_on))
      refine wpR_rel pick rfl ((hR.rel _).trans rfl) ((hR.turns _).trans rfl) ?_ ?_
      · intro u hu
        have hk := hR.since hu.1
        have hks := hk.size
        unfold relAt
        go_simp
        exact ⟨hR.into0 ((Kept.refl _ _).alloc _), hR.put 2 rfl rfl ⟨_, rfl, hks, Blk.new _ _ _⟩⟩
      intro v hv
      obtain ⟨u, _, hu⟩ := hv
      obtain ⟨ga, rfl, hga, -⟩ := hR.get 2 rfl hu
      clear hu
      intro K hK
      go_big_quiet_op
      go_big_quiet_on
      repeat (first | (refine wpR_peek hq2 rfl ((hR.rel _).trans rfl) ((hpk _).trans rfl) rfl ?_; intro K hK; go_big_quiet_op; go_big_quiet_on) | (refine wpR_det hp2 rfl ((hR.rel _).trans rfl) rfl ?_; intro K hK; go_big_quiet_op; go_big_quiet_on) | (refine wpR_ptr hp2 rfl ((hR.rel _).trans rfl) rfl rfl ?_; intro K hK; go_big_quiet_op; go_big_quiet_on) | (refine wpR_skip pick rfl ?_; intro K hK; go_big_quiet_op; go_big_quiet_on))
      refine wpR_rel pick rfl ((hR.rel _).trans rfl) ((hR.turns _).trans rfl) ?_ ?_
      · intro u hu
        have hk := hR.since hu.1
        have hks := hk.size
        unfold relAt
        go_simp
        exact ⟨hR.into0 ((Kept.refl _ _).alloc _), hR.put 3 rfl rfl ⟨_, rfl, hks, Blk.new _ _ _⟩⟩
      intro v hv
      obtain ⟨u, _, hu⟩ := hv
      obtain ⟨gb, rfl, hgb, -⟩ := hR.get 3 rfl hu
      clear hu
      intro K hK
      go_big_quiet_op
      go_big_quiet_on
      repeat (first | (refine wpR_peek hq2 rfl ((hR.rel _).trans rfl) ((hpk _).trans rfl) rfl ?_; intro K hK; go_big_quiet_op; go_big_quiet_on) | (refine wpR_det hp2 rfl ((hR.rel _).trans rfl) rfl ?_; intro K hK; go_big_quiet_op; go_big_quiet_on) | (refine wpR_ptr hp2 rfl ((hR.rel _).trans rfl) rfl rfl ?_; intro K hK; go_big_quiet_op; go_big_quiet_on) | (refine wpR_skip pick rfl ?_; intro K hK; go_big_quiet_op; go_big_quiet_on))
      refine wpR_nil ?_
      intro w4 hk2 hF hM hDs
      obtain ⟨ga', ea, -, hBa⟩ := (hR.get 2 rfl (hF _ _ (Got.upd_old (Got.upd_self _ _ _) rfl)))
      obtain ⟨gb', eb, -, hBb⟩ := (hR.get 3 rfl (hF _ _ (Got.upd_self _ _ _)))
      have hab : ga ≠ gb := by
        rintro rfl
        exact hDs 6 7 _ rfl rfl (by decide) (Got.upd_old (Got.upd_self _ _ _) rfl) (Got.upd_self _ _ _)
      injection ea with ea
      injection ea with ea
      injection ea with ea
      injection eb with eb
      injection eb with eb
      injection eb with eb
      subst ea eb
      have HBA := Lib.hid hBa
      have HBB := Lib.hid hBb
      have HAB := Lib.hid hab
      have HKK := Lib.hid hk2
      have HGA := Lib.hid hga
      have HGB := Lib.hid hgb
      clear hBa hBb hF hM hk2 hp1 hp2 hR hDs hpk hq1 hq2 hab hga hgb
      refine wpList_store_mid rfl 63 (.tmp 5) _ rfl ga 0 #[.int .i64 0, .int .i64 0, .int .i64 0, .int .i64 0, .int .i64 0, .bool false, .int .u64 0, .int .u64 0, .int .u16 0, .int .u8 0, .int .i64 0, .slice none 0 0, .int .i64 0, .int .i64 0, .int .u8 0, (.slice LA1 ln1 lc1), .int .u32 0, .int .u32 0, .int .u32 0, .bool false, .int .u64 0, .int .u64 0, .int .u16 0, (.slice NA1 nn1 nc1), .bool f1.a.six, .int .u64 (f1.a.hi : Int), .int .u64 (f1.a.lo : Int), .int .i64 (f1.po : Int), .int .u8 (f1.p : Int), .int .i64 (f1.wy : Int), .bool ok1] rfl rfl (HBA.out.there rfl) (by kernel_rfl) (by simp [Value.oneCell']) ?_
      refine wpList_store_mid rfl 63 (.tmp 6) _ rfl gb 0 #[.int .i64 0, .int .i64 0, .int .i64 0, .int .i64 0, .int .i64 0, .bool false, .int .u64 0, .int .u64 0, .int .u16 0, .int .u8 0, .int .i64 0, .slice none 0 0, .int .i64 0, .int .i64 0, .int .u8 0, (.slice LA2 ln2 lc2), .int .u32 0, .int .u32 0, .int .u32 0, .bool false, .int .u64 0, .int .u64 0, .int .u16 0, (.slice NA2 nn2 nc2), .bool f2.a.six, .int .u64 (f2.a.hi : Int), .int .u64 (f2.a.lo : Int), .int .i64 (f2.po : Int), .int .u8 (f2.p : Int), .int .i64 (f2.wy : Int), .bool ok2] rfl rfl ((HBB.out.setsFar HAB.out).there rfl) (by kernel_rfl) (by simp [Value.oneCell']) ?_
      generalize hw5 : World.setCells (World.setCells _ _ _ _) _ _ _ = w5
      have HK5 := Lib.hid (show Kept (fun i => i = ga ∨ i = gb) w4 w5 by rw [← hw5]; exact Kept.setCells (S := fun i => i = ga ∨ i = gb) (.inr rfl) _ _ (Kept.setCells (S := fun i => i = ga ∨ i = gb) (.inl rfl) _ _ (Kept.refl _ _)))
      have HA5 := Lib.hid (show Blk w5 ga 63 #[.int .i64 0, .int .i64 0, .int .i64 0, .int .i64 0, .int .i64 0, .bool false, .int .u64 0, .int .u64 0, .int .u16 0, .int .u8 0, .int .i64 0, .slice none 0 0, .int .i64 0, .int .i64 0, .int .u8 0, (.slice LA1 ln1 lc1), .int .u32 0, .int .u32 0, .int .u32 0, .bool false, .int .u64 0, .int .u64 0, .int .u16 0, (.slice NA1 nn1 nc1), .bool f1.a.six, .int .u64 (f1.a.hi : Int), .int .u64 (f1.a.lo : Int), .int .i64 (f1.po : Int), .int .u8 (f1.p : Int), .int .i64 (f1.wy : Int), .bool ok1] by rw [← hw5]; exact (HBA.out.setAll #[.int .i64 0, .int .i64 0, .int .i64 0, .int .i64 0, .int .i64 0, .bool false, .int .u64 0, .int .u64 0, .int .u16 0, .int .u8 0, .int .i64 0, .slice none 0 0, .int .i64 0, .int .i64 0, .int .u8 0, (.slice LA1 ln1 lc1), .int .u32 0, .int .u32 0, .int .u32 0, .bool false, .int .u64 0, .int .u64 0, .int .u16 0, (.slice NA1 nn1 nc1), .bool f1.a.six, .int .u64 (f1.a.hi : Int), .int .u64 (f1.a.lo : Int), .int .i64 (f1.po : Int), .int .u8 (f1.p : Int), .int .i64 (f1.wy : Int), .bool ok1] rfl).setsFar' HAB.out)
      have HB5 := Lib.hid (show Blk w5 gb 63 #[.int .i64 0, .int .i64 0, .int .i64 0, .int .i64 0, .int .i64 0, .bool false, .int .u64 0, .int .u64 0, .int .u16 0, .int .u8 0, .int .i64 0, .slice none 0 0, .int .i64 0, .int .i64 0, .int .u8 0, (.slice LA2 ln2 lc2), .int .u32 0, .int .u32 0, .int .u32 0, .bool false, .int .u64 0, .int .u64 0, .int .u16 0, (.slice NA2 nn2 nc2), .bool f2.a.six, .int .u64 (f2.a.hi : Int), .int .u64 (f2.a.lo : Int), .int .i64 (f2.po : Int), .int .u8 (f2.p : Int), .int .i64 (f2.wy : Int), .bool ok2] by rw [← hw5]; exact (HBB.out.setsFar HAB.out).setAll #[.int .i64 0, .int .i64 0, .int .i64 0, .int .i64 0, .int .i64 0, .bool false, .int .u64 0, .int .u64 0, .int .u16 0, .int .u8 0, .int .i64 0, .slice none 0 0, .int .i64 0, .int .i64 0, .int .u8 0, (.slice LA2 ln2 lc2), .int .u32 0, .int .u32 0, .int .u32 0, .bool false, .int .u64 0, .int .u64 0, .int .u16 0, (.slice NA2 nn2 nc2), .bool f2.a.six, .int .u64 (f2.a.hi : Int), .int .u64 (f2.a.lo : Int), .int .i64 (f2.po : Int), .int .u8 (f2.p : Int), .int .i64 (f2.wy : Int), .bool ok2] rfl)
      have HR5 := Lib.hid ((HR2.out.kept HKK.out (fun h => h)).kept HK5.out (fun h => by have := HR2.out.lt; have := HGA.out; have := HGB.out; omega))
      have HKC := Lib.hid (show Kept (fun _ => False) w w5 from (HK2.out.trans HKK.out).then HK5.out (fun i hi h => by have := HK2.out.size; have := HGA.out; have := HGB.out; omega))
      clear hw5 HK5 HBA HBB HKK HGA HGB HR2 HK2 HT HS1 HS2 HZ1 HZ2 HO1 HO2
      have ca := HA5.out.cell
      have cb := HB5.out.cell
      have la := HA5.out.lt
      have lb := HB5.out.lt
      cases ok1 with
      | false =>
        have HF := Lib.hid (show flowP s.data.toList = none by
          rw [HFW.out]
          cases o1 with
          | none => rfl
          | some f => exact absurd HF1.out.1 (by decide))
        clear HFW HF1 HF2
        go_wp2_with (show wpList _ _ _ ((⟨none, .store 28 (.tmp 2) _, _, _, _, none⟩ : Oper) :: _) _ _; refine wpList_store_mid rfl 28 (.tmp 2) _ rfl rb 0 #[.bool false, .int .u64 0, .int .u64 0, .bool false, .int .u64 0, .int .u64 0, .int .u16 0, .int .u16 0, .int .u8 0] rfl rfl (HR5.out.there rfl) (by kernel_rfl) (by simp [Value.oneCell']) ?_)
        generalize hw9 : (World.setCells _ _ _ _) = w9
        have HK9 := Lib.hid (show Kept (fun i => i = rb) w5 w9 by rw [← hw9]; exact Kept.setCells (S := fun i => i = rb) rfl _ _ (Kept.refl _ _))
        have HR9 := Lib.hid (show Blk w9 rb 28 #[.bool false, .int .u64 0, .int .u64 0, .bool false, .int .u64 0, .int .u64 0, .int .u16 0, .int .u16 0, .int .u8 0] by rw [← hw9]; exact HR5.out.setAll #[.bool false, .int .u64 0, .int .u64 0, .bool false, .int .u64 0, .int .u64 0, .int .u16 0, .int .u16 0, .int .u8 0] rfl)
        clear hw9
        refine bodyPost_ret (results_blk_tmp (P := Tryd.prog) (show Tryd.f7.results = _ from rfl) _ _ rb 28 #[.bool false, .int .u64 0, .int .u64 0, .bool false, .int .u64 0, .int .u64 0, .int .u16 0, .int .u16 0, .int .u8 0] _ rfl HR9.out Tryd.underlying28 rfl (by kernel_rfl)) rfl ⟨?_, ?_⟩
        · rw [HF.out]; rfl
        · exact (HKC.out.below (Nat.le_refl _) (fun i h => h.elim)).trans (HK9.out.below HKC.out.size (fun i e => by have := HRB.out; omega))
      | true =>
        cases ok2 with
        | false =>
          have HF := Lib.hid (show flowP s.data.toList = none by
            rw [HFW.out]
            cases o2 with
            | none => cases o1 <;> rfl
            | some f => exact absurd HF2.out.1 (by decide))
          clear HFW HF1 HF2
          go_wp2_with (show wpList _ _ _ ((⟨none, .store 28 (.tmp 2) _, _, _, _, none⟩ : Oper) :: _) _ _; refine wpList_store_mid rfl 28 (.tmp 2) _ rfl rb 0 #[.bool false, .int .u64 0, .int .u64 0, .bool false, .int .u64 0, .int .u64 0, .int .u16 0, .int .u16 0, .int .u8 0] rfl rfl (HR5.out.there rfl) (by kernel_rfl) (by simp [Value.oneCell']) ?_)
          generalize hw9 : (World.setCells _ _ _ _) = w9
          have HK9 := Lib.hid (show Kept (fun i => i = rb) w5 w9 by rw [← hw9]; exact Kept.setCells (S := fun i => i = rb) rfl _ _ (Kept.refl _ _))
          have HR9 := Lib.hid (show Blk w9 rb 28 #[.bool false, .int .u64 0, .int .u64 0, .bool false, .int .u64 0, .int .u64 0, .int .u16 0, .int .u16 0, .int .u8 0] by rw [← hw9]; exact HR5.out.setAll #[.bool false, .int .u64 0, .int .u64 0, .bool false, .int .u64 0, .int .u64 0, .int .u16 0, .int .u16 0, .int .u8 0] rfl)
          clear hw9
          refine bodyPost_ret (results_blk_tmp (P := Tryd.prog) (show Tryd.f7.results = _ from rfl) _ _ rb 28 #[.bool false, .int .u64 0, .int .u64 0, .bool false, .int .u64 0, .int .u64 0, .int .u16 0, .int .u16 0, .int .u8 0] _ rfl HR9.out Tryd.underlying28 rfl (by kernel_rfl)) rfl ⟨?_, ?_⟩
          · rw [HF.out]; rfl
          · exact (HKC.out.below (Nat.le_refl _) (fun i h => h.elim)).trans (HK9.out.below HKC.out.size (fun i e => by have := HRB.out; omega))
        | true =>
          have hp1 : f1.po ≤ 65535 := by
            cases o1 with
            | none => exact absurd (show true = false from HF1.out) (by decide)
            | some f => rw [HF1.out.2]; exact HP1.out f rfl
          have hp2 : f2.po ≤ 65535 := by
            cases o2 with
            | none => exact absurd (show true = false from HF2.out) (by decide)
            | some f => rw [HF2.out.2]; exact HP2.out f rfl
          have hq1 : (f1.po : Int) ≤ 65535 := by omega
          have hq2 : (f2.po : Int) ≤ 65535 := by omega
          have hq3 : (0 : Int) ≤ (f1.po : Int) := Int.natCast_nonneg _
          have hq4 : (0 : Int) ≤ (f2.po : Int) := Int.natCast_nonneg _
          have HF := Lib.hid (show flowP s.data.toList = some ⟨f1.a, f2.a, f1.po, f2.po, f2.p⟩ by
            rw [HFW.out]
            cases o1 with
            | none => exact absurd (show true = false from HF1.out) (by decide)
            | some f =>
              cases o2 with
              | none => exact absurd (show true = false from HF2.out) (by decide)
              | some g => rw [HF1.out.2, HF2.out.2]; rfl)
          clear HFW HF1 HF2
          go_wp2_with (show wpList _ _ _ ((⟨none, .store 28 (.tmp 2) _, _, _, _, none⟩ : Oper) :: _) _ _; refine wpList_store_mid rfl 28 (.tmp 2) _ rfl rb 0 #[.bool f1.a.six, .int .u64 (f1.a.hi : Int), .int .u64 (f1.a.lo : Int), .bool f2.a.six, .int .u64 (f2.a.hi : Int), .int .u64 (f2.a.lo : Int), .int .u16 (f1.po : Int), .int .u16 (f2.po : Int), .int .u8 (f2.p : Int)] rfl rfl (HR5.out.there rfl) (by kernel_rfl) (by simp [Value.oneCell']) ?_)
          generalize hw9 : (World.setCells _ _ _ _) = w9
          have HK9 := Lib.hid (show Kept (fun i => i = rb) w5 w9 by rw [← hw9]; exact Kept.setCells (S := fun i => i = rb) rfl _ _ (Kept.refl _ _))
          have HR9 := Lib.hid (show Blk w9 rb 28 #[.bool f1.a.six, .int .u64 (f1.a.hi : Int), .int .u64 (f1.a.lo : Int), .bool f2.a.six, .int .u64 (f2.a.hi : Int), .int .u64 (f2.a.lo : Int), .int .u16 (f1.po : Int), .int .u16 (f2.po : Int), .int .u8 (f2.p : Int)] by rw [← hw9]; exact HR5.out.setAll #[.bool f1.a.six, .int .u64 (f1.a.hi : Int), .int .u64 (f1.a.lo : Int), .bool f2.a.six, .int .u64 (f2.a.hi : Int), .int .u64 (f2.a.lo : Int), .int .u16 (f1.po : Int), .int .u16 (f2.po : Int), .int .u8 (f2.p : Int)] rfl)
          clear hw9
          refine bodyPost_ret (results_blk_tmp (P := Tryd.prog) (show Tryd.f7.results = _ from rfl) _ _ rb 28 #[.bool f1.a.six, .int .u64 (f1.a.hi : Int), .int .u64 (f1.a.lo : Int), .bool f2.a.six, .int .u64 (f2.a.hi : Int), .int .u64 (f2.a.lo : Int), .int .u16 (f1.po : Int), .int .u16 (f2.po : Int), .int .u8 (f2.p : Int)] _ rfl HR9.out Tryd.underlying28 rfl (by kernel_rfl)) rfl ⟨?_, ?_⟩
          · rw [HF.out]; rfl
          · exact (HKC.out.below (Nat.le_refl _) (fun i h => h.elim)).trans (HK9.out.below HKC.out.size (fun i e => by have := HRB.out; omega))
  · have hx5 : ¬ (xs.length : Int) = 5 := by omega
    have hx5b : ((xs.length : Int) == 5) = false := by simpa using hx5
    have HF := Lib.hid (show flowP s.data.toList = none by rw [HFL.out, if_neg (by rw [List.length_map]; exact h5)])
    clear hrow h5 HFL HZ
    go_wp2_with (show wpList _ _ _ ((⟨none, .store 28 (.tmp 2) _, _, _, _, none⟩ : Oper) :: _) _ _; refine wpList_store_mid rfl 28 (.tmp 2) _ rfl rb 0 #[.bool false, .int .u64 0, .int .u64 0, .bool false, .int .u64 0, .int .u64 0, .int .u16 0, .int .u16 0, .int .u8 0] rfl rfl (HR2.out.there rfl) (by kernel_rfl) (by simp [Value.oneCell']) ?_)
    generalize hw9 : (World.setCells _ _ _ _) = w9
    have HK9 := Lib.hid (show Kept (fun i => i = rb) w2 w9 by rw [← hw9]; exact Kept.setCells (S := fun i => i = rb) rfl _ _ (Kept.refl _ _))
    have HR9 := Lib.hid (show Blk w9 rb 28 #[.bool false, .int .u64 0, .int .u64 0, .bool false, .int .u64 0, .int .u64 0, .int .u16 0, .int .u16 0, .int .u8 0] by rw [← hw9]; exact HR2.out.setAll #[.bool false, .int .u64 0, .int .u64 0, .bool false, .int .u64 0, .int .u64 0, .int .u16 0, .int .u16 0, .int .u8 0] rfl)
    clear hw9
    refine bodyPost_ret (results_blk_tmp (P := Tryd.prog) (show Tryd.f7.results = _ from rfl) _ _ rb 28 #[.bool false, .int .u64 0, .int .u64 0, .bool false, .int .u64 0, .int .u64 0, .int .u16 0, .int .u16 0, .int .u8 0] _ rfl HR9.out Tryd.underlying28 rfl (by kernel_rfl)) rfl ⟨?_, ?_⟩
    · rw [HF.out]; rfl
    · exact (HK2.out.below (Nat.le_refl _) (fun i h => h.elim)).trans (HK9.out.below HK2.out.size (fun i e => by have := HRB.out; omega))
end Go.Proofs.YthfdhggcnkgjfaaDoor
