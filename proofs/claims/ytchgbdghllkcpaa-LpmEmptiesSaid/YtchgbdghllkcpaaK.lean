/- Table.Drop. -/
import Derived.Test.YtchgbdghllkcpaaJ
namespace Go.Proofs.Ytchgbdghllkcpaa
open Go.RowKit
set_option linter.unusedVariables false
theorem mapOf_drop {H : Bool → Path → Bool} {V : Bool → Path → Int} {f : Bool} {p : Path} {v : Int} : mapOf (upd H f p false) (upd V f p v) = upd (mapOf H V) f p none := by
  funext g q
  unfold mapOf
  by_cases e : g = f ∧ q = p
  · obtain ⟨rfl, rfl⟩ := e; simp [upd_self]
  · rw [upd_ne _ _ e, upd_ne _ _ e, upd_ne _ _ e]
def DropP (tb base : Nat) (M : Bool → Path → Option Int) (f : Bool) (p : Path) (sz : Int) (w : World) (e : Ending) (w' : World) : Prop :=
  e = .returned (.int .i64 0) ∧ TabS tb base (upd M f p none) (sz - 1) w' ∧ Below base w w' ∧ KeptT w w'
theorem Try.info57 : (Try.prog.info? 57).map (fun i => (i.zero, i.size, i.bytes)) = some (some (.pointer none), 1, 8) := by kernel_rfl
def adrN (tb : Nat) (N : Bool → Path → Option Nat) (a : Ad) (i : Nat) : Addr := if i = 0 then ⟨tb, rootO a.six, none⟩ else ⟨(N a.six (a.path i)).getD 0, 0, none⟩
def ptrsN (tb : Nat) (N : Bool → Path → Option Nat) (a : Ad) (k : Nat) : List Value := (List.range k).map fun i => .pointer (some (adrN tb N a i))
theorem ptrsN_succ (tb : Nat) (N : Bool → Path → Option Nat) (a : Ad) (k : Nat) : ptrsN tb N a (k + 1) = ptrsN tb N a k ++ [.pointer (some (adrN tb N a k))] := by simp [ptrsN, List.range_succ]
theorem ptrsN_len (tb : Nat) (N : Bool → Path → Option Nat) (a : Ad) (k : Nat) : (ptrsN tb N a k).length = k := by simp [ptrsN]
theorem path_pos {a : Ad} {i : Nat} (h : 0 < i) : a.path i ≠ [] := fun e => by have := congrArg List.length e; rw [Ad.path_len] at this; simp at this; omega
theorem adrN_at {tb : Nat} {N : Bool → Path → Option Nat} {a : Ad} {i : Nat} (h : i = 0 ∨ N a.six (a.path i) ≠ none) : ∃ ab ao, adrN tb N a i = ⟨ab, ao, none⟩ ∧ AtN tb N a.six (a.path i) ab ao := by
  unfold adrN
  by_cases e : i = 0
  · subst e
    exact ⟨tb, rootO a.six, by rw [if_pos rfl], .inl ⟨rfl, rfl, rfl⟩⟩
  · rw [if_neg e]
    obtain ⟨b, hb⟩ := Option.ne_none_iff_exists'.1 (h.resolve_left e)
    exact ⟨b, 0, by rw [hb]; rfl, .inr ⟨path_pos (by omega), hb, rfl⟩⟩
section
variable {tb base B : Nat} {N N' : Bool → Path → Option Nat} {H : Bool → Path → Bool} {V : Bool → Path → Int} {sz : Int} {w w' : World} {a : Ad} {v : Value} {xs : List Value}
theorem Tri.row (h : Tri tb base N H V sz w) (hr : Row w B 57 v xs) (hk : Kept (fun i => v.ownBlock = some i) w w') : Tri tb base N H V sz w' := by
  have ht : ∀ {g : Nat} {t : TypeId} {cs : Array Value}, Blk w g t cs → 57 ≠ t → w'.heap[g]? = w.heap[g]? := fun hg hne => hk.block _ hg.lt (hr.ne hg hne)
  exact ⟨(ht h.tab (by decide)).trans h.tab, fun f p b hp hb => ⟨(h.node f p b hp hb).1, (ht (h.node f p b hp hb).2 (by decide)).trans (h.node f p b hp hb).2⟩, h.inj, h.up, h.has, h.lo⟩
theorem Tri.rowne {f : Bool} {p : Path} {ab ao : Nat} (h : Tri tb base N H V sz w) (ha : AtN tb N f p ab ao) (hr : Row w B 57 v xs) : v.ownBlock ≠ some ab := by
  rcases ha with ⟨rfl, rfl, rfl⟩ | ⟨hp, hb, rfl⟩
  · exact hr.ne h.tab (by decide)
  · exact hr.ne (h.node f p ab hp hb).2 (by decide)
/-- Every beginning of a path that has a node has one. -/
theorem Tri.above (h : Tri tb base N H V sz w) {m : Nat} (hm : 0 < m → N a.six (a.path m) ≠ none) : ∀ i, 0 < i → i ≤ m → N a.six (a.path i) ≠ none := fun i h0 hi hn => by
  exact hm (by omega) (h.deep h0 hn m hi).1
theorem agree_prune {i : Nat} (h : ∀ k, k ≤ i + 1 → N' a.six (a.path k) = N a.six (a.path k)) (b : Bool) : ∀ k, k ≤ i → (upd N' a.six (a.path i ++ [b]) none) a.six (a.path k) = N a.six (a.path k) := fun k hk => by
  rw [upd_ne _ _ (fun e => by have := congrArg List.length e.2; rw [List.length_append, Ad.path_len, Ad.path_len] at this; simp at this; omega)]
  exact h k (by omega)
end
set_option maxHeartbeats 4000000 in
theorem drop_no (tb : Nat) (a : Ad) (n : Int) (w : World) (hw : a.wf) (hP : ¬ rightP a n) : Calls Try.prog 18 #[.pointer (some ⟨tb, 0, none⟩), .agg #[.bool a.six, .int .u64 (a.hi : Int), .int .u64 (a.lo : Int), .int .i64 n]] w fun e w' => e = .returned (.int .i64 6) ∧ Below w.heap.size w w' := by
  have HSK := Lib.hid (fun u => seek_no tb a n u hw hP)
  clear hP hw
  go_enter Try.func18, Try.ntmps18
  go_wp2_with fail
  refine (HSK.out _).mono ?_
  rintro e w1 ⟨rfl, hb1⟩
  have HB1 := Lib.hid hb1
  clear hb1
  go_wp2_with fail
  go_ret
  exact ⟨rfl, bel1.trans (HB1.out.mono (by simp))⟩
set_option maxHeartbeats 4000000 in
theorem drop_none (tb base : Nat) (M : Bool → Path → Option Int) (sz : Int) (a : Ad) (m : Nat) (w : World) (hw : a.wf) (hP : rightP a (m : Int)) (hm : m ≤ a.bits) (hT : TabS tb base M sz w) (h0 : M a.six (a.path m) = none) :
    Calls Try.prog 18 #[.pointer (some ⟨tb, 0, none⟩), .agg #[.bool a.six, .int .u64 (a.hi : Int), .int .u64 (a.lo : Int), .int .i64 (m : Int)]] w fun e w' => e = .returned (.int .i64 6) ∧ Below w.heap.size w w' := by
  obtain ⟨N, H, V, hT, rfl⟩ := hT
  have HH := Lib.hid (show H a.six (a.path m) = false by rw [← mapOf_some (H := H) (V := V), h0]; rfl)
  have HSK := Lib.hid (seek_yes tb base N H V sz a m _ hw hP hm (hT.onB (bel1 (o := .cells #[.bool a.six, .int .u64 (a.hi : Int), .int .u64 (a.lo : Int), .int .i64 (m : Int)] 29))))
  clear hw hP hm hT h0
  go_enter Try.func18, Try.ntmps18
  go_wp2_with fail
  refine HSK.out.mono ?_
  rintro e w1 ⟨hs, hb1⟩
  have HB1 := Lib.hid hb1
  clear hb1
  rcases hs with ⟨hH, rfl⟩ | ⟨hH, ab, ao, rfl, hA⟩
  · clear hH
    go_wp2_with fail
    go_ret
    exact ⟨rfl, bel1.trans (HB1.out.mono (by simp))⟩
  · rw [HH.out] at hH; cases hH
set_option maxHeartbeats 16000000 in
set_option maxRecDepth 100000 in
theorem drop_yes (tb base : Nat) (M : Bool → Path → Option Int) (sz : Int) (a : Ad) (m : Nat) (w : World) (hw : a.wf) (hP : rightP a (m : Int)) (hm : m ≤ a.bits) (hT : TabS tb base M sz w) (hbase : base ≤ w.heap.size) (hs0 : 0 ≤ sz) (hs1 : sz ≤ 1000000) (h0 : (M a.six (a.path m)).isSome = true) :
    Calls Try.prog 18 #[.pointer (some ⟨tb, 0, none⟩), .agg #[.bool a.six, .int .u64 (a.hi : Int), .int .u64 (a.lo : Int), .int .i64 (m : Int)]] w (DropP tb base M a.six (a.path m) sz w) := by
  obtain ⟨N, H, V, hT, rfl⟩ := hT
  have HH := Lib.hid (show H a.six (a.path m) = true by rw [← mapOf_some (H := H) (V := V)]; exact h0)
  have hm128 : m ≤ 128 := by unfold Ad.bits at hm; split at hm <;> omega
  have HSK := Lib.hid (seek_yes tb base N H V sz a m _ hw hP hm (hT.onB (bel1 (o := .cells #[.bool a.six, .int .u64 (a.hi : Int), .int .u64 (a.lo : Int), .int .i64 (m : Int)] 29))))
  have HW := Lib.hid hw
  have HM := Lib.hid hm
  have HT := Lib.hid hT
  have hinf := Try.info57
  clear hw hP hm hT h0
  go_enter Try.func18, Try.ntmps18
  go_wp2_with fail
  refine HSK.out.mono ?_
  rintro e w1 ⟨hs, hb1⟩
  have HX1 := Lib.hid (show Blk w1 w.heap.size 29 #[.bool a.six, .int .u64 (a.hi : Int), .int .u64 (a.lo : Int), .int .i64 (m : Int)] from (Blk.new w 29 _).below hb1 (by simp))
  have HB1 := Lib.hid (show Below w.heap.size w w1 from bel1.trans (hb1.mono (by simp)))
  have HT1 := Lib.hid ((HT.out.onB bel1).onB hb1)
  have HK1 := Lib.hid ((KeptT.ofB bel1).trans (KeptT.ofB hb1))
  have hs1' : w.heap.size + 1 ≤ w1.heap.size := by have := hb1.size; simpa using this
  rcases hs with ⟨hH, -⟩ | ⟨hH, tab, tao, rfl, hA⟩
  · rw [HH.out] at hH; cases hH
  have HA1 := Lib.hid hA
  clear hb1 hH hA HT HSK
  have HEX := Lib.hid (HT1.out.above (a := a) (m := m) (fun h0 => by
    rcases HA1.out with ⟨hp, _, _⟩ | ⟨_, hb, _⟩
    · exact absurd hp (path_pos h0)
    · rw [hb]; simp))
  obtain ⟨pb, hpb⟩ : ∃ pb, w.heap.size = pb := ⟨_, rfl⟩
  rw [hpb] at HX1 HB1 hbase hs1' ⊢
  have HPB := Lib.hid hpb
  clear hpb
  have HC1 := Lib.hid (HT1.out.cells HA1.out)
  have c2 := HC1.out.2.2.1
  have c3 := HC1.out.2.2.2.1
  have cf := HC1.out.2.2.2.2.1
  have clt := HC1.out.2.2.2.2.2.1
  have hsz := HT1.out.size
  have htf := HT1.out.tab.frozen
  have htl := HT1.out.tab.lt
  have HLO := Lib.hid HT1.out.lo
  go_upto_region 8 with fail
  obtain ⟨w2, hw2⟩ : ∃ w2 : World, w2 = ((w1.setCell ⟨tab, tao + 2, none⟩ (.bool false)).setCell ⟨tab, tao + 3, none⟩ (.int .i64 0)).setCell ⟨tb, 0, none⟩ (.int .i64 (sz - 1)) := ⟨_, rfl⟩
  have HT2 := Lib.hid (show Tri tb base N (upd H a.six (a.path m) false) (upd V a.six (a.path m) 0) (sz - 1) w2 by rw [hw2]; exact ((HT1.out.mark HA1.out false).put HA1.out 0).count _)
  have HX2 := Lib.hid (show Blk w2 pb 29 #[.bool a.six, .int .u64 (a.hi : Int), .int .u64 (a.lo : Int), .int .i64 (m : Int)] by
    rw [hw2]
    have hne := HT1.out.ne29 HA1.out HX1.out (by decide) (by decide)
    exact Blk.far' (HX1.out.ne_ HT1.out.tab (by decide)) (Blk.far' hne (Blk.far' hne HX1.out)))
  have HK2 := Lib.hid (show KeptT w w2 by
    rw [hw2]
    exact ((HK1.out.store HT1.out HA1.out).store (HT1.out.mark HA1.out false) HA1.out).tab ((HT1.out.mark HA1.out false).put HA1.out 0))
  have HB2 := Lib.hid (show Below base w w2 by
    rw [hw2]
    exact (((HB1.out.mono hbase).setCell (p := ⟨tab, _, none⟩) HC1.out.2.2.2.2.2.2 _).setCell (p := ⟨tab, _, none⟩) HC1.out.2.2.2.2.2.2 _).setCell (p := ⟨tb, 0, none⟩) HLO.out _)
  have hs2 : pb + 1 ≤ w2.heap.size := by rw [hw2]; simp [World.setCell]; omega
  rw [← hw2]
  clear hw2 c2 c3 cf clt hsz htf htl
  have x0 := HX2.out.cell
  have xlt := HX2.out.lt
  go_wp2_with fail
  refine (root_any tb a w2).mono ?_
  rintro e w3 ⟨rfl, hb3⟩
  have HX3 := Lib.hid (HX2.out.below hb3 HX2.out.lt)
  have HT3 := Lib.hid (HT2.out.onB hb3)
  have HK3 := Lib.hid (HK2.out.trans (KeptT.ofB hb3))
  have HB3 := Lib.hid (HB2.out.trans (hb3.mono (by omega)))
  have hs3 : pb + 1 ≤ w3.heap.size := by have := hb3.size; omega
  clear hb3 x0 xlt HX2 HT2 HB2 hs2
  have x0 := HX3.out.cell
  have xlt := HX3.out.lt
  go_wp2_with fail
  clear x0 xlt
  go_loopw [6, 7, 37] (fun rv at_ iv wr => ∃ (k : Nat) (A : Option Addr) (c : Nat), k ≤ m ∧ iv = .int .i64 (k : Int) ∧ rv = .slice A k c ∧ at_ = .pointer (some (adrN tb N a k)) ∧ Hid (Row wr pb 57 (.slice A k c) (ptrsN tb N a k)) ∧ Hid (Tri tb base N (upd H a.six (a.path m) false) (upd V a.six (a.path m) 0) (sz - 1) wr) ∧ Hid (Blk wr pb 29 #[.bool a.six, .int .u64 (a.hi : Int), .int .u64 (a.lo : Int), .int .i64 (m : Int)]) ∧ Hid (KeptT w wr) ∧ Hid (Below base w wr)) (fun _ _ iv _ => m - (intOf iv).toNat)
  case atStart => exact ⟨0, none, 0, by omega, rfl, rfl, rfl, Lib.hid (Row.nil _ _ _), HT3, HX3, HK3, HB3⟩
  case round =>
    clear HX3 HT3 HB3 hs3 HK3 HK2 HK1
    obtain ⟨k, A, c, hk, rfl, rfl, rfl, HRW, HTR, HX, HK, HB⟩ := hrel
    have hsr : pb ≤ wr.heap.size := Nat.le_of_lt HX.out.lt
    have hex0 : k = 0 ∨ N a.six (a.path k) ≠ none := by
      rcases Nat.eq_zero_or_pos k with h | h
      · exact .inl h
      · exact .inr (HEX.out k h hk)
    obtain ⟨ab, ao, hadr, hA⟩ := adrN_at hex0
    have HADR := Lib.hid hadr
    have HA := Lib.hid hA
    rw [hadr]
    clear hex0 hA hadr
    by_cases hkm : k < m
    · have kI : (k : Int) < (m : Int) := by omega
      go_wp2_with (at_builtin; refine wpList_append_row rfl (.tmp 40) (.tmp 42) 72 rfl pb 57 (.pointer none) 8 Try.underlying72 hinf rfl (.slice A k c) (ptrsN tb N a k) rfl (some ⟨wr.heap.size, 0, none⟩) 1 1 [.pointer (some ⟨ab, ao, none⟩)] rfl rfl (HRW.out.alloc _) (Src.new _ _ _ rfl) (by intro u hu; rw [List.mem_singleton.1 hu]; rfl) ?a3 ?a4 ?a5 ?_)
      case a3 => rw [ptrsN_len]; simp; unfold maxLen; omega
      case a4 => rw [ptrsN_len]; simp; omega
      case a5 => simp; omega
      intro v5 w5 hr5 hg5 _
      rw [← HADR.out, ← ptrsN_succ] at hr5
      obtain ⟨VA, vc, hve, -, -⟩ := hr5.shape
      rw [ptrsN_len] at hve
      subst hve
      have HR5 := Lib.hid hr5
      have hK5 : Kept (fun i => (Value.slice A k c).ownBlock = some i) wr w5 := ((Kept.refl _ wr).alloc _).trans (Kept.of_grown (S := fun i => (Value.slice A k c).ownBlock = some i) hg5 (fun i _ e => e.symm))
      have HT5 := Lib.hid (HTR.out.row HRW.out hK5)
      have HX5 := Lib.hid (HX.out.kept hK5 (HRW.out.ne HX.out (by decide)))
      have HB5 := Lib.hid (HB.out.trans (hK5.below (by omega) (fun i hi => by have := (HRW.out.lt i hi).1; omega)))
      have HK5 := Lib.hid (HK.out.then hK5 (fun i hi => by have := (HRW.out.lt i hi).1; have := HPB.out; omega))
      have hs5 := hK5.size
      have HC5 := Lib.hid (HT5.out.cells HA.out)
      have clt := HC5.out.2.2.2.2.2.1
      have x0 := HX5.out.cell 0
      have x1 := HX5.out.cell 1
      have x2 := HX5.out.cell 2
      simp at x0 x1 x2
      have xlt := HX5.out.lt
      clear hr5 hg5 hK5 HTR HRW HX HB HK
      have hbit := fun u => bit_any a k u HW.out (by have := HM.out; omega)
      obtain ⟨cb, hcb⟩ := Option.ne_none_iff_exists'.1 (HEX.out (k + 1) (by omega) (by omega))
      rw [Ad.path_succ] at hcb
      obtain ⟨b, hbv⟩ : ∃ b, a.bit k = b := ⟨_, rfl⟩
      have HBV := Lib.hid hbv
      rw [hbv] at hbit hcb
      clear hbv
      cases b with
      | false =>
        rw [show bI false = 0 from rfl] at hbit
        have HBT := Lib.hid hbit
        clear hbit
        have cc : w5.cell? ⟨ab, ao, none⟩ = some (.pointer (some ⟨cb, 0, none⟩)) := by have := HC5.out.1; rw [hcb] at this; exact this
        have HCB := Lib.hid hcb
        clear hcb
        go_upto_region 14 with fail
        refine wp_region_kept 10 [(4, fun v u => v = .int .i64 0)] ?st ?ne rfl (by kernel_rfl) (by kernel_rfl) ?_
        case st =>
          intro p hp
          simp only [List.mem_cons, List.not_mem_nil, or_false] at hp
          subst hp
          · intro v u u' h hk; exact h
        case ne =>
          intro p hp
          simp only [List.mem_cons, List.not_mem_nil, or_false] at hp
          subst hp
          · exact ⟨_, _, Kept.refl _ _, rfl⟩
        simp only [List.take_succ_cons, List.take_zero, List.drop_succ_cons, List.drop_zero]
        intro G pick hR hp1 hp2
        have p0 : ∀ u, (pick u).cell? ⟨pb, 0, none⟩ = some (.bool a.six) := fun u => ((hp1 u).cell xlt (fun h => h) _).trans x0
        have p1 : ∀ u, (pick u).cell? ⟨pb, 1, none⟩ = some (.int .u64 (a.hi : Int)) := fun u => ((hp1 u).cell xlt (fun h => h) _).trans x1
        have p2 : ∀ u, (pick u).cell? ⟨pb, 2, none⟩ = some (.int .u64 (a.lo : Int)) := fun u => ((hp1 u).cell xlt (fun h => h) _).trans x2
        have pc : ∀ u, (pick u).cell? ⟨ab, ao, none⟩ = some (.pointer (some ⟨cb, 0, none⟩)) := fun u => ((hp1 u).cell clt (fun h => h) _).trans cc
        repeat (first | (refine wpR_det hp2 rfl ((hR.rel _).trans rfl) rfl ?_; intro K hK; go_big_quiet_op; go_big_quiet_on) | (refine wpR_ptr hp2 rfl ((hR.rel _).trans rfl) rfl rfl ?_; intro K hK; go_big_quiet_op; go_big_quiet_on) | (refine wpR_skip pick rfl ?_; intro K hK; go_big_quiet_op; go_big_quiet_on))
        refine wpR_rel pick rfl ((hR.rel _).trans rfl) ((hR.turns _).trans rfl) ?_ ?_
        · intro u hu
          have hk := hR.since hu.1
          have hks := hk.size
          unfold relAt
          go_simp
          refine (HBT.out u).mono ?_
          rintro e w' ⟨rfl, hb'⟩
          exact ⟨_, rfl, hR.intoB hb', hR.put 0 rfl rfl rfl⟩
        intro v hv
        obtain ⟨u, _, hu⟩ := hv
        obtain rfl := hR.get 0 rfl hu
        clear hu
        intro K hK
        go_big_quiet_op
        go_big_quiet_on
        repeat (first | (refine wpR_det hp2 rfl ((hR.rel _).trans rfl) rfl ?_; intro K hK; go_big_quiet_op; go_big_quiet_on) | (refine wpR_ptr hp2 rfl ((hR.rel _).trans rfl) rfl rfl ?_; intro K hK; go_big_quiet_op; go_big_quiet_on) | (refine wpR_skip pick rfl ?_; intro K hK; go_big_quiet_op; go_big_quiet_on))
        refine wpR_nil ?_
        intro w6 hk2 hF hM
        have HK6 := Lib.hid hk2
        have HB6 := Lib.hid (HB5.out.trans (hk2.below (by omega) (fun i h => h.elim)))
        have hs6 := hk2.size
        clear hF hM hk2 hp1 hp2 hR p0 p1 p2 pc x0 x1 x2 cc
        go_wp2_with fail
        go_roundw
        case rel => exact ⟨k + 1, VA, vc, by omega, by go_num, by simp, by simp [adrN, Ad.path_succ, HBV.out, HCB.out], Lib.hid (HR5.out.kept HK6.out (fun _ _ h => h)), Lib.hid (HT5.out.on0 HK6.out), Lib.hid (HX5.out.kept HK6.out (fun h => h)), Lib.hid (HK5.out.trans (KeptT.of0 HK6.out)), HB6⟩
        case measure => simp [intOf]; omega
      | true =>
        rw [show bI true = 1 from rfl] at hbit
        have HBT := Lib.hid hbit
        clear hbit
        have cc : w5.cell? ⟨ab, ao + 1, none⟩ = some (.pointer (some ⟨cb, 0, none⟩)) := by have := HC5.out.2.1; rw [hcb] at this; exact this
        have HCB := Lib.hid hcb
        clear hcb
        go_upto_region 14 with fail
        refine wp_region_kept 10 [(4, fun v u => v = .int .i64 1)] ?st ?ne rfl (by kernel_rfl) (by kernel_rfl) ?_
        case st =>
          intro p hp
          simp only [List.mem_cons, List.not_mem_nil, or_false] at hp
          subst hp
          · intro v u u' h hk; exact h
        case ne =>
          intro p hp
          simp only [List.mem_cons, List.not_mem_nil, or_false] at hp
          subst hp
          · exact ⟨_, _, Kept.refl _ _, rfl⟩
        simp only [List.take_succ_cons, List.take_zero, List.drop_succ_cons, List.drop_zero]
        intro G pick hR hp1 hp2
        have p0 : ∀ u, (pick u).cell? ⟨pb, 0, none⟩ = some (.bool a.six) := fun u => ((hp1 u).cell xlt (fun h => h) _).trans x0
        have p1 : ∀ u, (pick u).cell? ⟨pb, 1, none⟩ = some (.int .u64 (a.hi : Int)) := fun u => ((hp1 u).cell xlt (fun h => h) _).trans x1
        have p2 : ∀ u, (pick u).cell? ⟨pb, 2, none⟩ = some (.int .u64 (a.lo : Int)) := fun u => ((hp1 u).cell xlt (fun h => h) _).trans x2
        have pc : ∀ u, (pick u).cell? ⟨ab, ao + 1, none⟩ = some (.pointer (some ⟨cb, 0, none⟩)) := fun u => ((hp1 u).cell clt (fun h => h) _).trans cc
        repeat (first | (refine wpR_det hp2 rfl ((hR.rel _).trans rfl) rfl ?_; intro K hK; go_big_quiet_op; go_big_quiet_on) | (refine wpR_ptr hp2 rfl ((hR.rel _).trans rfl) rfl rfl ?_; intro K hK; go_big_quiet_op; go_big_quiet_on) | (refine wpR_skip pick rfl ?_; intro K hK; go_big_quiet_op; go_big_quiet_on))
        refine wpR_rel pick rfl ((hR.rel _).trans rfl) ((hR.turns _).trans rfl) ?_ ?_
        · intro u hu
          have hk := hR.since hu.1
          have hks := hk.size
          unfold relAt
          go_simp
          refine (HBT.out u).mono ?_
          rintro e w' ⟨rfl, hb'⟩
          exact ⟨_, rfl, hR.intoB hb', hR.put 0 rfl rfl rfl⟩
        intro v hv
        obtain ⟨u, _, hu⟩ := hv
        obtain rfl := hR.get 0 rfl hu
        clear hu
        intro K hK
        go_big_quiet_op
        go_big_quiet_on
        repeat (first | (refine wpR_det hp2 rfl ((hR.rel _).trans rfl) rfl ?_; intro K hK; go_big_quiet_op; go_big_quiet_on) | (refine wpR_ptr hp2 rfl ((hR.rel _).trans rfl) rfl rfl ?_; intro K hK; go_big_quiet_op; go_big_quiet_on) | (refine wpR_skip pick rfl ?_; intro K hK; go_big_quiet_op; go_big_quiet_on))
        refine wpR_nil ?_
        intro w6 hk2 hF hM
        have HK6 := Lib.hid hk2
        have HB6 := Lib.hid (HB5.out.trans (hk2.below (by omega) (fun i h => h.elim)))
        have hs6 := hk2.size
        clear hF hM hk2 hp1 hp2 hR p0 p1 p2 pc x0 x1 x2 cc
        go_wp2_with fail
        go_roundw
        case rel => exact ⟨k + 1, VA, vc, by omega, by go_num, by simp, by simp [adrN, Ad.path_succ, HBV.out, HCB.out], Lib.hid (HR5.out.kept HK6.out (fun _ _ h => h)), Lib.hid (HT5.out.on0 HK6.out), Lib.hid (HX5.out.kept HK6.out (fun h => h)), Lib.hid (HK5.out.trans (KeptT.of0 HK6.out)), HB6⟩
        case measure => simp [intOf]; omega
    · obtain rfl : k = m := by omega
      have kI : ¬ (k : Int) < (k : Int) := by omega
      obtain ⟨cp, hcp⟩ : ∃ c' : Nat, c = c' := ⟨_, rfl⟩
      have x0 := HX.out.cell
      have xlt := HX.out.lt
      go_wp2_with fail
      clear x0 xlt
      have HAG := Lib.hid (show ∀ i, i ≤ k → N a.six (a.path i) = N a.six (a.path i) from fun _ _ => rfl)
      obtain ⟨sv, hsv⟩ : ∃ s, Value.slice A k c = s := ⟨_, rfl⟩
      go_loopw [9] (fun iv wr' => ∃ (j : Nat) (N' : Bool → Path → Option Nat), j ≤ k ∧ iv = .int .i64 ((j : Int) - 1) ∧ Hid (Tri tb base N' (upd H a.six (a.path k) false) (upd V a.six (a.path k) 0) (sz - 1) wr') ∧ Hid (∀ i, i ≤ j → N' a.six (a.path i) = N a.six (a.path i)) ∧ Hid (Row wr' pb 57 (.slice A k c) (ptrsN tb N a k)) ∧ Hid (Blk wr' pb 29 #[.bool a.six, .int .u64 (a.hi : Int), .int .u64 (a.lo : Int), .int .i64 (k : Int)]) ∧ Hid (KeptT w wr') ∧ Hid (Below base w wr')) (fun iv _ => (intOf iv + 1).toNat)
      case atStart => exact ⟨k, N, by omega, by rfl, HTR, HAG, HRW, HX, HK, HB⟩
      case round =>
        clear HTR HAG HRW HX HB HK
        obtain ⟨j, N', hj, rfl, HTR, HAG, HRW, HX, HK, HB⟩ := hrel
        cases j with
        | zero =>
          rw [show ((0 : Nat) : Int) - 1 = -1 by rfl]
          go_wp2_with fail
          go_ret
          exact ⟨rfl, ⟨N', _, _, HTR.out, mapOf_drop⟩, HB.out, HK.out⟩
        | succ i =>
          rw [show ((i + 1 : Nat) : Int) - 1 = (i : Int) by omega]
          have iI : (0 : Int) ≤ (i : Int) := by omega
          have x0 := HX.out.cell
          have xlt := HX.out.lt
          have hbit := bit_any a i wr HW.out (by have := HM.out; omega)
          have HBT := Lib.hid hbit
          clear hbit
          go_wp2_with fail
          refine HBT.out.mono ?_
          rintro e w3 ⟨rfl, hb3⟩
          have HX3 := Lib.hid (HX.out.below hb3 HX.out.lt)
          have HT3 := Lib.hid (HTR.out.onB hb3)
          have HB3 := Lib.hid (HB.out.trans (hb3.mono (by have := HX.out.lt; omega)))
          have HR3 := Lib.hid (HRW.out.belowAll hb3)
          have HK3 := Lib.hid (HK.out.trans (KeptT.ofB hb3))
          clear hb3 x0 xlt HX HTR HB HRW HBT HK
          have hex0 : i = 0 ∨ N a.six (a.path i) ≠ none := by
            rcases Nat.eq_zero_or_pos i with h | h
            · exact .inl h
            · exact .inr (HEX.out i h (by omega))
          obtain ⟨ab, ao, hadr, hA⟩ := adrN_at (tb := tb) hex0
          have HA := Lib.hid (show AtN tb N' a.six (a.path i) ab ao from by
            rcases hA with h | ⟨h1, h2, h3⟩
            · exact .inl h
            · exact .inr ⟨h1, by rw [HAG.out i (by omega)]; exact h2, h3⟩)
          have HC3 := Lib.hid (HT3.out.cells HA.out)
          obtain ⟨g, c', hv, -, glt, hel⟩ := HR3.out.at (i := i) (by rw [ptrsN_len]; omega)
          rw [ptrsN_len] at hv
          injection hv with e1 e2 e3
          subst e1
          have hrc := hel i (by rw [ptrsN_len]; omega)
          rw [show (ptrsN tb N a k)[i]'(by rw [ptrsN_len]; omega) = .pointer (some ⟨ab, ao, none⟩) by simp [ptrsN, hadr]] at hrc
          have HRC := Lib.hid hrc
          have cf := HC3.out.2.2.2.2.1
          have clt := HC3.out.2.2.2.2.2.1
          obtain ⟨cb, hcb⟩ := Option.ne_none_iff_exists'.1 (HEX.out (i + 1) (by omega) (by omega))
          have HCB := Lib.hid (show N' a.six (a.path (i + 1)) = some cb from (HAG.out (i + 1) (by omega)).trans hcb)
          have ikI : (i : Int) < (k : Int) := by omega
          clear hrc hel e2 e3 hcb hA hadr hex0
          obtain ⟨b, hbv⟩ : ∃ b, a.bit i = b := ⟨_, rfl⟩
          have HBV := Lib.hid hbv
          rw [hbv]
          clear hbv
          cases b with
          | false =>
            rw [show bI false = 0 from rfl]
            have cc : w3.cell? ⟨ab, ao, none⟩ = some (.pointer (some ⟨cb, 0, none⟩)) := by have := HC3.out.1; rw [show N' a.six (a.path i ++ [false]) = some cb by rw [← HCB.out, Ad.path_succ, HBV.out]] at this; exact this
            obtain ⟨p0, hp0⟩ : ∃ p, N' a.six (a.path (i + 1) ++ [false]) = p := ⟨_, rfl⟩
            obtain ⟨p1, hp1⟩ : ∃ p, N' a.six (a.path (i + 1) ++ [true]) = p := ⟨_, rfl⟩
            obtain ⟨hh, hhe⟩ : ∃ h, (upd H a.six (a.path k) false) a.six (a.path (i + 1)) = h := ⟨_, rfl⟩
            have hD := HT3.out.cells (AtN.child (p := a.path i) (x := false) (by rw [← HCB.out, Ad.path_succ, HBV.out]) : AtN tb N' a.six (a.path i ++ [false]) cb 0)
            have eP : a.path i ++ [false] = a.path (i + 1) := by rw [Ad.path_succ, HBV.out]
            rw [eP, hp0, hp1, hhe] at hD
            have HBR := Lib.hid (bare_any cb 0 hh p0 p1 w3 hD.2.2.2.2.2.1 hD.1 hD.2.1 hD.2.2.1)
            have HCD := Lib.hid (And.intro hp0 (And.intro hp1 hhe))
            have rc := HRC.out
            clear hD eP hp0 hp1 hhe
            go_wp2_with fail
            refine HBR.out.mono ?_
            rintro e w4 ⟨rfl, rfl⟩
            clear HBR
            cases hh with
            | true =>
              go_wp2_with fail
              go_ret
              exact ⟨rfl, ⟨N', _, _, HT3.out, mapOf_drop⟩, HB3.out, HK3.out⟩
            | false =>
              cases p0 with
              | some _ =>
                go_wp2_with fail
                go_ret
                exact ⟨rfl, ⟨N', _, _, HT3.out, mapOf_drop⟩, HB3.out, HK3.out⟩
              | none =>
                cases p1 with
                | some _ =>
                  go_wp2_with fail
                  go_ret
                  exact ⟨rfl, ⟨N', _, _, HT3.out, mapOf_drop⟩, HB3.out, HK3.out⟩
                | none =>
                  go_wp2_with fail
                  go_roundw
                  case rel =>
                    have hP := HT3.out.prune HA.out false (by have := HCD.out.1; rw [Ad.path_succ, HBV.out] at this; exact this) (by have := HCD.out.2.1; rw [Ad.path_succ, HBV.out] at this; exact this) (by have := HCD.out.2.2; rw [Ad.path_succ, HBV.out] at this; exact this)
                    rw [if_neg (by decide)] at hP
                    exact ⟨i, _, by omega, rfl, Lib.hid hP, Lib.hid (agree_prune HAG.out false), Lib.hid (HR3.out.far (HT3.out.rowne HA.out HR3.out)), Lib.hid (Blk.far' (HT3.out.ne29 HA.out HX3.out (by decide) (by decide)) HX3.out), Lib.hid (HK3.out.store HT3.out HA.out), Lib.hid (HB3.out.setCell (p := ⟨ab, _, none⟩) HC3.out.2.2.2.2.2.2 _)⟩
                  case measure => simp [intOf]
          | true =>
            rw [show bI true = 1 from rfl]
            have cc : w3.cell? ⟨ab, ao + 1, none⟩ = some (.pointer (some ⟨cb, 0, none⟩)) := by have := HC3.out.2.1; rw [show N' a.six (a.path i ++ [true]) = some cb by rw [← HCB.out, Ad.path_succ, HBV.out]] at this; exact this
            obtain ⟨p0, hp0⟩ : ∃ p, N' a.six (a.path (i + 1) ++ [false]) = p := ⟨_, rfl⟩
            obtain ⟨p1, hp1⟩ : ∃ p, N' a.six (a.path (i + 1) ++ [true]) = p := ⟨_, rfl⟩
            obtain ⟨hh, hhe⟩ : ∃ h, (upd H a.six (a.path k) false) a.six (a.path (i + 1)) = h := ⟨_, rfl⟩
            have hD := HT3.out.cells (AtN.child (p := a.path i) (x := true) (by rw [← HCB.out, Ad.path_succ, HBV.out]) : AtN tb N' a.six (a.path i ++ [true]) cb 0)
            have eP : a.path i ++ [true] = a.path (i + 1) := by rw [Ad.path_succ, HBV.out]
            rw [eP, hp0, hp1, hhe] at hD
            have HBR := Lib.hid (bare_any cb 0 hh p0 p1 w3 hD.2.2.2.2.2.1 hD.1 hD.2.1 hD.2.2.1)
            have HCD := Lib.hid (And.intro hp0 (And.intro hp1 hhe))
            have rc := HRC.out
            clear hD eP hp0 hp1 hhe
            go_wp2_with fail
            refine HBR.out.mono ?_
            rintro e w4 ⟨rfl, rfl⟩
            clear HBR
            cases hh with
            | true =>
              go_wp2_with fail
              go_ret
              exact ⟨rfl, ⟨N', _, _, HT3.out, mapOf_drop⟩, HB3.out, HK3.out⟩
            | false =>
              cases p0 with
              | some _ =>
                go_wp2_with fail
                go_ret
                exact ⟨rfl, ⟨N', _, _, HT3.out, mapOf_drop⟩, HB3.out, HK3.out⟩
              | none =>
                cases p1 with
                | some _ =>
                  go_wp2_with fail
                  go_ret
                  exact ⟨rfl, ⟨N', _, _, HT3.out, mapOf_drop⟩, HB3.out, HK3.out⟩
                | none =>
                  go_wp2_with fail
                  go_roundw
                  case rel =>
                    have hP := HT3.out.prune HA.out true (by have := HCD.out.1; rw [Ad.path_succ, HBV.out] at this; exact this) (by have := HCD.out.2.1; rw [Ad.path_succ, HBV.out] at this; exact this) (by have := HCD.out.2.2; rw [Ad.path_succ, HBV.out] at this; exact this)
                    rw [if_pos rfl] at hP
                    exact ⟨i, _, by omega, rfl, Lib.hid hP, Lib.hid (agree_prune HAG.out true), Lib.hid (HR3.out.far (HT3.out.rowne HA.out HR3.out)), Lib.hid (Blk.far' (HT3.out.ne29 HA.out HX3.out (by decide) (by decide)) HX3.out), Lib.hid (HK3.out.store HT3.out HA.out), Lib.hid (HB3.out.setCell (p := ⟨ab, _, none⟩) HC3.out.2.2.2.2.2.2 _)⟩
                  case measure => simp [intOf]
end Go.Proofs.Ytchgbdghllkcpaa
