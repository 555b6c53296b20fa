/- Contracts of disk.New, Append, Sync, Crash, Cut, Read; bytes.Clone as a row. -/
import Derived.Test.YtnfolopodjdlbaaRows
import Derived.Test.YtnfolopodjdlbaaBytesB
import Derived.Test.YtnfolopodjdlbaaRgW
import Derived.Test.YtnfolopodjdlbaaOctRead
import Derived.Test.YtnfolopodjdlbaaB
import Derived.Test.YtnfolopodjdlbaaSlClone
import Derived.Test.YtnfolopodjdlbaaOpen
import Derived.Outline
import Derived.Deep.Light
import Derived.Deep.DeepCutAuto
import Derived.Laws.BitsAllLaws
namespace Go.Proofs.Ytnfolopodjdlbaa
open Go.RowKit
set_option linter.unusedVariables false

theorem Try.info5d : (Try.prog.info? 5).map (fun i => (i.zero, i.size, i.bytes)) = some (some (.int .u8 0), 1, 1) := by kernel_rfl
/-- A disk at block db: its bytes l, of which s are safe. -/
structure Dk (w : World) (base db : Nat) (m : Int) (v : Value) (l : List UInt8) (s : Nat) (q : Int) : Prop where
  blk : Blk w db 51 #[.int .i64 m, v, .int .i64 (s : Int), .int .i64 q]
  row : Row w base 5 v (bcs l)
  at_ : base ≤ db
theorem Dk.kept {w w' : World} {base db s : Nat} {m q : Int} {v : Value} {l : List UInt8} (h : Dk w base db m v l s q) (hk : Kept (fun _ => False) w w') : Dk w' base db m v l s q :=
  ⟨h.blk.kept hk (fun h => h), h.row.kept hk (fun _ _ h => h), h.at_⟩
theorem Dk.byt {w : World} {base db s : Nat} {m q : Int} {v : Value} {l : List UInt8} (h : Dk w base db m v l s q) : Byt w v l := h.row.byt

theorem dnew_any (m : Nat) (w : World) (hm : m ≤ 1000000) :
    Calls Try.prog 10 #[.int .i64 (m : Int)] w fun e w' => e = .returned (.pointer (some ⟨w.heap.size, 0, none⟩)) ∧ Dk w' w.heap.size w.heap.size m (.slice none 0 0) [] 0 0 ∧ Below w.heap.size w w' := by
  go_enter Try.func10, Try.ntmps10
  go_wp2_with fail
  all_goals
    go_ret
    exact ⟨rfl, ⟨Blk.new _ _ _, Row.nil _ _ _, Nat.le_refl _⟩, (Below.refl _ _).alloc (Nat.le_refl _) _⟩

set_option maxHeartbeats 1000000 in
theorem dappend_any (base db s c : Nat) (m q : Int) (v : Value) (l b : List UInt8) (A : Option Addr) (w : World) (hm : m ≤ 1000000) (hl : (l.length : Int) + b.length ≤ m) (hD : Dk w base db m v l s q) (hB : BS w w.heap.size A b) (hbase : base ≤ w.heap.size) :
    Calls Try.prog 25 #[.pointer (some ⟨db, 0, none⟩), .slice A b.length c] w fun e w' => (∃ v', e = .returned (.int .i64 0) ∧ Dk w' base db m v' (l ++ b) s q) ∧ Kept (fun i => i = db ∨ v.ownBlock = some i) w w' := by
  have h5 := Try.info5d
  have HD := Lib.hid hD
  have HB := Lib.hid hB
  obtain ⟨vA, vc, hve, hv1, hv2⟩ := hD.row.shape
  subst hve
  have e0 := bcs_length l
  rw [e0] at hv1
  have cD := hD.blk.cell
  have fD := hD.blk.frozen
  have hdl := hD.blk.lt
  rw [e0] at cD
  have t1 : decide (m - (l.length : Int) < (b.length : Int)) = false := by simp; omega
  have H0 := Lib.hid e0
  clear hD hB e0
  go_enter Try.func25, Try.ntmps25
  go_wp2_with fail
  go_quiet (fail)
  go_wp2_with (at_builtin; refine wpList_append_row rfl (.tmp 24) (.tmp 25) 22 rfl base 5 (.int .u8 0) 1 Try.underlying22 h5 rfl _ (bcs l) rfl A b.length c (bcs b) rfl (bcs_length b).symm ?a1 ?a2 (bcs_one b) ?a3 ?a4 ?a5 ?_)
  case a1 => have := HD.out.row; rw [H0.out] at this; exact this
  case a2 => exact HB.out.src
  case a3 => rw [bcs_length, bcs_length]; unfold maxLen; omega
  case a4 => rw [bcs_length, bcs_length]; omega
  case a5 => exact hbase
  intro v1 w1 hrow hgr _
  have hr1 := HD.out.row
  rw [H0.out] at hr1
  have hb1 := (HD.out.blk.drewN nq).grown hgr (Ne.symm (hr1.ne HD.out.blk (by decide)))
  have HR := Lib.hid (show Row w1 base 5 v1 (bcs (l ++ b)) by rw [bcs_append]; exact hrow)
  have HB1 := Lib.hid hb1
  have HK := Lib.hid (show Kept (fun i => i = db ∨ (Value.slice vA (bcs l).length vc).ownBlock = some i) w w1 from Kept.undrewN (n := nq) (kept_grown hgr (fun i e _ => .inr (by rw [bcs_length]; exact e))))
  have c1 := hb1.cell
  have f1 := hb1.frozen
  clear hrow hgr hb1 hr1 cD fD
  obtain ⟨uA, uc, hue, _⟩ := HR.out.shape
  subst hue
  go_wp2_with fail
  go_ret
  refine ⟨⟨_, rfl, HB1.out.set_to rfl, HR.out.far (HR.out.ne HB1.out (by decide)), HD.out.at_⟩, HK.out.setIn (.inl rfl)⟩

set_option maxHeartbeats 1000000 in
theorem dsync_any (base db s : Nat) (m q : Int) (v : Value) (l : List UInt8) (w : World) (hl : l.length ≤ 1000000) (q0 : 0 ≤ q) (q1 : q ≤ 1000) (hD : Dk w base db m v l s q) :
    Calls Try.prog 27 #[.pointer (some ⟨db, 0, none⟩)] w fun e w' => e = .returned (.int .i64 0) ∧ Dk w' base db m v l l.length (q + 1) ∧ Kept (fun i => i = db ∨ v.ownBlock = some i) w w' := by
  have HD := Lib.hid hD
  obtain ⟨vA, vc, hve, hv1, hv2⟩ := hD.row.shape
  subst hve
  have e0 := bcs_length l
  have cD := hD.blk.cell
  have fD := hD.blk.frozen
  have hdl := hD.blk.lt
  rw [e0] at cD HD ⊢
  clear hD e0
  go_enter Try.func27, Try.ntmps27
  go_wp2_with fail
  go_ret
  exact ⟨rfl, ⟨(HD.out.blk.set_ _ _).set_to rfl, (HD.out.row.far (HD.out.row.ne HD.out.blk (by decide))).far (HD.out.row.ne HD.out.blk (by decide)), HD.out.at_⟩, ((Kept.refl _ _).setIn (.inl rfl)).setIn (.inl rfl)⟩

/-- A row is cut. -/
theorem Row.cut {w : World} {base e n : Nat} {A : Option Addr} {c k : Nat} {xs : List Value} (h : Row w base e (.slice A n c) xs) (hk : k ≤ xs.length) : Row w base e (.slice A k c) (xs.take k) := by
  rcases h.2 with ⟨h1, h0⟩ | ⟨g, cap, cur, h1, h2, h3, h4, h5, h6, h7⟩
  · injection h1 with e1 e2 e3
    subst e1 e3
    obtain rfl : xs = [] := List.eq_nil_of_length_eq_zero (by simpa using h0)
    obtain rfl : k = 0 := by simpa using hk
    exact Row.nil _ _ _
  · injection h1 with e1 e2 e3
    subst e1 e3
    have hl : (xs.take k).length = k := by simp; omega
    refine ⟨by rw [hl]; omega, .inr ⟨g, c, cur, by rw [hl], h2, h3, by omega, h5, h6, ?_⟩⟩
    rw [hl, Nat.mul_one, ← h7, List.take_take, Nat.mul_one, Nat.min_eq_left (by omega)]

/-- What a crash leaves. -/
def CrashPost (w : World) (base db s : Nat) (m q : Int) (v : Value) (l : List UInt8) (kk : Nat) (e : Ending) (w' : World) : Prop :=
  ∃ v' l', e = .returned (.int .i64 ((l.length : Int) - ((s : Int) + kk))) ∧ l'.length = s + kk ∧ l'.take s = l.take s ∧ Dk w' base db m v' l' (s + kk) q ∧ Kept (fun i => i = db ∨ v.ownBlock = some i) w w'
set_option maxHeartbeats 2000000 in
theorem dcrash_any (base db s kk : Nat) (m q keep bt : Int) (v : Value) (l : List UInt8) (w : World) (hl : l.length ≤ 1000000) (hs : s ≤ l.length) (b0 : 0 ≤ bt) (b1 : bt ≤ 255) (hkk : (kk : Int) = min (max keep 0) ((l.length : Int) - s)) (hD : Dk w base db m v l s q) :
    Calls Try.prog 14 #[.pointer (some ⟨db, 0, none⟩), .int .i64 keep, .int .u8 bt] w (CrashPost w base db s m q v l kk) := by
  have HD := Lib.hid hD
  obtain ⟨vA, vc, hve, hv1, hv2⟩ := hD.row.shape
  subst hve
  have e0 := bcs_length l
  have cD := hD.blk.cell
  have fD := hD.blk.frozen
  have hdl := hD.blk.lt
  rw [e0] at cD HD hv1
  have HKK := Lib.hid hkk
  have hkl : s + kk ≤ l.length := by omega
  unfold maxLen at hv2
  clear hD e0 hkk
  go_enter Try.func14, Try.ntmps14
  go_upto_region 3 with fail
  go_cut [1] (fun x wx => x = .int .i64 (kk : Int) ∧ ∃ n, wx = w.drewN n)
  case first =>
    have := HKK.out
    by_cases h1 : 0 < keep
    · by_cases h2 : keep < (l.length : Int) - s
      · go_quiet (fail)
        go_wp2_with fail
        all_goals
          go_meet
          exact ⟨congrArg (Value.int .i64) (by omega), _, rfl⟩
      · go_quiet (fail)
        go_wp2_with fail
        all_goals
          go_meet
          exact ⟨congrArg (Value.int .i64) (by omega), _, rfl⟩
    · by_cases h2 : (0 : Int) < (l.length : Int) - s
      · go_quiet (fail)
        go_wp2_with fail
        all_goals
          go_meet
          exact ⟨congrArg (Value.int .i64) (by omega), _, rfl⟩
      · go_quiet (fail)
        go_wp2_with fail
        all_goals
          go_meet
          exact ⟨congrArg (Value.int .i64) (by omega), _, rfl⟩
  case rest =>
    obtain ⟨rfl, nn, rfl⟩ := hcut
    rcases Nat.eq_zero_or_pos kk with hk0 | hk0
    · subst hk0
      have hsv : (s : Int) ≤ (vc : Int) := by omega
      go_wp2_with fail
      go_ret
      have hne := HD.out.row.ne HD.out.blk (by decide)
      have hc := HD.out.row.cut (k := s) (by rw [bcs_length]; omega)
      rw [show (bcs l).take s = bcs (l.take s) by simp [bcs, List.map_take]] at hc
      refine ⟨.slice vA s vc, l.take s, ?_, by simp; omega, by rw [List.take_take, Nat.min_self], ⟨?_, ?_, HD.out.at_⟩, ?_⟩
      · exact ret_int (by omega)
      · exact ((HD.out.blk.drewN nn).set_ 1 _).set_to rfl
      · exact ((hc.drewN nn).far (hc.ne HD.out.blk (by decide))).far (hc.ne HD.out.blk (by decide))
      · exact (((Kept.refl _ w).drewN nn).setIn (.inl rfl)).setIn (.inl rfl)
    · obtain ⟨g, c', e', hgb, hgl, hcc⟩ := HD.out.row.at (i := s + kk - 1) (by rw [bcs_length]; omega)
      rw [bcs_length] at e'
      injection e' with e1 _ e3
      subst e1 e3
      have c1 := hcc (s + kk - 1) (by rw [bcs_length]; omega)
      have f1 := HD.out.row.frozen (g := g) rfl (s + kk - 1)
      have hlt : s + kk - 1 < l.length := by omega
      have eget : (bcs l)[s + kk - 1]'(by rw [bcs_length]; omega) = .int .u8 (l[s + kk - 1].toNat : Int) := by simp [bcs]
      rw [eget] at c1
      obtain ⟨y, hy⟩ := byte_of bt b0 b1
      subst hy
      have hx : bits .xor .u8 (l[s + kk - 1].toNat : Int) (y.toNat : Int) = ((l[s + kk - 1] ^^^ y).toNat : Int) := by
        rw [u8_xor_nat _ _ (l[s + kk - 1]).toNat_lt y.toNat_lt]; simp
      obtain ⟨x, hx'⟩ : ∃ x, l[s + kk - 1] = x := ⟨_, rfl⟩
      rw [hx'] at c1 hx
      obtain ⟨z, hz⟩ : ∃ z, x ^^^ y = z := ⟨_, rfl⟩
      rw [hz] at hx
      have hne := HD.out.row.ne HD.out.blk (by decide)
      have hne' : g ≠ db := fun e => hne (by rw [e]; rfl)
      clear hcc eget hx' hz hne
      go_wp2_with fail
      go_ret
      have hr2 := ((HD.out.row.drewN nn).set (g := g) rfl (s + kk - 1) (.int .u8 (z.toNat : Int))).cut (k := s + kk) (by simp [bcs_length]; omega)
      rw [show ((bcs l).set (s + kk - 1) (.int .u8 (z.toNat : Int))).take (s + kk) = bcs ((l.set (s + kk - 1) z).take (s + kk)) by simp [bcs, List.map_take, List.map_set]] at hr2
      have hnb : (Value.slice (some ⟨g, 0, none⟩) (s + kk) vc).ownBlock ≠ some db := by simp [Value.ownBlock]; exact hne'
      refine ⟨.slice (some ⟨g, 0, none⟩) (s + kk) vc, (l.set (s + kk - 1) z).take (s + kk), ?_, by simp; omega, ?_, ⟨?_, ?_, HD.out.at_⟩, ?_⟩
      · exact ret_int (by omega)
      · rw [List.take_take, Nat.min_eq_left (by omega), List.take_set_of_le (by omega)]
      · exact (((HD.out.blk.drewN nn).far' (Ne.symm hne')).set_ 1 _).set_to (by simp)
      · exact (hr2.far hnb).far hnb
      · exact ((((Kept.refl _ w).drewN nn).setIn (.inr rfl)).setIn (.inl rfl)).setIn (.inl rfl)


theorem cut_any (base db s k : Nat) (m q : Int) (v : Value) (l : List UInt8) (w : World) (hl : l.length ≤ 1000000) (hk : k ≤ l.length) (hD : Dk w base db m v l s q) :
    Calls Try.prog 24 #[.pointer (some ⟨db, 0, none⟩), .int .i64 (k : Int)] w fun e w' => (∃ v', e = .returned (.int .i64 0) ∧ Dk w' base db m v' (l.take k) k q) ∧ Kept (fun i => i = db ∨ v.ownBlock = some i) w w' := by
  have HD := Lib.hid hD
  obtain ⟨vA, vc, hve, hv1, hv2⟩ := hD.row.shape
  subst hve
  have e0 := bcs_length l
  have cD := hD.blk.cell
  have fD := hD.blk.frozen
  have hdl := hD.blk.lt
  rw [e0] at cD HD hv1
  unfold maxLen at hv2
  have hsv : (k : Int) ≤ (vc : Int) := by omega
  have hkl : ¬ (l.length : Int) < (k : Int) := by omega
  have hk0 : (0 : Int) ≤ (k : Int) := Int.natCast_nonneg _
  clear hD e0
  go_enter Try.func24, Try.ntmps24
  go_wp2_with fail
  go_ret
  have hc := HD.out.row.cut (k := k) (by rw [bcs_length]; omega)
  rw [show (bcs l).take k = bcs (l.take k) by simp [bcs, List.map_take]] at hc
  exact ⟨⟨rfl, .slice vA k vc, (HD.out.blk.set_ 1 _).set_to rfl, (hc.far (hc.ne HD.out.blk (by decide))).far (hc.ne HD.out.blk (by decide)), HD.out.at_⟩, ((Kept.refl _ w).setIn (.inl rfl)).setIn (.inl rfl)⟩
theorem clone_row (A : Option Addr) (c : Nat) (l : List UInt8) (w : World) (hl : l.length ≤ 1000000) (hB : BS w w.heap.size A l) :
    Calls Try.prog 26 #[.slice A l.length c] w fun e w' => ∃ v, e = .returned v ∧ Row w' w.heap.size 5 v (bcs l) ∧ Below w.heap.size w w' := by
  have hq := fun W => Lib.run_eql_slice_nil (P := Try.prog) W 22 5 A l.length c 0 0 Try.underlying22
  have h5 := Try.info5d
  have HB := Lib.hid hB
  cases A with
  | none =>
    obtain rfl : l = [] := by
      rcases hB with h | ⟨_, _, _, h, _⟩
      · exact h
      · cases h
    clear hB hq
    have hq := fun W => Lib.run_eql_slice_nil (P := Try.prog) W 22 5 none 0 c 0 0 Try.underlying22
    go_enter Try.func26, Try.ntmps26
    go_wp2_with fail
    go_ret
    exact ⟨_, rfl, Row.nil _ _ _, Below.refl _ _⟩
  | some A =>
    clear hB
    go_enter Try.func26, Try.ntmps26
    go_wp2_with (at_builtin; refine wpList_append_row rfl (.tmp 5) (.tmp 6) 22 rfl w.heap.size 5 (.int .u8 0) 1 Try.underlying22 h5 rfl _ [] rfl (some A) l.length c (bcs l) rfl (bcs_length l).symm ?a1 ?a2 (bcs_one l) ?a3 ?a4 ?a5 ?_)
    case a1 => exact Row.of_blk (cs := #[]) (Blk.new_ rfl _ _) (Nat.le_refl _) (by simp) rfl
    case a2 => exact (HB.out.alloc (Nat.le_refl _) _).src
    case a3 => rw [bcs_length]; unfold maxLen; simp; omega
    case a4 => rw [bcs_length]; simp; omega
    case a5 => simp
    intro v1 w1 hrow hgr _
    have HR := Lib.hid hrow
    have HB1 := Lib.hid (show Below w.heap.size w w1 from ((Below.refl _ _).alloc (Nat.le_refl _) _).trans (below_grown hgr (fun i e => by simp [Value.ownBlock] at e; omega) (by simp)))
    clear hrow hgr
    go_wp2_with fail
    go_ret
    exact ⟨_, rfl, HR.out, HB1.out⟩
theorem dread_any (base db s : Nat) (m q : Int) (v : Value) (l : List UInt8) (w : World) (hl : l.length ≤ 1000000) (hD : Dk w base db m v l s q) :
    Calls Try.prog 23 #[.pointer (some ⟨db, 0, none⟩)] w fun e w' => ∃ u, e = .returned u ∧ Byt w' u l ∧ Below w.heap.size w w' := by
  obtain ⟨A, c, rfl, _, _, hbs⟩ := hD.byt
  have H := Lib.hid ((slClone_any A c l w hl hbs).mono (R' := fun e w' => ∃ v, e = .returned v ∧ Byt w' v l ∧ Below w.heap.size w w') (fun e w' ⟨v, h1, h2, h3⟩ => ⟨v, h1, h2.byt, h3⟩))
  have cD := hD.blk.cell
  clear hD hbs
  go_enter Try.func23, Try.ntmps23
  go_wp2_with fail
  refine H.out.mono ?_
  rintro e w1 ⟨u, rfl, hy, hb⟩
  have HY := Lib.hid hy
  have HB := Lib.hid hb
  clear hy hb
  go_wp2_with fail
  go_ret
  exact ⟨_, rfl, HY.out, HB.out⟩
/-- Rows of unlike elements do not meet. -/
theorem Row.apart {w : World} {b b' e e' : Nat} {v u : Value} {xs ys : List Value} (h : Row w b e v xs) (h' : Row w b' e' u ys) (hne : e ≠ e') : u.ownBlock = none ∨ u.ownBlock ≠ v.ownBlock := by
  rcases h'.2 with ⟨rfl, _⟩ | ⟨g, cap, cur, rfl, _, hb, _⟩
  · exact .inl rfl
  · exact .inr fun he => h.ne (g := g) (t := e') (cs := cur) hb hne he.symm
end Go.Proofs.Ytnfolopodjdlbaa
