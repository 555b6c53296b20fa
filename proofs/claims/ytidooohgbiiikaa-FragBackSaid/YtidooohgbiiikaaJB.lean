import Derived.Test.YtidooohgbiiikaaQ
import Derived.Test.YtidooohgbiiikaaPlainJ
import Derived.Test.YtidooohgbiiikaaJd
import Derived.Test.YtidooohgbiiikaaQE
import Derived.Test.YtidooohgbiiikaaQA
import Derived.Test.YtidooohgbiiikaaJ
import Derived.Deep.DeepCutAuto
/- Parts as values; kin; a row of parts as a function. -/
namespace Go.Proofs.Ytidooohgbiiikaa
open Go.RowKit
set_option linter.unusedVariables false
set_option maxRecDepth 100000 in
set_option maxHeartbeats 1000000 in
theorem kin_any (a b : Hd) (va vb : Value) (w : World) : Calls Try.prog 20 #[.agg #[.int .u8 a.tos, .int .i64 a.len, .int .u16 a.id, .bool a.stay, .bool a.more, .int .i64 a.off, .int .u8 a.ttl, .int .u8 a.proto, .int .u16 a.sum, .bool false, .int .u64 0, .int .u64 a.src, .bool false, .int .u64 0, .int .u64 a.dst, va], .agg #[.int .u8 b.tos, .int .i64 b.len, .int .u16 b.id, .bool b.stay, .bool b.more, .int .i64 b.off, .int .u8 b.ttl, .int .u8 b.proto, .int .u16 b.sum, .bool false, .int .u64 0, .int .u64 b.src, .bool false, .int .u64 0, .int .u64 b.dst, vb]] w fun e w' => e = .returned (.bool (kinB a b)) ∧ Kept (fun _ => False) w w' := by
  by_cases h0 : a.id = b.id
  · by_cases h1 : a.proto = b.proto
    · by_cases h2 : a.src = b.src
      · by_cases h3 : a.dst = b.dst
        · have HK := Lib.hid (show kinB a b = true from decide_eq_true ⟨h0, h1, h2, h3⟩)
          have e0 : (a.id == b.id) = true := by simpa using h0
          have e1 : (a.proto == b.proto) = true := by simpa using h1
          have e2 : (a.src == b.src) = true := by simpa using h2
          have e3 : (a.dst == b.dst) = true := by simpa using h3
          clear h0 h1 h2 h3
          go_enter Try.func20, Try.ntmps20
          go_wp2_with fail
          go_ret
          exact ⟨ret_bool HK.out.symm, ((Kept.refl _ _).alloc _).alloc _⟩
        · have HK := Lib.hid (show kinB a b = false from decide_eq_false (fun h => h3 h.2.2.2))
          have e0 : (a.id == b.id) = true := by simpa using h0
          have e1 : (a.proto == b.proto) = true := by simpa using h1
          have e2 : (a.src == b.src) = true := by simpa using h2
          have e3 : (a.dst == b.dst) = false := beq_eq_false_iff_ne.2 h3
          clear h0 h1 h2 h3
          go_enter Try.func20, Try.ntmps20
          go_wp2_with fail
          go_ret
          exact ⟨ret_bool HK.out.symm, ((Kept.refl _ _).alloc _).alloc _⟩
      · have HK := Lib.hid (show kinB a b = false from decide_eq_false (fun h => h2 h.2.2.1))
        have e0 : (a.id == b.id) = true := by simpa using h0
        have e1 : (a.proto == b.proto) = true := by simpa using h1
        have e2 : (a.src == b.src) = false := beq_eq_false_iff_ne.2 h2
        clear h0 h1 h2
        go_enter Try.func20, Try.ntmps20
        go_wp2_with fail
        go_ret
        exact ⟨ret_bool HK.out.symm, ((Kept.refl _ _).alloc _).alloc _⟩
    · have HK := Lib.hid (show kinB a b = false from decide_eq_false (fun h => h1 h.2.1))
      have e0 : (a.id == b.id) = true := by simpa using h0
      have e1 : (a.proto == b.proto) = false := beq_eq_false_iff_ne.2 h1
      clear h0 h1
      go_enter Try.func20, Try.ntmps20
      go_wp2_with fail
      go_ret
      exact ⟨ret_bool HK.out.symm, ((Kept.refl _ _).alloc _).alloc _⟩
  · have HK := Lib.hid (show kinB a b = false from decide_eq_false (fun h => h0 h.1))
    have e0 : (a.id == b.id) = false := beq_eq_false_iff_ne.2 h0
    clear h0
    go_enter Try.func20, Try.ntmps20
    go_wp2_with fail
    go_ret
    exact ⟨ret_bool HK.out.symm, ((Kept.refl _ _).alloc _).alloc _⟩
/-- A part in memory: its header and its load. -/
def RP (w : World) (base : Nat) (x : List Value) (p : Pt) : Prop := ∃ v lv, x = (p.hd.cells v).toList ++ [lv] ∧ Row w base 5 v (bcs p.hd.opts) ∧ Row w base 5 lv (bcs p.ld)
section
variable {w w' : World} {base : Nat} {x : List Value} {p : Pt}
theorem RP.good (h : RP w base x p) : Good x := by
  obtain ⟨v, lv, rfl, h1, h2⟩ := h
  obtain ⟨A, c, rfl, -, -⟩ := h1.shape
  obtain ⟨B, d, rfl, -, -⟩ := h2.shape
  refine ⟨rfl, ⟨p.hd.off, rfl⟩, fun u hu => ?_⟩
  simp only [Hd.cells, List.mem_append, List.mem_cons, List.not_mem_nil, or_false] at hu
  rcases hu with (rfl | rfl | rfl | rfl | rfl | rfl | rfl | rfl | rfl | rfl | rfl | rfl | rfl | rfl | rfl | rfl) | rfl <;> rfl
theorem RP.key (h : RP w base x p) : kof x = poff p := by
  obtain ⟨v, lv, rfl, h1, h2⟩ := h
  rfl
theorem RP.kept {g : Nat} {cur : Array Value} (h : RP w base x p) (hk : Kept (fun i => i = g) w w') (hg : Blk w g 54 cur) : RP w' base x p := by
  obtain ⟨v, lv, rfl, h1, h2⟩ := h
  exact ⟨v, lv, rfl, h1.kept hk (fun i hi e => h1.ne hg (by decide) (by rw [hi, e])), h2.kept hk (fun i hi e => h2.ne hg (by decide) (by rw [hi, e]))⟩
theorem RP.kept0 (h : RP w base x p) (hk : Kept (fun _ => False) w w') : RP w' base x p := by
  obtain ⟨v, lv, rfl, h1, h2⟩ := h
  exact ⟨v, lv, rfl, h1.kept hk (fun _ _ h => h), h2.kept hk (fun _ _ h => h)⟩
theorem RP.grown {u : Value} {L : List (List Value)} {B : Nat} (h : RP w base x p) (hr : RowN w B 54 17 u L) (hg : w.grownBy w' u.ownBlock) : RP w' base x p := by
  obtain ⟨v, lv, rfl, h1, h2⟩ := h
  have ap : ∀ {z : Value} {xs : List Value}, Row w base 5 z xs → z.ownBlock = none ∨ z.ownBlock ≠ u.ownBlock := by
    intro z xs hz
    rcases hr.2.2 with ⟨rfl, _⟩ | ⟨g, cap, cur, rfl, _, hb, _⟩
    · cases hzb : z.ownBlock with
      | none => exact .inl rfl
      | some i => exact .inr (by simp [Value.ownBlock])
    · exact .inr (hz.ne (g := g) (t := 54) (cs := cur) hb (by decide))
  exact ⟨v, lv, rfl, h1.grown hg (ap h1), h2.grown hg (ap h2)⟩
end
theorem PR.of_row {w : World} {base g n c : Nat} {L : List (List Value)} (h : RowN w base 54 17 (.slice (some ⟨g, 0, none⟩) n c) L) (hg : ∀ x ∈ L, Good x) : PR w g n (fun k => L[k]!) ∧ L.length = n := by
  have hL := h.1
  rcases h.2.2 with ⟨h0, _⟩ | ⟨g', cap', cur, hv, h1, h2, h3, h4, h5, h6⟩
  · cases h0
  · cases hv
    refine ⟨⟨fun k hk => ?_, cur, h2, by rw [h5]; exact Nat.mul_le_mul_right _ h3, fun k hk j hj => ?_⟩, rfl⟩
    · show Good L[k]!
      rw [getElem!_pos L k hk]; exact hg _ (List.getElem_mem hk)
    · show cur[k * 17 + j]? = (L[k]!)[j]?
      rw [getElem!_pos L k hk, ← flat_get hL k hk j hj, ← h6, List.getElem?_take, if_pos (by have : (k + 1) * 17 ≤ L.length * 17 := Nat.mul_le_mul_right _ hk; omega), Array.getElem?_toList]
theorem seg_list {L : List (List Value)} : seg (fun k => L[k]!) 0 L.length = L := by
  refine List.ext_getElem (by rw [seg_length]; omega) fun k h1 h2 => ?_
  rw [seg_getElem, Nat.zero_add]
  exact getElem!_pos L k h2
theorem range_pre {w : World} {b o : Nat} {xs ys : List Value} (h : w.rangeAt b o (xs ++ ys)) : w.rangeAt b o xs := by
  intro j v hv
  exact h j v (by rw [List.getElem?_append_left (List.getElem?_eq_some_iff.1 hv).1]; exact hv)
end Go.Proofs.Ytidooohgbiiikaa
/- stableCmpFunc, SortStableFunc at parts. -/
namespace Go.Proofs.Ytidooohgbiiikaa
open Go.RowKit
set_option linter.unusedVariables false
def StbP (g n : Nat) (f0 : Nat → List Value) (w : World) (e : Ending) (w' : World) : Prop := e = .returned (.tuple #[]) ∧ ∃ f, PR w' g n f ∧ Kept (fun k => k = g) w w' ∧ seg f 0 n = isort kof (seg f0 0 n)
set_option maxRecDepth 100000 in
set_option maxHeartbeats 8000000 in
theorem stb_any (g n c : Nat) (f0 : Nat → List Value) (w : World) (hn : n ≤ 100000) (hP : PR w g n f0) :
    Calls Try.prog 29 #[(.slice (some ⟨g, 0, none⟩) n c), .int .i64 (n : Int), (.func (.func 18) #[] #[])] w (StbP g n f0 w) := by
  have HP0 := Lib.hid hP
  clear hP
  go_enter Try.func29, Try.ntmps29
  go_wp2_with fail
  go_loopw [7, 8] (fun x y wr => ∃ (j p q : Nat) (f : Nat → List Value), Hid (j * 20 = p) ∧ p + 20 ≤ q ∧ q ≤ p + 20 ∧ p ≤ n ∧ x = .int .i64 (p : Int) ∧ y = .int .i64 (q : Int) ∧ Hid (PR wr g n f) ∧ Hid (Kept (fun k => k = g) w wr) ∧ Hid (St1 kof f0 f j)) (fun x _ _ => n - (intOf x).toNat)
  case atStart => exact ⟨0, 0, 20, f0, Lib.hid rfl, by omega, by omega, by omega, rfl, rfl, HP0, Lib.hid (Kept.refl _ _), Lib.hid (St1.zero _)⟩
  case round =>
    obtain ⟨j, p, q, f, HJ, q1, q2, pn, rfl, rfl, HP, HK, HS⟩ := hrel
    by_cases hq : q ≤ n
    · have qI : (q : Int) ≤ (n : Int) := by omega
      go_wp2_with fail
      refine (ins_any g n c p q f _ hn (by omega) hq HP.out).mono ?_
      rintro e w1 ⟨rfl, f1, hp1, hk1, hi1⟩
      have HP1 := Lib.hid hp1
      have HK1 := Lib.hid (HK.out.trans hk1)
      have HI1 := Lib.hid hi1
      clear hp1 hk1 hi1
      go_wp2_with fail
      go_roundw
      case rel => exact ⟨j + 1, q, q + 20, f1, Lib.hid (by have := HJ.out; omega), by omega, by omega, hq, rfl, by go_num, HP1, HK1, Lib.hid (HS.out.step (by have := HI1.out; rw [HJ.out, show p + 20 = q by omega]; exact this))⟩
      case measure => simp [intOf]; omega
    · have qI : ¬ (q : Int) ≤ (n : Int) := by omega
      go_wp2_with fail
      refine (ins_any g n c p n f _ hn pn (Nat.le_refl _) HP.out).mono ?_
      rintro e w1 ⟨rfl, f1, hp1, hk1, hi1⟩
      have HP1 := Lib.hid hp1
      have HK1 := Lib.hid (HK.out.trans hk1)
      have HB1 := Lib.hid (HS.out.last (n := n) (by have := HJ.out; omega) (by have := HJ.out; omega) (by rw [HJ.out]; exact hi1))
      clear hp1 hk1 hi1 HP HK HS HJ q1 q2 pn hq qI
      go_wp2_with fail
      go_loopw [6, 7, 8, 9] (fun x _ _ _ wr => ∃ (s : Nat) (f : Nat → List Value), 20 ≤ s ∧ s ≤ 2 * n + 20 ∧ x = .int .i64 (s : Int) ∧ Hid (PR wr g n f) ∧ Hid (Kept (fun k => k = g) w wr) ∧ Hid (Sbl kof f0 f s n)) (fun x _ _ _ _ => n - (intOf x).toNat)
      case atStart => exact ⟨20, f1, by omega, by omega, rfl, HP1, HK1, HB1⟩
      case round =>
        clear HP1 HK1 HB1
        obtain ⟨s, f2, s1, s2, rfl, HP2, HK2, HB2⟩ := hrel
        by_cases hsn : s < n
        · have sI : (s : Int) < (n : Int) := by omega
          obtain ⟨d, hd⟩ : ∃ d, 2 * s = d := ⟨_, rfl⟩
          have ed : 2 * (s : Int) = (d : Int) := by omega
          have ed' : (s : Int) * 2 = (d : Int) := by omega
          have d1 : 2 * s ≤ d := by omega
          have d2 : d ≤ 2 * s := by omega
          have HD := Lib.hid hd
          clear hd
          go_wp2_with fail
          go_loopw [7, 8] (fun x y wr => ∃ (j p q : Nat) (f : Nat → List Value), Hid (j * (2 * s) = p) ∧ p + d ≤ q ∧ q ≤ p + d ∧ p ≤ n ∧ x = .int .i64 (p : Int) ∧ y = .int .i64 (q : Int) ∧ Hid (PR wr g n f) ∧ Hid (Kept (fun k => k = g) w wr) ∧ Hid (St2 kof f0 f s n j)) (fun x _ _ => n - (intOf x).toNat)
          case atStart => exact ⟨0, 0, d, f2, Lib.hid (by simp), by omega, by omega, by omega, rfl, rfl, HP2, HK2, Lib.hid (St2.zero HB2.out)⟩
          case round =>
            clear HP2 HK2 HB2
            obtain ⟨j, p, q, f, HJ, q1, q2, pn, rfl, rfl, HP, HK, HS⟩ := hrel
            obtain ⟨m, hm⟩ : ∃ m, p + s = m := ⟨_, rfl⟩
            have em : (p : Int) + (s : Int) = (m : Int) := by omega
            have m1 : p + s ≤ m := by omega
            have m2 : m ≤ p + s := by omega
            have HM := Lib.hid hm
            clear hm
            have HSR := Lib.hid (HS.out.srt HJ.out)
            by_cases hq : q ≤ n
            · have qI : (q : Int) ≤ (n : Int) := by omega
              have hA := HSR.out.1
              have hB := HSR.out.2
              rw [show min (p + s) n = m by omega] at hA
              rw [HM.out, show min (p + 2 * s) n = q by omega] at hB
              have HA := Lib.hid hA
              have HB := Lib.hid hB
              clear hA hB
              go_wp2_with fail
              refine (sym_any g n c hn (q - p) p m q f _ (Nat.le_refl _) (by omega) (by omega) hq HP.out HA.out HB.out).mono ?_
              rintro e w1 ⟨rfl, f1, hp1, hk1, hm1⟩
              have HP1 := Lib.hid hp1
              have HK1 := Lib.hid (HK.out.trans hk1)
              have HM1 := Lib.hid hm1
              clear hp1 hk1 hm1
              go_wp2_with fail
              go_roundw
              case rel => exact ⟨j + 1, q, q + d, f1, Lib.hid (by rw [Nat.add_mul, HJ.out]; omega), by omega, by omega, hq, rfl, by go_num, HP1, HK1, Lib.hid (HS.out.step HJ.out (by omega) (by rw [HM.out, show p + 2 * s = q by omega]; exact HM1.out))⟩
              case measure => simp [intOf]; omega
            · have qI : ¬ (q : Int) ≤ (n : Int) := by omega
              by_cases hmn : m < n
              · have mI : (m : Int) < (n : Int) := by omega
                have hA := HSR.out.1
                have hB := HSR.out.2
                rw [show min (p + s) n = m by omega] at hA
                rw [HM.out, show min (p + 2 * s) n = n by omega] at hB
                have HA := Lib.hid hA
                have HB := Lib.hid hB
                clear hA hB
                go_wp2_with fail
                refine (sym_any g n c hn (n - p) p m n f _ (Nat.le_refl _) (by omega) hmn (Nat.le_refl _) HP.out HA.out HB.out).mono ?_
                rintro e w1 ⟨rfl, f1, hp1, hk1, hm1⟩
                have HP1 := Lib.hid hp1
                have HK1 := Lib.hid (HK.out.trans hk1)
                have HM1 := Lib.hid (HS.out.last HJ.out pn (by omega) (g := f1) (.inl ⟨by omega, by rw [HM.out]; exact hm1⟩))
                clear hp1 hk1 hm1
                go_wp2_with fail
                go_roundw
                case rel => exact ⟨d, f1, by omega, by omega, rfl, HP1, HK1, Lib.hid (by rw [← HD.out]; exact HM1.out)⟩
                case measure => simp [intOf]; omega
              · have mI : ¬ (m : Int) < (n : Int) := by omega
                have HM1 := Lib.hid (HS.out.last HJ.out pn (by omega) (g := f) (.inr ⟨by omega, rfl⟩))
                go_wp2_with fail
                go_roundw
                case rel => exact ⟨d, f, by omega, by omega, rfl, HP, HK, Lib.hid (by rw [← HD.out]; exact HM1.out)⟩
                case measure => simp [intOf]; omega
        · have sI : ¬ (s : Int) < (n : Int) := by omega
          have hns : n ≤ s := by omega
          go_wp2_with fail
          go_end0
          exact ⟨rfl, f2, HP2.out, HK2.out, HB2.out.done hns⟩
set_option maxHeartbeats 1000000 in
/-- slices.SortStableFunc at parts. -/
theorem sort_any (g n c : Nat) (f0 : Nat → List Value) (w : World) (hn : n ≤ 100000) (hP : PR w g n f0) : Calls Try.prog 17 #[(.slice (some ⟨g, 0, none⟩) n c), (.func (.func 18) #[] #[])] w (StbP g n f0 w) := by
  have HP := Lib.hid hP
  clear hP
  go_enter Try.func17, Try.ntmps17
  go_wp2_with fail
  refine (stb_any g n c f0 _ hn HP.out).mono ?_
  rintro e w1 ⟨rfl, hpost⟩
  have H := Lib.hid hpost
  clear hpost
  go_wp2_with fail
  go_end0
  exact ⟨rfl, H.out⟩
end Go.Proofs.Ytidooohgbiiikaa
/- frag.Join, walked. -/
namespace Go.Proofs.Ytidooohgbiiikaa
open Go.RowKit
set_option linter.unusedVariables false
theorem Try.info54r : (Try.prog.info? 54).map (fun i => (i.zero, i.size, i.bytes)) = some (some (.agg #[.int .u8 0, .int .i64 0, .int .u16 0, .bool false, .bool false, .int .i64 0, .int .u8 0, .int .u8 0, .int .u16 0, .bool false, .int .u64 0, .int .u64 0, .bool false, .int .u64 0, .int .u64 0, .slice none 0 0, .slice none 0 0]), 17, 136) := by kernel_rfl
theorem make_parts (n : Nat) (W : World) (hn : n ≤ 1000) : (Instr.makeSlice 52 (.int .i64 0) (.int .i64 (n : Int))).run Try.prog W = .ok (.slice (some ⟨W.heap.size, 0, none⟩) 0 n) (W.alloc (.cells (madeCells #[.int .u8 0, .int .i64 0, .int .u16 0, .bool false, .bool false, .int .i64 0, .int .u8 0, .int .u8 0, .int .u16 0, .bool false, .int .u64 0, .int .u64 0, .bool false, .int .u64 0, .int .u64 0, .slice none 0 0, .slice none 0 0] (n * 17)) 54)) := by
  obtain ⟨i, hi, hzz⟩ := Option.map_eq_some_iff.1 Try.info54r
  injection hzz with hz hzz
  injection hzz with hz1 hz2
  have hr := run_make (P := Try.prog) W 52 54 i (.agg #[.int .u8 0, .int .i64 0, .int .u16 0, .bool false, .bool false, .int .i64 0, .int .u8 0, .int .u8 0, .int .u16 0, .bool false, .int .u64 0, .int .u64 0, .bool false, .int .u64 0, .int .u64 0, .slice none 0 0, .slice none 0 0]) Try.underlying52 hi hz .i64 .i64 0 (n : Int) (Int.le_refl _) (by omega) (by rw [hz2]; omega) (by omega)
  rw [hz1] at hr
  simp only [Int.toNat_natCast, Int.toNat_zero] at hr
  exact hr
/-- The slices of bytes that came in. -/
def Ins (w : World) (B : Nat) (A : Option Addr) (ls : List (List UInt8)) : Prop := ls = [] ∨ ∃ b off, b < B ∧ A = some ⟨b, off, none⟩ ∧ ∀ k (h : k < ls.length), ∃ C c, w.cell? ⟨b, off + k, none⟩ = some (.slice C ls[k].length c) ∧ ls[k].length ≤ c ∧ c ≤ maxLen ∧ BS w B C ls[k]
theorem BS.keepB {w w' : World} {B : Nat} {A : Option Addr} {l : List UInt8} (h : BS w B A l) (hk : Below B w w') : BS w' B A l := h.below hk
theorem len_sum {l : List (List UInt8)} {x : List UInt8} (h : x ∈ l) : x.length ≤ (l.map List.length).sum := by
  induction l with
  | nil => cases h
  | cons y l ih =>
    rw [List.map_cons, List.sum_cons]
    rcases List.mem_cons.1 h with rfl | h
    · omega
    · have := ih h; omega
def JoinP (l : List (List UInt8)) (w : World) (e : Ending) (w' : World) : Prop := Below w.heap.size w w' ∧ ∃ v, e = .returned (.tuple #[v, .int .i64 (joinR l).1]) ∧ Row w' w.heap.size 5 v (bcs (joinR l).2)
theorem finJ_bad (h : Hd) : finJ h (21, []) = (21, []) := rfl
theorem finJ_gap (h : Hd) : finJ h (20, []) = (20, []) := rfl
theorem F2.left {α β : Type} {R : α → β → Prop} {xs : List α} {bs : List β} (h : F2 R xs bs) {a : α} (ha : a ∈ xs) : ∃ b, R a b := by
  induction h with
  | nil => cases ha
  | cons h _ ih =>
    rcases List.mem_cons.1 ha with rfl | ha
    · exact ⟨_, h⟩
    · exact ih ha
theorem F2.seg {α β : Type} {R : α → β → Prop} {f : Nat → α} {n : Nat} {P : List β} (h : F2 R (seg f 0 n) P) {k : Nat} (hk : k < n) (hk' : k < P.length) : R (f k) P[k] := by
  have := h.at (k := k) (by rw [seg_length]; omega) hk'
  rw [seg_getElem, Nat.zero_add] at this
  exact this
end Go.Proofs.Ytidooohgbiiikaa
