import Derived.Test.YtokahoabhhipmaaTo
import Derived.Test.YtokahoabhhipmaaAwake
import Derived.Laws.MakeOwn
namespace Go.Proofs.Ytokahoabhhipmaa
open Go.RowKit

theorem Try.info4 : (Try.prog.info? 4).map (fun i => (i.zero, i.size, i.bytes)) = some (some (.bool false), 1, 1) := by kernel_rfl

def seen0 : Array Value := madeCells #[.bool false] 4096
theorem run_seen (W : World) : (Instr.makeSlice 35 (.int .i64 4096) (.int .i64 4096)).run Try.prog W = .ok (.slice (some ⟨W.heap.size, 0, none⟩) 4096 4096) (W.alloc (.cells seen0 4)) := by
  obtain ⟨i0, hi0, hz0, hz1, hz2⟩ := info_parts Try.info4
  have h := run_make (P := Try.prog) W 35 4 i0 (.bool false) Try.underlying35 hi0 hz0 .i64 .i64 4096 4096 (by decide) (by decide) (by rw [hz2]; decide) (by decide)
  rw [hz1] at h
  exact h
theorem seen0_at (i : Nat) (h : i < 4096) : seen0[i]? = some (.bool false) := by
  unfold seen0 madeCells
  simp [h, Nat.mod_one]

/-- After j picks from place p on: the candidates that have not been picked are not seen. -/
def Unseen (l : List Cd) (p j : Nat) (cs : Array Value) : Prop :=
  cs.size = 4096 ∧ ∀ q (h : q < l.length), (∀ t, t < j → (p + t) % l.length ≠ q) → cs[l[q].slot.toNat]? = some (.bool false)
theorem unseen0 {l : List Cd} (hr : rightFrom (-1) l = true) (p : Nat) : Unseen l p 0 seen0 := by
  refine ⟨size_madeCells _ _, fun q h _ => seen0_at _ ?_⟩
  have := rf_mem hr l[q] (List.getElem_mem h)
  omega
theorem Unseen.next {l : List Cd} (hr : rightFrom (-1) l = true) {p j : Nat} {cs : Array Value} (h : Unseen l p j cs) (q : Nat) (hq : q < l.length) (e : q = (p + j) % l.length) (v : Value) :
    Unseen l p (j + 1) (cs.setIfInBounds l[q].slot.toNat v) := by
  refine ⟨by simp [h.1], fun q' hq' hn => ?_⟩
  have hne : q ≠ q' := by rw [e]; exact hn j (by omega)
  have hd : l[q].slot ≠ l[q'].slot := by
    rcases Nat.lt_or_gt_of_ne hne with hlt | hlt
    · have := rf_lt hr q q' hq' hlt; omega
    · have := rf_lt hr q' q hq hlt; omega
  have m1 := rf_mem hr l[q] (List.getElem_mem hq)
  have m2 := rf_mem hr l[q'] (List.getElem_mem hq')
  rw [Array.getElem?_setIfInBounds_ne (by omega)]
  exact h.2 q' hq' fun t ht => hn t (by omega)
theorem Unseen.now {l : List Cd} {p j : Nat} {cs : Array Value} (h : Unseen l p j cs) (hj : j < l.length) (q : Nat) (hq : q < l.length) (e : q = (p + j) % l.length) : cs[l[q].slot.toNat]? = some (.bool false) :=
  h.2 q hq fun t ht => by rw [e]; exact mod_ne hj ht

theorem pick_nil (tb : Nat) (w : World) :
    Calls Try.prog 9 #[.pointer (some ⟨tb, 0, none⟩), .slice none 0 0] w fun e w' => e = .returned (.tuple #[.agg #[.int .i64 0, .int .i64 0, .int .i64 0, .int .u32 0], .bool false]) ∧ Below w.heap.size w w' := by
  go_enter Try.func9, Try.ntmps9
  go_wp2
  exact bodyPost_ret (results_blk_tmp (P := Try.prog) Try.results9 _ _ w.heap.size 32 #[.int .i64 0, .int .i64 0, .int .i64 0, .int .u32 0] _ rfl (Blk.new _ _ _) Try.underlying32 rfl (by kernel_rfl)) rfl ⟨rfl, (Below.refl _ _).alloc (Nat.le_refl _) _⟩

set_option maxHeartbeats 2000000 in
theorem turnAll_far (A : Option Addr) (cap n : Nat) (x : Int) (w : World) (h : 70 < n) (hn : n ≤ 9223372036854775807) :
    Calls Try.prog 3 #[.slice A n cap, .int .u8 x] w fun e w' => e = .returned (.bool true) ∧ Below w.heap.size w w' := by
  go_enter Try.func3, Try.ntmps3
  go_wp2_with fail
  refine (awake_any _).mono ?_
  rintro e w' ⟨rfl, hb⟩
  go_wp2_with fail
  go_ret
  exact ⟨rfl, hb⟩

set_option maxHeartbeats 2000000 in
theorem turnAll_not (A : Option Addr) (cap : Nat) (l : List Cd) (x : Int) (w : World) (B : Nat) (h : l.length ≤ 70) (hc : Cands w B A l) (hr : rightFrom (-1) l = false) :
    Calls Try.prog 3 #[.slice A l.length cap, .int .u8 x] w fun e w' => e = .returned (.bool true) ∧ Below w.heap.size w w' := by
  have HC := Lib.hid hc
  clear hc
  go_enter Try.func3, Try.ntmps3
  go_wp2_with fail
  refine (refRight_c B A cap l _ h HC.out).mono ?_
  rintro e w' ⟨rfl, rfl⟩
  go_wp2_with fail
  refine (awake_any _).mono ?_
  rintro e w' ⟨rfl, hb⟩
  go_wp2_with fail
  go_ret
  exact ⟨rfl, hb⟩

set_option maxHeartbeats 2000000 in
theorem turnAll_yes (A : Option Addr) (cap : Nat) (l : List Cd) (x : Int) (w : World) (hx0 : 0 ≤ x) (hx1 : x ≤ 255) (h : l.length ≤ 70) (hc : Cands w w.heap.size A l) (hr : rightFrom (-1) l = true) (hne : l ≠ []) :
    Calls Try.prog 3 #[.slice A l.length cap, .int .u8 x] w fun e w' => e = .returned (.bool true) ∧ Below w.heap.size w w' := by
  have HC := Lib.hid hc
  have HN := Lib.hid hne
  have hd : decide ((70 : Int) < (l.length : Int)) = false := by simp; omega
  have hl0 : 0 < l.length := List.length_pos_iff.2 hne
  clear hc hne
  go_enter Try.func3, Try.ntmps3
  go_wp2_with fail
  refine (refRight_c _ A cap l _ h HC.out).mono ?_
  rintro e w' ⟨rfl, rfl⟩
  have HR := Lib.hid hr
  go_wp2_with fail
  refine (to_c w.heap.size A cap l _ h (by simp) ?_).mono ?_
  · rcases HC.out with h0 | ⟨b, off, hb, h1, h2⟩
    · exact .inl h0
    · exact .inr ⟨b, off, hb, h1, h2.keep fun o => World.cell?_alloc_lt _ _ _ hb⟩
  rintro e w1 ⟨hb1, he⟩
  rcases he with ⟨h0, _⟩ | ⟨_, g, c, rfl, hg1, hg2, hcs⟩
  · exact absurd h0 HN.out
  have hT1 : Blk w1 w.heap.size 27 #[.int .i64 0] := (Blk.new _ _ _).below hb1 (by simp)
  have hK1 : Kept (fun i => w.heap.size ≤ i) w w1 := ((Kept.refl _ w).alloc _).then (Kept.of_below (S := fun i => w.heap.size ≤ i) hb1 (fun i hi h => by omega)) (fun i _ h => h)
  have hg1' : w.heap.size + 1 ≤ g := by simpa using hg1
  have HT1 := Lib.hid hT1
  have HK1 := Lib.hid hK1
  have HCS := Lib.hid hcs
  clear hT1 hK1 hcs hb1 hr hg1
  go_wp2_with fail
  go_loopw [7] (fun i wr => ∃ k : Nat, ∃ n : Int, (k : Int) ≤ x % 80 ∧ i = .int .i64 k ∧ Hid (Blk wr w.heap.size 27 #[.int .i64 n]) ∧ Hid (CellsAt wr g 0 l) ∧ g < wr.heap.size ∧ Hid (Kept (fun i => w.heap.size ≤ i) w wr)) (fun i _ => (x % 80).toNat - (intOf i).toNat)
  case atStart => exact ⟨0, 0, by simp; omega, rfl, HT1, HCS, hg2, HK1⟩
  case round =>
    obtain ⟨k, n, hk, rfl, HT, HC', hg3, HK⟩ := hrel
    by_cases hlt : (k : Int) < x % 80
    · go_wp2_with fail
      refine (pick_any w.heap.size g 0 c l n _ hl0 h HC'.out (fun c hc => by have := rf_mem HR.out c hc; omega) hg3 HT.out).mono ?_
      rintro e w2 ⟨k', hk', _, rfl, hT2, hK2⟩
      have hC2 : CellsAt w2 g 0 l := HC'.out.keep fun o => hK2.cell hg3 (by omega) o
      have hK3 : Kept (fun i => w.heap.size ≤ i) w w2 := HK.out.then hK2 (fun i hi h => by omega)
      have hg4 : g < w2.heap.size := Nat.lt_of_lt_of_le hg3 hK2.size
      have HT2 := Lib.hid hT2
      have HC2 := Lib.hid hC2
      have HK3 := Lib.hid hK3
      clear hT2 hC2 hK3 hK2
      go_wp2_with fail
      go_roundw
      case rel => exact ⟨k + 1, _, by omega, by go_num, HT2, HC2, hg4, HK3⟩
      case measure => simp [intOf]; omega
    · have hmk := run_seen
      go_wp2_with fail
      obtain ⟨wo, rfl⟩ : ∃ wo : World, wo = wr := ⟨_, rfl⟩
      obtain ⟨p0, hp0⟩ : ∃ p0, pickI l n = p0 := ⟨_, rfl⟩
      have hp0' : p0 < l.length := by rw [← hp0]; exact pickI_lt l n hl0
      have HP0 := Lib.hid hp0
      have HK0 := Lib.hid (HK.out.alloc (.cells seen0 4))
      have hs0 : w.heap.size < wo.heap.size := HT.out.lt
      clear hp0
      go_loopw [9] (fun i wr => ∃ j : Nat, ∃ n' : Int, ∃ cs : Array Value, j ≤ l.length ∧ i = .int .i64 j ∧ Hid (pickI l n' = (p0 + j) % l.length) ∧ Hid (Blk wr w.heap.size 27 #[.int .i64 n']) ∧ Hid (CellsAt wr g 0 l) ∧ Hid (Blk wr wo.heap.size 4 cs) ∧ Hid (Unseen l p0 j cs) ∧ Hid (Kept (fun i => w.heap.size ≤ i) w wr)) (fun i _ => l.length - (intOf i).toNat)
      case atStart => exact ⟨0, n, seen0, Nat.zero_le _, rfl, Lib.hid (by rw [HP0.out, Nat.add_zero, Nat.mod_eq_of_lt hp0']), Lib.hid (HT.out.alloc _), Lib.hid (HC'.out.keep fun o => World.cell?_alloc_lt _ _ _ hg3), Lib.hid (Blk.new _ _ _), Lib.hid (unseen0 HR.out p0), HK0⟩
      case round =>
        obtain ⟨j, n', cs, hj, rfl, HP, HT', HC'', HS, HU, HK'⟩ := hrel
        have hslt := HS.out.lt
        by_cases hlt : j < l.length
        · have hjI : (j : Int) < (l.length : Int) := by omega
          go_wp2_with fail
          refine (pick_any w.heap.size g 0 c l n' _ hl0 h HC''.out (fun c hc => by have := rf_mem HR.out c hc; omega) (by omega) HT'.out).mono ?_
          rintro e w2 ⟨q, hq, hqe, rfl, hT2, hK2⟩
          have hqe' : q = (p0 + j) % l.length := hqe.trans HP.out
          have hC2 : CellsAt w2 g 0 l := HC''.out.keep fun o => hK2.cell (by omega) (by omega) o
          have hK3 : Kept (fun i => w.heap.size ≤ i) w w2 := HK'.out.then hK2 (fun i hi h => by omega)
          have hS2 : Blk w2 wo.heap.size 4 cs := HS.out.kept hK2 (by omega)
          have hsz2 : wo.heap.size < w2.heap.size := hS2.lt
          have cS := (hS2.cell l[q].slot.toNat).trans (HU.out.now hlt q hq hqe')
          have fS := hS2.frozen l[q].slot.toNat
          have hm := rf_mem HR.out l[q] (List.getElem_mem hq)
          have hm0 : 0 ≤ l[q].slot := by omega
          have hm1 : l[q].slot ≤ 4095 := by omega
          have HQ := Lib.hid hqe'
          have HT2 := Lib.hid hT2
          have HC2 := Lib.hid hC2
          have HK3 := Lib.hid hK3
          have HS2 := Lib.hid hS2
          clear hT2 hC2 hK3 hK2 hS2 hqe hqe' hm
          go_wp2_with fail
          go_roundw
          case rel =>
            go_light
            refine ⟨j + 1, _, _, by omega, by go_num, Lib.hid ?_, Lib.hid ((HT2.out.far' (by omega)).alloc _), Lib.hid (HC2.out.keep fun o => ?_), Lib.hid ((HS2.out.set_ _ _).alloc _), Lib.hid (HU.out.next HR.out q hq HQ.out _), Lib.hid ((HK3.out.setNew (by omega)).alloc _)⟩
            · rw [pick_next HR.out q hq, HQ.out, Nat.mod_add_mod, Nat.add_assoc]
            · rw [World.cell?_alloc_lt _ _ _ (by simp; omega), World.cell?_setCell_other _ _ _ _ (fun e => by injection e; omega)]
          case measure => simp [intOf]; omega
        · go_wp2_with fail
          refine (awake_any _).mono ?_
          rintro e w' ⟨rfl, hb⟩
          go_wp2_with fail
          go_ret
          exact ⟨rfl, (HK'.out.then (Kept.of_below (S := fun i => w.heap.size ≤ i) hb (fun i _ h => by have := HK'.out.size; omega)) (fun i _ h => h)).below (Nat.le_refl _) (fun i h => h)⟩
set_option maxHeartbeats 2000000 in
theorem turnAll_empty (A : Option Addr) (cap : Nat) (x : Int) (w : World) (hx0 : 0 ≤ x) (hx1 : x ≤ 255) :
    Calls Try.prog 3 #[.slice A 0 cap, .int .u8 x] w fun e w' => e = .returned (.bool true) ∧ Below w.heap.size w w' := by
  go_enter Try.func3, Try.ntmps3
  go_wp2_with fail
  refine (refRight_nil A cap _).mono ?_
  rintro e w' ⟨rfl, rfl⟩
  go_wp2_with fail
  refine (to_nil A cap _).mono ?_
  rintro e w1 ⟨rfl, rfl⟩
  go_wp2_with fail
  go_loopw [7] (fun i wr => ∃ k : Nat, (k : Int) ≤ x % 80 ∧ i = .int .i64 k ∧ Hid (Below w.heap.size w wr)) (fun i _ => (x % 80).toNat - (intOf i).toNat)
  case atStart => exact ⟨0, by simp; omega, rfl, Lib.hid ((Below.refl _ _).alloc (Nat.le_refl _) _)⟩
  case round =>
    obtain ⟨k, hk, rfl, HB⟩ := hrel
    by_cases hlt : (k : Int) < x % 80
    · go_wp2_with fail
      refine (pick_nil _ _).mono ?_
      rintro e w2 ⟨rfl, hb2⟩
      have HB2 := Lib.hid (HB.out.trans (hb2.mono HB.out.size))
      clear hb2
      go_wp2_with fail
      go_roundw
      case rel => exact ⟨k + 1, by omega, by go_num, HB2⟩
      case measure => simp [intOf]; omega
    · have hmk := run_seen
      go_wp2_with fail
      refine wp_loop_rounds 1 ?_; rw [rounds_succ]
      go_wp2_with fail
      refine (awake_any _).mono ?_
      rintro e w' ⟨rfl, hb⟩
      go_wp2_with fail
      go_ret
      exact ⟨rfl, (HB.out.alloc HB.out.size _).trans (hb.mono (by have := HB.out.size; simp; omega))⟩

theorem turnAll_any (A : Option Addr) (cap : Nat) (l : List Cd) (x : Int) (w : World) (hx0 : 0 ≤ x) (hx1 : x ≤ 255) (hl : l.length ≤ maxLen) (hc : Cands w w.heap.size A l) :
    Calls Try.prog 3 #[.slice A l.length cap, .int .u8 x] w fun e w' => e = .returned (.bool true) ∧ Below w.heap.size w w' := by
  unfold maxLen at hl
  by_cases h : 70 < l.length
  · exact turnAll_far A cap _ x w h hl
  by_cases hr : rightFrom (-1) l = true
  · by_cases hne : l = []
    · subst hne
      exact turnAll_empty A cap x w hx0 hx1
    · exact turnAll_yes A cap l x w hx0 hx1 (by omega) hc hr hne
  · exact turnAll_not A cap l x w _ (by omega) hc (by simpa using hr)

end Go.Proofs.Ytokahoabhhipmaa
