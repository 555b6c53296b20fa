import Derived.Test.YtcpiohmgnlapiaaRows
import Derived.Test.YtcpiohmgnlapiaaB
import Derived.Deep.RegionHeld3
import Derived.Deep.LoopGhost
import Derived.Deep.DeepCutAuto
import Derived.Outline
import Derived.Deep.Light
import Derived.StillTailTactics
import Derived.Deep.QuietTactic
import Derived.BigQuiet
namespace Go.Proofs.Ytcpiohmgnlapiaa
open Go.RowKit
set_option linter.unusedVariables false


structure Act where
  kind : Int
  n : Int
  now : Int
def ActsAt (w : World) (b off : Nat) (l : List Act) : Prop :=
  ∀ k (h : k < l.length), w.cell? ⟨b, off + k * 3, none⟩ = some (.int .i64 l[k].kind) ∧ w.cell? ⟨b, off + k * 3 + 1, none⟩ = some (.int .u64 l[k].n) ∧ w.cell? ⟨b, off + k * 3 + 2, none⟩ = some (.int .u64 l[k].now) ∧
    0 ≤ l[k].n ∧ l[k].n < 18446744073709551616 ∧ 0 ≤ l[k].now ∧ l[k].now < 18446744073709551616
def Acts (w : World) (B : Nat) (A : Option Addr) (l : List Act) : Prop := l = [] ∨ ∃ b off, b < B ∧ A = some ⟨b, off, none⟩ ∧ ActsAt w b off l
theorem Acts.at {w : World} {B : Nat} {A : Option Addr} {l : List Act} (h : Acts w B A l) {k : Nat} (hk : k < l.length) : ∃ b off, b < B ∧ A = some ⟨b, off, none⟩ ∧ ActsAt w b off l := by
  rcases h with rfl | h
  · simp at hk
  · exact h
theorem Acts.keep {w w' : World} {B : Nat} {A : Option Addr} {l : List Act} (h : Acts w B A l) (hk : ∀ b o, b < B → w'.cell? ⟨b, o, none⟩ = w.cell? ⟨b, o, none⟩) : Acts w' B A l := by
  rcases h with h | ⟨b, off, hb, h1, h2⟩
  · exact .inl h
  · refine .inr ⟨b, off, hb, h1, fun k hk' => ?_⟩
    have := h2 k hk'
    simp only [hk b _ hb]
    exact this

set_option maxRecDepth 100000 in
set_option maxHeartbeats 8000000 in
theorem buckets_no (r s : Int) (A : Option Addr) (n cap : Nat) (w : World) (h : 2147483648 < r ∨ (r ≤ 2147483648 ∧ s < 1) ∨ (r ≤ 2147483648 ∧ 1 ≤ s ∧ 2147483648 < s)) :
    Calls Try.prog 4 #[.int .u64 r, .int .u64 s, .slice A n cap] w fun e w' => e = .returned (.bool true) ∧ Below w.heap.size w w' := by
  have H := Lib.hid (fun W => new_no r s W h)
  rcases h with h | ⟨h1, h2⟩ | ⟨h1, h2, h3⟩
  all_goals
    go_enter Try.func4, Try.ntmps4
    go_wp2_with fail
    refine (awake_any _).mono ?_
    rintro e w1 ⟨rfl, hb1⟩
    have HB1 := Lib.hid hb1
    clear hb1
    go_wp2_with fail
    refine (H.out _).mono ?_
    rintro e w' ⟨rfl, rfl⟩
    go_wp2_with fail
    refine (take_nil _ _ _).mono ?_
    rintro e w' ⟨rfl, rfl⟩
    go_wp2_with fail
    refine (level_nil _ _).mono ?_
    rintro e w' ⟨rfl, rfl⟩
    go_wp2_with fail
    refine (awake_any _).mono ?_
    rintro e w2 ⟨rfl, hb2⟩
    go_wp2_with fail
    go_ret
    exact ⟨rfl, HB1.out.trans (hb2.mono HB1.out.size)⟩

/-- What holds at every round: both buckets are alike. -/
def Same (w wr : World) (bb rb : Nat) (r s lv t : Int) : Prop :=
  Blk wr bb 55 #[.int .u64 r, .int .u64 s, .int .u64 lv, .int .u64 t] ∧ Blk wr rb 37 #[.int .u64 r, .int .u64 s, .int .u64 lv, .int .u64 t] ∧ Kept (fun i => w.heap.size ≤ i) w wr
set_option maxRecDepth 100000 in
set_option maxHeartbeats 8000000 in
theorem buckets_any (r s : Int) (A : Option Addr) (cap : Nat) (l : List Act) (w : World) (r0 : 0 ≤ r) (r1 : r ≤ 2147483648) (s0 : 1 ≤ s) (s1 : s ≤ 2147483648) (hl : l.length ≤ 9223372036854775807) (hc : Acts w w.heap.size A l) :
    Calls Try.prog 4 #[.int .u64 r, .int .u64 s, .slice A l.length cap] w fun e w' => e = .returned (.bool true) ∧ Below w.heap.size w w' := by
  have HC := Lib.hid hc
  have hd1 : decide ((2147483648 : Int) < r) = false := by simp; omega
  have hd2 : decide (s < 1) = false := by simp; omega
  have hd3 : decide ((2147483648 : Int) < s) = false := by simp; omega
  clear hc
  go_enter Try.func4, Try.ntmps4
  go_wp2_with fail
  refine (awake_any _).mono ?_
  rintro e w1 ⟨rfl, hb1⟩
  have hs1 := hb1.size
  have HB1 := Lib.hid hb1
  clear hb1
  go_wp2_with fail
  refine (new_ok r s _ r1 s0 s1).mono ?_
  rintro e w' ⟨rfl, rfl⟩
  go_wp2_with fail
  refine (take_nil _ _ _).mono ?_
  rintro e w' ⟨rfl, rfl⟩
  go_wp2_with fail
  refine (level_nil _ _).mono ?_
  rintro e w' ⟨rfl, rfl⟩
  go_wp2_with fail

  go_loopg [11] 60 (fun g i wr => ∃ k : Nat, ∃ lv t : Int, k ≤ l.length ∧ k + g = 60 ∧ i = .int .i64 k ∧ 0 ≤ lv ∧ lv ≤ s ∧ 0 ≤ t ∧ t < 18446744073709551616 ∧ Same w wr w1.heap.size (w1.heap.size + 1) r s lv t)
  case atStart => exact ⟨0, s, 0, by omega, by omega, rfl, by omega, by omega, by omega, by omega, (Blk.new _ _ _).alloc _, Blk.new_ (by simp) _ _, ((Kept.of_below HB1.out (fun i _ h => h)).alloc _).alloc _⟩
  case round =>
    obtain ⟨k, lv, t, hk, hgk, rfl, l0, l1, t0, t1, hS⟩ := hrel
    obtain ⟨hb, hr, hK⟩ := hS
    have HGK := Lib.hid hgk
    have hsw := hK.size
    have hblt := hb.lt
    have hrlt := hr.lt
    have HB := Lib.hid hb
    have HR := Lib.hid hr
    have HK := Lib.hid hK
    have HCW := Lib.hid (HC.out.keep (w' := wr) fun b o hb => HK.out.cell hb (by omega) o)
    have hk60 : k ≤ 60 := by omega
    clear hb hr hK hgk
    by_cases hlt : k < l.length ∧ k < 60
    · obtain ⟨hlt, hlt60⟩ := hlt
      obtain ⟨b, off, hbB, rfl, hca⟩ := HCW.out.at hlt
      obtain ⟨c0, c1, c2, n0, n1, m0, m1⟩ := hca k hlt
      have hbwr : b < wr.heap.size := by omega
      have kI : (k : Int) < (l.length : Int) := by omega
      have kN : (0 : Int) ≤ (k : Int) := by omega
      generalize hkd : l[k].kind = kd at c0
      generalize hnn : l[k].n = n at c1 n0 n1
      generalize hnw : l[k].now = now at c2 m0 m1
      clear hkd hnn hnw hca
      have hfr := fillL_range (t := t) (now := now) r0 l0 l1
      have hft := fillT_range t0 t1 m0 m1
      obtain ⟨L, hL⟩ : ∃ L, fillL r s lv t now = L := ⟨_, rfl⟩
      obtain ⟨T2, hT⟩ : ∃ T2, fillT t now = T2 := ⟨_, rfl⟩
      rw [hL] at hfr
      rw [hT] at hft
      obtain ⟨L0, L1⟩ := hfr
      obtain ⟨T0, T1⟩ := hft
      have HL := Lib.hid hL
      have HT := Lib.hid hT
      have cr := HR.out.cell
      have fr := HR.out.frozen
      clear hL hT
      by_cases hkd : kd = 1
      · subst hkd
        go_wp2_with fail
        go_still_tail 6, (by kernel_rfl)
        go_wp2_with fail
        refine (refFill_any r s lv t now _ r0 r1 s1 l0 l1 t0 t1 m0 m1 L T2 HL.out HT.out).mono ?_
        rintro e w2 ⟨rfl, hb2⟩
        have hs2 := hb2.size
        have hbl2 : w1.heap.size < w2.heap.size := Nat.lt_of_lt_of_le hblt hs2
        have hrl2 : w1.heap.size + 1 < w2.heap.size := Nat.lt_of_lt_of_le hrlt hs2
        have hbw2 : b < w2.heap.size := Nat.lt_of_lt_of_le hbwr hs2
        have hR2 := HR.out.below (w' := w2) (B := wr.heap.size) (undrew hb2) hrlt
        have hB2 := HB.out.below (w' := w2) (B := wr.heap.size) (undrew hb2) hblt
        have cn2 := (hb2.cell (p := ⟨b, off + k * 3 + 2, none⟩) hbwr).trans c2
        have HK2 := Lib.hid (HK.out.then (Kept.of_below (S := fun i => w.heap.size ≤ i) (undrew hb2) (fun i _ h => by have : wr.heap.size ≤ i := h; omega)) (fun i _ h => h))
        have cr2 := hR2.cell
        have fr2 := hR2.frozen
        have HR2 := Lib.hid hR2
        have HB2 := Lib.hid hB2
        clear hb2 hR2 hB2 cr fr c0 c1 c2
        go_upto_region 21 with fail
        have hRx : Blk ((((w2.setCell ⟨w1.heap.size + 1, 0, none⟩ (.int .u64 r)).setCell ⟨w1.heap.size + 1, 1, none⟩ (.int .u64 s)).setCell ⟨w1.heap.size + 1, 2, none⟩ (.int .u64 L)).setCell ⟨w1.heap.size + 1, 3, none⟩ (.int .u64 T2)) (w1.heap.size + 1) 37 #[.int .u64 r, .int .u64 s, .int .u64 L, .int .u64 T2] := (((HR2.out.set_ _ _).set_ _ _).set_ _ _).set_to rfl
        have hBx : Blk ((((w2.setCell ⟨w1.heap.size + 1, 0, none⟩ (.int .u64 r)).setCell ⟨w1.heap.size + 1, 1, none⟩ (.int .u64 s)).setCell ⟨w1.heap.size + 1, 2, none⟩ (.int .u64 L)).setCell ⟨w1.heap.size + 1, 3, none⟩ (.int .u64 T2)) w1.heap.size 55 #[.int .u64 r, .int .u64 s, .int .u64 lv, .int .u64 t] := (((HB2.out.far' (by omega)).far' (by omega)).far' (by omega)).far' (by omega)
        have hKx : Kept (fun i => w.heap.size ≤ i) w ((((w2.setCell ⟨w1.heap.size + 1, 0, none⟩ (.int .u64 r)).setCell ⟨w1.heap.size + 1, 1, none⟩ (.int .u64 s)).setCell ⟨w1.heap.size + 1, 2, none⟩ (.int .u64 L)).setCell ⟨w1.heap.size + 1, 3, none⟩ (.int .u64 T2)) := (((HK2.out.setIn (by omega)).setIn (by omega)).setIn (by omega)).setIn (by omega)
        have hsx : ((((w2.setCell ⟨w1.heap.size + 1, 0, none⟩ (.int .u64 r)).setCell ⟨w1.heap.size + 1, 1, none⟩ (.int .u64 s)).setCell ⟨w1.heap.size + 1, 2, none⟩ (.int .u64 L)).setCell ⟨w1.heap.size + 1, 3, none⟩ (.int .u64 T2)).heap.size = w2.heap.size := by simp [World.setCell]
        have cnx : ((((w2.setCell ⟨w1.heap.size + 1, 0, none⟩ (.int .u64 r)).setCell ⟨w1.heap.size + 1, 1, none⟩ (.int .u64 s)).setCell ⟨w1.heap.size + 1, 2, none⟩ (.int .u64 L)).setCell ⟨w1.heap.size + 1, 3, none⟩ (.int .u64 T2)).cell? ⟨b, off + k * 3 + 2, none⟩ = some (.int .u64 now) := by
          rw [World.cell?_setCell_other _ _ _ _ (fun e => by injection e; omega), World.cell?_setCell_other _ _ _ _ (fun e => by injection e; omega), World.cell?_setCell_other _ _ _ _ (fun e => by injection e; omega), World.cell?_setCell_other _ _ _ _ (fun e => by injection e; omega)]
          exact cn2
        generalize (((w2.setCell ⟨w1.heap.size + 1, 0, none⟩ (.int .u64 r)).setCell ⟨w1.heap.size + 1, 1, none⟩ (.int .u64 s)).setCell ⟨w1.heap.size + 1, 2, none⟩ (.int .u64 L)).setCell ⟨w1.heap.size + 1, 3, none⟩ (.int .u64 T2) = w3 at hRx hBx hKx hsx cnx ⊢
        rw [← hsx] at hbl2 hrl2 hbw2
        have cr3 := hRx.cell 2
        simp at cr3
        have HRx := Lib.hid hRx
        have HBx := Lib.hid hBx
        have HKx := Lib.hid hKx
        clear cr2 fr2 cn2 hRx hBx hKx hsx HR2 HB2 HK2 hs2
        go_wp2_with fail
        go_region_held3 (fun w' => w'.cell? ⟨w1.heap.size + 1, 2, none⟩ = some (.int .u64 L) ∧ w'.cell? ⟨b, off + k * 3 + 2, none⟩ = some (.int .u64 now))
          (first
            | go_keep
            | (go_split_ands
               refine ⟨?_, ?_⟩
               · (rw [hK9.cell (by first | (simp; done) | (simp; omega)) (by omega)]; assumption)
               · (rw [hK9.cell (by first | (simp; done) | (simp; omega)) (by omega)]; assumption)))
          (first
            | (go_at_call 9; refine (level_any w1.heap.size r s lv t now _ r0 r1 s1 (by omega) (by omega) (by omega) (by omega) m0 m1 (by exact HBx.out) L T2 HL.out HT.out).mono ?_; rintro e w9 ⟨rfl, hB9, hK9⟩))
        replace hK9 := Kept.undrew hK9
        have hR9 := HRx.out.kept hK9 (by omega)
        have HF9 := Lib.hid (show Same w w9 w1.heap.size (w1.heap.size + 1) r s L T2 from ⟨hB9, hR9, HKx.out.then hK9 (fun i hi h => by omega)⟩)
        clear hB9 hK9 hR9
        go_wp2_with fail
        go_roundg (gk - 1)
        case measure => have := HGK.out; omega
        case rel => exact ⟨k + 1, L, T2, by omega, by have := HGK.out; omega, by go_num, by omega, by omega, T0, T1, HF9.out⟩
      · have hkd' : ((kd : Int) == 1) = false := beq_eq_false_iff_ne.2 hkd
        obtain ⟨X, ok, X0, X1, hRT, hBT⟩ : ∃ (X : Int) (ok : Bool), 0 ≤ X ∧ X ≤ s ∧
            (∀ W : World, Calls Try.prog 11 #[.agg #[.int .u64 r, .int .u64 s, .int .u64 lv, .int .u64 t], .int .u64 n, .int .u64 now] W fun e w' => e = .returned (.tuple #[.agg #[.int .u64 r, .int .u64 s, .int .u64 X, .int .u64 T2], .bool ok]) ∧ Below W.heap.size W w') ∧
            (∀ W : World, Blk W w1.heap.size 55 #[.int .u64 r, .int .u64 s, .int .u64 lv, .int .u64 t] → Calls Try.prog 8 #[.pointer (some ⟨w1.heap.size, 0, none⟩), .int .u64 n, .int .u64 now] W fun e w' => e = .returned (.bool ok) ∧ Blk w' w1.heap.size 55 #[.int .u64 r, .int .u64 s, .int .u64 X, .int .u64 T2] ∧ Kept (· = w1.heap.size) W w') := by
          by_cases hn : n ≤ L
          · exact ⟨L - n, true, by omega, by omega, fun W => refTake_yes r s lv t now W r0 r1 s1 l0 l1 t0 t1 m0 m1 L T2 HL.out HT.out n n0 hn, fun W h => take_yes w1.heap.size r s lv t now W r0 r1 s1 l0 l1 t0 t1 m0 m1 h n L T2 n0 HL.out HT.out hn⟩
          · exact ⟨L, false, by omega, by omega, fun W => refTake_no r s lv t now W r0 r1 s1 l0 l1 t0 t1 m0 m1 L T2 HL.out HT.out n (by omega), fun W h => take_no w1.heap.size r s lv t now W r0 r1 s1 l0 l1 t0 t1 m0 m1 h n L T2 HL.out HT.out (by omega)⟩
        have HRT := Lib.hid hRT
        have HBT := Lib.hid hBT
        have HF1 := Lib.hid (show fillL r s X T2 now = X by rw [← HT.out]; exact fillL_again r s X t now)
        have HF2 := Lib.hid (show fillT T2 now = T2 by rw [← HT.out]; exact fillT_again t now)
        clear hRT hBT hkd
        go_upto_region 17 with fail
        go_cut [12, 13] (fun x o wx => ∃ xb : Nat, x = .pointer (some ⟨xb, 0, none⟩) ∧ o = .bool ok ∧ wr.heap.size ≤ xb ∧ Hid (Blk wx xb 37 #[.int .u64 r, .int .u64 s, .int .u64 X, .int .u64 T2]) ∧ Hid (Below wr.heap.size wr wx))
        case first =>
          go_region_held3 (fun w' => w'.cell? ⟨w1.heap.size + 1, 0, none⟩ = some (.int .u64 r) ∧ w'.cell? ⟨w1.heap.size + 1, 1, none⟩ = some (.int .u64 s) ∧ w'.cell? ⟨w1.heap.size + 1, 2, none⟩ = some (.int .u64 lv) ∧ w'.cell? ⟨w1.heap.size + 1, 3, none⟩ = some (.int .u64 t) ∧ w'.cell? ⟨b, off + k * 3 + 1, none⟩ = some (.int .u64 n) ∧ w'.cell? ⟨b, off + k * 3 + 2, none⟩ = some (.int .u64 now))
            (first
              | (go_keep; done)
              | (go_split_ands
                 refine ⟨?_, ?_, ?_, ?_, ?_, ?_⟩
                 all_goals (rw [World.cell?_alloc_lt _ _ _ (by first | omega | (simp; omega)), hb9.cell (by first | (simp; done) | (simp; omega))]; first | assumption | exact c1 | exact c2 | exact cr _))
              | (go_split_ands
                 refine ⟨?_, ?_, ?_, ?_, ?_, ?_⟩
                 all_goals ((repeat rw [World.cell?_setCell_other _ _ _ _ (by intro e; injection e; omega)]); assumption))
              | (go_split_ands
                 refine ⟨?_, ?_, ?_, ?_, ?_, ?_⟩
                 all_goals (rw [hb9.cell (by first | (simp; done) | (simp; omega))]; first | assumption | (simp [go_sem]; first | done | assumption))))
            (first
              | (go_at_call 11; refine (HRT.out _).mono ?_; rintro e w9 ⟨rfl, hb9⟩; have hs9 : wr.heap.size ≤ w9.heap.size := (by have := hb9.size; simp at this; omega); try (have hX9 : Blk w9 wr.heap.size 37 #[.int .u64 0, .int .u64 0, .int .u64 0, .int .u64 0] := Blk.below (w := (wr.alloc (.cells #[.int .u64 0, .int .u64 0, .int .u64 0, .int .u64 0] 37)).drew) (Blk.new _ _ _) hb9 (by simp); have cX9 := hX9.cell; have fX9 := hX9.frozen; have HX9 := Lib.hid hX9; clear hX9)))
          · go_wp2_with fail
            go_meet
            go_light
            exact ⟨w9.heap.size, rfl, rfl, hs9, Lib.hid (Blk.new _ _ _), Lib.hid ((undrew hb9).alloc hs9 _)⟩
          · go_wp2_with fail
            go_meet
            go_light
            have hbw9 : Below wr.heap.size wr w9 := ((Below.refl _ wr).alloc (Nat.le_refl _) _).trans (Below.mono (undrew hb9) (by simp))
            exact ⟨wr.heap.size, rfl, rfl, Nat.le_refl _, Lib.hid ((((HX9.out.set_ _ _).set_ _ _).set_ _ _).set_to rfl), Lib.hid ((((hbw9.setCell (Nat.le_refl _) _).setCell (Nat.le_refl _) _).setCell (Nat.le_refl _) _).setCell (Nat.le_refl _) _)⟩
        case rest =>
          obtain ⟨xb, rfl, rfl, hxb, HX, HBW⟩ := hcut
          have hxlt := HX.out.lt
          have hswc := HBW.out.size
          have hRc := HR.out.below HBW.out hrlt
          have HBc := Lib.hid (HB.out.below HBW.out hblt)
          have HKc := Lib.hid (HK.out.then (Kept.of_below (S := fun i => w.heap.size ≤ i) HBW.out (fun i _ h => by omega)) (fun i _ h => h))
          have d1 := (HBW.out.cell (p := ⟨b, off + k * 3 + 1, none⟩) hbwr).trans c1
          have d2 := (HBW.out.cell (p := ⟨b, off + k * 3 + 2, none⟩) hbwr).trans c2
          have hblc : w1.heap.size < wc.heap.size := by omega
          have hrlc : w1.heap.size + 1 < wc.heap.size := by omega
          have hbwc : b < wc.heap.size := by omega
          have cX := HX.out.cell
          clear cr fr c0 c1 c2
          have cr := hRc.cell
          have fr := hRc.frozen
          have HRc := Lib.hid hRc
          clear hRc
          go_upto_region 19 with fail
          have hRy : Blk ((((wc.setCell ⟨w1.heap.size + 1, 0, none⟩ (.int .u64 r)).setCell ⟨w1.heap.size + 1, 1, none⟩ (.int .u64 s)).setCell ⟨w1.heap.size + 1, 2, none⟩ (.int .u64 X)).setCell ⟨w1.heap.size + 1, 3, none⟩ (.int .u64 T2)) (w1.heap.size + 1) 37 #[.int .u64 r, .int .u64 s, .int .u64 X, .int .u64 T2] := (((HRc.out.set_ _ _).set_ _ _).set_ _ _).set_to rfl
          have hBy : Blk ((((wc.setCell ⟨w1.heap.size + 1, 0, none⟩ (.int .u64 r)).setCell ⟨w1.heap.size + 1, 1, none⟩ (.int .u64 s)).setCell ⟨w1.heap.size + 1, 2, none⟩ (.int .u64 X)).setCell ⟨w1.heap.size + 1, 3, none⟩ (.int .u64 T2)) w1.heap.size 55 #[.int .u64 r, .int .u64 s, .int .u64 lv, .int .u64 t] := (((HBc.out.far' (by omega)).far' (by omega)).far' (by omega)).far' (by omega)
          have hKy : Kept (fun i => w.heap.size ≤ i) w ((((wc.setCell ⟨w1.heap.size + 1, 0, none⟩ (.int .u64 r)).setCell ⟨w1.heap.size + 1, 1, none⟩ (.int .u64 s)).setCell ⟨w1.heap.size + 1, 2, none⟩ (.int .u64 X)).setCell ⟨w1.heap.size + 1, 3, none⟩ (.int .u64 T2)) := (((HKc.out.setIn (by omega)).setIn (by omega)).setIn (by omega)).setIn (by omega)
          have hsy : ((((wc.setCell ⟨w1.heap.size + 1, 0, none⟩ (.int .u64 r)).setCell ⟨w1.heap.size + 1, 1, none⟩ (.int .u64 s)).setCell ⟨w1.heap.size + 1, 2, none⟩ (.int .u64 X)).setCell ⟨w1.heap.size + 1, 3, none⟩ (.int .u64 T2)).heap.size = wc.heap.size := by simp [World.setCell]
          have e1 : ((((wc.setCell ⟨w1.heap.size + 1, 0, none⟩ (.int .u64 r)).setCell ⟨w1.heap.size + 1, 1, none⟩ (.int .u64 s)).setCell ⟨w1.heap.size + 1, 2, none⟩ (.int .u64 X)).setCell ⟨w1.heap.size + 1, 3, none⟩ (.int .u64 T2)).cell? ⟨b, off + k * 3 + 1, none⟩ = some (.int .u64 n) := by
            rw [World.cell?_setCell_other _ _ _ _ (fun e => by injection e; omega), World.cell?_setCell_other _ _ _ _ (fun e => by injection e; omega), World.cell?_setCell_other _ _ _ _ (fun e => by injection e; omega), World.cell?_setCell_other _ _ _ _ (fun e => by injection e; omega)]
            exact d1
          have e2 : ((((wc.setCell ⟨w1.heap.size + 1, 0, none⟩ (.int .u64 r)).setCell ⟨w1.heap.size + 1, 1, none⟩ (.int .u64 s)).setCell ⟨w1.heap.size + 1, 2, none⟩ (.int .u64 X)).setCell ⟨w1.heap.size + 1, 3, none⟩ (.int .u64 T2)).cell? ⟨b, off + k * 3 + 2, none⟩ = some (.int .u64 now) := by
            rw [World.cell?_setCell_other _ _ _ _ (fun e => by injection e; omega), World.cell?_setCell_other _ _ _ _ (fun e => by injection e; omega), World.cell?_setCell_other _ _ _ _ (fun e => by injection e; omega), World.cell?_setCell_other _ _ _ _ (fun e => by injection e; omega)]
            exact d2
          generalize (((wc.setCell ⟨w1.heap.size + 1, 0, none⟩ (.int .u64 r)).setCell ⟨w1.heap.size + 1, 1, none⟩ (.int .u64 s)).setCell ⟨w1.heap.size + 1, 2, none⟩ (.int .u64 X)).setCell ⟨w1.heap.size + 1, 3, none⟩ (.int .u64 T2) = w3 at hRy hBy hKy hsy e1 e2 ⊢
          rw [← hsy] at hblc hrlc hbwc
          have HRy := Lib.hid hRy
          have HBy := Lib.hid hBy
          have HKy := Lib.hid hKy
          clear cr fr d1 d2 cX hRy hBy hKy hsy HRc HBc HKc HX HBW hxlt hswc
          go_region_held3 (fun w' => w'.cell? ⟨b, off + k * 3 + 1, none⟩ = some (.int .u64 n) ∧ w'.cell? ⟨b, off + k * 3 + 2, none⟩ = some (.int .u64 now))
            (first
              | go_keep
              | (go_split_ands
                 refine ⟨?_, ?_⟩
                 · (rw [hK8.cell (by first | (simp; done) | (simp; omega)) (by omega)]; assumption)
                 · (rw [hK8.cell (by first | (simp; done) | (simp; omega)) (by omega)]; assumption)))
            (first
              | (go_at_call 8; refine (HBT.out _ (by exact HBy.out)).mono ?_; rintro e w8 ⟨rfl, hB8, hK8⟩))
          replace hK8 := Kept.undrew hK8
          have hs8 := hK8.size
          have hbl8 : w1.heap.size < w8.heap.size := by omega
          have hrl8 : w1.heap.size + 1 < w8.heap.size := by omega
          have hbw8 : b < w8.heap.size := by omega
          have hRx := HRy.out.kept hK8 (by omega)
          have cr8 := hRx.cell 2
          simp at cr8
          have cn8 := (hK8.cell hbwc (by omega) (off + k * 3 + 2)).trans e2
          have HRx := Lib.hid hRx
          have HBx := Lib.hid hB8
          have HKx := Lib.hid (HKy.out.then hK8 (fun i hi h => by omega))
          clear hRx hB8 hK8 e1 e2 HRy HBy HKy
          go_wp2_with fail
          go_region_held3 (fun w' => w'.cell? ⟨w1.heap.size + 1, 2, none⟩ = some (.int .u64 X) ∧ w'.cell? ⟨b, off + k * 3 + 2, none⟩ = some (.int .u64 now))
            (first
              | go_keep
              | (go_split_ands
                 refine ⟨?_, ?_⟩
                 · (rw [hK9.cell (by first | (simp; done) | (simp; omega)) (by omega)]; assumption)
                 · (rw [hK9.cell (by first | (simp; done) | (simp; omega)) (by omega)]; assumption)))
            (first
              | (go_at_call 9; refine (level_any w1.heap.size r s X T2 now _ r0 r1 s1 (by omega) (by omega) (by omega) (by omega) m0 m1 (by exact HBx.out) X T2 HF1.out HF2.out).mono ?_; rintro e w9 ⟨rfl, hB9, hK9⟩))
          replace hK9 := Kept.undrew hK9
          have hR9 := HRx.out.kept hK9 (by omega)
          have HF9 := Lib.hid (show Same w w9 w1.heap.size (w1.heap.size + 1) r s X T2 from ⟨hB9, hR9, HKx.out.then hK9 (fun i hi h => by omega)⟩)
          clear hB9 hK9 hR9
          go_wp2_with fail
          go_roundg (gk - 1)
          case measure => have := HGK.out; omega
          case rel => exact ⟨k + 1, X, T2, by omega, by have := HGK.out; omega, by go_num, by omega, by omega, T0, T1, HF9.out⟩
    · have hlt' : k < l.length → ¬ k < 60 := fun h h' => hlt ⟨h, h'⟩
      clear hlt
      by_cases hkl : k < l.length
      · have hk6 := hlt' hkl
        have kI : (k : Int) < (l.length : Int) := by omega
        clear hlt'
        go_wp2_with fail
        refine (awake_any _).mono ?_
        rintro e w2 ⟨rfl, hb2⟩
        go_wp2_with fail
        go_ret
        exact ⟨rfl, (HK.out.then (Kept.of_below (S := fun i => w.heap.size ≤ i) hb2 (fun i _ h => by omega)) (fun i _ h => h)).below (Nat.le_refl _) (fun i h => h)⟩
      · have kI : ¬ (k : Int) < (l.length : Int) := by omega
        clear hlt'
        go_wp2_with fail
        refine (awake_any _).mono ?_
        rintro e w2 ⟨rfl, hb2⟩
        go_wp2_with fail
        go_ret
        exact ⟨rfl, (HK.out.then (Kept.of_below (S := fun i => w.heap.size ≤ i) hb2 (fun i _ h => by omega)) (fun i _ h => h)).below (Nat.le_refl _) (fun i h => h)⟩
end Go.Proofs.Ytcpiohmgnlapiaa
