/- awake, walked. -/
import Derived.Test.YtfdlpgmoohlgeaaSmPick
import Derived.Test.YtfdlpgmoohlgeaaPlainS
import Derived.Test.YtfdlpgmoohlgeaaCdLaw
namespace Go.Proofs.Ytfdlpgmoohlgeaa
open Go.RowKit
set_option linter.unusedVariables false

def three : List Cd := [⟨0, 1, 5, 0⟩, ⟨1, 2, 1, 0⟩, ⟨2, 3, 1, 0⟩]
def threeCs : Array Value := #[.int .i64 0, .int .i64 1, .int .i64 5, .int .u32 0, .int .i64 1, .int .i64 2, .int .i64 1, .int .u32 0, .int .i64 2, .int .i64 3, .int .i64 1, .int .u32 0]
def wants : List Int := [1, 1, 2, 1, 3, 1, 1]
def wantsCs : Array Value := #[.int .i64 1, .int .i64 1, .int .i64 2, .int .i64 1, .int .i64 3, .int .i64 1, .int .i64 1]
theorem heavy_three : heavy three = three := rfl
def thS (k : Nat) : Int := ((three.getD (stepB (baseS (stAt three k) three)) ⟨0, 0, 0, 0⟩).backend)
theorem thS_all : ∀ k : Fin 7, wants[k.val]? = some (thS k.val) := by decide +kernel
/-- What is kept of the shares between two picks. -/
structure SmS (sb base : Nat) (S : List Sh) (w0 w : World) : Prop where
  ex : ∃ v, Blk w sb 28 #[v] ∧ RowN w base 50 3 v (S.map Sh.cs)
  kept : Kept (fun i => i = sb ∨ base ≤ i) w0 w
theorem SmS.pick {sb base : Nat} {l : List Cd} {S : List Sh} {w0 w : World} {A : Option Addr} {c : Nat} (h : SmS sb base S w0 w) (Bd : Int) (hl : l.length ≤ 30) (hS : S.length ≤ 100) (hw : ∀ c ∈ l, 0 ≤ c.weight ∧ c.weight ≤ 100) (hBd : ∀ s ∈ S, -Bd ≤ s.credit ∧ s.credit ≤ Bd) (b0 : 0 ≤ Bd) (b1 : Bd ≤ 1000000000)
    (hE : ES w w.heap.size A 4 (l.map Cd.cs)) (hbase : base ≤ w.heap.size) :
    Calls Try.prog 8 #[.pointer (some ⟨sb, 0, none⟩), .slice A l.length c] w fun e w' => SmS sb base (stp (heavy l) S) w0 w' ∧ w.heap.size ≤ w'.heap.size ∧ (∀ g t cs, Blk w g t cs → g ≠ sb → t ≠ 50 → Blk w' g t cs) ∧
      ((heavy l = [] ∧ e = .returned (.tuple #[.agg #[.int .i64 0, .int .i64 0, .int .i64 0, .int .u32 0], .bool false])) ∨ (heavy l ≠ [] ∧ ∃ x : Cd, (heavy l)[stepB (baseS S (heavy l))]? = some x ∧ e = .returned (.tuple #[.agg #[.int .i64 x.slot, .int .i64 x.backend, .int .i64 x.weight, .int .u32 x.load], .bool true]))) := by
  obtain ⟨⟨v, hB, hR⟩, hK⟩ := h
  refine (spick_any sb base v S A c l w Bd hl hS hw hBd b0 b1 hB hR hE hbase).mono ?_
  rintro e w' (⟨h0, rfl, hb⟩ | ⟨hne, k, hk, rfl, rfl, v', hB', hR', hK'⟩)
  · have e0 : stp (heavy l) S = S := by unfold stp; rw [if_pos h0]
    rw [e0]
    exact ⟨⟨⟨v, hB.below hb hB.lt, hR.belowAll hb⟩, hK.then (Kept.ofB (S := fun _ => False) hb) (fun _ _ h => h.elim)⟩, hb.size, fun g t cs h _ _ => h.below hb h.lt, .inl ⟨h0, rfl⟩⟩
  · have e0 : stp (heavy l) S = stepS (baseS S (heavy l)) := by unfold stp; rw [if_neg hne]
    rw [e0]
    refine ⟨⟨⟨v', hB', hR'⟩, hK.then hK' (fun i _ h => ?_)⟩, hK'.size, fun g t cs h h1 h2 => h.kept hK' (fun e => by
      rcases e with e | e
      · exact h1 e
      · exact hR.ne h (Ne.symm h2) e), .inr ⟨hne, _, List.getElem?_eq_getElem hk, rfl⟩⟩
    rcases h with h | h
    · exact .inl h
    · exact .inr (hR.lt i h).1
set_option maxRecDepth 100000 in
set_option maxHeartbeats 2000000 in
theorem awake_any (w : World) : Calls Try.prog 6 #[] w fun e w' => e = .returned (.bool true) ∧ Below w.heap.size w w' := by
  go_enter Try.func6, Try.ntmps6
  go_wp2_with fail
  obtain ⟨w1, hw1⟩ : ∃ w1 : World, w1 = ((w.alloc (.cells #[.slice none 0 0] 28)).alloc (.cells threeCs 34)).alloc (.cells wantsCs 3) := ⟨_, rfl⟩
  have HS1 := Lib.hid (show SmS w.heap.size (w.heap.size + 3) [] w1 w1 from ⟨⟨_, by rw [hw1]; exact ((Blk.new _ _ _).alloc _).alloc _, RowN.nil _ _ _ _⟩, Kept.refl _ _⟩)
  have HB1 := Lib.hid (show Below w.heap.size w w1 by rw [hw1]; exact (((Below.refl _ _).alloc (Nat.le_refl _) _).alloc (by simp) _).alloc (by simp; omega) _)
  have HL1 := Lib.hid (show Blk w1 (w.heap.size + 1) 34 threeCs by rw [hw1]; exact (Blk.new_ (by simp) _ _).alloc _)
  have HW1 := Lib.hid (show Blk w1 (w.heap.size + 2) 3 wantsCs by rw [hw1]; exact Blk.new_ (by simp) _ _)
  have hs1 : w1.heap.size = w.heap.size + 3 := by rw [hw1]; simp
  have HSZ := Lib.hid hs1
  unfold threeCs wantsCs at hw1
  rw [← hw1]
  clear hw1 hs1
  go_loopw [4, 5, 6, 15] (fun _ _ _ i wr => ∃ k : Nat, k ≤ 7 ∧ i = .int .i64 (k : Int) ∧ Hid (SmS w.heap.size (w.heap.size + 3) (stAt three k) w1 wr)) (fun _ _ _ i _ => 7 - (intOf i).toNat)
  case atStart => exact ⟨0, by omega, rfl, HS1⟩
  case round =>
    clear HS1
    obtain ⟨k, hk, rfl, HS⟩ := hrel
    have HL := Lib.hid (HL1.out.kept HS.out.kept (by omega))
    have HW := Lib.hid (HW1.out.kept HS.out.kept (by omega))
    have hlw := HW.out.lt
    by_cases hk7 : k < 7
    · have hkI : (k : Int) < 7 := by omega
      have c0 : wr.cell? ⟨w.heap.size + 2, k, none⟩ = some (.int .i64 (thS k)) := by
        rw [HW.out.cell]
        have := thS_all ⟨k, hk7⟩
        have h2 : wantsCs[k]? = (wants[k]?).map (Value.int .i64) := by
          have h7 : k = 0 ∨ k = 1 ∨ k = 2 ∨ k = 3 ∨ k = 4 ∨ k = 5 ∨ k = 6 := by omega
          rcases h7 with rfl | rfl | rfl | rfl | rfl | rfl | rfl <;> rfl
        rw [h2, this]; rfl
      have hcr := stAt_credit three (by decide) (by decide) k
      have hln := stAt_len three k
      have HP := Lib.hid (show Calls Try.prog 8 #[.pointer (some ⟨w.heap.size, 0, none⟩), .slice (some ⟨w.heap.size + 1, 0, none⟩) 3 3] wr _ from
        HS.out.pick (l := three) (A := some ⟨w.heap.size + 1, 0, none⟩) (c := 3) (3100 * (k : Int)) (by decide) (Nat.le_trans hln (by decide)) (by decide) hcr (by omega) (by omega)
          (.inr ⟨w.heap.size + 1, 0, HL.out.lt, rfl, ElAt.of_blk HL.out (sz_map Cd.cs_len three) rfl⟩) (by omega))
      clear hcr hln
      have HTH := Lib.hid (show thS k = (three.getD (stepB (baseS (stAt three k) three)) ⟨0, 0, 0, 0⟩).backend from rfl)
      go_wp2_with fail
      refine HP.out.mono ?_
      rintro e w2 ⟨hS2, hsz2, -, he⟩
      rcases he with ⟨h0, -⟩ | ⟨-, x, hx, rfl⟩
      · exact absurd h0 (by rw [heavy_three]; simp [three])
      rw [heavy_three] at hx hS2
      have hbx : thS k = x.backend := by rw [HTH.out, List.getD_eq_getElem?_getD, hx]; rfl
      have HS2 := Lib.hid (show SmS w.heap.size (w.heap.size + 3) (stAt three (k + 1)) w1 w2 from hS2)
      rw [hbx]
      clear hx hS2 hbx HP
      go_wp2_with fail
      go_roundw
      case rel => exact ⟨k + 1, by omega, by go_num, Lib.hid (by
        obtain ⟨⟨v, h1, h2⟩, h3⟩ := HS2.out
        exact ⟨⟨v, h1.alloc _, h2.alloc _⟩, h3.alloc _⟩)⟩
      case measure => simp [intOf]; omega
    · obtain rfl : k = 7 := by omega
      go_wp2_with fail
      go_ret
      exact ⟨rfl, HB1.out.trans (HS.out.kept.below (by rw [HSZ.out]; omega) (fun i h => by omega))⟩
end Go.Proofs.Ytfdlpgmoohlgeaa
