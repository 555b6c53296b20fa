/- The reference's Cut. -/
import Derived.Test.YtchgbdghllkcpaaB
namespace Go.Proofs.Ytchgbdghllkcpaa
open Go.RowKit
set_option linter.unusedVariables false
/-- The bytes as they are in a round. -/
structure CuS (len : Nat) (bs : List Nat) (m i k : Nat) (A : Option Addr) (c : Nat) (L : List UInt8) (w : World) : Prop where
  ct : CutS bs m i k L
  ln : L.length = len
  lc : len ≤ c
  cm : c ≤ maxLen
  mem : BS w w.heap.size A L
theorem CuS.onB {len : Nat} {bs : List Nat} {m i k : Nat} {A : Option Addr} {c : Nat} {L : List UInt8} {w w' : World} (h : CuS len bs m i k A c L w) (hb : Below w.heap.size w w') : CuS len bs m i k A c L w' := ⟨h.ct, h.ln, h.lc, h.cm, h.mem.onB hb (Nat.le_refl _)⟩
theorem byte_bit (x P : Nat) : (((x : Int) / (P : Int) % 2 == 1) = true ↔ x / P % 2 = 1) := by
  rw [beq_iff_eq]
  constructor
  · intro h; have : ((x / P % 2 : Nat) : Int) = 1 := by simpa using h
    omega
  · intro h; have : ((x / P % 2 : Nat) : Int) = 1 := by omega
    simpa using this
set_option maxRecDepth 100000 in
set_option maxHeartbeats 4000000 in
theorem refCut_any (a : Ad) (n : Int) (w : World) (hw : a.wf) (hr : a.right) : Calls Try.prog 12 #[.agg #[.bool a.six, .int .u64 (a.hi : Int), .int .u64 (a.lo : Int)], .int .i64 n] w fun e w' => e = .returned (.agg #[.bool (a.cut n).six, .int .u64 ((a.cut n).hi : Int), .int .u64 ((a.cut n).lo : Int)]) ∧ Below w.heap.size w w' := by
  obtain ⟨m, hm⟩ : ∃ m : Nat, n.toNat = m := ⟨_, rfl⟩
  obtain ⟨l, hl⟩ : ∃ l, a.bytes = l := ⟨_, rfl⟩
  have HB0 := Lib.hid (fun u => refABytes_any a u hw)
  have hlen := a.bytes_len
  rw [hl] at HB0 hlen
  have HL := Lib.hid hl
  have HW := Lib.hid hw
  have HRT := Lib.hid hr
  obtain ⟨len, hln⟩ : ∃ len, l.length = len := ⟨_, rfl⟩
  have hl16 : len ≤ 16 := by rw [← hln, hlen]; split <;> omega
  have HLN := Lib.hid hln
  have HM := Lib.hid hm
  have HSIX := Lib.hid hlen
  clear hl hw hr hm hlen
  obtain ⟨bs, hbs⟩ : ∃ bs, l.map (·.toNat) = bs := ⟨_, rfl⟩
  have HCT := Lib.hid (show CutS bs m 0 0 l by rw [← hbs]; exact cutS_start l m)
  have HBS := Lib.hid hbs
  have HLT := Lib.hid (show ∀ b ∈ bs, b < 256 by rw [← hbs]; exact bytes_lt l)
  clear hbs
  go_enter Try.func12, Try.ntmps12
  go_wp2_with fail
  refine (HB0.out _).mono ?_
  rintro e w1 ⟨v, rfl, hv, hb1⟩
  obtain ⟨A, c, hve, hlc, hcm, hBS⟩ := hv
  rw [hln] at hve hlc
  subst hve
  obtain ⟨w0, hw0⟩ : ∃ w0 : World, w0 = (w.alloc (.cells #[.bool a.six, .int .u64 (a.hi : Int), .int .u64 (a.lo : Int)] 24)).alloc (.cells #[.bool false, .int .u64 0, .int .u64 0] 24) := ⟨_, rfl⟩
  rw [← hw0] at hb1
  have HB1 := Lib.hid (show Below (w.heap.size + 2) w0 w1 by have := hb1; rw [hw0] at this ⊢; simpa using this)
  have HX1 := Lib.hid (show Blk w1 (w.heap.size + 1) 24 #[.bool false, .int .u64 0, .int .u64 0] by
    have h0 : Blk w0 (w.heap.size + 1) 24 #[.bool false, .int .u64 0, .int .u64 0] := by rw [hw0]; exact Blk.new_ (by simp) _ _
    exact h0.below HB1.out (by omega))
  have HBw := Lib.hid (show Below w.heap.size w w1 from (show Below w.heap.size w w0 by rw [hw0]; exact bel1.alloc (by simp) _).trans (HB1.out.mono (by omega)))
  have hs1 : w.heap.size + 2 ≤ w1.heap.size := by have := HX1.out.lt; omega
  have HCU := Lib.hid (show CuS len bs m 0 0 A c l w1 from ⟨HCT.out, hln, hlc, hcm, hBS⟩)
  clear hb1 hw0 hBS hlc hcm hln HB1 HB0
  have hx1s : w1.heap.size ≤ w1.heap.size := Nat.le_refl _
  obtain ⟨W1, hW1⟩ : ∃ W1 : Nat, w1.heap.size = W1 := ⟨_, rfl⟩
  rw [hW1] at hs1
  have HBB := Lib.hid (show Below W1 w1 w1 from Below.refl _ _)
  clear hx1s
  have HW1 := Lib.hid hW1
  clear hW1
  go_wp2_with fail
  go_loopw [5, 6] (fun v i wr => ∃ (k : Nat) (L : List UInt8) (A : Option Addr) (c : Nat), k ≤ len ∧ i = .int .i64 (k : Int) ∧ v = .slice A len c ∧ Hid (CuS len bs m k 0 A c L wr) ∧ Hid (Below W1 w1 wr)) (fun _ i _ => len - (intOf i).toNat)
  case atStart => exact ⟨0, l, A, c, by omega, rfl, rfl, HCU, HBB⟩
  case round =>
    clear HCU HBB
    obtain ⟨i, L, A, c, hi, rfl, rfl, HC, HB⟩ := hrel
    by_cases hil : i < len
    · have iI : (i : Int) < (len : Int) := by omega
      have hi16 : i < 16 := by omega
      go_wp2_with fail
      go_loopw [5, 7] (fun v kv wr => ∃ (k : Nat) (L : List UInt8) (A : Option Addr) (c : Nat), k ≤ 8 ∧ kv = .int .i64 (k : Int) ∧ v = .slice A len c ∧ Hid (CuS len bs m i k A c L wr) ∧ Hid (Below W1 w1 wr)) (fun _ i _ => 8 - (intOf i).toNat)
      case atStart => exact ⟨0, L, A, c, by omega, rfl, rfl, HC, HB⟩
      case round =>
        clear HC HB
        obtain ⟨k, L, A, c, hk, rfl, rfl, HC, HB⟩ := hrel
        by_cases hk8 : k < 8
        · have kI : (k : Int) < 8 := by omega
          go_wp2_with fail
          go_loop [8, 9] (fun p mv => ∃ j : Nat, j ≤ 7 - k ∧ p = .int .u8 ((2 ^ j : Nat) : Int) ∧ mv = .int .i64 (7 - (j : Int))) (fun _ mv => (intOf mv - (k : Int)).toNat)
          case atStart => exact ⟨0, by omega, rfl, rfl⟩
          case round =>
            obtain ⟨j, hj, rfl, rfl⟩ := hrel
            by_cases hjk : j < 7 - k
            · have hjI : (k : Int) < 7 - (j : Int) := by omega
              have hp : 2 ^ j ≤ 2 ^ 6 := Nat.pow_le_pow_right (by omega) (show j ≤ 6 by omega)
              obtain ⟨P, hP⟩ : ∃ P, 2 ^ j = P := ⟨_, rfl⟩
              rw [hP] at hp ⊢
              have HP := Lib.hid hP
              clear hP
              go_wp2_with fail
              go_round
              case rel => exact ⟨j + 1, by omega, by rw [Nat.pow_succ, HP.out]; simp, by go_num⟩
              case measure => simp [intOf]; omega
            · obtain rfl : j = 7 - k := by omega
              have hjI : ¬ (k : Int) < 7 - ((7 - k : Nat) : Int) := by omega
              have hp : 2 ^ (7 - k) ≤ 2 ^ 7 := Nat.pow_le_pow_right (by omega) (by omega)
              have hp1 : 1 ≤ 2 ^ (7 - k) := Nat.one_le_two_pow
              obtain ⟨P, hP⟩ : ∃ P, 2 ^ (7 - k) = P := ⟨_, rfl⟩
              rw [hP] at hp hp1 ⊢
              have HP := Lib.hid hP
              clear hP
              obtain ⟨b, o, hb, rfl, hat⟩ := HC.out.mem.at (k := i) (by rw [HC.out.ln]; exact hil)
              have hiL : i < L.length := by rw [HC.out.ln]; exact hil
              have ci := hat i hiL
              obtain ⟨x, hx⟩ : ∃ x, L[i].toNat = x := ⟨_, rfl⟩
              rw [hx] at ci
              have hx256 : x < 256 := by rw [← hx]; exact L[i].toNat_lt
              have HX := Lib.hid hx
              clear hat hx
              by_cases hnk : n ≤ 8 * (i : Int) + (k : Int)
              · have HNK := Lib.hid (show m ≤ 8 * i + k by rw [← HM.out]; omega)
                obtain ⟨bb, hbb⟩ : ∃ bb, ((x : Int) / (P : Int) % 2 == 1) = bb := ⟨_, rfl⟩
                cases bb with
                | true =>
                  have HBT := Lib.hid ((byte_bit x P).1 hbb)
                  have hPx : P ≤ x := by
                    have := HC.out.ct.sub HLT.out hiL hk8 HNK.out (by rw [HX.out, HP.out]; exact HBT.out)
                    rw [HX.out, HP.out] at this; exact this
                  obtain ⟨y, hy⟩ := byte_of ((x : Int) - (P : Int)) (by omega) (by omega)
                  have HY := Lib.hid (show y.toNat = x - P by omega)
                  have HYI := Lib.hid hy
                  clear hy
                  have hsw : W1 ≤ wr.heap.size := by have := HB.out.size; have := HW1.out; omega
                  go_wp2_with fail
                  obtain ⟨w2, hw2⟩ : ∃ w2 : World, w2 = wr.alloc (.cells #[.int .u8 ((x : Int) - (P : Int))] 5) := ⟨_, rfl⟩
                  have HC2 := Lib.hid (show CuS len bs m i k (some ⟨b, o, none⟩) c L w2 by rw [hw2]; exact HC.out.onB bel1)
                  have HY2 := Lib.hid (show BS w2 w2.heap.size (some ⟨wr.heap.size, 0, none⟩) [y] by rw [hw2, HYI.out]; exact (Own.of_blk (e := 5) (l := [y]) (Blk.new _ _ _) (by unfold maxLen; simp)).bs)
                  have HB2 := Lib.hid (show Below W1 w1 w2 by rw [hw2]; exact HB.out.alloc hsw _)
                  have hSET := refSet_any (some ⟨b, o, none⟩) (some ⟨wr.heap.size, 0, none⟩) c 1 i L [y] w2 (by have := HC.out.ln; omega) HC2.out.mem HY2.out (by simp; omega) (by simp)
                  rw [HC.out.ln] at hSET
                  have HSET := Lib.hid hSET
                  rw [← hw2]
                  clear hw2 hSET
                  refine HSET.out.mono ?_
                  rintro e w3 ⟨v3, rfl, hv3, hb3⟩
                  obtain ⟨A3, c3, hve, h31, h32, h33⟩ := hv3
                  rw [over_length _ _ _ (by simp; omega), HC.out.ln] at hve h31
                  subst hve
                  have HC3 := Lib.hid (show CuS len bs m i (k + 1) A3 c3 (over L i [y]) w3 from ⟨HC.out.ct.on HLT.out hiL hk8 HNK.out (by rw [HX.out, HP.out]; exact HBT.out) y (by rw [HX.out, HP.out, HY.out]), by rw [over_length _ _ _ (by simp; omega), HC.out.ln], h31, h32, h33⟩)
                  have HB3 := Lib.hid (HB2.out.trans (hb3.mono (by have := HB2.out.size; have := HW1.out; omega)))
                  clear h31 h32 h33 hb3 HSET
                  go_wp2_with fail
                  go_roundw
                  case rel => exact ⟨k + 1, _, _, _, by omega, by go_num, rfl, HC3, HB3⟩
                  case measure => simp [intOf]; omega
                | false =>
                  have HBT := Lib.hid (show ¬ x / P % 2 = 1 from fun h => by rw [(byte_bit x P).2 h] at hbb; cases hbb)
                  go_wp2_with fail
                  go_roundw
                  case rel => exact ⟨k + 1, L, _, c, by omega, by go_num, rfl, Lib.hid ⟨HC.out.ct.off HLT.out hiL hk8 (by rw [HX.out, HP.out]; exact fun h => HBT.out h.2), HC.out.ln, HC.out.lc, HC.out.cm, HC.out.mem⟩, HB⟩
                  case measure => simp [intOf]; omega
              · have HNK := Lib.hid (show ¬ m ≤ 8 * i + k by rw [← HM.out]; omega)
                go_wp2_with fail
                go_roundw
                case rel => exact ⟨k + 1, L, _, c, by omega, by go_num, rfl, Lib.hid ⟨HC.out.ct.off HLT.out hiL hk8 (fun h => HNK.out h.1), HC.out.ln, HC.out.lc, HC.out.cm, HC.out.mem⟩, HB⟩
                case measure => simp [intOf]; omega
        · obtain rfl : k = 8 := by omega
          go_wp2_with fail
          go_roundw
          case rel => exact ⟨i + 1, L, A, c, by omega, by go_num, rfl, Lib.hid ⟨HC.out.ct.next, HC.out.ln, HC.out.lc, HC.out.cm, HC.out.mem⟩, HB⟩
          case measure => simp [intOf]; omega
    · obtain rfl : i = len := by omega
      have HX3a := Lib.hid (HX1.out.below HB.out (by omega))
      have HBZ := Lib.hid (HBw.out.trans (HB.out.mono (by omega)))
      cases h6 : a.six with
      | false =>
        obtain rfl : i = 4 := by rw [← HLN.out, HSIX.out, h6]; rfl
        have hcE := cut_four a n m h6 HRT.out HM.out
        have hmp : L.map (·.toNat) = cutL ((digs 4 (a.lo : Int)).map (·.toNat)) m := by
          have := HC.out.ct.fin (by rw [← HBS.out, List.length_map, HLN.out]; exact Nat.le_refl _)
          rw [this, ← HBS.out, ← HL.out]
          unfold Ad.bytes
          rw [h6]
          simp
        have hlo : a.lo < 4294967296 := by
          rcases HRT.out with h | h
          · rw [h6] at h; cases h
          · exact h.2
        have hnE := cut4 a.lo m L hlo hmp
        have HOF := Lib.hid (refOf4 A c L wr HC.out.ln HC.out.mem)
        have HE := Lib.hid (show Ending.returned (.agg #[.bool false, .int .u64 0, .int .u64 (num L)]) = Ending.returned (.agg #[.bool (a.cut n).six, .int .u64 ((a.cut n).hi : Int), .int .u64 ((a.cut n).lo : Int)]) by rw [hcE, hnE]; rfl)
        clear hcE hnE hmp hlo h6
        go_wp2_with fail
        refine HOF.out.mono ?_
        rintro e w3 ⟨rfl, hb3⟩
        have HX3 := Lib.hid (HX3a.out.below hb3 HX3a.out.lt)
        have HB3 := Lib.hid (HBZ.out.trans (hb3.mono (by have := HBZ.out.size; omega)))
        have x0 := HX3.out.cell
        have xf := HX3.out.frozen
        have xlt := HX3.out.lt
        clear hb3 HOF
        go_wp2_with fail
        refine bodyPost_ret (results_blk1 (P := Try.prog) Try.results12 _ _ (w.heap.size + 1) 24 #[.bool false, .int .u64 0, .int .u64 (num L)] _ rfl ?_ Try.underlying24 rfl (by kernel_rfl)) rfl ⟨HE.out, ?_⟩
        · go_light
          repeat (first | (with_reducible apply Blk.set_to) | ((with_reducible apply Blk.far'); omega) | (with_reducible apply Blk.alloc))
          exact HX3.out
          all_goals rfl
        · go_light
          have hs3 := HB3.out.size
          refine Kept.below (S := fun i => w.heap.size ≤ i) ?_ (Nat.le_refl _) (fun i h => h)
          repeat (first | ((with_reducible apply Kept.setNew); omega) | (with_reducible apply Kept.alloc))
          exact Kept.of_below HB3.out (fun i _ h => h)
      | true =>
        obtain rfl : i = 16 := by rw [← HLN.out, HSIX.out, h6]; rfl
        have hcE := cut_six a n m h6 HM.out
        have hmp : L.map (·.toNat) = cutL ((digs 8 (a.hi : Int) ++ digs 8 (a.lo : Int)).map (·.toNat)) m := by
          have := HC.out.ct.fin (by rw [← HBS.out, List.length_map, HLN.out]; exact Nat.le_refl _)
          rw [this, ← HBS.out, ← HL.out]
          unfold Ad.bytes
          rw [h6]
          simp
        have hnE := cut16 a.hi a.lo m L HW.out.1 HW.out.2 hmp
        have HOF := Lib.hid (refOf16 A c L wr HC.out.ln (by have := HC.out.lc; omega) HC.out.cm HC.out.mem)
        have HE := Lib.hid (show Ending.returned (.agg #[.bool true, .int .u64 (num (L.take 8)), .int .u64 (num (L.drop 8))]) = Ending.returned (.agg #[.bool (a.cut n).six, .int .u64 ((a.cut n).hi : Int), .int .u64 ((a.cut n).lo : Int)]) by rw [hcE, hnE.1, hnE.2])
        clear hcE hnE hmp h6
        go_wp2_with fail
        refine HOF.out.mono ?_
        rintro e w3 ⟨rfl, hb3⟩
        have HX3 := Lib.hid (HX3a.out.below hb3 HX3a.out.lt)
        have HB3 := Lib.hid (HBZ.out.trans (hb3.mono (by have := HBZ.out.size; omega)))
        have x0 := HX3.out.cell
        have xf := HX3.out.frozen
        have xlt := HX3.out.lt
        clear hb3 HOF
        go_wp2_with fail
        refine bodyPost_ret (results_blk1 (P := Try.prog) Try.results12 _ _ (w.heap.size + 1) 24 #[.bool true, .int .u64 (num (L.take 8)), .int .u64 (num (L.drop 8))] _ rfl ?_ Try.underlying24 rfl (by kernel_rfl)) rfl ⟨HE.out, ?_⟩
        · go_light
          repeat (first | (with_reducible apply Blk.set_to) | ((with_reducible apply Blk.far'); omega) | (with_reducible apply Blk.alloc))
          exact HX3.out
          all_goals rfl
        · go_light
          have hs3 := HB3.out.size
          refine Kept.below (S := fun i => w.heap.size ≤ i) ?_ (Nat.le_refl _) (fun i h => h)
          repeat (first | ((with_reducible apply Kept.setNew); omega) | (with_reducible apply Kept.alloc))
          exact Kept.of_below HB3.out (fun i _ h => h)
end Go.Proofs.Ytchgbdghllkcpaa
