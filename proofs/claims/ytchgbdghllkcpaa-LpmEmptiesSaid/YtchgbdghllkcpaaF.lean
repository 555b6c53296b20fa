/- Table.Set. -/
import Derived.Test.YtchgbdghllkcpaaE
namespace Go.Proofs.Ytchgbdghllkcpaa
open Go.RowKit
set_option linter.unusedVariables false
theorem mapOf_set {H : Bool → Path → Bool} {V V0 : Bool → Path → Int} {f : Bool} {p : Path} {v : Int} (hV : ∀ g q, H g q = true → V g q = V0 g q) : mapOf (upd H f p true) (upd V f p v) = upd (mapOf H V0) f p (some v) := by
  funext g q
  unfold mapOf
  by_cases e : g = f ∧ q = p
  · obtain ⟨rfl, rfl⟩ := e; simp [upd_self]
  · rw [upd_ne _ _ e, upd_ne _ _ e, upd_ne _ _ e]
    by_cases h : H g q = true
    · simp [h, hV g q h]
    · simp [h]
theorem mapOf_some {H : Bool → Path → Bool} {V : Bool → Path → Int} {f : Bool} {p : Path} : (mapOf H V f p).isSome = H f p := by unfold mapOf; cases H f p <;> rfl
def SetP (tb base : Nat) (M : Bool → Path → Option Int) (f : Bool) (p : Path) (v sz : Int) (w : World) (e : Ending) (w' : World) : Prop :=
  e = .returned (.int .i64 0) ∧ TabS tb base (upd M f p (some v)) (if (M f p).isSome then sz else sz + 1) w' ∧ Below base w w' ∧ KeptT w w'
theorem rightP_nat {a : Ad} {n : Int} (h : rightP a n) : ∃ m : Nat, n = m ∧ m ≤ a.bits := ⟨n.toNat, by have := h.2.1; omega, by have := h.2.1; have := h.2.2.1; omega⟩
set_option maxHeartbeats 4000000 in
theorem set_no (tb : Nat) (a : Ad) (n v : Int) (w : World) (hw : a.wf) (hP : ¬ rightP a n) : Calls Try.prog 26 #[.pointer (some ⟨tb, 0, none⟩), .agg #[.bool a.six, .int .u64 (a.hi : Int), .int .u64 (a.lo : Int), .int .i64 (n : Int)], .int .i64 v] w fun e w' => e = .returned (.int .i64 1) ∧ Below w.heap.size w w' := by
  have HPR := Lib.hid (fun u => prefRight_any a n u hw)
  have HD := Lib.hid (show decide (rightP a n) = false from decide_eq_false hP)
  rw [HD.out] at HPR
  clear hP hw
  go_enter Try.func26, Try.ntmps26
  go_wp2_with fail
  refine (HPR.out _).mono ?_
  rintro e w1 ⟨rfl, hb1⟩
  have HB1 := Lib.hid hb1
  clear hb1
  go_wp2_with fail
  go_ret
  exact ⟨rfl, bel1.trans (HB1.out.mono (by simp))⟩
set_option maxHeartbeats 16000000 in
set_option maxRecDepth 100000 in
theorem set_yes (tb base : Nat) (M : Bool → Path → Option Int) (sz : Int) (a : Ad) (m : Nat) (v : Int) (w : World) (hw : a.wf) (hP : rightP a (m : Int)) (hm : m ≤ a.bits) (hT : TabS tb base M sz w) (hb : base ≤ w.heap.size) (hs0 : 0 ≤ sz) (hs1 : sz ≤ 1000000) :
    Calls Try.prog 26 #[.pointer (some ⟨tb, 0, none⟩), .agg #[.bool a.six, .int .u64 (a.hi : Int), .int .u64 (a.lo : Int), .int .i64 (m : Int)], .int .i64 v] w (SetP tb base M a.six (a.path m) v sz w) := by
  obtain ⟨N, H, V, hT, rfl⟩ := hT
  have HPR := Lib.hid (fun u => prefRight_any a m u hw)
  have HD := Lib.hid (show decide (rightP a (m : Int)) = true from decide_eq_true hP)
  rw [HD.out] at HPR
  have hm128 : m ≤ 128 := by unfold Ad.bits at hm; split at hm <;> omega
  have HW := Lib.hid hw
  have HM := Lib.hid hm
  have HT := Lib.hid hT
  clear hP hw hm hT
  go_enter Try.func26, Try.ntmps26
  go_wp2_with fail
  refine (HPR.out _).mono ?_
  rintro e w1 ⟨rfl, hb1⟩
  have HX1 := Lib.hid (show Blk w1 w.heap.size 29 #[.bool a.six, .int .u64 (a.hi : Int), .int .u64 (a.lo : Int), .int .i64 (m : Int)] from (Blk.new w 29 _).below hb1 (by simp))
  have HB1 := Lib.hid (show Below base w w1 from (bel1.mono hb).trans (hb1.mono (by simp; omega)))
  have HT1 := Lib.hid ((HT.out.onB bel1).onB hb1)
  have HK1 := Lib.hid ((KeptT.ofB bel1).trans (KeptT.ofB hb1))
  have hs1' : w.heap.size + 1 ≤ w1.heap.size := by have := hb1.size; simpa using this
  clear hb1 HT HPR HD
  obtain ⟨pb, hpb⟩ : ∃ pb, w.heap.size = pb := ⟨_, rfl⟩
  rw [hpb] at HX1 hs1' ⊢
  have HPB := Lib.hid hpb
  clear hpb
  have x0 := HX1.out.cell
  have xlt := HX1.out.lt
  go_wp2_with fail
  refine (root_any tb a w1).mono ?_
  rintro e w2 ⟨rfl, hb2⟩
  have HX2 := Lib.hid (HX1.out.below hb2 HX1.out.lt)
  have HB2 := Lib.hid (HB1.out.trans (hb2.mono (by have := HB1.out.size; have := HPB.out; omega)))
  have HT2 := Lib.hid (HT1.out.onB hb2)
  have HK2 := Lib.hid (HK1.out.trans (KeptT.ofB hb2))
  have hs2 : pb + 1 ≤ w2.heap.size := by have := hb2.size; omega
  clear hb2 HX1 HB1 HT1 x0 xlt
  have x0 := HX2.out.cell
  have xlt := HX2.out.lt
  go_wp2_with fail
  clear x0 xlt
  go_loopw [7, 21] (fun at_ i wr => ∃ (k : Nat) (N : Bool → Path → Option Nat) (V' : Bool → Path → Int) (ab ao : Nat), k ≤ m ∧ i = .int .i64 (k : Int) ∧ at_ = .pointer (some ⟨ab, ao, none⟩) ∧ Hid (AtN tb N a.six (a.path k) ab ao) ∧ Hid (Tri tb base N H V' sz wr) ∧ Hid (∀ g q, H g q = true → V' g q = V g q) ∧ Hid (Blk wr pb 29 #[.bool a.six, .int .u64 (a.hi : Int), .int .u64 (a.lo : Int), .int .i64 (m : Int)]) ∧ Hid (KeptT w wr) ∧ Hid (Below base w wr)) (fun _ i _ => m - (intOf i).toNat)
  case atStart => exact ⟨0, N, V, tb, _, by omega, rfl, rfl, Lib.hid AtN.root, HT2, Lib.hid (fun _ _ _ => rfl), HX2, HK2, HB2⟩
  case round =>
    clear HX2 HB2 HT2 HK2 HK1
    obtain ⟨k, N, V', ab, ao, hk, rfl, rfl, HA, HTR, HV, HX, HK, HB⟩ := hrel
    have hbr : base ≤ wr.heap.size := by have := HB.out.size; have := HPB.out; omega
    by_cases hkm : k < m
    · have kI : (k : Int) < (m : Int) := by omega
      have x0 := HX.out.cell
      have xlt := HX.out.lt
      have HBT := Lib.hid (fun u => bit_any a k u HW.out (by have := HM.out; omega))
      go_wp2_with fail
      refine (HBT.out _).mono ?_
      rintro e w3 ⟨rfl, hb3⟩
      have HX3 := Lib.hid (HX.out.below hb3 HX.out.lt)
      have HB3 := Lib.hid (HB.out.trans (hb3.mono hbr))
      have HT3 := Lib.hid (HTR.out.onB hb3)
      have HK3 := Lib.hid (HK.out.trans (KeptT.ofB hb3))
      have hb3s : base ≤ w3.heap.size := by have := hb3.size; omega
      have HC := Lib.hid (HT3.out.cells HA.out)
      clear hb3 x0 xlt HBT HTR HX HB HK
      obtain ⟨b, hbv⟩ : ∃ b, a.bit k = b := ⟨_, rfl⟩
      have HBV := Lib.hid hbv
      rw [hbv]
      clear hbv
      cases b with
      | false =>
        rw [show bI false = 0 from rfl]
        cases hN : N a.six (a.path k ++ [false]) with
        | none =>
          have c0 : w3.cell? ⟨ab, ao, none⟩ = some (.pointer none) := by have := HC.out.1; rw [hN] at this; exact this
          have HN := Lib.hid hN
          have cf := HC.out.2.2.2.2.1
          have clt := HC.out.2.2.2.2.2.1
          clear hN
          go_wp2_with fail
          go_roundw
          case rel =>
            have hG := HT3.out.grow' HA.out false HN.out hb3s
            rw [if_neg (by decide)] at hG
            have hne := HT3.out.ne29 HA.out HX3.out (by decide) (by decide)
            refine ⟨k + 1, _, _, w3.heap.size, 0, by omega, by go_num, rfl, Lib.hid (show AtN tb (upd N a.six (a.path k ++ [false]) (some w3.heap.size)) a.six (a.path (k + 1)) w3.heap.size 0 by rw [Ad.path_succ, HBV.out]; exact AtN.child (upd_self _ _ _ _)), Lib.hid hG, Lib.hid (fun g q hq => ?_), Lib.hid ((Blk.far' hne HX3.out).alloc _), Lib.hid ((HK3.out.store HT3.out HA.out).alloc _), Lib.hid ((HB3.out.setCell (p := ⟨ab, _, none⟩) HC.out.2.2.2.2.2.2 _).alloc (by simp [World.setCell]; exact hb3s) _)⟩
            rw [upd_ne _ _ (by rintro ⟨rfl, rfl⟩; rw [HT3.out.has _ _ (by simp) HN.out] at hq; cases hq)]
            exact HV.out g q hq
          case measure => simp [intOf]; omega
        | some cb =>
          have c0 : w3.cell? ⟨ab, ao, none⟩ = some (.pointer (some ⟨cb, 0, none⟩)) := by have := HC.out.1; rw [hN] at this; exact this
          have HN := Lib.hid hN
          have clt := HC.out.2.2.2.2.2.1
          clear hN
          go_wp2_with fail
          go_roundw
          case rel => exact ⟨k + 1, N, V', cb, 0, by omega, by go_num, rfl, Lib.hid (by rw [Ad.path_succ, HBV.out]; exact AtN.child HN.out), HT3, HV, HX3, HK3, HB3⟩
          case measure => simp [intOf]; omega
      | true =>
        rw [show bI true = 1 from rfl]
        cases hN : N a.six (a.path k ++ [true]) with
        | none =>
          have c0 : w3.cell? ⟨ab, ao + 1, none⟩ = some (.pointer none) := by have := HC.out.2.1; rw [hN] at this; exact this
          have HN := Lib.hid hN
          have cf := HC.out.2.2.2.2.1
          have clt := HC.out.2.2.2.2.2.1
          clear hN
          go_wp2_with fail
          go_roundw
          case rel =>
            have hG := HT3.out.grow' HA.out true HN.out hb3s
            rw [if_pos rfl] at hG
            have hne := HT3.out.ne29 HA.out HX3.out (by decide) (by decide)
            refine ⟨k + 1, _, _, w3.heap.size, 0, by omega, by go_num, rfl, Lib.hid (show AtN tb (upd N a.six (a.path k ++ [true]) (some w3.heap.size)) a.six (a.path (k + 1)) w3.heap.size 0 by rw [Ad.path_succ, HBV.out]; exact AtN.child (upd_self _ _ _ _)), Lib.hid hG, Lib.hid (fun g q hq => ?_), Lib.hid ((Blk.far' hne HX3.out).alloc _), Lib.hid ((HK3.out.store HT3.out HA.out).alloc _), Lib.hid ((HB3.out.setCell (p := ⟨ab, _, none⟩) HC.out.2.2.2.2.2.2 _).alloc (by simp [World.setCell]; exact hb3s) _)⟩
            rw [upd_ne _ _ (by rintro ⟨rfl, rfl⟩; rw [HT3.out.has _ _ (by simp) HN.out] at hq; cases hq)]
            exact HV.out g q hq
          case measure => simp [intOf]; omega
        | some cb =>
          have c0 : w3.cell? ⟨ab, ao + 1, none⟩ = some (.pointer (some ⟨cb, 0, none⟩)) := by have := HC.out.2.1; rw [hN] at this; exact this
          have HN := Lib.hid hN
          have clt := HC.out.2.2.2.2.2.1
          clear hN
          go_wp2_with fail
          go_roundw
          case rel => exact ⟨k + 1, N, V', cb, 0, by omega, by go_num, rfl, Lib.hid (by rw [Ad.path_succ, HBV.out]; exact AtN.child HN.out), HT3, HV, HX3, HK3, HB3⟩
          case measure => simp [intOf]; omega
    · obtain rfl : k = m := by omega
      have kI : ¬ (k : Int) < (k : Int) := by omega
      have HC := Lib.hid (HTR.out.cells HA.out)
      have cf := HC.out.2.2.2.2.1
      have clt := HC.out.2.2.2.2.2.1
      have hsz := HTR.out.size
      have htf := HTR.out.tab.frozen
      have htl := HTR.out.tab.lt
      obtain ⟨hb', hh⟩ : ∃ h, H a.six (a.path k) = h := ⟨_, rfl⟩
      have HHH := Lib.hid hh
      have c2 : wr.cell? ⟨ab, ao + 2, none⟩ = some (.bool hb') := by rw [← hh]; exact HC.out.2.2.1
      have c3 := HC.out.2.2.2.1
      have HS := Lib.hid (show (mapOf H V a.six (a.path k)).isSome = hb' by rw [mapOf_some]; exact hh)
      have HTB := Lib.hid HTR.out.lo
      clear hh
      cases hb' with
      | false =>
        go_wp2_with fail
        go_ret
        refine ⟨rfl, ?_, ?_, ?_⟩
        · rw [HS.out]
          exact ⟨N, _, _, ((HTR.out.count (sz + 1)).mark HA.out true).put HA.out v, mapOf_set HV.out⟩
        · exact ((HB.out.setCell (p := ⟨tb, 0, none⟩) HTB.out _).setCell (p := ⟨ab, _, none⟩) HC.out.2.2.2.2.2.2 _).setCell (p := ⟨ab, _, none⟩) HC.out.2.2.2.2.2.2 _
        · exact ((HK.out.tab HTR.out).store (HTR.out.count (sz + 1)) HA.out).store ((HTR.out.count (sz + 1)).mark HA.out true) HA.out
      | true =>
        go_wp2_with fail
        go_ret
        refine ⟨rfl, ?_, ?_, ?_⟩
        · rw [HS.out]
          exact ⟨N, _, _, (HTR.out.mark HA.out true).put HA.out v, mapOf_set HV.out⟩
        · exact (HB.out.setCell (p := ⟨ab, _, none⟩) HC.out.2.2.2.2.2.2 _).setCell (p := ⟨ab, _, none⟩) HC.out.2.2.2.2.2.2 _
        · exact (HK.out.store HTR.out HA.out).store (HTR.out.mark HA.out true) HA.out
end Go.Proofs.Ytchgbdghllkcpaa
