/- Texts cut at one byte; groups of numbers; addr.Parse. -/
import Derived.Test.YthfdhggcnkgjfaaGreatDoorWB
import Derived.Test.YthfdhggcnkgjfaaGreatDoorPlainU
namespace Go.Proofs.YthfdhggcnkgjfaaGreatDoor
open Go.RowKit
set_option linter.unusedVariables false
set_option linter.unusedSimpArgs false
theorem wrapu (x : Int) : IntKind.u64.wrap x = x % 18446744073709551616 := rfl
theorem step_hi16 (V n : Nat) (hV : V < 5192296858534827628530496329220096) (hn : n < 65536) : bits .or .u64 (IntKind.u64.wrap (((V / 18446744073709551616 : Nat) : Int) * 65536)) (((V % 18446744073709551616 : Nat) : Int) / 281474976710656) = (((V * 65536 + n) / 18446744073709551616 : Nat) : Int) := by
  have e1 : IntKind.u64.wrap (((V / 18446744073709551616 : Nat) : Int) * 65536) = ((2 ^ 16 * (V / 18446744073709551616) : Nat) : Int) := by rw [wrapu]; omega
  have e2 : ((V % 18446744073709551616 : Nat) : Int) / 281474976710656 = ((V % 18446744073709551616 / 281474976710656 : Nat) : Int) := by omega
  rw [e1, e2, or_join 16 _ _ (by omega) (by omega)]
  congr 1; omega
theorem step_lo16 (V n : Nat) (hn : n < 65536) : bits .or .u64 (IntKind.u64.wrap (((V % 18446744073709551616 : Nat) : Int) * 65536)) (n : Int) = (((V * 65536 + n) % 18446744073709551616 : Nat) : Int) := by
  have e1 : IntKind.u64.wrap (((V % 18446744073709551616 : Nat) : Int) * 65536) = ((2 ^ 16 * (V % 281474976710656) : Nat) : Int) := by rw [wrapu]; omega
  rw [e1, or_join 16 _ _ (by omega) (by omega)]
  congr 1; omega
theorem step_hi8 (V n : Nat) (hV : V < 5192296858534827628530496329220096) (hn : n < 256) : bits .or .u64 (IntKind.u64.wrap (((V / 18446744073709551616 : Nat) : Int) * 256)) (((V % 18446744073709551616 : Nat) : Int) / 72057594037927936) = (((V * 256 + n) / 18446744073709551616 : Nat) : Int) := by
  have e1 : IntKind.u64.wrap (((V / 18446744073709551616 : Nat) : Int) * 256) = ((2 ^ 8 * (V / 18446744073709551616) : Nat) : Int) := by rw [wrapu]; omega
  have e2 : ((V % 18446744073709551616 : Nat) : Int) / 72057594037927936 = ((V % 18446744073709551616 / 72057594037927936 : Nat) : Int) := by omega
  rw [e1, e2, or_join 8 _ _ (by omega) (by omega)]
  congr 1; omega
theorem step_lo8 (V n : Nat) (hn : n < 256) : bits .or .u64 (IntKind.u64.wrap (((V % 18446744073709551616 : Nat) : Int) * 256)) (n : Int) = (((V * 256 + n) % 18446744073709551616 : Nat) : Int) := by
  have e1 : IntKind.u64.wrap (((V % 18446744073709551616 : Nat) : Int) * 256) = ((2 ^ 8 * (V % 72057594037927936) : Nat) : Int) := by rw [wrapu]; omega
  rw [e1, or_join 8 _ _ (by omega) (by omega)]
  congr 1; omega
theorem splitK_parts (c : UInt8) : ∀ (k : Nat) (l : List UInt8), (Lib.splitK [c] 0 k l).length = min (k + 1) (parts c l).length ∧ ((parts c l).length ≤ k + 1 → Lib.splitK [c] 0 k l = parts c l)
  | 0, l => by
    have hp := parts_pos c l
    refine ⟨by simp [Lib.splitK]; omega, fun h => ?_⟩
    have h1 : (parts c l).length = 1 := by omega
    obtain ⟨p, hp1⟩ := List.length_eq_one_iff.1 h1
    have hj := join_parts c l
    rw [hp1] at hj ⊢
    simp only [joinC] at hj
    rw [hj]; rfl
  | k + 1, l => by
    have hj := join_parts c l
    have hm := parts_mem c l
    cases hp : parts c l with
    | nil => exact absurd hp (parts_ne c l)
    | cons p ps =>
      rw [hp] at hj hm
      by_cases h0 : ps = []
      · subst h0
        simp only [joinC] at hj
        have hi : Lib.index l [c] = -1 := by rw [Lib.index_one, ← hj]; exact index_none (hm p (by simp))
        unfold Lib.splitK
        rw [hi]
        simp only [beq_self_eq_true, if_true]
        rw [hj]
        exact ⟨by simp, fun _ => rfl⟩
      · have hj2 := joinC_cons c p h0
        rw [hj] at hj2
        have hi : Lib.index l [c] = (p.length : Int) := by rw [Lib.index_one, hj2]; exact index_app (hm p (by simp))
        have hne : ((p.length : Int) == -1) = false := by simp
        have hps : parts c (joinC c ps) = ps := parts_join h0 fun x hx => hm x (by simp [hx])
        obtain ⟨ih1, ih2⟩ := splitK_parts c k (joinC c ps)
        rw [hps] at ih1 ih2
        have hd : l.drop (p.length + 1) = joinC c ps := by rw [hj2, ← List.drop_drop, List.drop_left' rfl]; rfl
        have ht : l.take (p.length + 0) = p := by rw [hj2, Nat.add_zero, List.take_left' rfl]
        unfold Lib.splitK
        rw [hi, hne]
        simp only [Bool.false_eq_true, if_false, Int.toNat_natCast, List.length_cons, List.length_nil, Nat.zero_add]
        rw [hd, ht]
        refine ⟨by rw [ih1]; omega, fun h => by rw [ih2 (by simp at h; omega)]⟩
theorem part_len (c : UInt8) : ∀ {ps : List (List UInt8)} {p : List UInt8}, p ∈ ps → p.length ≤ (joinC c ps).length
  | [], p, h => by cases h
  | [q], p, h => by rw [List.mem_singleton.1 h]; exact Nat.le_refl _
  | q :: r :: ps, p, h => by
    rw [joinC_cons2, List.length_append, List.length_cons]
    rcases List.mem_cons.1 h with rfl | h
    · omega
    · have := part_len c (ps := r :: ps) h
      omega
set_option maxHeartbeats 1000000 in
/-- strings.SplitN at a separator of one byte: no variable of the library's is asked. -/
theorem splitN1 (s : ByteArray) (c : UInt8) (n : Nat) (w : World) (hs : s.size < 4294967281) (hn : 1 ≤ n) (hn63 : n ≤ 9223372036854775807) :
    Calls Tryz.prog 93 #[.string s, .string ⟨#[c]⟩, .int .i64 n] w fun e w' =>
      e = .returned (.slice (some ⟨w.heap.size, 0, none⟩) (Lib.splitB ⟨#[c]⟩ 0 (min n (s.size + 1) - 1) s).length (min n (s.size + 1))) ∧ w' = w.alloc (.cells (Lib.cellsOf (Lib.splitB ⟨#[c]⟩ 0 (min n (s.size + 1) - 1) s) (min n (s.size + 1))) 9) := by
  have c0 := Any.strings_genSplit_core Tryz.lays221 (by kernel_rfl) s ⟨#[c]⟩ 0 (n : Int) (min n (s.size + 1)) w hs (Nat.le_refl 1) (Nat.zero_le _)
    (fun x cs _ => (Tryz.strings_Index_one x c _).mono fun e w' ⟨he, hw⟩ => ⟨by rw [he, ← Lib.index_one], hw⟩)
    ((Tryz.strings_Count_one s c w).mono fun e w' ⟨he, hw⟩ => ⟨by rw [he]; show _ = Ending.returned (Value.int .i64 ((Lib.count s.data.toList [c] : Nat) : Int)); rw [Lib.count_one]; rfl, hw⟩)
    (by omega) (by omega) (by rw [if_neg (by omega)]; omega)
  have HC := Lib.hid (show Calls Tryz.prog 102 #[.string s, .string ⟨#[c]⟩, .int .i64 0, .int .i64 n] w _ from c0)
  clear c0
  go_enter Tryz.func93, Tryz.ntmps93
  go_wp2_with fail
  refine HC.out.mono ?_
  rintro e w1 ⟨rfl, rfl⟩
  go_wp2_with fail
  go_ret
  exact ⟨rfl, rfl⟩
theorem cellsOf_at (cs : List ByteArray) (N k : Nat) (h : k < cs.length) : (Lib.cellsOf cs N)[k]? = some (.string cs[k]) := by
  unfold Lib.cellsOf
  rw [List.getElem?_toArray, List.getElem?_append_left (by simpa using h)]
  simp [h]
theorem splitN_parts (s : ByteArray) (c : UInt8) (n : Nat) (mi : Int) (hmi : mi = (n : Int) + 1) (hn : n ≤ 100) (hz : s.size ≤ 4000) (w : World) : ∃ cs : List ByteArray, cs.length = min (n + 1) (parts c s.data.toList).length ∧ ((parts c s.data.toList).length = n → cs.map (·.data.toList) = parts c s.data.toList) ∧
    Calls Tryz.prog 93 #[.string s, .string ⟨#[c]⟩, .int .i64 mi] w fun e w' => e = .returned (.slice (some ⟨w.heap.size, 0, none⟩) cs.length (min (n + 1) (s.size + 1))) ∧ Below w.heap.size w w' ∧ ∀ k (h : k < cs.length), w'.cell? ⟨w.heap.size, k, none⟩ = some (.string cs[k]) := by
  subst hmi
  have h1 := splitN1 s c (n + 1) w (by omega) (by omega) (by omega)
  have hpl := parts_len c s.data.toList
  have hpp := parts_pos c s.data.toList
  rw [← Lib.size_eq] at hpl
  obtain ⟨e1, e2⟩ := splitK_parts c (min (n + 1) (s.size + 1) - 1) s.data.toList
  have hd := Lib.splitB_data ⟨#[c]⟩ 0 (min (n + 1) (s.size + 1) - 1) s
  generalize Lib.splitB ⟨#[c]⟩ 0 (min (n + 1) (s.size + 1) - 1) s = cs at h1 hd
  have hl : cs.length = min (min (n + 1) (s.size + 1) - 1 + 1) (parts c s.data.toList).length := by
    have hlm : (cs.map (·.data.toList)).length = cs.length := List.length_map _
    rw [hd] at hlm
    rw [← hlm]; exact e1
  refine ⟨cs, by rw [hl]; omega, fun h => ?_, ?_⟩
  · rw [hd]; exact e2 (by omega)
  · have h2 : Calls Tryz.prog 93 #[.string s, .string ⟨#[c]⟩, .int .i64 ((n : Int) + 1)] w _ := h1
    refine h2.mono ?_
    rintro e w' ⟨rfl, rfl⟩
    exact ⟨rfl, (Below.refl _ _).alloc (Nat.le_refl _) _, fun k hk => by rw [(Blk.new w 9 _).cell]; exact cellsOf_at cs _ k hk⟩
def gr6 (l : List UInt8) : Value := if (parts 58 l).length = 8 then (match numAll 16 65535 (parts 58 l) with
  | some ns => .tuple #[.int .u64 ((val 65536 ns / 18446744073709551616 : Nat) : Int), .int .u64 ((val 65536 ns % 18446744073709551616 : Nat) : Int), .bool true]
  | none => .tuple #[.int .u64 0, .int .u64 0, .bool false]) else .tuple #[.int .u64 0, .int .u64 0, .bool false]
set_option maxHeartbeats 8000000 in
theorem groups6 (s : ByteArray) (hz : s.size ≤ 4000) (w : World) : Calls Tryz.prog 84 #[.string s, .string { data := #[58] }, .int .i64 8, .int .i64 16, .int .i64 16] w fun e w' => e = .returned (gr6 s.data.toList) ∧ Below w.heap.size w w' := by
  obtain ⟨cs, hcl, hc8, hcall⟩ := splitN_parts s 58 8 9 (by omega) (by omega) hz w
  have HC := Lib.hid hcall
  have hcl9 : cs.length ≤ 9 := by rw [hcl]; omega
  clear hcall
  by_cases h8 : (parts 58 s.data.toList).length = 8
  case neg =>
    have HG := Lib.hid (show gr6 s.data.toList = .tuple #[.int .u64 0, .int .u64 0, .bool false] by unfold gr6; rw [if_neg h8])
    have hn : ¬ (cs.length : Int) = 8 := by omega
    clear h8 hcl
    go_enter Tryz.func84, Tryz.ntmps84
    go_wp2_with fail
    refine HC.out.mono ?_
    rintro e w1 ⟨rfl, hb, hbl⟩
    have HB := Lib.hid hb
    clear hb hbl
    go_wp2_with fail
    go_ret3
    exact ⟨by rw [HG.out]; rfl, HB.out⟩
  case pos =>
  have HP := Lib.hid (hc8 h8)
  have hlen : cs.length = 8 := by rw [hcl, h8]; rfl
  have HLN := Lib.hid hlen
  have hnI : (cs.length : Int) = 8 := by omega
  have HG := Lib.hid (show gr6 s.data.toList = match numAll 16 65535 (parts 58 s.data.toList) with
    | some ns => .tuple #[.int .u64 ((val 65536 ns / 18446744073709551616 : Nat) : Int), .int .u64 ((val 65536 ns % 18446744073709551616 : Nat) : Int), .bool true]
    | none => .tuple #[.int .u64 0, .int .u64 0, .bool false] by unfold gr6; rw [if_pos h8])
  obtain ⟨P, hP⟩ : ∃ P, parts 58 s.data.toList = P := ⟨_, rfl⟩
  have HPL := Lib.hid (show ∀ p ∈ P, p.length ≤ 4000 by
    rw [← hP]
    intro p hp
    have := part_len 58 hp
    rw [join_parts, ← Lib.size_eq] at this
    omega)
  rw [hP] at HP HG h8
  clear hcl hc8 hP
  go_enter Tryz.func84, Tryz.ntmps84
  go_wp2_with fail
  refine HC.out.mono ?_
  rintro e w1 ⟨rfl, hb, hcell⟩
  have HB := Lib.hid hb
  have HCE := Lib.hid hcell
  have hw1 : w.heap.size < w1.heap.size := by have := World.block_lt_of_cell? w1 _ (hcell 0 (by omega)); exact this
  clear hb hcell
  go_wp2_with fail
  go_loopw [10, 11, 29] (fun hi lo i wr => ∃ (k : Nat) (ns : List Nat), k ≤ 8 ∧ i = .int .i64 (k : Int) ∧ hi = .int .u64 ((val 65536 ns / 18446744073709551616 : Nat) : Int) ∧ lo = .int .u64 ((val 65536 ns % 18446744073709551616 : Nat) : Int) ∧ Hid (numAll 16 65535 (P.take k) = some ns) ∧ Hid (Kept (fun _ => False) w1 wr)) (fun _ _ i _ => (8 - intOf i).toNat)
  case atStart => exact ⟨0, [], by omega, rfl, rfl, rfl, Lib.hid rfl, Lib.hid (Kept.refl _ _)⟩
  case round =>
    obtain ⟨k, ns, hk, rfl, rfl, rfl, HNS, HK⟩ := hrel
    have k0 : (0 : Int) ≤ (k : Int) := Int.natCast_nonneg _
    by_cases hk8 : k < 8
    · have kI : (k : Int) < 8 := by omega
      have kI2 : (k : Int) < (cs.length : Int) := by omega
      have hkc : k < cs.length := by omega
      have hkP : k < P.length := by omega
      have c0 : wr.cell? ⟨w.heap.size, k, none⟩ = some (.string cs[k]) := (HK.out.cell hw1 (fun h => h) _).trans (HCE.out k hkc)
      have hck : cs[k].data.toList = P[k] := by
        have := HP.out
        subst this
        simp
      have hcz : cs[k].size ≤ 4000 := by rw [Lib.size_eq, hck]; exact HPL.out _ (List.getElem_mem hkP)
      have HNUM := Lib.hid (number16 cs[k] 65535 (by omega) (by omega) wr)
      rw [hck] at HNUM
      have HTK := Lib.hid (show P.take (k + 1) = P.take k ++ [P[k]] from List.take_succ_eq_append_getElem hkP)
      have HPK := Lib.hid (show P = P.take k ++ P[k] :: P.drop (k + 1) by rw [← List.drop_eq_getElem_cons hkP, List.take_append_drop])
      generalize cs[k] = ck at c0 HNUM
      obtain ⟨pk, hpk⟩ : ∃ pk, P[k] = pk := ⟨_, rfl⟩
      rw [hpk] at HNUM HTK HPK
      clear hck hcz hpk
      have cell0 := c0
      go_wp2_with fail
      refine HNUM.out.mono ?_
      rintro e w2 ⟨rfl, rfl⟩
      cases hn : numP 16 65535 pk with
      | none =>
        have HN := Lib.hid (show gr6 s.data.toList = .tuple #[.int .u64 0, .int .u64 0, .bool false] by
          rw [HG.out, HPK.out, numAll_none hn])
        have HBZ := Lib.hid (HB.out.trans (HK.out.below (Nat.le_of_lt hw1) (fun _ h => h.elim)))
        clear hn
        unfold NumRet
        go_wp2_with fail
        go_ret3
        exact ⟨by rw [HN.out]; rfl, HBZ.out⟩
      | some n =>
        have hnm := numP_le hn
        have HN := Lib.hid (show numAll 16 65535 (P.take (k + 1)) = some (ns ++ [n]) by rw [HTK.out, numAll_snoc HNS.out, hn]; rfl)
        have HV := Lib.hid (val_snoc 65536 ns n)
        have hvl : val 65536 ns < 65536 ^ k := by
          obtain ⟨e1, e2⟩ := numAll_le HNS.out
          have := val_lt (b := 65536) (ns := ns) (fun n hn => by have := e2 n hn; omega)
          rw [e1, List.length_take, Nat.min_eq_left (by omega)] at this
          exact this
        have n0 : (0 : Int) ≤ (n : Int) := Int.natCast_nonneg _
        clear hn
        unfold NumRet
        have hp7 : val 65536 ns < 5192296858534827628530496329220096 := Nat.lt_of_lt_of_le hvl (Nat.pow_le_pow_right (n := 65536) (by omega) (show k ≤ 7 by omega))
        have HHI := Lib.hid (step_hi16 (val 65536 ns) n (by omega) (by omega))
        have HLO := Lib.hid (step_lo16 (val 65536 ns) n (by omega))
        rw [← val_snoc] at HHI HLO
        clear hvl hp7
        obtain ⟨hi, hhi⟩ : ∃ hi, val 65536 ns / 18446744073709551616 = hi := ⟨_, rfl⟩
        obtain ⟨lo, hlo⟩ : ∃ lo, val 65536 ns % 18446744073709551616 = lo := ⟨_, rfl⟩
        rw [hhi, hlo] at HHI
        rw [hlo] at HLO
        rw [hhi, hlo]
        clear hhi hlo
        go_upto_region 10 with fail
        go_region
        go_wp2_with fail
        go_roundw
        case rel => exact ⟨k + 1, ns ++ [n], by omega, by go_num, by rw [← HHI.out], by rw [← HLO.out], HN, Lib.hid HK.out.drew⟩
        case measure => simp [intOf]; omega
    · have kI : ¬ (k : Int) < 8 := by omega
      have kI2 : ¬ (k : Int) < (cs.length : Int) := by omega
      have HN := Lib.hid (show gr6 s.data.toList = .tuple #[.int .u64 ((val 65536 ns / 18446744073709551616 : Nat) : Int), .int .u64 ((val 65536 ns % 18446744073709551616 : Nat) : Int), .bool true] by
        have e := HNS.out
        rw [List.take_of_length_le (by omega)] at e
        rw [HG.out, e])
      have HBZ := Lib.hid (HB.out.trans (HK.out.below (Nat.le_of_lt hw1) (fun _ h => h.elim)))
      go_wp2_with fail
      go_ret3
      exact ⟨by rw [HN.out]; rfl, HBZ.out⟩
def gr4 (l : List UInt8) : Value := if (parts 46 l).length = 4 then (match numAll 10 255 (parts 46 l) with
  | some ns => .tuple #[.int .u64 ((val 256 ns / 18446744073709551616 : Nat) : Int), .int .u64 ((val 256 ns % 18446744073709551616 : Nat) : Int), .bool true]
  | none => .tuple #[.int .u64 0, .int .u64 0, .bool false]) else .tuple #[.int .u64 0, .int .u64 0, .bool false]
set_option maxHeartbeats 8000000 in
theorem groups4 (s : ByteArray) (hz : s.size ≤ 4000) (w : World) : Calls Tryz.prog 84 #[.string s, .string { data := #[46] }, .int .i64 4, .int .i64 10, .int .i64 8] w fun e w' => e = .returned (gr4 s.data.toList) ∧ Below w.heap.size w w' := by
  obtain ⟨cs, hcl, hc8, hcall⟩ := splitN_parts s 46 4 5 (by omega) (by omega) hz w
  have HC := Lib.hid hcall
  have hcl9 : cs.length ≤ 5 := by rw [hcl]; omega
  clear hcall
  by_cases h8 : (parts 46 s.data.toList).length = 4
  case neg =>
    have HG := Lib.hid (show gr4 s.data.toList = .tuple #[.int .u64 0, .int .u64 0, .bool false] by unfold gr4; rw [if_neg h8])
    have hn : ¬ (cs.length : Int) = 4 := by omega
    clear h8 hcl
    go_enter Tryz.func84, Tryz.ntmps84
    go_wp2_with fail
    refine HC.out.mono ?_
    rintro e w1 ⟨rfl, hb, hbl⟩
    have HB := Lib.hid hb
    clear hb hbl
    go_wp2_with fail
    go_ret3
    exact ⟨by rw [HG.out]; rfl, HB.out⟩
  case pos =>
  have HP := Lib.hid (hc8 h8)
  have hlen : cs.length = 4 := by rw [hcl, h8]; rfl
  have HLN := Lib.hid hlen
  have hnI : (cs.length : Int) = 4 := by omega
  have HG := Lib.hid (show gr4 s.data.toList = match numAll 10 255 (parts 46 s.data.toList) with
    | some ns => .tuple #[.int .u64 ((val 256 ns / 18446744073709551616 : Nat) : Int), .int .u64 ((val 256 ns % 18446744073709551616 : Nat) : Int), .bool true]
    | none => .tuple #[.int .u64 0, .int .u64 0, .bool false] by unfold gr4; rw [if_pos h8])
  obtain ⟨P, hP⟩ : ∃ P, parts 46 s.data.toList = P := ⟨_, rfl⟩
  have HPL := Lib.hid (show ∀ p ∈ P, p.length ≤ 4000 by
    rw [← hP]
    intro p hp
    have := part_len 46 hp
    rw [join_parts, ← Lib.size_eq] at this
    omega)
  rw [hP] at HP HG h8
  clear hcl hc8 hP
  go_enter Tryz.func84, Tryz.ntmps84
  go_wp2_with fail
  refine HC.out.mono ?_
  rintro e w1 ⟨rfl, hb, hcell⟩
  have HB := Lib.hid hb
  have HCE := Lib.hid hcell
  have hw1 : w.heap.size < w1.heap.size := by have := World.block_lt_of_cell? w1 _ (hcell 0 (by omega)); exact this
  clear hb hcell
  go_wp2_with fail
  go_loopw [10, 11, 29] (fun hi lo i wr => ∃ (k : Nat) (ns : List Nat), k ≤ 4 ∧ i = .int .i64 (k : Int) ∧ hi = .int .u64 ((val 256 ns / 18446744073709551616 : Nat) : Int) ∧ lo = .int .u64 ((val 256 ns % 18446744073709551616 : Nat) : Int) ∧ Hid (numAll 10 255 (P.take k) = some ns) ∧ Hid (Kept (fun _ => False) w1 wr)) (fun _ _ i _ => (4 - intOf i).toNat)
  case atStart => exact ⟨0, [], by omega, rfl, rfl, rfl, Lib.hid rfl, Lib.hid (Kept.refl _ _)⟩
  case round =>
    obtain ⟨k, ns, hk, rfl, rfl, rfl, HNS, HK⟩ := hrel
    have k0 : (0 : Int) ≤ (k : Int) := Int.natCast_nonneg _
    by_cases hk8 : k < 4
    · have kI : (k : Int) < 4 := by omega
      have kI2 : (k : Int) < (cs.length : Int) := by omega
      have hkc : k < cs.length := by omega
      have hkP : k < P.length := by omega
      have c0 : wr.cell? ⟨w.heap.size, k, none⟩ = some (.string cs[k]) := (HK.out.cell hw1 (fun h => h) _).trans (HCE.out k hkc)
      have hck : cs[k].data.toList = P[k] := by
        have := HP.out
        subst this
        simp
      have hcz : cs[k].size ≤ 4000 := by rw [Lib.size_eq, hck]; exact HPL.out _ (List.getElem_mem hkP)
      have HNUM := Lib.hid (number10 cs[k] 255 (by omega) (by omega) wr)
      rw [hck] at HNUM
      have HTK := Lib.hid (show P.take (k + 1) = P.take k ++ [P[k]] from List.take_succ_eq_append_getElem hkP)
      have HPK := Lib.hid (show P = P.take k ++ P[k] :: P.drop (k + 1) by rw [← List.drop_eq_getElem_cons hkP, List.take_append_drop])
      generalize cs[k] = ck at c0 HNUM
      obtain ⟨pk, hpk⟩ : ∃ pk, P[k] = pk := ⟨_, rfl⟩
      rw [hpk] at HNUM HTK HPK
      clear hck hcz hpk
      have cell0 := c0
      go_wp2_with fail
      refine HNUM.out.mono ?_
      rintro e w2 ⟨rfl, rfl⟩
      cases hn : numP 10 255 pk with
      | none =>
        have HN := Lib.hid (show gr4 s.data.toList = .tuple #[.int .u64 0, .int .u64 0, .bool false] by
          rw [HG.out, HPK.out, numAll_none hn])
        have HBZ := Lib.hid (HB.out.trans (HK.out.below (Nat.le_of_lt hw1) (fun _ h => h.elim)))
        clear hn
        unfold NumRet
        go_wp2_with fail
        go_ret3
        exact ⟨by rw [HN.out]; rfl, HBZ.out⟩
      | some n =>
        have hnm := numP_le hn
        have HN := Lib.hid (show numAll 10 255 (P.take (k + 1)) = some (ns ++ [n]) by rw [HTK.out, numAll_snoc HNS.out, hn]; rfl)
        have HV := Lib.hid (val_snoc 256 ns n)
        have hvl : val 256 ns < 256 ^ k := by
          obtain ⟨e1, e2⟩ := numAll_le HNS.out
          have := val_lt (b := 256) (ns := ns) (fun n hn => by have := e2 n hn; omega)
          rw [e1, List.length_take, Nat.min_eq_left (by omega)] at this
          exact this
        have n0 : (0 : Int) ≤ (n : Int) := Int.natCast_nonneg _
        clear hn
        unfold NumRet
        have hp7 : val 256 ns < 72057594037927936 := Nat.lt_of_lt_of_le hvl (Nat.pow_le_pow_right (n := 256) (by omega) (show k ≤ 7 by omega))
        have HHI := Lib.hid (step_hi8 (val 256 ns) n (by omega) (by omega))
        have HLO := Lib.hid (step_lo8 (val 256 ns) n (by omega))
        rw [← val_snoc] at HHI HLO
        clear hvl hp7
        obtain ⟨hi, hhi⟩ : ∃ hi, val 256 ns / 18446744073709551616 = hi := ⟨_, rfl⟩
        obtain ⟨lo, hlo⟩ : ∃ lo, val 256 ns % 18446744073709551616 = lo := ⟨_, rfl⟩
        rw [hhi, hlo] at HHI
        rw [hlo] at HLO
        rw [hhi, hlo]
        clear hhi hlo
        go_upto_region 10 with fail
        go_region
        go_wp2_with fail
        go_roundw
        case rel => exact ⟨k + 1, ns ++ [n], by omega, by go_num, by rw [← HHI.out], by rw [← HLO.out], HN, Lib.hid HK.out.drew⟩
        case measure => simp [intOf]; omega
    · have kI : ¬ (k : Int) < 4 := by omega
      have kI2 : ¬ (k : Int) < (cs.length : Int) := by omega
      have HN := Lib.hid (show gr4 s.data.toList = .tuple #[.int .u64 ((val 256 ns / 18446744073709551616 : Nat) : Int), .int .u64 ((val 256 ns % 18446744073709551616 : Nat) : Int), .bool true] by
        have e := HNS.out
        rw [List.take_of_length_le (by omega)] at e
        rw [HG.out, e])
      have HBZ := Lib.hid (HB.out.trans (HK.out.below (Nat.le_of_lt hw1) (fun _ h => h.elim)))
      go_wp2_with fail
      go_ret3
      exact ⟨by rw [HN.out]; rfl, HBZ.out⟩
end Go.Proofs.YthfdhggcnkgjfaaGreatDoor
