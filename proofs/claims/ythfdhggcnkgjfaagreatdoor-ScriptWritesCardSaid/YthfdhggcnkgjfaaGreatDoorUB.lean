/- Numbers as words; the library's tables that are read. -/
import Derived.Test.YthfdhggcnkgjfaaGreatDoorShelf
import Derived.Test.YthfdhggcnkgjfaaGreatDoorPlainU
import Derived.Test.YthfdhggcnkgjfaaGreatDoorBase
import Derived.Test.YthfdhggcnkgjfaaGreatDoorRows
import Derived.Outline
import Derived.Deep.Light
namespace Go.Proofs.YthfdhggcnkgjfaaGreatDoor
open Go.RowKit
set_option linter.unusedVariables false
set_option linter.unusedSimpArgs false
/-! ### The tables -/
theorem var_of_block {P : Program} {w w' : World} {n : String} {g : Nat} (hg : P.globalNamed n = some g) (hb : w'.heap[g]? = w.heap[g]?) : w'.var? P n = w.var? P n := by
  unfold World.var?
  rw [hg]
  simp only [Option.bind_some]
  rw [hb]
structure Tabs (w : World) : Prop where
  pow : Lib.TabIs Tryz.prog w "internal/strconv.uint64pow10" .u64 Lib.pow10Tab
  brj : w.cell? ⟨3, 15, none⟩ = some (.int .u8 4)
  size : 6 ≤ w.heap.size
theorem Tabs.keep {S : Nat → Prop} {w w' : World} (h : Tabs w) (hk : Kept S w w') (hS : ∀ i, i < 6 → ¬ S i) : Tabs w' := by
  have h6 := h.size
  refine ⟨?_, ?_, Nat.le_trans h.size hk.size⟩
  · unfold Lib.TabIs
    rw [var_of_block (show Tryz.prog.globalNamed "internal/strconv.uint64pow10" = some 1 by kernel_rfl) (hk.block 1 (by omega) (hS 1 (by omega)))]
    exact h.pow
  · rw [hk.cell (b := 3) (by omega) (hS 3 (by omega))]
    exact h.brj
theorem Tabs.on {w w' : World} (h : Tabs w) (hk : Kept (fun _ => False) w w') : Tabs w' := h.keep hk (fun _ _ h => h)
/-! ### Numbers -/
/-- A word that was made: its letters; no block that was there was turned. -/
def WordR (w : World) (l : List UInt8) (e : Ending) (w' : World) : Prop := ∃ y : ByteArray, e = .returned (.string y) ∧ y.data.toList = l ∧ Kept (fun _ => False) w w'
theorem Kept.grow (w : World) (k : Nat) (os : Array Obj) : Kept (fun _ => False) w (Sort.grow (w.drewN k) os) := by
  have h := (Kept.refl (fun _ => False) w).drewN k
  refine h.trans ⟨rfl, rfl, rfl, by simp, fun i hi _ => ?_⟩
  show ((w.drewN k).heap ++ os)[i]? = _
  rw [Array.getElem?_append_left hi]
theorem numT_itoa (n : Int) : Lib.itoa (max n 0) = numT n := by
  unfold Lib.itoa numT
  rw [if_neg (by omega), digB_ten]
  congr 1
  omega
set_option maxRecDepth 20000 in
set_option maxHeartbeats 2000000 in
theorem decimal_any (n : Int) (h0 : -9223372036854775808 ≤ n) (h1 : n ≤ 9223372036854775807) (w : World) (hT : Tabs w) : Calls Tryz.prog 63 #[.int .i64 n] w (WordR w (numT n)) := by
  have hI := Tryz.strconv_Itoa (max n 0) (by omega) (by omega) w hT.pow
  rw [numT_itoa] at hI
  have HI := Lib.hid hI
  clear hI
  obtain ⟨t, ht⟩ : ∃ t, numT n = t := ⟨_, rfl⟩
  rw [ht] at HI ⊢
  clear ht
  go_enter Tryz.func63, Tryz.ntmps63
  go_wp2_with fail
  refine HI.out.mono ?_
  rintro e w1 ⟨rfl, k, os, rfl⟩
  obtain ⟨y, hy⟩ : ∃ y : ByteArray, y = ⟨t.toArray⟩ := ⟨_, rfl⟩
  rw [← hy]
  have HY := Lib.hid (show y.data.toList = t by rw [hy])
  clear hy
  go_wp2_with fail
  go_ret
  exact ⟨y, rfl, HY.out, Kept.grow _ _ _⟩
set_option maxRecDepth 20000 in
set_option maxHeartbeats 2000000 in
theorem num_any (n : Int) (h0 : -9223372036854775808 ≤ n) (h1 : n ≤ 9223372036854775807) (w : World) (hT : Tabs w) : Calls Tryz.prog 41 #[.int .i64 n] w (WordR w (numT n)) := by
  have HD := Lib.hid (decimal_any n h0 h1 w hT)
  go_enter Tryz.func41, Tryz.ntmps41
  go_wp2_with fail
  refine HD.out.mono ?_
  rintro e w1 ⟨y, rfl, hy, hk⟩
  go_wp2_with fail
  go_ret
  exact ⟨y, rfl, hy, hk⟩
set_option maxRecDepth 20000 in
set_option maxHeartbeats 2000000 in
theorem long_any (n : Nat) (h1 : n ≤ 4294967295) (w : World) (hT : Tabs w) : Calls Tryz.prog 44 #[.int .u32 (n : Int)] w (WordR w (numT (n : Int))) := by
  have HD := Lib.hid (decimal_any (n : Int) (by omega) (by omega) w hT)
  have n0 : (0 : Int) ≤ (n : Int) := Int.natCast_nonneg _
  have n1 : (n : Int) ≤ 4294967295 := by omega
  go_enter Tryz.func44, Tryz.ntmps44
  go_wp2_with fail
  refine HD.out.mono ?_
  rintro e w1 ⟨y, rfl, hy, hk⟩
  go_wp2_with fail
  go_ret
  exact ⟨y, rfl, hy, hk⟩
theorem proto_any (n : Nat) (h1 : n ≤ 255) (w : World) : Calls Tryz.prog 64 #[.int .u8 (n : Int)] w (WordR w (proT n)) := by
  by_cases h6 : n = 6
  · subst h6
    go_enter Tryz.func64, Tryz.ntmps64
    go_wp2_with fail
    go_ret
    exact ⟨_, rfl, rfl, Kept.refl _ _⟩
  by_cases h17 : n = 17
  · subst h17
    go_enter Tryz.func64, Tryz.ntmps64
    go_wp2_with fail
    go_ret
    exact ⟨_, rfl, rfl, Kept.refl _ _⟩
  have q1 : ((n : Int) == 6) = false := beq_eq_false_iff_ne.2 (by omega)
  have q2 : ((n : Int) == 17) = false := beq_eq_false_iff_ne.2 (by omega)
  have e : proT n = [] := by unfold proT; rw [if_neg h6, if_neg h17]
  rw [e]
  clear e
  go_enter Tryz.func64, Tryz.ntmps64
  go_wp2_with fail
  go_ret
  exact ⟨_, rfl, rfl, Kept.refl _ _⟩
end Go.Proofs.YthfdhggcnkgjfaaGreatDoor
/- strconv.FormatUint at the base 16. -/
namespace Go.Proofs.YthfdhggcnkgjfaaGreatDoor
open Go.RowKit
set_option linter.unusedVariables false
set_option linter.unusedSimpArgs false
theorem tz64_16 (w : World) (hT : Tabs w) : Calls Tryz.prog 111 #[.int .u64 16] w fun e w' => e = .returned (.int .i64 4) ∧ w' = w := by
  have c0 := hT.brj
  have hE : IntKind.u64.wrap (bits .and .u64 16 (IntKind.u64.wrap (-16)) * 285870213051353865) / 288230376151711744 = 15 := by kernel_rfl
  go_enter Tryz.func111, Tryz.ntmps111
  go_wp2_with fail
  go_ret
  exact ⟨rfl, rfl⟩
theorem tz_16 (w : World) (hT : Tabs w) : Calls Tryz.prog 107 #[.int .u64 16] w fun e w' => e = .returned (.int .i64 4) ∧ w' = w := by
  have HZ := Lib.hid (tz64_16 w hT)
  go_enter Tryz.func107, Tryz.ntmps107
  go_wp2_with fail
  refine HZ.out.mono ?_
  rintro e w1 ⟨rfl, rfl⟩
  go_wp2_with fail
  go_ret
  exact ⟨rfl, rfl⟩
theorem pow2_16 (w : World) : Calls Tryz.prog 106 #[.int .i64 16] w fun e w' => e = .returned (.bool true) ∧ w' = w := by
  go_enter Tryz.func106, Tryz.ntmps106
  go_wp2_with fail
  go_ret
  exact ⟨rfl, rfl⟩
theorem sign36 : ∀ i : Fin 16, (⟨#[48, 49, 50, 51, 52, 53, 54, 55, 56, 57, 97, 98, 99, 100, 101, 102, 103, 104, 105, 106, 107, 108, 109, 110, 111, 112, 113, 114, 115, 116, 117, 118, 119, 120, 121, 122]⟩ : ByteArray)[i.val]'(by have := i.isLt; show i.val < 36; omega) = hexc i.val := by decide +kernel
theorem sign_at {n : Nat} (h : n < 16) (h2 : n < (⟨#[48, 49, 50, 51, 52, 53, 54, 55, 56, 57, 97, 98, 99, 100, 101, 102, 103, 104, 105, 106, 107, 108, 109, 110, 111, 112, 113, 114, 115, 116, 117, 118, 119, 120, 121, 122]⟩ : ByteArray).size) : (⟨#[48, 49, 50, 51, 52, 53, 54, 55, 56, 57, 97, 98, 99, 100, 101, 102, 103, 104, 105, 106, 107, 108, 109, 110, 111, 112, 113, 114, 115, 116, 117, 118, 119, 120, 121, 122]⟩ : ByteArray)[n]'h2 = hexc n := sign36 ⟨n, h⟩
theorem low16 (z : Nat) (hz : z < 18446744073709551616) : bits .and .u64 (z : Int) 15 = ((z % 16 : Nat) : Int) := (u64_and_nat z 15 hz (by omega)).trans (by rw [show z &&& 15 = z % 16 from Nat.and_two_pow_sub_one_eq_mod z 4])
theorem slice144 (b k : Nat) (hk : k ≤ 64) (W : World) : (Instr.sliceAt 144 (.pointer (some ⟨b, 0, none⟩)) (some (.int .i64 (65 - (k : Int) - 1))) none none).run Tryz.prog W = .ok (.slice (some ⟨b, 64 - k, none⟩) (k + 1) (k + 1)) W := by
  have ha : Tryz.prog.arrayLen 144 = 65 := by kernel_rfl
  rw [run_sliceAt_array_l W 144 ⟨b, 0, none⟩ (by kernel_rfl) .i64 (65 - (k : Int) - 1) (by omega) (by rw [ha]; omega), ha]
  have hs : (sizeOf (Tryz.prog.elem 144)).run Tryz.prog W = .ok 1 W := by kernel_rfl
  rw [hs]
  show Result.ok (slicedAt ⟨b, 0, none⟩ (65 - (k : Int) - 1).toNat 65 65 1) W = _
  have ht : (65 - (k : Int) - 1).toNat = 64 - k := by omega
  rw [ht]
  unfold slicedAt
  rw [if_neg (by omega)]
  have e1 : 65 - (64 - k) = k + 1 := by omega
  rw [e1]
  simp [Addr.add]
  intro h; exact h.symm
theorem set_drop {r l : List UInt8} {k : Nat} {x : UInt8} (hr : r.length = 65) (hk : k ≤ 64) (hd : r.drop (65 - k) = l) : (r.set (64 - k) x).drop (64 - k) = x :: l := by
  rw [List.drop_set, if_neg (by omega), Nat.sub_self]
  have h1 : r.drop (64 - k) = r[64 - k]'(by omega) :: r.drop (65 - k) := by
    rw [List.drop_eq_getElem_cons (by omega)]
    congr 2
    omega
  rw [h1, hd, List.set_cons_zero]
set_option maxRecDepth 20000 in
set_option maxHeartbeats 8000000 in
theorem bits16 (x : Nat) (hx : x ≤ 65535) (w : World) (hT : Tabs w) : Calls Tryz.prog 100 #[.slice none 0 0, .int .u64 (x : Int), .int .i64 16, .bool false, .bool false] w fun e w' => ∃ y : ByteArray, e = .returned (.tuple #[.slice none 0 0, .string y]) ∧ y.data.toList = digB 16 x ∧ Kept (fun _ => False) w w' := by
  have x0 : (0 : Int) ≤ (x : Int) := Int.natCast_nonneg _
  have x1 : (x : Int) ≤ 65535 := by omega
  have HP := Lib.hid (fun W => pow2_16 W)
  go_enter Tryz.func100, Tryz.ntmps100
  have HTZ := Lib.hid (fun W (h : Tabs W) => tz_16 W h)
  go_upto_region 4 with fail
  obtain ⟨w1, hw1⟩ : ∃ w1 : World, w1 = w.alloc (.cells Tryz.zeroCells144 144) := ⟨_, rfl⟩
  have HO1 := Lib.hid (show Own w1 144 w.heap.size 65 (List.replicate 65 0) by
    rw [hw1, show Tryz.zeroCells144 = (bcs (List.replicate 65 0)).toArray by kernel_rfl]
    exact Own.of_blk (Blk.new _ _ _) (by decide))
  have HK1 := Lib.hid (show Kept (fun _ => False) w w1 by rw [hw1]; exact (Kept.refl _ _).alloc _)
  rw [← hw1]
  clear hw1
  have HT1 := Lib.hid (hT.on HK1.out)
  obtain ⟨ab, hab⟩ : ∃ ab, w.heap.size = ab := ⟨_, rfl⟩
  have HAB := Lib.hid hab
  rw [hab] at HO1 ⊢
  clear hab hT
  go_wp2_with fail
  refine (HP.out w1).mono ?_
  rintro e w2 ⟨rfl, rfl⟩
  go_wp2_with fail
  refine (HTZ.out _ HT1.out).mono ?_
  rintro e w3 ⟨rfl, rfl⟩
  go_wp2_with fail
  go_loopw [1, 13] (fun u n wr => ∃ (U : Nat) (l r : List UInt8), u = .int .u64 (U : Int) ∧ n = .int .i64 (65 - (l.length : Int)) ∧ r.length = 65 ∧ r.drop (65 - l.length) = l ∧ Hid (digB 16 x = digB 16 U ++ l) ∧ ((l.length = 0 ∧ U < 65536) ∨ (l.length = 1 ∧ U < 4096) ∨ (l.length = 2 ∧ U < 256) ∨ (l.length = 3 ∧ U < 16)) ∧ Hid (Own wr 144 ab 65 r) ∧ Hid (Kept (fun _ => False) w wr)) (fun u _ _ => (intOf u).toNat)
  case atStart => exact ⟨x, [], List.replicate 65 0, rfl, rfl, by simp, by simp, Lib.hid (by simp), by simp; omega, HO1, HK1⟩
  case round =>
    obtain ⟨U, l, r, rfl, rfl, hr, hd, HX, hsz, HO, HK⟩ := hrel
    obtain ⟨k, hk⟩ : ∃ k, l.length = k := ⟨_, rfl⟩
    have U0 : (0 : Int) ≤ (U : Int) := Int.natCast_nonneg _
    have U1 : (U : Int) ≤ 65535 := by omega
    have k0 : (0 : Int) ≤ (k : Int) := Int.natCast_nonneg _
    have k1 : (k : Int) ≤ 3 := by omega
    rw [hk] at hsz hd ⊢
    have HD := Lib.hid hd
    have HL := Lib.hid hk
    have HRL := Lib.hid hr
    clear hd hk hr
    have fB := HO.out.frozen
    have lB := HO.out.lt
    have hkl : 65 - k - 1 < r.length := by have := HRL.out; omega
    have c0 := HO.out.cell hkl
    by_cases h16 : 16 ≤ U
    · have hI : (16 : Int) ≤ (U : Int) := by omega
      have k2 : (k : Int) ≤ 2 := by omega
      have hand := low16 U (by omega)
      have hm0 : (0 : Int) ≤ ((U % 16 : Nat) : Int) := Int.natCast_nonneg _
      have hm1 : ((U % 16 : Nat) : Int) < 16 := by omega
      have hsg := sign_at (n := U % 16) (Nat.mod_lt _ (by omega))
      go_upto_region 14 with fail
      generalize hw4 : World.setCell _ _ _ = w4
      have HO4 := Lib.hid (show Own w4 144 ab 65 (r.set (65 - k - 1) (hexc (U % 16))) by rw [← hw4]; exact HO.out.set _ _)
      have HK4 := Lib.hid (show Kept (fun _ => False) w w4 by rw [← hw4]; exact Kept.setNew (by have := HAB.out; omega) HK.out)
      have HD4 := Lib.hid (set_drop (x := hexc (U % 16)) HRL.out (by omega) HD.out)
      clear hw4 hand hm0 hm1 hsg c0 fB lB
      go_wp2_with fail
      go_roundw
      case rel =>
        have e1 : 65 - k - 1 = 64 - k := by omega
        have hl := HL.out
        refine ⟨U / 16, hexc (U % 16) :: l, _, by go_num, by simp [hl]; omega, ?_, ?_, ?_, ?_, HO4, HK4⟩
        · rw [List.length_set]; exact HRL.out
        · rw [e1, List.length_cons, hl, show 65 - (k + 1) = 64 - k by omega]; exact HD4.out
        · refine Lib.hid ?_
          rw [HX.out, digB_big (by omega) (by omega), List.append_assoc]
          rfl
        · rw [List.length_cons, hl]; omega
      case measure => simp [intOf]; omega
    · have hI : ¬ (16 : Int) ≤ (U : Int) := by omega
      have hsg := sign_at (n := U) (by omega)
      go_upto_region 25 with fail
      generalize hw4 : World.setCell _ _ _ = w4
      have HO4 := Lib.hid (show Own w4 144 ab 65 (r.set (65 - k - 1) (hexc U)) by rw [← hw4]; exact HO.out.set _ _)
      have HK4 := Lib.hid (show Kept (fun _ => False) w w4 by rw [← hw4]; exact Kept.setNew (by have := HAB.out; omega) HK.out)
      have HD4 := set_drop (x := hexc U) HRL.out (by omega) HD.out
      have e1 : 65 - k - 1 = 64 - k := by omega
      have hbs := HO4.out.bs.drop_ (64 - k)
      rw [e1, HD4, Nat.zero_add] at hbs
      have hcv := hbs.conv (P := Tryz.prog) (c := k + 1) Tryz.underlying30 Tryz.underlying5 Tryz.underlying9
      rw [List.length_cons, HL.out] at hcv
      obtain ⟨y, hy⟩ : ∃ y : ByteArray, y = ⟨(hexc U :: l).toArray⟩ := ⟨_, rfl⟩
      rw [← hy] at hcv
      have HY := Lib.hid (show y.data.toList = digB 16 x by rw [hy, HX.out, digB_small (by omega)]; rfl)
      have hs := slice144 ab k (by omega) w4
      clear hw4 hsg c0 fB lB hbs HD4 hy
      go_wp2_with fail
      go_ret2
      exact ⟨y, rfl, HY.out, HK4.out⟩
set_option maxRecDepth 20000 in
set_option maxHeartbeats 8000000 in
theorem format16i (x : Nat) (hx : x ≤ 65535) (w : World) (hT : Tabs w) : Calls Tryz.prog 89 #[.int .u64 (x : Int), .int .i64 16] w (WordR w (digB 16 x)) := by
  have x0 : (0 : Int) ≤ (x : Int) := Int.natCast_nonneg _
  have x1 : (x : Int) ≤ 65535 := by omega
  have HB := Lib.hid (bits16 x hx w hT)
  go_enter Tryz.func89, Tryz.ntmps89
  go_wp2_with fail
  refine HB.out.mono ?_
  rintro e w1 ⟨y, rfl, hy, hk⟩
  have HY := Lib.hid hy
  clear hy
  go_wp2_with fail
  go_ret
  exact ⟨y, rfl, HY.out, hk⟩
set_option maxRecDepth 20000 in
theorem format16 (x : Nat) (hx : x ≤ 65535) (w : World) (hT : Tabs w) : Calls Tryz.prog 78 #[.int .u64 (x : Int), .int .i64 16] w (WordR w (digB 16 x)) := by
  have x0 : (0 : Int) ≤ (x : Int) := Int.natCast_nonneg _
  have x1 : (x : Int) ≤ 65535 := by omega
  have HB := Lib.hid (format16i x hx w hT)
  go_enter Tryz.func78, Tryz.ntmps78
  go_wp2_with fail
  refine HB.out.mono ?_
  rintro e w1 ⟨y, rfl, hy, hk⟩
  have HY := Lib.hid hy
  clear hy
  go_wp2_with fail
  go_ret
  exact ⟨y, rfl, HY.out, hk⟩
end Go.Proofs.YthfdhggcnkgjfaaGreatDoor
