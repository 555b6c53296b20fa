/- ip4's Header.Bytes, walked. -/
import Derived.Test.YtdnbhmfofphblaaGreatDoorB
import Derived.Test.YtdnbhmfofphblaaGreatDoorA
import Derived.Test.YtdnbhmfofphblaaGreatDoorOctSet
import Derived.Test.YtdnbhmfofphblaaGreatDoorOctRead
namespace Go.Proofs.YtdnbhmfofphblaaGreatDoor
set_option maxRecDepth 100000
open Go.RowKit
set_option linter.unusedVariables false
theorem put_len (A : Option Addr) (cap k : Nat) (l : List UInt8) (M : Int) (w : World) (m q : Nat) (hm : l.length = m) (hq : m + k = q) (hB : BS w w.heap.size A l) (m0 : 0 ≤ M) (m1 : M < 18446744073709551616) (hm1 : m ≤ 1000) (k8 : k ≤ 8) :
    Calls Tryz.prog 82 #[.slice A m cap, .int .u64 M, .int .i64 (k : Int)] w fun e w' => ∃ g L, e = .returned (.slice (some ⟨g, 0, none⟩) q q) ∧ L = l ++ digs k M ∧ L.length = q ∧ Own w' 5 g q L ∧ w.heap.size ≤ g ∧ Below w.heap.size w w' := by
  subst hm hq
  refine (put_any A cap k l M k w (by omega) hB m0 m1 (by omega)).mono ?_
  rintro e w' ⟨rfl, hO, hb⟩
  exact ⟨_, _, rfl, rfl, by rw [List.length_append, digs_length], hO, Nat.le_refl _, hb⟩
theorem set_len (A : Option Addr) (cap at_ k : Nat) (l : List UInt8) (M : Int) (w : World) (m : Nat) (hm : l.length = m) (hl : m ≤ 1000000) (hB : BS w w.heap.size A l) (m0 : 0 ≤ M) (m1 : M < 18446744073709551616) (k1 : 1 ≤ k) (k8 : k ≤ 8) (hat : at_ + k ≤ m) :
    Calls Tryz.prog 176 #[.slice A m cap, .int .i64 (at_ : Int), .int .u64 M, .int .i64 (k : Int)] w fun e w' => ∃ g, e = .returned (.tuple #[.slice (some ⟨g, 0, none⟩) m m, .int .i64 0]) ∧ Own w' 5 g m (fin l at_ k M) ∧ w.heap.size ≤ g ∧ Below w.heap.size w w' := by
  subst hm
  refine (set_ok A cap at_ k l M w hl hB m0 m1 k1 k8 hat).mono ?_
  rintro e w' ⟨rfl, hO, hb⟩
  exact ⟨_, rfl, hO, Nat.le_refl _, hb⟩
theorem of_len (pb po pc cap B : Nat) (A : Option Addr) (l : List UInt8) (m : Nat) (hm : l.length = m) (w : World) (hl : m ≤ 100000) (hp : w.cell? ⟨pb, po, none⟩ = some (.slice A m cap)) (hb : BS w B A l) :
    Calls Tryz.prog 68 #[.slice (some ⟨pb, po, none⟩) 1 pc] w fun e w' => e = .returned (.int .u16 (65535 - norm (total true l))) ∧ w = w' := by
  subst hm
  exact of_any pb po pc cap B A l w hl hp hb
theorem or64 (x : Int) (h0 : 5 ≤ x) (h1 : x ≤ 15) : bits .or .i64 64 x = 64 + x := by
  have : x = 5 ∨ x = 6 ∨ x = 7 ∨ x = 8 ∨ x = 9 ∨ x = 10 ∨ x = 11 ∨ x = 12 ∨ x = 13 ∨ x = 14 ∨ x = 15 := by omega
  rcases this with rfl | rfl | rfl | rfl | rfl | rfl | rfl | rfl | rfl | rfl | rfl <;> decide
theorem Own.row_ {w : World} {e g cap base n : Nat} {l : List UInt8} (h : Own w e g cap l) (hb : base ≤ g) (hn : l.length = n) : Row w base e (.slice (some ⟨g, 0, none⟩) n cap) (bcs l) := by subst hn; exact h.row hb
set_option maxRecDepth 100000 in
set_option maxHeartbeats 4000000 in
theorem bytesH_ff (tos len id : Int) (off ttl pr sm src dst : Int) (OA : Option Addr) (n oc : Nat) (os : List UInt8) (hn : os.length = n) (n40 : n ≤ 40) (n4 : n % 4 = 0) (t0 : 0 ≤ tos) (t1 : tos ≤ 255) (i0 : 0 ≤ id) (i1 : id ≤ 65535) (l0 : 20 + (n : Int) ≤ len) (l1 : len ≤ 65535) (o0 : 0 ≤ off) (o1 : off ≤ 8191) (x0 : 0 ≤ ttl) (x1 : ttl ≤ 255) (p0 : 0 ≤ pr) (p1 : pr ≤ 255) (s0 : 0 ≤ src) (s1 : src ≤ 4294967295) (d0 : 0 ≤ dst) (d1 : dst ≤ 4294967295) (w : World) (hbs : BS w w.heap.size OA os) :
    Calls Tryz.prog 120 #[.agg #[.int .u8 tos, .int .i64 len, .int .u16 id, .bool false, .bool false, .int .i64 off, .int .u8 ttl, .int .u8 pr, .int .u16 sm, .bool false, .int .u64 0, .int .u64 src, .bool false, .int .u64 0, .int .u64 dst, .slice OA n oc]] w fun e w' => ∃ v, e = .returned v ∧ Row w' w.heap.size 5 v (bcs (⟨tos, len, id, false, false, off, ttl, pr, sm, src, dst, os⟩ : Hd).bytes) ∧ Below w.heap.size w w' := by
  have h5 := Tryz.info5r
  have HY2 := Lib.hid hn
  have HY := Lib.hid (show n ≤ 40 ∧ n % 4 = 0 ∧ 20 + (n : Int) ≤ len ∧ len ≤ 65535 from ⟨n40, n4, l0, l1⟩)
  have HBS := Lib.hid hbs
  have e64 := or64 ((20 + (n : Int)) / 4) (by omega) (by omega)
  have e14 := or14 off o0 (by omega)
  have e13 := or13 off o0 (by omega)
  have e1413 := or1413 off o0 (by omega)
  clear hbs hn
  go_enter Tryz.func120, Tryz.ntmps120
  go_upto_region 1 with fail
  obtain ⟨w1, hw1⟩ : ∃ w1 : World, w1 = w.alloc (.cells #[.int .u8 tos, .int .i64 len, .int .u16 id, .bool false, .bool false, .int .i64 off, .int .u8 ttl, .int .u8 pr, .int .u16 sm, .bool false, .int .u64 0, .int .u64 src, .bool false, .int .u64 0, .int .u64 dst, .slice OA n oc] 190) := ⟨_, rfl⟩
  have HB0 := Lib.hid (show Blk w1 w.heap.size 190 #[.int .u8 tos, .int .i64 len, .int .u16 id, .bool false, .bool false, .int .i64 off, .int .u8 ttl, .int .u8 pr, .int .u16 sm, .bool false, .int .u64 0, .int .u64 src, .bool false, .int .u64 0, .int .u64 dst, .slice OA n oc] by rw [hw1]; exact Blk.new _ _ _)
  have HKW := Lib.hid (show Below w.heap.size w w1 by rw [hw1]; exact (Below.refl _ _).alloc (Nat.le_refl _) _)
  have HS1 := Lib.hid (show w.heap.size ≤ w1.heap.size by rw [hw1]; simp)
  rw [← hw1]
  clear hw1
  obtain ⟨hb, hhb⟩ : ∃ hb, w.heap.size = hb := ⟨_, rfl⟩
  have HB : Hid (Blk w1 hb 190 #[.int .u8 tos, .int .i64 len, .int .u16 id, .bool false, .bool false, .int .i64 off, .int .u8 ttl, .int .u8 pr, .int .u16 sm, .bool false, .int .u64 0, .int .u64 src, .bool false, .int .u64 0, .int .u64 dst, .slice OA n oc]) := Lib.hid (by rw [← hhb]; exact HB0.out)
  rw [hhb]
  clear HB0 hhb
  have HOB := Lib.hid (show BS w1 w1.heap.size OA os from HBS.out.onB HKW.out (Nat.le_refl _))
  have cB := HB.out.cell
  have lB := HB.out.lt
  go_wp2_with fail
  refine (rightH_yes tos len id false false off ttl pr sm src dst OA n oc HY.out.1 HY.out.2.1 HY.out.2.2.1 HY.out.2.2.2 o0 s0 s1 d0 d1 o1 w1).mono ?_
  rintro e w2 ⟨rfl, hb2⟩
  have HK2 := Lib.hid (Kept.ofB (S := fun _ => False) hb2)
  clear hb2 cB lB
  have cB := (HB.out.kept HK2.out (fun h => h)).cell
  have lB := (HB.out.kept HK2.out (fun h => h)).lt
  go_wp2_with fail
  refine (size_any tos len id false false off ttl pr sm src dst OA n oc HY.out.1 w2).mono ?_
  rintro e w3 ⟨rfl, hb3⟩
  have HK3 := Lib.hid (HK2.out.trans (Kept.ofB (S := fun _ => False) hb3))
  clear hb3 cB lB
  have cB := (HB.out.kept HK3.out (fun h => h)).cell
  have lB := (HB.out.kept HK3.out (fun h => h)).lt
  go_wp2_with fail
  refine (put_len none 0 1 [] (64 + (20 + (n : Int)) / 4) w3 0 1 (by rfl) rfl .nil (by omega) (by omega) (by omega) (by omega)).mono ?_
  rintro e w4 ⟨g4, L4, rfl, hL, hN, hO, hg, hbw⟩
  have HL4 := Lib.hid hL
  have HN4 := Lib.hid hN
  have HO4 := Lib.hid hO
  have HG4 := Lib.hid (show w1.heap.size ≤ g4 from Nat.le_trans HK3.out.size hg)
  have HK4 := Lib.hid (HK3.out.trans (Kept.ofB (S := fun _ => False) hbw))
  clear hL hN hO hg hbw cB lB
  have cB := (HB.out.kept HK4.out (fun h => h)).cell
  have lB := (HB.out.kept HK4.out (fun h => h)).lt
  go_wp2_with fail
  refine (put_len (some ⟨g4, 0, none⟩) 1 1 L4 (tos) w4 1 2 (by exact HN4.out) rfl (HO4.out.bs) (by omega) (by omega) (by omega) (by omega)).mono ?_
  rintro e w5 ⟨g5, L5, rfl, hL, hN, hO, hg, hbw⟩
  have HL5 := Lib.hid hL
  have HN5 := Lib.hid hN
  have HO5 := Lib.hid hO
  have HG5 := Lib.hid (show w1.heap.size ≤ g5 from Nat.le_trans HK4.out.size hg)
  have HK5 := Lib.hid (HK4.out.trans (Kept.ofB (S := fun _ => False) hbw))
  clear hL hN hO hg hbw cB lB
  have cB := (HB.out.kept HK5.out (fun h => h)).cell
  have lB := (HB.out.kept HK5.out (fun h => h)).lt
  go_wp2_with fail
  refine (put_len (some ⟨g5, 0, none⟩) 2 2 L5 (len) w5 2 4 (by exact HN5.out) rfl (HO5.out.bs) (by omega) (by omega) (by omega) (by omega)).mono ?_
  rintro e w6 ⟨g6, L6, rfl, hL, hN, hO, hg, hbw⟩
  have HL6 := Lib.hid hL
  have HN6 := Lib.hid hN
  have HO6 := Lib.hid hO
  have HG6 := Lib.hid (show w1.heap.size ≤ g6 from Nat.le_trans HK5.out.size hg)
  have HK6 := Lib.hid (HK5.out.trans (Kept.ofB (S := fun _ => False) hbw))
  clear hL hN hO hg hbw cB lB
  have cB := (HB.out.kept HK6.out (fun h => h)).cell
  have lB := (HB.out.kept HK6.out (fun h => h)).lt
  go_wp2_with fail
  refine (put_len (some ⟨g6, 0, none⟩) 4 2 L6 (id) w6 4 6 (by exact HN6.out) rfl (HO6.out.bs) (by omega) (by omega) (by omega) (by omega)).mono ?_
  rintro e w7 ⟨g7, L7, rfl, hL, hN, hO, hg, hbw⟩
  have HL7 := Lib.hid hL
  have HN7 := Lib.hid hN
  have HO7 := Lib.hid hO
  have HG7 := Lib.hid (show w1.heap.size ≤ g7 from Nat.le_trans HK6.out.size hg)
  have HK7 := Lib.hid (HK6.out.trans (Kept.ofB (S := fun _ => False) hbw))
  clear hL hN hO hg hbw cB lB
  have cB := (HB.out.kept HK7.out (fun h => h)).cell
  have lB := (HB.out.kept HK7.out (fun h => h)).lt
  go_wp2_with fail
  refine (put_len (some ⟨g7, 0, none⟩) 6 2 L7 (off) w7 6 8 (by exact HN7.out) rfl (HO7.out.bs) (by omega) (by omega) (by omega) (by omega)).mono ?_
  rintro e w8 ⟨g8, L8, rfl, hL, hN, hO, hg, hbw⟩
  have HL8 := Lib.hid hL
  have HN8 := Lib.hid hN
  have HO8 := Lib.hid hO
  have HG8 := Lib.hid (show w1.heap.size ≤ g8 from Nat.le_trans HK7.out.size hg)
  have HK8 := Lib.hid (HK7.out.trans (Kept.ofB (S := fun _ => False) hbw))
  clear hL hN hO hg hbw cB lB
  have cB := (HB.out.kept HK8.out (fun h => h)).cell
  have lB := (HB.out.kept HK8.out (fun h => h)).lt
  go_wp2_with fail
  refine (put_len (some ⟨g8, 0, none⟩) 8 1 L8 (ttl) w8 8 9 (by exact HN8.out) rfl (HO8.out.bs) (by omega) (by omega) (by omega) (by omega)).mono ?_
  rintro e w9 ⟨g9, L9, rfl, hL, hN, hO, hg, hbw⟩
  have HL9 := Lib.hid hL
  have HN9 := Lib.hid hN
  have HO9 := Lib.hid hO
  have HG9 := Lib.hid (show w1.heap.size ≤ g9 from Nat.le_trans HK8.out.size hg)
  have HK9 := Lib.hid (HK8.out.trans (Kept.ofB (S := fun _ => False) hbw))
  clear hL hN hO hg hbw cB lB
  have cB := (HB.out.kept HK9.out (fun h => h)).cell
  have lB := (HB.out.kept HK9.out (fun h => h)).lt
  go_wp2_with fail
  refine (put_len (some ⟨g9, 0, none⟩) 9 1 L9 (pr) w9 9 10 (by exact HN9.out) rfl (HO9.out.bs) (by omega) (by omega) (by omega) (by omega)).mono ?_
  rintro e w10 ⟨g10, L10, rfl, hL, hN, hO, hg, hbw⟩
  have HL10 := Lib.hid hL
  have HN10 := Lib.hid hN
  have HO10 := Lib.hid hO
  have HG10 := Lib.hid (show w1.heap.size ≤ g10 from Nat.le_trans HK9.out.size hg)
  have HK10 := Lib.hid (HK9.out.trans (Kept.ofB (S := fun _ => False) hbw))
  clear hL hN hO hg hbw cB lB
  have cB := (HB.out.kept HK10.out (fun h => h)).cell
  have lB := (HB.out.kept HK10.out (fun h => h)).lt
  go_wp2_with fail
  refine (put_len (some ⟨g10, 0, none⟩) 10 2 L10 (0) w10 10 12 (by exact HN10.out) rfl (HO10.out.bs) (by omega) (by omega) (by omega) (by omega)).mono ?_
  rintro e w11 ⟨g11, L11, rfl, hL, hN, hO, hg, hbw⟩
  have HL11 := Lib.hid hL
  have HN11 := Lib.hid hN
  have HO11 := Lib.hid hO
  have HG11 := Lib.hid (show w1.heap.size ≤ g11 from Nat.le_trans HK10.out.size hg)
  have HK11 := Lib.hid (HK10.out.trans (Kept.ofB (S := fun _ => False) hbw))
  clear hL hN hO hg hbw cB lB
  have cB := (HB.out.kept HK11.out (fun h => h)).cell
  have lB := (HB.out.kept HK11.out (fun h => h)).lt
  go_wp2_with fail
  have HR11 := Lib.hid (HO11.out.row_ HG11.out HN11.out)
  refine (v4Bytes_any src s0 s1 w11).mono ?_
  rintro e w12 ⟨g12, rfl, hO, hg, hbw⟩
  have HO12 := Lib.hid hO
  have HK12 := Lib.hid (HK11.out.trans (Kept.ofB (S := fun _ => False) hbw))
  have HR12 := Lib.hid (HR11.out.belowAll hbw)
  clear hO hg hbw cB lB
  have cB := (HB.out.kept HK12.out (fun h => h)).cell
  have lB := (HB.out.kept HK12.out (fun h => h)).lt
  go_wp2_with (at_builtin; refine wpList_append_row rfl (.tmp 55) (.tmp 58) 44 rfl w1.heap.size 5 (.int .u8 0) 1 Tryz.underlying44 h5 rfl _ (bcs L11) rfl (some ⟨g12, 0, none⟩) 4 4 (bcs (digs 4 src)) rfl ?a0 HR12.out HO12.out.bs.src (bcs_one _) ?a3 ?a4 HK12.out.size ?_)
  case a0 => rw [bcs_length, digs_length]
  case a3 => rw [bcs_length, bcs_length, digs_length, HN11.out]; decide
  case a4 => rw [bcs_length, bcs_length, digs_length, HN11.out]; decide
  intro v12 w13 hrow hgr _
  rw [← bcs_append] at hrow
  obtain ⟨L13, hL⟩ : ∃ L, L = L11 ++ digs 4 src := ⟨_, rfl⟩
  rw [← hL] at hrow
  have hN : L13.length = 16 := by rw [hL, List.length_append, digs_length, HN11.out]
  have HK13 := Lib.hid (HK12.out.then (kept_grown (S := fun i => w1.heap.size ≤ i) hgr (fun i e _ => (HR12.out.lt i e).1)) (fun i hi h => by omega))
  obtain ⟨A13, c13, hve, -, -⟩ := hrow.shape
  rw [bcs_length, hN] at hve
  subst hve
  have HR13 := Lib.hid hrow
  have HL13 := Lib.hid hL
  have HN13 := Lib.hid hN
  clear hrow hgr hL hN cB lB
  have cB := (HB.out.kept HK13.out (fun h => h)).cell
  have lB := (HB.out.kept HK13.out (fun h => h)).lt
  go_wp2_with fail
  refine (v4Bytes_any dst d0 d1 w13).mono ?_
  rintro e w14 ⟨g14, rfl, hO, hg, hbw⟩
  have HO14 := Lib.hid hO
  have HK14 := Lib.hid (HK13.out.trans (Kept.ofB (S := fun _ => False) hbw))
  have HR14 := Lib.hid (HR13.out.belowAll hbw)
  clear hO hg hbw cB lB
  have cB := (HB.out.kept HK14.out (fun h => h)).cell
  have lB := (HB.out.kept HK14.out (fun h => h)).lt
  go_wp2_with (at_builtin; refine wpList_append_row rfl (.tmp 60) (.tmp 63) 44 rfl w1.heap.size 5 (.int .u8 0) 1 Tryz.underlying44 h5 rfl _ (bcs L13) rfl (some ⟨g14, 0, none⟩) 4 4 (bcs (digs 4 dst)) rfl ?a0 HR14.out HO14.out.bs.src (bcs_one _) ?a3 ?a4 HK14.out.size ?_)
  case a0 => rw [bcs_length, digs_length]
  case a3 => rw [bcs_length, bcs_length, digs_length, HN13.out]; decide
  case a4 => rw [bcs_length, bcs_length, digs_length, HN13.out]; decide
  intro v14 w15 hrow hgr _
  rw [← bcs_append] at hrow
  obtain ⟨L15, hL⟩ : ∃ L, L = L13 ++ digs 4 dst := ⟨_, rfl⟩
  rw [← hL] at hrow
  have hN : L15.length = 20 := by rw [hL, List.length_append, digs_length, HN13.out]
  have HK15 := Lib.hid (HK14.out.then (kept_grown (S := fun i => w1.heap.size ≤ i) hgr (fun i e _ => (HR14.out.lt i e).1)) (fun i hi h => by omega))
  obtain ⟨A15, c15, hve, -, -⟩ := hrow.shape
  rw [bcs_length, hN] at hve
  subst hve
  have HR15 := Lib.hid hrow
  have HL15 := Lib.hid hL
  have HN15 := Lib.hid hN
  clear hrow hgr hL hN cB lB
  have cB := (HB.out.kept HK15.out (fun h => h)).cell
  have lB := (HB.out.kept HK15.out (fun h => h)).lt
  go_wp2_with (at_builtin; refine wpList_append_row rfl (.tmp 65) (.tmp 67) 44 rfl w1.heap.size 5 (.int .u8 0) 1 Tryz.underlying44 h5 rfl _ (bcs L15) rfl OA n oc (bcs os) rfl ?a0 HR15.out ?a1 (bcs_one _) ?a3 ?a4 HK15.out.size ?_)
  case a0 => rw [bcs_length, HY2.out]
  case a1 => exact (HOB.out.on HK15.out (fun _ _ h => h)).src
  case a3 => rw [bcs_length, bcs_length, HY2.out, HN15.out]; unfold maxLen; omega
  case a4 => rw [bcs_length, bcs_length, HY2.out, HN15.out]; omega
  intro v16 w16 hrow hgr _
  rw [← bcs_append] at hrow
  obtain ⟨L16, hL⟩ : ∃ L, L = L15 ++ os := ⟨_, rfl⟩
  rw [← hL] at hrow
  have hN : L16.length = 20 + n := by rw [hL, List.length_append, HN15.out, HY2.out]
  have HK16 := Lib.hid (HK15.out.then (kept_grown (S := fun i => w1.heap.size ≤ i) hgr (fun i e _ => (HR15.out.lt i e).1)) (fun i hi h => by omega))
  obtain ⟨A16, c16, hve, -, -⟩ := hrow.shape
  rw [bcs_length, hN] at hve
  subst hve
  have HR16 := Lib.hid hrow
  have HL16 := Lib.hid hL
  have HN16 := Lib.hid hN
  clear hrow hgr hL hN cB lB
  have HPR := Lib.hid (show (⟨tos, len, id, false, false, off, ttl, pr, sm, src, dst, os⟩ : Hd).pre = L16 by
    rw [HL16.out, HL15.out, HL13.out, HL11.out, HL10.out, HL9.out, HL8.out, HL7.out, HL6.out, HL5.out, HL4.out]
    simp [Hd.pre, Hd.parts, Hd.place, Hd.size, ← HY2.out])
  have hbs := HR16.out.byt
  obtain ⟨A', c', e', -, -, hbs⟩ := hbs
  injection e' with ea el ec
  subst ea ec
  clear el
  have HBS16 := Lib.hid hbs
  clear hbs
  go_wp2_with fail
  refine (of_len w16.heap.size 0 1 c16 w16.heap.size A16 L16 (20 + n) HN16.out _ (by have := HY.out.1; omega) ?p1 ?p2).mono ?_
  case p1 => exact (Blk.new _ _ _).cell 0
  case p2 => exact HBS16.out.alloc (Nat.le_refl _) _
  rintro e w17 ⟨rfl, hw⟩
  have HK17 := Lib.hid (show Kept (fun _ => False) w1 w17 by rw [← hw]; exact HK16.out.alloc _)
  have HBS17 := Lib.hid (show BS w17 w17.heap.size A16 L16 by rw [← hw]; exact (HBS16.out.alloc (Nat.le_refl _) _).more (by simp))
  clear hw
  have hr := norm_range (total true L16)
  obtain ⟨r, hN⟩ : ∃ r, 65535 - norm (total true L16) = r := ⟨_, rfl⟩
  have r0 : 0 ≤ r := by omega
  have r1 : r ≤ 65535 := by omega
  rw [hN]
  have HCK := Lib.hid (show (⟨tos, len, id, false, false, off, ttl, pr, sm, src, dst, os⟩ : Hd).ck = r by unfold Hd.ck; rw [HPR.out, hN])
  clear hr hN
  go_wp2_with fail
  refine (set_len A16 c16 10 2 L16 r w17 (20 + n) HN16.out (by have := HY.out.1; omega) HBS17.out r0 (by omega) (by omega) (by omega) (by omega)).mono ?_
  rintro e w18 ⟨g18, rfl, hO, hg, hbw⟩
  have HO18 := Lib.hid hO
  have HK18 := Lib.hid (HK17.out.trans (Kept.ofB (S := fun _ => False) hbw))
  have HG18 := Lib.hid (show w.heap.size ≤ g18 from Nat.le_trans HS1.out (Nat.le_trans HK17.out.size hg))
  clear hO hg hbw
  go_wp2_with fail
  go_ret
  refine ⟨_, rfl, ?_, HKW.out.trans (HK18.out.below HS1.out (fun _ h => h.elim))⟩
  unfold Hd.bytes
  rw [HPR.out, HCK.out]
  exact HO18.out.row_ HG18.out (by rw [fin_length _ _ _ _ (by rw [HN16.out]; omega), HN16.out])
set_option maxRecDepth 100000 in
set_option maxHeartbeats 4000000 in
theorem bytesH_ft (tos len id : Int) (off ttl pr sm src dst : Int) (OA : Option Addr) (n oc : Nat) (os : List UInt8) (hn : os.length = n) (n40 : n ≤ 40) (n4 : n % 4 = 0) (t0 : 0 ≤ tos) (t1 : tos ≤ 255) (i0 : 0 ≤ id) (i1 : id ≤ 65535) (l0 : 20 + (n : Int) ≤ len) (l1 : len ≤ 65535) (o0 : 0 ≤ off) (o1 : off ≤ 8191) (x0 : 0 ≤ ttl) (x1 : ttl ≤ 255) (p0 : 0 ≤ pr) (p1 : pr ≤ 255) (s0 : 0 ≤ src) (s1 : src ≤ 4294967295) (d0 : 0 ≤ dst) (d1 : dst ≤ 4294967295) (w : World) (hbs : BS w w.heap.size OA os) :
    Calls Tryz.prog 120 #[.agg #[.int .u8 tos, .int .i64 len, .int .u16 id, .bool false, .bool true, .int .i64 off, .int .u8 ttl, .int .u8 pr, .int .u16 sm, .bool false, .int .u64 0, .int .u64 src, .bool false, .int .u64 0, .int .u64 dst, .slice OA n oc]] w fun e w' => ∃ v, e = .returned v ∧ Row w' w.heap.size 5 v (bcs (⟨tos, len, id, false, true, off, ttl, pr, sm, src, dst, os⟩ : Hd).bytes) ∧ Below w.heap.size w w' := by
  have h5 := Tryz.info5r
  have HY2 := Lib.hid hn
  have HY := Lib.hid (show n ≤ 40 ∧ n % 4 = 0 ∧ 20 + (n : Int) ≤ len ∧ len ≤ 65535 from ⟨n40, n4, l0, l1⟩)
  have HBS := Lib.hid hbs
  have e64 := or64 ((20 + (n : Int)) / 4) (by omega) (by omega)
  have e14 := or14 off o0 (by omega)
  have e13 := or13 off o0 (by omega)
  have e1413 := or1413 off o0 (by omega)
  clear hbs hn
  go_enter Tryz.func120, Tryz.ntmps120
  go_upto_region 1 with fail
  obtain ⟨w1, hw1⟩ : ∃ w1 : World, w1 = w.alloc (.cells #[.int .u8 tos, .int .i64 len, .int .u16 id, .bool false, .bool true, .int .i64 off, .int .u8 ttl, .int .u8 pr, .int .u16 sm, .bool false, .int .u64 0, .int .u64 src, .bool false, .int .u64 0, .int .u64 dst, .slice OA n oc] 190) := ⟨_, rfl⟩
  have HB0 := Lib.hid (show Blk w1 w.heap.size 190 #[.int .u8 tos, .int .i64 len, .int .u16 id, .bool false, .bool true, .int .i64 off, .int .u8 ttl, .int .u8 pr, .int .u16 sm, .bool false, .int .u64 0, .int .u64 src, .bool false, .int .u64 0, .int .u64 dst, .slice OA n oc] by rw [hw1]; exact Blk.new _ _ _)
  have HKW := Lib.hid (show Below w.heap.size w w1 by rw [hw1]; exact (Below.refl _ _).alloc (Nat.le_refl _) _)
  have HS1 := Lib.hid (show w.heap.size ≤ w1.heap.size by rw [hw1]; simp)
  rw [← hw1]
  clear hw1
  obtain ⟨hb, hhb⟩ : ∃ hb, w.heap.size = hb := ⟨_, rfl⟩
  have HB : Hid (Blk w1 hb 190 #[.int .u8 tos, .int .i64 len, .int .u16 id, .bool false, .bool true, .int .i64 off, .int .u8 ttl, .int .u8 pr, .int .u16 sm, .bool false, .int .u64 0, .int .u64 src, .bool false, .int .u64 0, .int .u64 dst, .slice OA n oc]) := Lib.hid (by rw [← hhb]; exact HB0.out)
  rw [hhb]
  clear HB0 hhb
  have HOB := Lib.hid (show BS w1 w1.heap.size OA os from HBS.out.onB HKW.out (Nat.le_refl _))
  have cB := HB.out.cell
  have lB := HB.out.lt
  go_wp2_with fail
  refine (rightH_yes tos len id false true off ttl pr sm src dst OA n oc HY.out.1 HY.out.2.1 HY.out.2.2.1 HY.out.2.2.2 o0 s0 s1 d0 d1 o1 w1).mono ?_
  rintro e w2 ⟨rfl, hb2⟩
  have HK2 := Lib.hid (Kept.ofB (S := fun _ => False) hb2)
  clear hb2 cB lB
  have cB := (HB.out.kept HK2.out (fun h => h)).cell
  have lB := (HB.out.kept HK2.out (fun h => h)).lt
  go_wp2_with fail
  refine (size_any tos len id false true off ttl pr sm src dst OA n oc HY.out.1 w2).mono ?_
  rintro e w3 ⟨rfl, hb3⟩
  have HK3 := Lib.hid (HK2.out.trans (Kept.ofB (S := fun _ => False) hb3))
  clear hb3 cB lB
  have cB := (HB.out.kept HK3.out (fun h => h)).cell
  have lB := (HB.out.kept HK3.out (fun h => h)).lt
  go_wp2_with fail
  refine (put_len none 0 1 [] (64 + (20 + (n : Int)) / 4) w3 0 1 (by rfl) rfl .nil (by omega) (by omega) (by omega) (by omega)).mono ?_
  rintro e w4 ⟨g4, L4, rfl, hL, hN, hO, hg, hbw⟩
  have HL4 := Lib.hid hL
  have HN4 := Lib.hid hN
  have HO4 := Lib.hid hO
  have HG4 := Lib.hid (show w1.heap.size ≤ g4 from Nat.le_trans HK3.out.size hg)
  have HK4 := Lib.hid (HK3.out.trans (Kept.ofB (S := fun _ => False) hbw))
  clear hL hN hO hg hbw cB lB
  have cB := (HB.out.kept HK4.out (fun h => h)).cell
  have lB := (HB.out.kept HK4.out (fun h => h)).lt
  go_wp2_with fail
  refine (put_len (some ⟨g4, 0, none⟩) 1 1 L4 (tos) w4 1 2 (by exact HN4.out) rfl (HO4.out.bs) (by omega) (by omega) (by omega) (by omega)).mono ?_
  rintro e w5 ⟨g5, L5, rfl, hL, hN, hO, hg, hbw⟩
  have HL5 := Lib.hid hL
  have HN5 := Lib.hid hN
  have HO5 := Lib.hid hO
  have HG5 := Lib.hid (show w1.heap.size ≤ g5 from Nat.le_trans HK4.out.size hg)
  have HK5 := Lib.hid (HK4.out.trans (Kept.ofB (S := fun _ => False) hbw))
  clear hL hN hO hg hbw cB lB
  have cB := (HB.out.kept HK5.out (fun h => h)).cell
  have lB := (HB.out.kept HK5.out (fun h => h)).lt
  go_wp2_with fail
  refine (put_len (some ⟨g5, 0, none⟩) 2 2 L5 (len) w5 2 4 (by exact HN5.out) rfl (HO5.out.bs) (by omega) (by omega) (by omega) (by omega)).mono ?_
  rintro e w6 ⟨g6, L6, rfl, hL, hN, hO, hg, hbw⟩
  have HL6 := Lib.hid hL
  have HN6 := Lib.hid hN
  have HO6 := Lib.hid hO
  have HG6 := Lib.hid (show w1.heap.size ≤ g6 from Nat.le_trans HK5.out.size hg)
  have HK6 := Lib.hid (HK5.out.trans (Kept.ofB (S := fun _ => False) hbw))
  clear hL hN hO hg hbw cB lB
  have cB := (HB.out.kept HK6.out (fun h => h)).cell
  have lB := (HB.out.kept HK6.out (fun h => h)).lt
  go_wp2_with fail
  refine (put_len (some ⟨g6, 0, none⟩) 4 2 L6 (id) w6 4 6 (by exact HN6.out) rfl (HO6.out.bs) (by omega) (by omega) (by omega) (by omega)).mono ?_
  rintro e w7 ⟨g7, L7, rfl, hL, hN, hO, hg, hbw⟩
  have HL7 := Lib.hid hL
  have HN7 := Lib.hid hN
  have HO7 := Lib.hid hO
  have HG7 := Lib.hid (show w1.heap.size ≤ g7 from Nat.le_trans HK6.out.size hg)
  have HK7 := Lib.hid (HK6.out.trans (Kept.ofB (S := fun _ => False) hbw))
  clear hL hN hO hg hbw cB lB
  have cB := (HB.out.kept HK7.out (fun h => h)).cell
  have lB := (HB.out.kept HK7.out (fun h => h)).lt
  go_wp2_with fail
  refine (put_len (some ⟨g7, 0, none⟩) 6 2 L7 (off + 8192) w7 6 8 (by exact HN7.out) rfl (HO7.out.bs) (by omega) (by omega) (by omega) (by omega)).mono ?_
  rintro e w8 ⟨g8, L8, rfl, hL, hN, hO, hg, hbw⟩
  have HL8 := Lib.hid hL
  have HN8 := Lib.hid hN
  have HO8 := Lib.hid hO
  have HG8 := Lib.hid (show w1.heap.size ≤ g8 from Nat.le_trans HK7.out.size hg)
  have HK8 := Lib.hid (HK7.out.trans (Kept.ofB (S := fun _ => False) hbw))
  clear hL hN hO hg hbw cB lB
  have cB := (HB.out.kept HK8.out (fun h => h)).cell
  have lB := (HB.out.kept HK8.out (fun h => h)).lt
  go_wp2_with fail
  refine (put_len (some ⟨g8, 0, none⟩) 8 1 L8 (ttl) w8 8 9 (by exact HN8.out) rfl (HO8.out.bs) (by omega) (by omega) (by omega) (by omega)).mono ?_
  rintro e w9 ⟨g9, L9, rfl, hL, hN, hO, hg, hbw⟩
  have HL9 := Lib.hid hL
  have HN9 := Lib.hid hN
  have HO9 := Lib.hid hO
  have HG9 := Lib.hid (show w1.heap.size ≤ g9 from Nat.le_trans HK8.out.size hg)
  have HK9 := Lib.hid (HK8.out.trans (Kept.ofB (S := fun _ => False) hbw))
  clear hL hN hO hg hbw cB lB
  have cB := (HB.out.kept HK9.out (fun h => h)).cell
  have lB := (HB.out.kept HK9.out (fun h => h)).lt
  go_wp2_with fail
  refine (put_len (some ⟨g9, 0, none⟩) 9 1 L9 (pr) w9 9 10 (by exact HN9.out) rfl (HO9.out.bs) (by omega) (by omega) (by omega) (by omega)).mono ?_
  rintro e w10 ⟨g10, L10, rfl, hL, hN, hO, hg, hbw⟩
  have HL10 := Lib.hid hL
  have HN10 := Lib.hid hN
  have HO10 := Lib.hid hO
  have HG10 := Lib.hid (show w1.heap.size ≤ g10 from Nat.le_trans HK9.out.size hg)
  have HK10 := Lib.hid (HK9.out.trans (Kept.ofB (S := fun _ => False) hbw))
  clear hL hN hO hg hbw cB lB
  have cB := (HB.out.kept HK10.out (fun h => h)).cell
  have lB := (HB.out.kept HK10.out (fun h => h)).lt
  go_wp2_with fail
  refine (put_len (some ⟨g10, 0, none⟩) 10 2 L10 (0) w10 10 12 (by exact HN10.out) rfl (HO10.out.bs) (by omega) (by omega) (by omega) (by omega)).mono ?_
  rintro e w11 ⟨g11, L11, rfl, hL, hN, hO, hg, hbw⟩
  have HL11 := Lib.hid hL
  have HN11 := Lib.hid hN
  have HO11 := Lib.hid hO
  have HG11 := Lib.hid (show w1.heap.size ≤ g11 from Nat.le_trans HK10.out.size hg)
  have HK11 := Lib.hid (HK10.out.trans (Kept.ofB (S := fun _ => False) hbw))
  clear hL hN hO hg hbw cB lB
  have cB := (HB.out.kept HK11.out (fun h => h)).cell
  have lB := (HB.out.kept HK11.out (fun h => h)).lt
  go_wp2_with fail
  have HR11 := Lib.hid (HO11.out.row_ HG11.out HN11.out)
  refine (v4Bytes_any src s0 s1 w11).mono ?_
  rintro e w12 ⟨g12, rfl, hO, hg, hbw⟩
  have HO12 := Lib.hid hO
  have HK12 := Lib.hid (HK11.out.trans (Kept.ofB (S := fun _ => False) hbw))
  have HR12 := Lib.hid (HR11.out.belowAll hbw)
  clear hO hg hbw cB lB
  have cB := (HB.out.kept HK12.out (fun h => h)).cell
  have lB := (HB.out.kept HK12.out (fun h => h)).lt
  go_wp2_with (at_builtin; refine wpList_append_row rfl (.tmp 55) (.tmp 58) 44 rfl w1.heap.size 5 (.int .u8 0) 1 Tryz.underlying44 h5 rfl _ (bcs L11) rfl (some ⟨g12, 0, none⟩) 4 4 (bcs (digs 4 src)) rfl ?a0 HR12.out HO12.out.bs.src (bcs_one _) ?a3 ?a4 HK12.out.size ?_)
  case a0 => rw [bcs_length, digs_length]
  case a3 => rw [bcs_length, bcs_length, digs_length, HN11.out]; decide
  case a4 => rw [bcs_length, bcs_length, digs_length, HN11.out]; decide
  intro v12 w13 hrow hgr _
  rw [← bcs_append] at hrow
  obtain ⟨L13, hL⟩ : ∃ L, L = L11 ++ digs 4 src := ⟨_, rfl⟩
  rw [← hL] at hrow
  have hN : L13.length = 16 := by rw [hL, List.length_append, digs_length, HN11.out]
  have HK13 := Lib.hid (HK12.out.then (kept_grown (S := fun i => w1.heap.size ≤ i) hgr (fun i e _ => (HR12.out.lt i e).1)) (fun i hi h => by omega))
  obtain ⟨A13, c13, hve, -, -⟩ := hrow.shape
  rw [bcs_length, hN] at hve
  subst hve
  have HR13 := Lib.hid hrow
  have HL13 := Lib.hid hL
  have HN13 := Lib.hid hN
  clear hrow hgr hL hN cB lB
  have cB := (HB.out.kept HK13.out (fun h => h)).cell
  have lB := (HB.out.kept HK13.out (fun h => h)).lt
  go_wp2_with fail
  refine (v4Bytes_any dst d0 d1 w13).mono ?_
  rintro e w14 ⟨g14, rfl, hO, hg, hbw⟩
  have HO14 := Lib.hid hO
  have HK14 := Lib.hid (HK13.out.trans (Kept.ofB (S := fun _ => False) hbw))
  have HR14 := Lib.hid (HR13.out.belowAll hbw)
  clear hO hg hbw cB lB
  have cB := (HB.out.kept HK14.out (fun h => h)).cell
  have lB := (HB.out.kept HK14.out (fun h => h)).lt
  go_wp2_with (at_builtin; refine wpList_append_row rfl (.tmp 60) (.tmp 63) 44 rfl w1.heap.size 5 (.int .u8 0) 1 Tryz.underlying44 h5 rfl _ (bcs L13) rfl (some ⟨g14, 0, none⟩) 4 4 (bcs (digs 4 dst)) rfl ?a0 HR14.out HO14.out.bs.src (bcs_one _) ?a3 ?a4 HK14.out.size ?_)
  case a0 => rw [bcs_length, digs_length]
  case a3 => rw [bcs_length, bcs_length, digs_length, HN13.out]; decide
  case a4 => rw [bcs_length, bcs_length, digs_length, HN13.out]; decide
  intro v14 w15 hrow hgr _
  rw [← bcs_append] at hrow
  obtain ⟨L15, hL⟩ : ∃ L, L = L13 ++ digs 4 dst := ⟨_, rfl⟩
  rw [← hL] at hrow
  have hN : L15.length = 20 := by rw [hL, List.length_append, digs_length, HN13.out]
  have HK15 := Lib.hid (HK14.out.then (kept_grown (S := fun i => w1.heap.size ≤ i) hgr (fun i e _ => (HR14.out.lt i e).1)) (fun i hi h => by omega))
  obtain ⟨A15, c15, hve, -, -⟩ := hrow.shape
  rw [bcs_length, hN] at hve
  subst hve
  have HR15 := Lib.hid hrow
  have HL15 := Lib.hid hL
  have HN15 := Lib.hid hN
  clear hrow hgr hL hN cB lB
  have cB := (HB.out.kept HK15.out (fun h => h)).cell
  have lB := (HB.out.kept HK15.out (fun h => h)).lt
  go_wp2_with (at_builtin; refine wpList_append_row rfl (.tmp 65) (.tmp 67) 44 rfl w1.heap.size 5 (.int .u8 0) 1 Tryz.underlying44 h5 rfl _ (bcs L15) rfl OA n oc (bcs os) rfl ?a0 HR15.out ?a1 (bcs_one _) ?a3 ?a4 HK15.out.size ?_)
  case a0 => rw [bcs_length, HY2.out]
  case a1 => exact (HOB.out.on HK15.out (fun _ _ h => h)).src
  case a3 => rw [bcs_length, bcs_length, HY2.out, HN15.out]; unfold maxLen; omega
  case a4 => rw [bcs_length, bcs_length, HY2.out, HN15.out]; omega
  intro v16 w16 hrow hgr _
  rw [← bcs_append] at hrow
  obtain ⟨L16, hL⟩ : ∃ L, L = L15 ++ os := ⟨_, rfl⟩
  rw [← hL] at hrow
  have hN : L16.length = 20 + n := by rw [hL, List.length_append, HN15.out, HY2.out]
  have HK16 := Lib.hid (HK15.out.then (kept_grown (S := fun i => w1.heap.size ≤ i) hgr (fun i e _ => (HR15.out.lt i e).1)) (fun i hi h => by omega))
  obtain ⟨A16, c16, hve, -, -⟩ := hrow.shape
  rw [bcs_length, hN] at hve
  subst hve
  have HR16 := Lib.hid hrow
  have HL16 := Lib.hid hL
  have HN16 := Lib.hid hN
  clear hrow hgr hL hN cB lB
  have HPR := Lib.hid (show (⟨tos, len, id, false, true, off, ttl, pr, sm, src, dst, os⟩ : Hd).pre = L16 by
    rw [HL16.out, HL15.out, HL13.out, HL11.out, HL10.out, HL9.out, HL8.out, HL7.out, HL6.out, HL5.out, HL4.out]
    simp [Hd.pre, Hd.parts, Hd.place, Hd.size, ← HY2.out])
  have hbs := HR16.out.byt
  obtain ⟨A', c', e', -, -, hbs⟩ := hbs
  injection e' with ea el ec
  subst ea ec
  clear el
  have HBS16 := Lib.hid hbs
  clear hbs
  go_wp2_with fail
  refine (of_len w16.heap.size 0 1 c16 w16.heap.size A16 L16 (20 + n) HN16.out _ (by have := HY.out.1; omega) ?p1 ?p2).mono ?_
  case p1 => exact (Blk.new _ _ _).cell 0
  case p2 => exact HBS16.out.alloc (Nat.le_refl _) _
  rintro e w17 ⟨rfl, hw⟩
  have HK17 := Lib.hid (show Kept (fun _ => False) w1 w17 by rw [← hw]; exact HK16.out.alloc _)
  have HBS17 := Lib.hid (show BS w17 w17.heap.size A16 L16 by rw [← hw]; exact (HBS16.out.alloc (Nat.le_refl _) _).more (by simp))
  clear hw
  have hr := norm_range (total true L16)
  obtain ⟨r, hN⟩ : ∃ r, 65535 - norm (total true L16) = r := ⟨_, rfl⟩
  have r0 : 0 ≤ r := by omega
  have r1 : r ≤ 65535 := by omega
  rw [hN]
  have HCK := Lib.hid (show (⟨tos, len, id, false, true, off, ttl, pr, sm, src, dst, os⟩ : Hd).ck = r by unfold Hd.ck; rw [HPR.out, hN])
  clear hr hN
  go_wp2_with fail
  refine (set_len A16 c16 10 2 L16 r w17 (20 + n) HN16.out (by have := HY.out.1; omega) HBS17.out r0 (by omega) (by omega) (by omega) (by omega)).mono ?_
  rintro e w18 ⟨g18, rfl, hO, hg, hbw⟩
  have HO18 := Lib.hid hO
  have HK18 := Lib.hid (HK17.out.trans (Kept.ofB (S := fun _ => False) hbw))
  have HG18 := Lib.hid (show w.heap.size ≤ g18 from Nat.le_trans HS1.out (Nat.le_trans HK17.out.size hg))
  clear hO hg hbw
  go_wp2_with fail
  go_ret
  refine ⟨_, rfl, ?_, HKW.out.trans (HK18.out.below HS1.out (fun _ h => h.elim))⟩
  unfold Hd.bytes
  rw [HPR.out, HCK.out]
  exact HO18.out.row_ HG18.out (by rw [fin_length _ _ _ _ (by rw [HN16.out]; omega), HN16.out])
set_option maxRecDepth 100000 in
set_option maxHeartbeats 4000000 in
theorem bytesH_tf (tos len id : Int) (off ttl pr sm src dst : Int) (OA : Option Addr) (n oc : Nat) (os : List UInt8) (hn : os.length = n) (n40 : n ≤ 40) (n4 : n % 4 = 0) (t0 : 0 ≤ tos) (t1 : tos ≤ 255) (i0 : 0 ≤ id) (i1 : id ≤ 65535) (l0 : 20 + (n : Int) ≤ len) (l1 : len ≤ 65535) (o0 : 0 ≤ off) (o1 : off ≤ 8191) (x0 : 0 ≤ ttl) (x1 : ttl ≤ 255) (p0 : 0 ≤ pr) (p1 : pr ≤ 255) (s0 : 0 ≤ src) (s1 : src ≤ 4294967295) (d0 : 0 ≤ dst) (d1 : dst ≤ 4294967295) (w : World) (hbs : BS w w.heap.size OA os) :
    Calls Tryz.prog 120 #[.agg #[.int .u8 tos, .int .i64 len, .int .u16 id, .bool true, .bool false, .int .i64 off, .int .u8 ttl, .int .u8 pr, .int .u16 sm, .bool false, .int .u64 0, .int .u64 src, .bool false, .int .u64 0, .int .u64 dst, .slice OA n oc]] w fun e w' => ∃ v, e = .returned v ∧ Row w' w.heap.size 5 v (bcs (⟨tos, len, id, true, false, off, ttl, pr, sm, src, dst, os⟩ : Hd).bytes) ∧ Below w.heap.size w w' := by
  have h5 := Tryz.info5r
  have HY2 := Lib.hid hn
  have HY := Lib.hid (show n ≤ 40 ∧ n % 4 = 0 ∧ 20 + (n : Int) ≤ len ∧ len ≤ 65535 from ⟨n40, n4, l0, l1⟩)
  have HBS := Lib.hid hbs
  have e64 := or64 ((20 + (n : Int)) / 4) (by omega) (by omega)
  have e14 := or14 off o0 (by omega)
  have e13 := or13 off o0 (by omega)
  have e1413 := or1413 off o0 (by omega)
  clear hbs hn
  go_enter Tryz.func120, Tryz.ntmps120
  go_upto_region 1 with fail
  obtain ⟨w1, hw1⟩ : ∃ w1 : World, w1 = w.alloc (.cells #[.int .u8 tos, .int .i64 len, .int .u16 id, .bool true, .bool false, .int .i64 off, .int .u8 ttl, .int .u8 pr, .int .u16 sm, .bool false, .int .u64 0, .int .u64 src, .bool false, .int .u64 0, .int .u64 dst, .slice OA n oc] 190) := ⟨_, rfl⟩
  have HB0 := Lib.hid (show Blk w1 w.heap.size 190 #[.int .u8 tos, .int .i64 len, .int .u16 id, .bool true, .bool false, .int .i64 off, .int .u8 ttl, .int .u8 pr, .int .u16 sm, .bool false, .int .u64 0, .int .u64 src, .bool false, .int .u64 0, .int .u64 dst, .slice OA n oc] by rw [hw1]; exact Blk.new _ _ _)
  have HKW := Lib.hid (show Below w.heap.size w w1 by rw [hw1]; exact (Below.refl _ _).alloc (Nat.le_refl _) _)
  have HS1 := Lib.hid (show w.heap.size ≤ w1.heap.size by rw [hw1]; simp)
  rw [← hw1]
  clear hw1
  obtain ⟨hb, hhb⟩ : ∃ hb, w.heap.size = hb := ⟨_, rfl⟩
  have HB : Hid (Blk w1 hb 190 #[.int .u8 tos, .int .i64 len, .int .u16 id, .bool true, .bool false, .int .i64 off, .int .u8 ttl, .int .u8 pr, .int .u16 sm, .bool false, .int .u64 0, .int .u64 src, .bool false, .int .u64 0, .int .u64 dst, .slice OA n oc]) := Lib.hid (by rw [← hhb]; exact HB0.out)
  rw [hhb]
  clear HB0 hhb
  have HOB := Lib.hid (show BS w1 w1.heap.size OA os from HBS.out.onB HKW.out (Nat.le_refl _))
  have cB := HB.out.cell
  have lB := HB.out.lt
  go_wp2_with fail
  refine (rightH_yes tos len id true false off ttl pr sm src dst OA n oc HY.out.1 HY.out.2.1 HY.out.2.2.1 HY.out.2.2.2 o0 s0 s1 d0 d1 o1 w1).mono ?_
  rintro e w2 ⟨rfl, hb2⟩
  have HK2 := Lib.hid (Kept.ofB (S := fun _ => False) hb2)
  clear hb2 cB lB
  have cB := (HB.out.kept HK2.out (fun h => h)).cell
  have lB := (HB.out.kept HK2.out (fun h => h)).lt
  go_wp2_with fail
  refine (size_any tos len id true false off ttl pr sm src dst OA n oc HY.out.1 w2).mono ?_
  rintro e w3 ⟨rfl, hb3⟩
  have HK3 := Lib.hid (HK2.out.trans (Kept.ofB (S := fun _ => False) hb3))
  clear hb3 cB lB
  have cB := (HB.out.kept HK3.out (fun h => h)).cell
  have lB := (HB.out.kept HK3.out (fun h => h)).lt
  go_wp2_with fail
  refine (put_len none 0 1 [] (64 + (20 + (n : Int)) / 4) w3 0 1 (by rfl) rfl .nil (by omega) (by omega) (by omega) (by omega)).mono ?_
  rintro e w4 ⟨g4, L4, rfl, hL, hN, hO, hg, hbw⟩
  have HL4 := Lib.hid hL
  have HN4 := Lib.hid hN
  have HO4 := Lib.hid hO
  have HG4 := Lib.hid (show w1.heap.size ≤ g4 from Nat.le_trans HK3.out.size hg)
  have HK4 := Lib.hid (HK3.out.trans (Kept.ofB (S := fun _ => False) hbw))
  clear hL hN hO hg hbw cB lB
  have cB := (HB.out.kept HK4.out (fun h => h)).cell
  have lB := (HB.out.kept HK4.out (fun h => h)).lt
  go_wp2_with fail
  refine (put_len (some ⟨g4, 0, none⟩) 1 1 L4 (tos) w4 1 2 (by exact HN4.out) rfl (HO4.out.bs) (by omega) (by omega) (by omega) (by omega)).mono ?_
  rintro e w5 ⟨g5, L5, rfl, hL, hN, hO, hg, hbw⟩
  have HL5 := Lib.hid hL
  have HN5 := Lib.hid hN
  have HO5 := Lib.hid hO
  have HG5 := Lib.hid (show w1.heap.size ≤ g5 from Nat.le_trans HK4.out.size hg)
  have HK5 := Lib.hid (HK4.out.trans (Kept.ofB (S := fun _ => False) hbw))
  clear hL hN hO hg hbw cB lB
  have cB := (HB.out.kept HK5.out (fun h => h)).cell
  have lB := (HB.out.kept HK5.out (fun h => h)).lt
  go_wp2_with fail
  refine (put_len (some ⟨g5, 0, none⟩) 2 2 L5 (len) w5 2 4 (by exact HN5.out) rfl (HO5.out.bs) (by omega) (by omega) (by omega) (by omega)).mono ?_
  rintro e w6 ⟨g6, L6, rfl, hL, hN, hO, hg, hbw⟩
  have HL6 := Lib.hid hL
  have HN6 := Lib.hid hN
  have HO6 := Lib.hid hO
  have HG6 := Lib.hid (show w1.heap.size ≤ g6 from Nat.le_trans HK5.out.size hg)
  have HK6 := Lib.hid (HK5.out.trans (Kept.ofB (S := fun _ => False) hbw))
  clear hL hN hO hg hbw cB lB
  have cB := (HB.out.kept HK6.out (fun h => h)).cell
  have lB := (HB.out.kept HK6.out (fun h => h)).lt
  go_wp2_with fail
  refine (put_len (some ⟨g6, 0, none⟩) 4 2 L6 (id) w6 4 6 (by exact HN6.out) rfl (HO6.out.bs) (by omega) (by omega) (by omega) (by omega)).mono ?_
  rintro e w7 ⟨g7, L7, rfl, hL, hN, hO, hg, hbw⟩
  have HL7 := Lib.hid hL
  have HN7 := Lib.hid hN
  have HO7 := Lib.hid hO
  have HG7 := Lib.hid (show w1.heap.size ≤ g7 from Nat.le_trans HK6.out.size hg)
  have HK7 := Lib.hid (HK6.out.trans (Kept.ofB (S := fun _ => False) hbw))
  clear hL hN hO hg hbw cB lB
  have cB := (HB.out.kept HK7.out (fun h => h)).cell
  have lB := (HB.out.kept HK7.out (fun h => h)).lt
  go_wp2_with fail
  refine (put_len (some ⟨g7, 0, none⟩) 6 2 L7 (off + 16384) w7 6 8 (by exact HN7.out) rfl (HO7.out.bs) (by omega) (by omega) (by omega) (by omega)).mono ?_
  rintro e w8 ⟨g8, L8, rfl, hL, hN, hO, hg, hbw⟩
  have HL8 := Lib.hid hL
  have HN8 := Lib.hid hN
  have HO8 := Lib.hid hO
  have HG8 := Lib.hid (show w1.heap.size ≤ g8 from Nat.le_trans HK7.out.size hg)
  have HK8 := Lib.hid (HK7.out.trans (Kept.ofB (S := fun _ => False) hbw))
  clear hL hN hO hg hbw cB lB
  have cB := (HB.out.kept HK8.out (fun h => h)).cell
  have lB := (HB.out.kept HK8.out (fun h => h)).lt
  go_wp2_with fail
  refine (put_len (some ⟨g8, 0, none⟩) 8 1 L8 (ttl) w8 8 9 (by exact HN8.out) rfl (HO8.out.bs) (by omega) (by omega) (by omega) (by omega)).mono ?_
  rintro e w9 ⟨g9, L9, rfl, hL, hN, hO, hg, hbw⟩
  have HL9 := Lib.hid hL
  have HN9 := Lib.hid hN
  have HO9 := Lib.hid hO
  have HG9 := Lib.hid (show w1.heap.size ≤ g9 from Nat.le_trans HK8.out.size hg)
  have HK9 := Lib.hid (HK8.out.trans (Kept.ofB (S := fun _ => False) hbw))
  clear hL hN hO hg hbw cB lB
  have cB := (HB.out.kept HK9.out (fun h => h)).cell
  have lB := (HB.out.kept HK9.out (fun h => h)).lt
  go_wp2_with fail
  refine (put_len (some ⟨g9, 0, none⟩) 9 1 L9 (pr) w9 9 10 (by exact HN9.out) rfl (HO9.out.bs) (by omega) (by omega) (by omega) (by omega)).mono ?_
  rintro e w10 ⟨g10, L10, rfl, hL, hN, hO, hg, hbw⟩
  have HL10 := Lib.hid hL
  have HN10 := Lib.hid hN
  have HO10 := Lib.hid hO
  have HG10 := Lib.hid (show w1.heap.size ≤ g10 from Nat.le_trans HK9.out.size hg)
  have HK10 := Lib.hid (HK9.out.trans (Kept.ofB (S := fun _ => False) hbw))
  clear hL hN hO hg hbw cB lB
  have cB := (HB.out.kept HK10.out (fun h => h)).cell
  have lB := (HB.out.kept HK10.out (fun h => h)).lt
  go_wp2_with fail
  refine (put_len (some ⟨g10, 0, none⟩) 10 2 L10 (0) w10 10 12 (by exact HN10.out) rfl (HO10.out.bs) (by omega) (by omega) (by omega) (by omega)).mono ?_
  rintro e w11 ⟨g11, L11, rfl, hL, hN, hO, hg, hbw⟩
  have HL11 := Lib.hid hL
  have HN11 := Lib.hid hN
  have HO11 := Lib.hid hO
  have HG11 := Lib.hid (show w1.heap.size ≤ g11 from Nat.le_trans HK10.out.size hg)
  have HK11 := Lib.hid (HK10.out.trans (Kept.ofB (S := fun _ => False) hbw))
  clear hL hN hO hg hbw cB lB
  have cB := (HB.out.kept HK11.out (fun h => h)).cell
  have lB := (HB.out.kept HK11.out (fun h => h)).lt
  go_wp2_with fail
  have HR11 := Lib.hid (HO11.out.row_ HG11.out HN11.out)
  refine (v4Bytes_any src s0 s1 w11).mono ?_
  rintro e w12 ⟨g12, rfl, hO, hg, hbw⟩
  have HO12 := Lib.hid hO
  have HK12 := Lib.hid (HK11.out.trans (Kept.ofB (S := fun _ => False) hbw))
  have HR12 := Lib.hid (HR11.out.belowAll hbw)
  clear hO hg hbw cB lB
  have cB := (HB.out.kept HK12.out (fun h => h)).cell
  have lB := (HB.out.kept HK12.out (fun h => h)).lt
  go_wp2_with (at_builtin; refine wpList_append_row rfl (.tmp 55) (.tmp 58) 44 rfl w1.heap.size 5 (.int .u8 0) 1 Tryz.underlying44 h5 rfl _ (bcs L11) rfl (some ⟨g12, 0, none⟩) 4 4 (bcs (digs 4 src)) rfl ?a0 HR12.out HO12.out.bs.src (bcs_one _) ?a3 ?a4 HK12.out.size ?_)
  case a0 => rw [bcs_length, digs_length]
  case a3 => rw [bcs_length, bcs_length, digs_length, HN11.out]; decide
  case a4 => rw [bcs_length, bcs_length, digs_length, HN11.out]; decide
  intro v12 w13 hrow hgr _
  rw [← bcs_append] at hrow
  obtain ⟨L13, hL⟩ : ∃ L, L = L11 ++ digs 4 src := ⟨_, rfl⟩
  rw [← hL] at hrow
  have hN : L13.length = 16 := by rw [hL, List.length_append, digs_length, HN11.out]
  have HK13 := Lib.hid (HK12.out.then (kept_grown (S := fun i => w1.heap.size ≤ i) hgr (fun i e _ => (HR12.out.lt i e).1)) (fun i hi h => by omega))
  obtain ⟨A13, c13, hve, -, -⟩ := hrow.shape
  rw [bcs_length, hN] at hve
  subst hve
  have HR13 := Lib.hid hrow
  have HL13 := Lib.hid hL
  have HN13 := Lib.hid hN
  clear hrow hgr hL hN cB lB
  have cB := (HB.out.kept HK13.out (fun h => h)).cell
  have lB := (HB.out.kept HK13.out (fun h => h)).lt
  go_wp2_with fail
  refine (v4Bytes_any dst d0 d1 w13).mono ?_
  rintro e w14 ⟨g14, rfl, hO, hg, hbw⟩
  have HO14 := Lib.hid hO
  have HK14 := Lib.hid (HK13.out.trans (Kept.ofB (S := fun _ => False) hbw))
  have HR14 := Lib.hid (HR13.out.belowAll hbw)
  clear hO hg hbw cB lB
  have cB := (HB.out.kept HK14.out (fun h => h)).cell
  have lB := (HB.out.kept HK14.out (fun h => h)).lt
  go_wp2_with (at_builtin; refine wpList_append_row rfl (.tmp 60) (.tmp 63) 44 rfl w1.heap.size 5 (.int .u8 0) 1 Tryz.underlying44 h5 rfl _ (bcs L13) rfl (some ⟨g14, 0, none⟩) 4 4 (bcs (digs 4 dst)) rfl ?a0 HR14.out HO14.out.bs.src (bcs_one _) ?a3 ?a4 HK14.out.size ?_)
  case a0 => rw [bcs_length, digs_length]
  case a3 => rw [bcs_length, bcs_length, digs_length, HN13.out]; decide
  case a4 => rw [bcs_length, bcs_length, digs_length, HN13.out]; decide
  intro v14 w15 hrow hgr _
  rw [← bcs_append] at hrow
  obtain ⟨L15, hL⟩ : ∃ L, L = L13 ++ digs 4 dst := ⟨_, rfl⟩
  rw [← hL] at hrow
  have hN : L15.length = 20 := by rw [hL, List.length_append, digs_length, HN13.out]
  have HK15 := Lib.hid (HK14.out.then (kept_grown (S := fun i => w1.heap.size ≤ i) hgr (fun i e _ => (HR14.out.lt i e).1)) (fun i hi h => by omega))
  obtain ⟨A15, c15, hve, -, -⟩ := hrow.shape
  rw [bcs_length, hN] at hve
  subst hve
  have HR15 := Lib.hid hrow
  have HL15 := Lib.hid hL
  have HN15 := Lib.hid hN
  clear hrow hgr hL hN cB lB
  have cB := (HB.out.kept HK15.out (fun h => h)).cell
  have lB := (HB.out.kept HK15.out (fun h => h)).lt
  go_wp2_with (at_builtin; refine wpList_append_row rfl (.tmp 65) (.tmp 67) 44 rfl w1.heap.size 5 (.int .u8 0) 1 Tryz.underlying44 h5 rfl _ (bcs L15) rfl OA n oc (bcs os) rfl ?a0 HR15.out ?a1 (bcs_one _) ?a3 ?a4 HK15.out.size ?_)
  case a0 => rw [bcs_length, HY2.out]
  case a1 => exact (HOB.out.on HK15.out (fun _ _ h => h)).src
  case a3 => rw [bcs_length, bcs_length, HY2.out, HN15.out]; unfold maxLen; omega
  case a4 => rw [bcs_length, bcs_length, HY2.out, HN15.out]; omega
  intro v16 w16 hrow hgr _
  rw [← bcs_append] at hrow
  obtain ⟨L16, hL⟩ : ∃ L, L = L15 ++ os := ⟨_, rfl⟩
  rw [← hL] at hrow
  have hN : L16.length = 20 + n := by rw [hL, List.length_append, HN15.out, HY2.out]
  have HK16 := Lib.hid (HK15.out.then (kept_grown (S := fun i => w1.heap.size ≤ i) hgr (fun i e _ => (HR15.out.lt i e).1)) (fun i hi h => by omega))
  obtain ⟨A16, c16, hve, -, -⟩ := hrow.shape
  rw [bcs_length, hN] at hve
  subst hve
  have HR16 := Lib.hid hrow
  have HL16 := Lib.hid hL
  have HN16 := Lib.hid hN
  clear hrow hgr hL hN cB lB
  have HPR := Lib.hid (show (⟨tos, len, id, true, false, off, ttl, pr, sm, src, dst, os⟩ : Hd).pre = L16 by
    rw [HL16.out, HL15.out, HL13.out, HL11.out, HL10.out, HL9.out, HL8.out, HL7.out, HL6.out, HL5.out, HL4.out]
    simp [Hd.pre, Hd.parts, Hd.place, Hd.size, ← HY2.out])
  have hbs := HR16.out.byt
  obtain ⟨A', c', e', -, -, hbs⟩ := hbs
  injection e' with ea el ec
  subst ea ec
  clear el
  have HBS16 := Lib.hid hbs
  clear hbs
  go_wp2_with fail
  refine (of_len w16.heap.size 0 1 c16 w16.heap.size A16 L16 (20 + n) HN16.out _ (by have := HY.out.1; omega) ?p1 ?p2).mono ?_
  case p1 => exact (Blk.new _ _ _).cell 0
  case p2 => exact HBS16.out.alloc (Nat.le_refl _) _
  rintro e w17 ⟨rfl, hw⟩
  have HK17 := Lib.hid (show Kept (fun _ => False) w1 w17 by rw [← hw]; exact HK16.out.alloc _)
  have HBS17 := Lib.hid (show BS w17 w17.heap.size A16 L16 by rw [← hw]; exact (HBS16.out.alloc (Nat.le_refl _) _).more (by simp))
  clear hw
  have hr := norm_range (total true L16)
  obtain ⟨r, hN⟩ : ∃ r, 65535 - norm (total true L16) = r := ⟨_, rfl⟩
  have r0 : 0 ≤ r := by omega
  have r1 : r ≤ 65535 := by omega
  rw [hN]
  have HCK := Lib.hid (show (⟨tos, len, id, true, false, off, ttl, pr, sm, src, dst, os⟩ : Hd).ck = r by unfold Hd.ck; rw [HPR.out, hN])
  clear hr hN
  go_wp2_with fail
  refine (set_len A16 c16 10 2 L16 r w17 (20 + n) HN16.out (by have := HY.out.1; omega) HBS17.out r0 (by omega) (by omega) (by omega) (by omega)).mono ?_
  rintro e w18 ⟨g18, rfl, hO, hg, hbw⟩
  have HO18 := Lib.hid hO
  have HK18 := Lib.hid (HK17.out.trans (Kept.ofB (S := fun _ => False) hbw))
  have HG18 := Lib.hid (show w.heap.size ≤ g18 from Nat.le_trans HS1.out (Nat.le_trans HK17.out.size hg))
  clear hO hg hbw
  go_wp2_with fail
  go_ret
  refine ⟨_, rfl, ?_, HKW.out.trans (HK18.out.below HS1.out (fun _ h => h.elim))⟩
  unfold Hd.bytes
  rw [HPR.out, HCK.out]
  exact HO18.out.row_ HG18.out (by rw [fin_length _ _ _ _ (by rw [HN16.out]; omega), HN16.out])
set_option maxRecDepth 100000 in
set_option maxHeartbeats 4000000 in
theorem bytesH_tt (tos len id : Int) (off ttl pr sm src dst : Int) (OA : Option Addr) (n oc : Nat) (os : List UInt8) (hn : os.length = n) (n40 : n ≤ 40) (n4 : n % 4 = 0) (t0 : 0 ≤ tos) (t1 : tos ≤ 255) (i0 : 0 ≤ id) (i1 : id ≤ 65535) (l0 : 20 + (n : Int) ≤ len) (l1 : len ≤ 65535) (o0 : 0 ≤ off) (o1 : off ≤ 8191) (x0 : 0 ≤ ttl) (x1 : ttl ≤ 255) (p0 : 0 ≤ pr) (p1 : pr ≤ 255) (s0 : 0 ≤ src) (s1 : src ≤ 4294967295) (d0 : 0 ≤ dst) (d1 : dst ≤ 4294967295) (w : World) (hbs : BS w w.heap.size OA os) :
    Calls Tryz.prog 120 #[.agg #[.int .u8 tos, .int .i64 len, .int .u16 id, .bool true, .bool true, .int .i64 off, .int .u8 ttl, .int .u8 pr, .int .u16 sm, .bool false, .int .u64 0, .int .u64 src, .bool false, .int .u64 0, .int .u64 dst, .slice OA n oc]] w fun e w' => ∃ v, e = .returned v ∧ Row w' w.heap.size 5 v (bcs (⟨tos, len, id, true, true, off, ttl, pr, sm, src, dst, os⟩ : Hd).bytes) ∧ Below w.heap.size w w' := by
  have h5 := Tryz.info5r
  have HY2 := Lib.hid hn
  have HY := Lib.hid (show n ≤ 40 ∧ n % 4 = 0 ∧ 20 + (n : Int) ≤ len ∧ len ≤ 65535 from ⟨n40, n4, l0, l1⟩)
  have HBS := Lib.hid hbs
  have e64 := or64 ((20 + (n : Int)) / 4) (by omega) (by omega)
  have e14 := or14 off o0 (by omega)
  have e13 := or13 off o0 (by omega)
  have e1413 := or1413 off o0 (by omega)
  clear hbs hn
  go_enter Tryz.func120, Tryz.ntmps120
  go_upto_region 1 with fail
  obtain ⟨w1, hw1⟩ : ∃ w1 : World, w1 = w.alloc (.cells #[.int .u8 tos, .int .i64 len, .int .u16 id, .bool true, .bool true, .int .i64 off, .int .u8 ttl, .int .u8 pr, .int .u16 sm, .bool false, .int .u64 0, .int .u64 src, .bool false, .int .u64 0, .int .u64 dst, .slice OA n oc] 190) := ⟨_, rfl⟩
  have HB0 := Lib.hid (show Blk w1 w.heap.size 190 #[.int .u8 tos, .int .i64 len, .int .u16 id, .bool true, .bool true, .int .i64 off, .int .u8 ttl, .int .u8 pr, .int .u16 sm, .bool false, .int .u64 0, .int .u64 src, .bool false, .int .u64 0, .int .u64 dst, .slice OA n oc] by rw [hw1]; exact Blk.new _ _ _)
  have HKW := Lib.hid (show Below w.heap.size w w1 by rw [hw1]; exact (Below.refl _ _).alloc (Nat.le_refl _) _)
  have HS1 := Lib.hid (show w.heap.size ≤ w1.heap.size by rw [hw1]; simp)
  rw [← hw1]
  clear hw1
  obtain ⟨hb, hhb⟩ : ∃ hb, w.heap.size = hb := ⟨_, rfl⟩
  have HB : Hid (Blk w1 hb 190 #[.int .u8 tos, .int .i64 len, .int .u16 id, .bool true, .bool true, .int .i64 off, .int .u8 ttl, .int .u8 pr, .int .u16 sm, .bool false, .int .u64 0, .int .u64 src, .bool false, .int .u64 0, .int .u64 dst, .slice OA n oc]) := Lib.hid (by rw [← hhb]; exact HB0.out)
  rw [hhb]
  clear HB0 hhb
  have HOB := Lib.hid (show BS w1 w1.heap.size OA os from HBS.out.onB HKW.out (Nat.le_refl _))
  have cB := HB.out.cell
  have lB := HB.out.lt
  go_wp2_with fail
  refine (rightH_yes tos len id true true off ttl pr sm src dst OA n oc HY.out.1 HY.out.2.1 HY.out.2.2.1 HY.out.2.2.2 o0 s0 s1 d0 d1 o1 w1).mono ?_
  rintro e w2 ⟨rfl, hb2⟩
  have HK2 := Lib.hid (Kept.ofB (S := fun _ => False) hb2)
  clear hb2 cB lB
  have cB := (HB.out.kept HK2.out (fun h => h)).cell
  have lB := (HB.out.kept HK2.out (fun h => h)).lt
  go_wp2_with fail
  refine (size_any tos len id true true off ttl pr sm src dst OA n oc HY.out.1 w2).mono ?_
  rintro e w3 ⟨rfl, hb3⟩
  have HK3 := Lib.hid (HK2.out.trans (Kept.ofB (S := fun _ => False) hb3))
  clear hb3 cB lB
  have cB := (HB.out.kept HK3.out (fun h => h)).cell
  have lB := (HB.out.kept HK3.out (fun h => h)).lt
  go_wp2_with fail
  refine (put_len none 0 1 [] (64 + (20 + (n : Int)) / 4) w3 0 1 (by rfl) rfl .nil (by omega) (by omega) (by omega) (by omega)).mono ?_
  rintro e w4 ⟨g4, L4, rfl, hL, hN, hO, hg, hbw⟩
  have HL4 := Lib.hid hL
  have HN4 := Lib.hid hN
  have HO4 := Lib.hid hO
  have HG4 := Lib.hid (show w1.heap.size ≤ g4 from Nat.le_trans HK3.out.size hg)
  have HK4 := Lib.hid (HK3.out.trans (Kept.ofB (S := fun _ => False) hbw))
  clear hL hN hO hg hbw cB lB
  have cB := (HB.out.kept HK4.out (fun h => h)).cell
  have lB := (HB.out.kept HK4.out (fun h => h)).lt
  go_wp2_with fail
  refine (put_len (some ⟨g4, 0, none⟩) 1 1 L4 (tos) w4 1 2 (by exact HN4.out) rfl (HO4.out.bs) (by omega) (by omega) (by omega) (by omega)).mono ?_
  rintro e w5 ⟨g5, L5, rfl, hL, hN, hO, hg, hbw⟩
  have HL5 := Lib.hid hL
  have HN5 := Lib.hid hN
  have HO5 := Lib.hid hO
  have HG5 := Lib.hid (show w1.heap.size ≤ g5 from Nat.le_trans HK4.out.size hg)
  have HK5 := Lib.hid (HK4.out.trans (Kept.ofB (S := fun _ => False) hbw))
  clear hL hN hO hg hbw cB lB
  have cB := (HB.out.kept HK5.out (fun h => h)).cell
  have lB := (HB.out.kept HK5.out (fun h => h)).lt
  go_wp2_with fail
  refine (put_len (some ⟨g5, 0, none⟩) 2 2 L5 (len) w5 2 4 (by exact HN5.out) rfl (HO5.out.bs) (by omega) (by omega) (by omega) (by omega)).mono ?_
  rintro e w6 ⟨g6, L6, rfl, hL, hN, hO, hg, hbw⟩
  have HL6 := Lib.hid hL
  have HN6 := Lib.hid hN
  have HO6 := Lib.hid hO
  have HG6 := Lib.hid (show w1.heap.size ≤ g6 from Nat.le_trans HK5.out.size hg)
  have HK6 := Lib.hid (HK5.out.trans (Kept.ofB (S := fun _ => False) hbw))
  clear hL hN hO hg hbw cB lB
  have cB := (HB.out.kept HK6.out (fun h => h)).cell
  have lB := (HB.out.kept HK6.out (fun h => h)).lt
  go_wp2_with fail
  refine (put_len (some ⟨g6, 0, none⟩) 4 2 L6 (id) w6 4 6 (by exact HN6.out) rfl (HO6.out.bs) (by omega) (by omega) (by omega) (by omega)).mono ?_
  rintro e w7 ⟨g7, L7, rfl, hL, hN, hO, hg, hbw⟩
  have HL7 := Lib.hid hL
  have HN7 := Lib.hid hN
  have HO7 := Lib.hid hO
  have HG7 := Lib.hid (show w1.heap.size ≤ g7 from Nat.le_trans HK6.out.size hg)
  have HK7 := Lib.hid (HK6.out.trans (Kept.ofB (S := fun _ => False) hbw))
  clear hL hN hO hg hbw cB lB
  have cB := (HB.out.kept HK7.out (fun h => h)).cell
  have lB := (HB.out.kept HK7.out (fun h => h)).lt
  go_wp2_with fail
  refine (put_len (some ⟨g7, 0, none⟩) 6 2 L7 (off + 16384 + 8192) w7 6 8 (by exact HN7.out) rfl (HO7.out.bs) (by omega) (by omega) (by omega) (by omega)).mono ?_
  rintro e w8 ⟨g8, L8, rfl, hL, hN, hO, hg, hbw⟩
  have HL8 := Lib.hid hL
  have HN8 := Lib.hid hN
  have HO8 := Lib.hid hO
  have HG8 := Lib.hid (show w1.heap.size ≤ g8 from Nat.le_trans HK7.out.size hg)
  have HK8 := Lib.hid (HK7.out.trans (Kept.ofB (S := fun _ => False) hbw))
  clear hL hN hO hg hbw cB lB
  have cB := (HB.out.kept HK8.out (fun h => h)).cell
  have lB := (HB.out.kept HK8.out (fun h => h)).lt
  go_wp2_with fail
  refine (put_len (some ⟨g8, 0, none⟩) 8 1 L8 (ttl) w8 8 9 (by exact HN8.out) rfl (HO8.out.bs) (by omega) (by omega) (by omega) (by omega)).mono ?_
  rintro e w9 ⟨g9, L9, rfl, hL, hN, hO, hg, hbw⟩
  have HL9 := Lib.hid hL
  have HN9 := Lib.hid hN
  have HO9 := Lib.hid hO
  have HG9 := Lib.hid (show w1.heap.size ≤ g9 from Nat.le_trans HK8.out.size hg)
  have HK9 := Lib.hid (HK8.out.trans (Kept.ofB (S := fun _ => False) hbw))
  clear hL hN hO hg hbw cB lB
  have cB := (HB.out.kept HK9.out (fun h => h)).cell
  have lB := (HB.out.kept HK9.out (fun h => h)).lt
  go_wp2_with fail
  refine (put_len (some ⟨g9, 0, none⟩) 9 1 L9 (pr) w9 9 10 (by exact HN9.out) rfl (HO9.out.bs) (by omega) (by omega) (by omega) (by omega)).mono ?_
  rintro e w10 ⟨g10, L10, rfl, hL, hN, hO, hg, hbw⟩
  have HL10 := Lib.hid hL
  have HN10 := Lib.hid hN
  have HO10 := Lib.hid hO
  have HG10 := Lib.hid (show w1.heap.size ≤ g10 from Nat.le_trans HK9.out.size hg)
  have HK10 := Lib.hid (HK9.out.trans (Kept.ofB (S := fun _ => False) hbw))
  clear hL hN hO hg hbw cB lB
  have cB := (HB.out.kept HK10.out (fun h => h)).cell
  have lB := (HB.out.kept HK10.out (fun h => h)).lt
  go_wp2_with fail
  refine (put_len (some ⟨g10, 0, none⟩) 10 2 L10 (0) w10 10 12 (by exact HN10.out) rfl (HO10.out.bs) (by omega) (by omega) (by omega) (by omega)).mono ?_
  rintro e w11 ⟨g11, L11, rfl, hL, hN, hO, hg, hbw⟩
  have HL11 := Lib.hid hL
  have HN11 := Lib.hid hN
  have HO11 := Lib.hid hO
  have HG11 := Lib.hid (show w1.heap.size ≤ g11 from Nat.le_trans HK10.out.size hg)
  have HK11 := Lib.hid (HK10.out.trans (Kept.ofB (S := fun _ => False) hbw))
  clear hL hN hO hg hbw cB lB
  have cB := (HB.out.kept HK11.out (fun h => h)).cell
  have lB := (HB.out.kept HK11.out (fun h => h)).lt
  go_wp2_with fail
  have HR11 := Lib.hid (HO11.out.row_ HG11.out HN11.out)
  refine (v4Bytes_any src s0 s1 w11).mono ?_
  rintro e w12 ⟨g12, rfl, hO, hg, hbw⟩
  have HO12 := Lib.hid hO
  have HK12 := Lib.hid (HK11.out.trans (Kept.ofB (S := fun _ => False) hbw))
  have HR12 := Lib.hid (HR11.out.belowAll hbw)
  clear hO hg hbw cB lB
  have cB := (HB.out.kept HK12.out (fun h => h)).cell
  have lB := (HB.out.kept HK12.out (fun h => h)).lt
  go_wp2_with (at_builtin; refine wpList_append_row rfl (.tmp 55) (.tmp 58) 44 rfl w1.heap.size 5 (.int .u8 0) 1 Tryz.underlying44 h5 rfl _ (bcs L11) rfl (some ⟨g12, 0, none⟩) 4 4 (bcs (digs 4 src)) rfl ?a0 HR12.out HO12.out.bs.src (bcs_one _) ?a3 ?a4 HK12.out.size ?_)
  case a0 => rw [bcs_length, digs_length]
  case a3 => rw [bcs_length, bcs_length, digs_length, HN11.out]; decide
  case a4 => rw [bcs_length, bcs_length, digs_length, HN11.out]; decide
  intro v12 w13 hrow hgr _
  rw [← bcs_append] at hrow
  obtain ⟨L13, hL⟩ : ∃ L, L = L11 ++ digs 4 src := ⟨_, rfl⟩
  rw [← hL] at hrow
  have hN : L13.length = 16 := by rw [hL, List.length_append, digs_length, HN11.out]
  have HK13 := Lib.hid (HK12.out.then (kept_grown (S := fun i => w1.heap.size ≤ i) hgr (fun i e _ => (HR12.out.lt i e).1)) (fun i hi h => by omega))
  obtain ⟨A13, c13, hve, -, -⟩ := hrow.shape
  rw [bcs_length, hN] at hve
  subst hve
  have HR13 := Lib.hid hrow
  have HL13 := Lib.hid hL
  have HN13 := Lib.hid hN
  clear hrow hgr hL hN cB lB
  have cB := (HB.out.kept HK13.out (fun h => h)).cell
  have lB := (HB.out.kept HK13.out (fun h => h)).lt
  go_wp2_with fail
  refine (v4Bytes_any dst d0 d1 w13).mono ?_
  rintro e w14 ⟨g14, rfl, hO, hg, hbw⟩
  have HO14 := Lib.hid hO
  have HK14 := Lib.hid (HK13.out.trans (Kept.ofB (S := fun _ => False) hbw))
  have HR14 := Lib.hid (HR13.out.belowAll hbw)
  clear hO hg hbw cB lB
  have cB := (HB.out.kept HK14.out (fun h => h)).cell
  have lB := (HB.out.kept HK14.out (fun h => h)).lt
  go_wp2_with (at_builtin; refine wpList_append_row rfl (.tmp 60) (.tmp 63) 44 rfl w1.heap.size 5 (.int .u8 0) 1 Tryz.underlying44 h5 rfl _ (bcs L13) rfl (some ⟨g14, 0, none⟩) 4 4 (bcs (digs 4 dst)) rfl ?a0 HR14.out HO14.out.bs.src (bcs_one _) ?a3 ?a4 HK14.out.size ?_)
  case a0 => rw [bcs_length, digs_length]
  case a3 => rw [bcs_length, bcs_length, digs_length, HN13.out]; decide
  case a4 => rw [bcs_length, bcs_length, digs_length, HN13.out]; decide
  intro v14 w15 hrow hgr _
  rw [← bcs_append] at hrow
  obtain ⟨L15, hL⟩ : ∃ L, L = L13 ++ digs 4 dst := ⟨_, rfl⟩
  rw [← hL] at hrow
  have hN : L15.length = 20 := by rw [hL, List.length_append, digs_length, HN13.out]
  have HK15 := Lib.hid (HK14.out.then (kept_grown (S := fun i => w1.heap.size ≤ i) hgr (fun i e _ => (HR14.out.lt i e).1)) (fun i hi h => by omega))
  obtain ⟨A15, c15, hve, -, -⟩ := hrow.shape
  rw [bcs_length, hN] at hve
  subst hve
  have HR15 := Lib.hid hrow
  have HL15 := Lib.hid hL
  have HN15 := Lib.hid hN
  clear hrow hgr hL hN cB lB
  have cB := (HB.out.kept HK15.out (fun h => h)).cell
  have lB := (HB.out.kept HK15.out (fun h => h)).lt
  go_wp2_with (at_builtin; refine wpList_append_row rfl (.tmp 65) (.tmp 67) 44 rfl w1.heap.size 5 (.int .u8 0) 1 Tryz.underlying44 h5 rfl _ (bcs L15) rfl OA n oc (bcs os) rfl ?a0 HR15.out ?a1 (bcs_one _) ?a3 ?a4 HK15.out.size ?_)
  case a0 => rw [bcs_length, HY2.out]
  case a1 => exact (HOB.out.on HK15.out (fun _ _ h => h)).src
  case a3 => rw [bcs_length, bcs_length, HY2.out, HN15.out]; unfold maxLen; omega
  case a4 => rw [bcs_length, bcs_length, HY2.out, HN15.out]; omega
  intro v16 w16 hrow hgr _
  rw [← bcs_append] at hrow
  obtain ⟨L16, hL⟩ : ∃ L, L = L15 ++ os := ⟨_, rfl⟩
  rw [← hL] at hrow
  have hN : L16.length = 20 + n := by rw [hL, List.length_append, HN15.out, HY2.out]
  have HK16 := Lib.hid (HK15.out.then (kept_grown (S := fun i => w1.heap.size ≤ i) hgr (fun i e _ => (HR15.out.lt i e).1)) (fun i hi h => by omega))
  obtain ⟨A16, c16, hve, -, -⟩ := hrow.shape
  rw [bcs_length, hN] at hve
  subst hve
  have HR16 := Lib.hid hrow
  have HL16 := Lib.hid hL
  have HN16 := Lib.hid hN
  clear hrow hgr hL hN cB lB
  have HPR := Lib.hid (show (⟨tos, len, id, true, true, off, ttl, pr, sm, src, dst, os⟩ : Hd).pre = L16 by
    rw [HL16.out, HL15.out, HL13.out, HL11.out, HL10.out, HL9.out, HL8.out, HL7.out, HL6.out, HL5.out, HL4.out]
    simp [Hd.pre, Hd.parts, Hd.place, Hd.size, ← HY2.out])
  have hbs := HR16.out.byt
  obtain ⟨A', c', e', -, -, hbs⟩ := hbs
  injection e' with ea el ec
  subst ea ec
  clear el
  have HBS16 := Lib.hid hbs
  clear hbs
  go_wp2_with fail
  refine (of_len w16.heap.size 0 1 c16 w16.heap.size A16 L16 (20 + n) HN16.out _ (by have := HY.out.1; omega) ?p1 ?p2).mono ?_
  case p1 => exact (Blk.new _ _ _).cell 0
  case p2 => exact HBS16.out.alloc (Nat.le_refl _) _
  rintro e w17 ⟨rfl, hw⟩
  have HK17 := Lib.hid (show Kept (fun _ => False) w1 w17 by rw [← hw]; exact HK16.out.alloc _)
  have HBS17 := Lib.hid (show BS w17 w17.heap.size A16 L16 by rw [← hw]; exact (HBS16.out.alloc (Nat.le_refl _) _).more (by simp))
  clear hw
  have hr := norm_range (total true L16)
  obtain ⟨r, hN⟩ : ∃ r, 65535 - norm (total true L16) = r := ⟨_, rfl⟩
  have r0 : 0 ≤ r := by omega
  have r1 : r ≤ 65535 := by omega
  rw [hN]
  have HCK := Lib.hid (show (⟨tos, len, id, true, true, off, ttl, pr, sm, src, dst, os⟩ : Hd).ck = r by unfold Hd.ck; rw [HPR.out, hN])
  clear hr hN
  go_wp2_with fail
  refine (set_len A16 c16 10 2 L16 r w17 (20 + n) HN16.out (by have := HY.out.1; omega) HBS17.out r0 (by omega) (by omega) (by omega) (by omega)).mono ?_
  rintro e w18 ⟨g18, rfl, hO, hg, hbw⟩
  have HO18 := Lib.hid hO
  have HK18 := Lib.hid (HK17.out.trans (Kept.ofB (S := fun _ => False) hbw))
  have HG18 := Lib.hid (show w.heap.size ≤ g18 from Nat.le_trans HS1.out (Nat.le_trans HK17.out.size hg))
  clear hO hg hbw
  go_wp2_with fail
  go_ret
  refine ⟨_, rfl, ?_, HKW.out.trans (HK18.out.below HS1.out (fun _ h => h.elim))⟩
  unfold Hd.bytes
  rw [HPR.out, HCK.out]
  exact HO18.out.row_ HG18.out (by rw [fin_length _ _ _ _ (by rw [HN16.out]; omega), HN16.out])
end Go.Proofs.YtdnbhmfofphblaaGreatDoor
