/- The reference's Right and Bytes of a header, walked. -/
import Derived.Test.YtidooohgbiiikaaC
import Derived.Test.YtidooohgbiiikaaRefBytes
import Derived.Test.YtidooohgbiiikaaRefJoin
import Derived.Test.YtidooohgbiiikaaRefSet
import Derived.Test.YtidooohgbiiikaaBysN
namespace Go.Proofs.Ytidooohgbiiikaa
open Go.RowKit
set_option linter.unusedVariables false
theorem refSetRow_any (A C : Option Addr) (c d off : Nat) (l x : List UInt8) (w : World) (hl : l.length ≤ 1000000) (hB : BS w w.heap.size A l) (hC : BS w w.heap.size C x) (hoff : off + x.length ≤ l.length) (h0 : 0 < x.length) :
    Calls Try.prog 37 #[.slice A l.length c, .int .i64 (off : Int), .slice C x.length d] w fun e w' => ∃ v, e = .returned v ∧ Row w' w.heap.size 5 v (bcs (over l off x)) ∧ Below w.heap.size w w' := by
  obtain ⟨b', o', hb', rfl, hC'⟩ := hC.at (k := 0) h0
  have HB := Lib.hid hB
  have HC := Lib.hid hC'
  have h5 := Try.info5s
  clear hB hC hC'
  go_enter Try.func37, Try.ntmps37
  go_wp2_with (at_builtin; refine wpList_append_row rfl (.tmp 9) (.tmp 10) 22 rfl w.heap.size 5 (.int .u8 0) 1 Try.underlying22 h5 rfl _ [] rfl A l.length c (bcs l) rfl (bcs_length l).symm ?a1 ?a2 (bcs_one l) ?a3 ?a4 ?a5 ?_)
  case a1 => exact Row.of_blk (cs := #[]) (Blk.new_ rfl _ _) (Nat.le_refl _) (by simp) rfl
  case a2 => exact (HB.out.alloc (Nat.le_refl _) _).src
  case a3 => rw [bcs_length]; unfold maxLen; simp; omega
  case a4 => rw [bcs_length]; simp; omega
  case a5 => simp
  intro v1 w1 hrow hgr _
  obtain ⟨g, cap, rfl, hg, hglt, _⟩ := hrow.at (i := 0) (by simp [bcs_length]; omega)
  rw [bcs_length] at hrow ⊢
  obtain ⟨hO, -, -⟩ := hrow.own
  have hb1 : Below w.heap.size w w1 := ((Below.refl _ _).alloc (Nat.le_refl _) _).trans (below_grown hgr (fun i e => by simp [Value.ownBlock] at e; omega) (by simp))
  have hs1 := hb1.size
  have HO := Lib.hid hO
  have HB1 := Lib.hid hb1
  clear hrow hgr hO hb1
  go_wp2_with fail
  go_loopw [8] (fun i wr => ∃ k : Nat, k ≤ x.length ∧ i = .int .i64 (k : Int) ∧ Hid (Own wr 5 g cap (over l off (x.take k))) ∧ Hid (Below w.heap.size w wr)) (fun i _ => x.length - (intOf i).toNat)
  case atStart => exact ⟨0, by omega, rfl, by rw [over_zero]; exact HO, HB1⟩
  case round =>
    obtain ⟨k, hk, rfl, HW, HBW⟩ := hrel
    by_cases hlt : k < x.length
    · have hx1 : (x.take k).length = k := by simp; omega
      have hol : off + k < (over l off (x.take k)).length := by rw [over_length _ _ _ (by omega)]; omega
      have c1 := HW.out.cell hol
      have f1 := HW.out.frozen (off + k)
      have c2 := (HBW.out.cell (p := ⟨b', o' + k, none⟩) hb').trans (HC.out k hlt)
      have kI : (k : Int) < (x.length : Int) := by omega
      have oI : (off : Int) + (k : Int) < (l.length : Int) := by omega
      clear hx1
      go_wp2
      go_roundw
      case rel =>
        go_light
        refine ⟨k + 1, by omega, by go_num, Lib.hid ?_, Lib.hid (HBW.out.setCell hg _)⟩
        rw [← over_step l off x k hlt hoff]
        exact HW.out.set _ _
      case measure => simp [intOf]; omega
    · go_wp2
      go_ret
      obtain rfl : k = x.length := by omega
      have := HW.out.row (base := w.heap.size) hg
      rw [List.take_of_length_le (Nat.le_refl _), over_length _ _ _ hoff] at this
      exact ⟨_, rfl, this, HBW.out⟩

theorem refB_any (k : Nat) (M : Int) (w : World) (m0 : 0 ≤ M) (m1 : M < 18446744073709551616) (k8 : k ≤ 8) :
    Calls Try.prog 35 #[.int .u64 M, .int .i64 (k : Int)] w fun e w' => ∃ v, e = .returned v ∧ Byt w' v (digs k M) ∧ Below w.heap.size w w' := by
  refine (refBytes_any k M k w m0 m1 (by omega)).mono ?_
  rintro e w' ⟨rfl, hO, hb⟩
  have hy := hO.byt
  rw [digs_length] at hy
  exact ⟨_, rfl, hy, hb⟩
theorem refOf_len (cap B : Nat) (A : Option Addr) (l : List UInt8) (m : Nat) (hm : l.length = m) (h2 : m % 2 = 0) (w : World) (hl : m ≤ 100000) (hb : BS w B A l) :
    Calls Try.prog 22 #[.slice A m cap] w fun e w' => e = .returned (.int .u16 (65535 - norm (total true l))) ∧ w = w' := by
  subst hm
  exact refOf_any cap B A l (l.length / 2) (by omega) w hl hb
theorem byt_two {g : Nat} {a b : Int} (a0 : 0 ≤ a) (a1 : a ≤ 255) (b0 : 0 ≤ b) (b1 : b ≤ 255) {w : World} (h : Blk w g 5 #[.int .u8 a, .int .u8 b]) : Byt w (.slice (some ⟨g, 0, none⟩) 2 2) [b8 a, b8 b] := by
  have e : (bcs [b8 a, b8 b]).toArray = #[.int .u8 a, .int .u8 b] := by simp [bcs, b8_val, Int.emod_eq_of_lt a0 (by omega : a < 256), Int.emod_eq_of_lt b0 (by omega : b < 256)]
  exact (Own.of_blk (e := 5) (l := [b8 a, b8 b]) (by rw [e]; exact h) (by unfold maxLen; simp)).byt
theorem byt4 {w : World} {l : List UInt8} {a b c d : Value} (h : bcs l = [a, b, c, d]) : Byt (w.alloc (.cells #[a, b, c, d] 5)) (.slice (some ⟨w.heap.size, 0, none⟩) 4 4) l := by
  have hl : l.length = 4 := by rw [← bcs_length, h]; rfl
  have hb : Blk (w.alloc (.cells #[a, b, c, d] 5)) w.heap.size 5 (bcs l).toArray := by rw [h]; exact Blk.new _ _ _
  have := (Own.of_blk hb (by rw [hl]; unfold maxLen; omega)).byt
  rwa [hl] at this
theorem refRight3_any (x : Int) (x0 : 0 ≤ x) (x1 : x ≤ 4294967295) (w : World) :
    Calls Try.prog 33 #[.agg #[.bool false, .int .u64 0, .int .u64 x]] w fun e w' => e = .returned (.bool true) ∧ Below w.heap.size w w' := by
  have g : decide (x ≤ 4294967295) = true := decide_eq_true (by omega)
  go_enter Try.func33, Try.ntmps33
  go_wp2
  go_ret
  exact ⟨by first | rfl | rw [g] | simp [g], (Below.refl _ _).alloc (Nat.le_refl _) _⟩
theorem refV4_any (x : Int) (x0 : 0 ≤ x) (x1 : x ≤ 4294967295) (w : World) :
    Calls Try.prog 36 #[.agg #[.bool false, .int .u64 0, .int .u64 x]] w fun e w' => ∃ v, e = .returned v ∧ Byt w' v (digs 4 x) ∧ Below w.heap.size w w' := by
  go_enter Try.func36, Try.ntmps36
  go_wp2_with fail
  refine (refB_any 4 x _ x0 (by omega) (by omega)).mono ?_
  rintro e w1 ⟨v, rfl, hO, hb⟩
  have HO := Lib.hid hO
  have HB := Lib.hid (((Below.refl w.heap.size w).alloc (Nat.le_refl _) (.cells #[.bool false, .int .u64 0, .int .u64 x] 39)).trans (hb.mono (by simp)))
  clear hO hb
  go_wp2_with fail
  go_ret
  exact ⟨_, rfl, HO.out, HB.out⟩
set_option maxRecDepth 100000 in
set_option maxHeartbeats 4000000 in
theorem refRightH_yes (tos len id : Int) (stay more : Bool) (off ttl pr sm src dst : Int) (OA : Option Addr) (n oc : Nat) (n40 : n ≤ 40) (n4 : n % 4 = 0) (l0 : 20 + (n : Int) ≤ len) (l1 : len ≤ 65535) (o0 : 0 ≤ off) (src0 : 0 ≤ src) (src1 : src ≤ 4294967295) (dst0 : 0 ≤ dst) (dst1 : dst ≤ 4294967295) (o1 : off ≤ 8191) (w : World) :
    Calls Try.prog 23 #[.agg #[.int .u8 tos, .int .i64 len, .int .u16 id, .bool stay, .bool more, .int .i64 off, .int .u8 ttl, .int .u8 pr, .int .u16 sm, .bool false, .int .u64 0, .int .u64 src, .bool false, .int .u64 0, .int .u64 dst, .slice OA n oc]] w fun e w' => e = .returned (.bool true) ∧ Below w.heap.size w w' := by
  have n4' : (n : Int) % 4 = 0 := by omega
  have HA := Lib.hid (fun u => refRight3_any src src0 src1 u)
  have HD := Lib.hid (fun u => refRight3_any dst dst0 dst1 u)
  go_enter Try.func23, Try.ntmps23
  go_upto_region 4 with fail
  obtain ⟨w1, hw1⟩ : ∃ w1 : World, w1 = w.alloc (.cells #[.int .u8 tos, .int .i64 len, .int .u16 id, .bool stay, .bool more, .int .i64 off, .int .u8 ttl, .int .u8 pr, .int .u16 sm, .bool false, .int .u64 0, .int .u64 src, .bool false, .int .u64 0, .int .u64 dst, .slice OA n oc] 41) := ⟨_, rfl⟩
  have HB0 := Lib.hid (show Blk w1 w.heap.size 41 #[.int .u8 tos, .int .i64 len, .int .u16 id, .bool stay, .bool more, .int .i64 off, .int .u8 ttl, .int .u8 pr, .int .u16 sm, .bool false, .int .u64 0, .int .u64 src, .bool false, .int .u64 0, .int .u64 dst, .slice OA n oc] by rw [hw1]; exact Blk.new _ _ _)
  have HKW := Lib.hid (show Below w.heap.size w w1 by rw [hw1]; exact (Below.refl _ _).alloc (Nat.le_refl _) _)
  have HS1 := Lib.hid (show w.heap.size ≤ w1.heap.size by rw [hw1]; simp)
  rw [← hw1]
  clear hw1
  have cB := HB0.out.cell
  have lB := HB0.out.lt
  go_wp2_with fail
  refine (HA.out _).mono ?_
  rintro e w2 ⟨rfl, hb2⟩
  have HB2 := Lib.hid (HB0.out.below hb2 HB0.out.lt)
  have HK2 := Lib.hid (HKW.out.trans (hb2.mono HS1.out))
  clear hb2 cB lB
  have cB := HB2.out.cell
  have lB := HB2.out.lt
  go_wp2_with fail
  refine (HD.out _).mono ?_
  rintro e w3 ⟨rfl, hb3⟩
  have HK3 := Lib.hid (HK2.out.trans (hb3.mono HK2.out.size))
  clear hb3 cB lB
  go_wp2_with fail
  go_ret
  exact ⟨rfl, HK3.out⟩
set_option maxRecDepth 100000 in
set_option maxHeartbeats 4000000 in
theorem refRightH_no (tos len id : Int) (stay more : Bool) (off ttl pr sm src dst : Int) (OA : Option Addr) (n oc : Nat) (n40 : n ≤ 40) (n4 : n % 4 = 0) (l0 : 20 + (n : Int) ≤ len) (l1 : len ≤ 65535) (o0 : 0 ≤ off) (src0 : 0 ≤ src) (src1 : src ≤ 4294967295) (dst0 : 0 ≤ dst) (dst1 : dst ≤ 4294967295) (o1 : ¬ off ≤ 8191) (w : World) :
    Calls Try.prog 23 #[.agg #[.int .u8 tos, .int .i64 len, .int .u16 id, .bool stay, .bool more, .int .i64 off, .int .u8 ttl, .int .u8 pr, .int .u16 sm, .bool false, .int .u64 0, .int .u64 src, .bool false, .int .u64 0, .int .u64 dst, .slice OA n oc]] w fun e w' => e = .returned (.bool false) ∧ Below w.heap.size w w' := by
  have n4' : (n : Int) % 4 = 0 := by omega
  go_enter Try.func23, Try.ntmps23
  go_wp2
  go_ret
  exact ⟨rfl, (Below.refl _ _).alloc (Nat.le_refl _) _⟩
set_option maxRecDepth 100000 in
set_option maxHeartbeats 4000000 in
theorem refBytesH_ff (tos len id : Int) (off ttl pr sm src dst : Int) (OA : Option Addr) (n oc : Nat) (os : List UInt8) (hn : os.length = n) (n40 : n ≤ 40) (n4 : n % 4 = 0) (t0 : 0 ≤ tos) (t1 : tos ≤ 255) (i0 : 0 ≤ id) (i1 : id ≤ 65535) (l0 : 20 + (n : Int) ≤ len) (l1 : len ≤ 65535) (o0 : 0 ≤ off) (o1 : off ≤ 8191) (x0 : 0 ≤ ttl) (x1 : ttl ≤ 255) (p0 : 0 ≤ pr) (p1 : pr ≤ 255) (s0 : 0 ≤ src) (s1 : src ≤ 4294967295) (d0 : 0 ≤ dst) (d1 : dst ≤ 4294967295) (w : World) (hoc : n ≤ oc ∧ oc ≤ maxLen) (hbs : BS w w.heap.size OA os) :
    Calls Try.prog 24 #[.agg #[.int .u8 tos, .int .i64 len, .int .u16 id, .bool false, .bool false, .int .i64 off, .int .u8 ttl, .int .u8 pr, .int .u16 sm, .bool false, .int .u64 0, .int .u64 src, .bool false, .int .u64 0, .int .u64 dst, .slice OA n oc]] w fun e w' => ∃ v, e = .returned v ∧ Row w' w.heap.size 5 v (bcs (⟨tos, len, id, false, false, off, ttl, pr, sm, src, dst, os⟩ : Hd).bytes) ∧ Below w.heap.size w w' := by
  have HY2 := Lib.hid hn
  have HOC := Lib.hid hoc
  have HBS := Lib.hid hbs
  clear hbs hn hoc
  go_enter Try.func24, Try.ntmps24
  go_upto_region 1 with fail
  obtain ⟨w1, hw1⟩ : ∃ w1 : World, w1 = w.alloc (.cells #[.int .u8 tos, .int .i64 len, .int .u16 id, .bool false, .bool false, .int .i64 off, .int .u8 ttl, .int .u8 pr, .int .u16 sm, .bool false, .int .u64 0, .int .u64 src, .bool false, .int .u64 0, .int .u64 dst, .slice OA n oc] 41) := ⟨_, rfl⟩
  have HB0 := Lib.hid (show Blk w1 w.heap.size 41 #[.int .u8 tos, .int .i64 len, .int .u16 id, .bool false, .bool false, .int .i64 off, .int .u8 ttl, .int .u8 pr, .int .u16 sm, .bool false, .int .u64 0, .int .u64 src, .bool false, .int .u64 0, .int .u64 dst, .slice OA n oc] by rw [hw1]; exact Blk.new _ _ _)
  have HKW := Lib.hid (show Below w.heap.size w w1 by rw [hw1]; exact (Below.refl _ _).alloc (Nat.le_refl _) _)
  have HS1 := Lib.hid (show w.heap.size ≤ w1.heap.size by rw [hw1]; simp)
  rw [← hw1]
  clear hw1
  obtain ⟨hb, hhb⟩ : ∃ hb, w.heap.size = hb := ⟨_, rfl⟩
  have HB : Hid (Blk w1 hb 41 #[.int .u8 tos, .int .i64 len, .int .u16 id, .bool false, .bool false, .int .i64 off, .int .u8 ttl, .int .u8 pr, .int .u16 sm, .bool false, .int .u64 0, .int .u64 src, .bool false, .int .u64 0, .int .u64 dst, .slice OA n oc]) := Lib.hid (by rw [← hhb]; exact HB0.out)
  rw [hhb]
  clear HB0 hhb
  have cB := HB.out.cell
  have lB := HB.out.lt
  go_upto_region 7 with fail
  obtain ⟨a69, ha69⟩ : ∃ a69 : Int, 69 + (n : Int) / 4 = a69 := ⟨_, rfl⟩
  rw [ha69]
  have a0 : 0 ≤ a69 := by omega
  have a1 : a69 ≤ 255 := by omega
  have HA69 := Lib.hid (show 64 + (20 + (n : Int)) / 4 = a69 by omega)
  clear ha69
  obtain ⟨w2, hw2⟩ : ∃ w2 : World, w2 = w1.alloc (.cells #[.int .u8 a69, .int .u8 tos] 5) := ⟨_, rfl⟩
  have HT := Lib.hid (show Blk w2 w1.heap.size 5 #[.int .u8 a69, .int .u8 tos] by rw [hw2]; exact Blk.new _ _ _)
  have HK2 := Lib.hid (show Kept (fun _ => False) w1 w2 by rw [hw2]; exact (Kept.refl _ _).alloc _)
  rw [← hw2]
  clear hw2 cB lB
  obtain ⟨g2, hg2⟩ : ∃ g2, w1.heap.size = g2 := ⟨_, rfl⟩
  rw [hg2] at HT ⊢
  clear hg2
  have HB2 := Lib.hid (HB.out.kept HK2.out (fun h => h))
  obtain ⟨L2, hL2⟩ : ∃ L2 : List UInt8, L2 = [b8 a69, b8 tos] := ⟨_, rfl⟩
  obtain ⟨X4, hX4⟩ : ∃ X4 : List UInt8, X4 = [b8 ttl, b8 pr, 0, 0] := ⟨_, rfl⟩
  have HL2 := Lib.hid hL2
  have HX4E := Lib.hid hX4
  have HT2 := Lib.hid (show Byt w2 (.slice (some ⟨g2, 0, none⟩) 2 2) L2 from by
    have hz := byt_two (g := g2) a0 a1 t0 t1 HT.out
    rw [hL2]; exact hz)
  have HX4 := Lib.hid (show (bcs X4) = [.int .u8 ttl, .int .u8 pr, .int .u8 0, .int .u8 0] by rw [hX4]; simp [bcs, b8_val, Int.emod_eq_of_lt x0 (by omega : ttl < 256), Int.emod_eq_of_lt p0 (by omega : pr < 256)])
  have HX4L := Lib.hid (show X4.length = 4 by rw [hX4]; rfl)
  have HL2L := Lib.hid (show L2.length = 2 by rw [hL2]; rfl)
  clear hL2 hX4
  have HOP := Lib.hid (show Byt w2 (.slice OA n oc) os from ⟨OA, oc, by rw [HY2.out], by rw [HY2.out]; exact HOC.out.1, HOC.out.2, (HBS.out.onB HKW.out (Nat.le_refl _)).on HK2.out (fun _ _ h => h)⟩)
  have HLS := Lib.hid (show ∀ l ∈ [L2, digs 2 (len), digs 2 (id), digs 2 (off), X4, digs 4 (src), digs 4 (dst), os], l.length ≤ maxLen by
    intro l hl
    simp only [List.mem_cons, List.not_mem_nil, or_false] at hl
    unfold maxLen
    rcases hl with rfl | rfl | rfl | rfl | rfl | rfl | rfl | rfl
    · rw [HL2L.out]; omega
    · rw [digs_length]; omega
    · rw [digs_length]; omega
    · rw [digs_length]; omega
    · rw [HX4L.out]; omega
    · rw [digs_length]; omega
    · rw [digs_length]; omega
    · rw [HY2.out]; omega)
  have HFN := Lib.hid (show ([L2, digs 2 (len), digs 2 (id), digs 2 (off), X4, digs 4 (src), digs 4 (dst), os] : List (List UInt8)).flatten.length = 20 + n by simp [digs_length, HL2L.out, HX4L.out, HY2.out]; omega)
  have HFL := Lib.hid (show ([L2, digs 2 (len), digs 2 (id), digs 2 (off), X4, digs 4 (src), digs 4 (dst), os] : List (List UInt8)).flatten.length ≤ 1000000 by rw [HFN.out]; omega)
  have HPR := Lib.hid (show (⟨tos, len, id, false, false, off, ttl, pr, sm, src, dst, os⟩ : Hd).pre = ([L2, digs 2 (len), digs 2 (id), digs 2 (off), X4, digs 4 (src), digs 4 (dst), os] : List (List UInt8)).flatten by
    simp [Hd.pre, Hd.parts, Hd.place, Hd.size, HY2.out, HL2.out, HX4E.out, HA69.out, digs]; decide)
  refine wp_region_kept 26 [(4, fun v u => Byt u v (digs 2 (len))), (8, fun v u => Byt u v (digs 2 (id))), (10, fun v u => Byt u v (digs 2 (off))), (15, fun v u => Byt u v X4), (18, fun v u => Byt u v (digs 4 (src))), (21, fun v u => Byt u v (digs 4 (dst))), (24, fun v u => BysN 8 u v [L2, digs 2 (len), digs 2 (id), digs 2 (off), X4, digs 4 (src), digs 4 (dst), os]), (25, fun v u => Byt u v ([L2, digs 2 (len), digs 2 (id), digs 2 (off), X4, digs 4 (src), digs 4 (dst), os]).flatten)] ?st ?ne rfl (by kernel_rfl) (by kernel_rfl) ?_
  case st =>
    intro p hp
    simp only [List.mem_cons, List.not_mem_nil, or_false] at hp
    rcases hp with rfl | rfl | rfl | rfl | rfl | rfl | rfl | rfl
    · intro v u u' h hk; exact h.on0 hk
    · intro v u u' h hk; exact h.on0 hk
    · intro v u u' h hk; exact h.on0 hk
    · intro v u u' h hk; exact h.on0 hk
    · intro v u u' h hk; exact h.on0 hk
    · intro v u u' h hk; exact h.on0 hk
    · intro v u u' h hk; exact h.on0 hk
    · intro v u u' h hk; exact h.on0 hk
  case ne =>
    intro p hp
    simp only [List.mem_cons, List.not_mem_nil, or_false] at hp
    rcases hp with rfl | rfl | rfl | rfl | rfl | rfl | rfl | rfl
    · exact Byt.some _ _ (by rw [digs_length]; unfold maxLen; omega)
    · exact Byt.some _ _ (by rw [digs_length]; unfold maxLen; omega)
    · exact Byt.some _ _ (by rw [digs_length]; unfold maxLen; omega)
    · exact Byt.some _ _ (by rw [HX4L.out]; unfold maxLen; omega)
    · exact Byt.some _ _ (by rw [digs_length]; unfold maxLen; omega)
    · exact Byt.some _ _ (by rw [digs_length]; unfold maxLen; omega)
    · exact BysN.some _ _ _ rfl HLS.out
    · exact Byt.some _ _ (by have := HFL.out; unfold maxLen; omega)
  simp only [List.take_succ_cons, List.take_zero, List.drop_succ_cons, List.drop_zero]
  intro G pick hR hp1 hp2
  have p0 : ∀ u, (pick u).cell? ⟨hb, 0, none⟩ = some (.int .u8 tos) := fun u => ((hp1 u).cell HB2.out.lt (fun h => h) _).trans (HB2.out.cell 0)
  have p1 : ∀ u, (pick u).cell? ⟨hb, 1, none⟩ = some (.int .i64 len) := fun u => ((hp1 u).cell HB2.out.lt (fun h => h) _).trans (HB2.out.cell 1)
  have p2 : ∀ u, (pick u).cell? ⟨hb, 2, none⟩ = some (.int .u16 id) := fun u => ((hp1 u).cell HB2.out.lt (fun h => h) _).trans (HB2.out.cell 2)
  have p3 : ∀ u, (pick u).cell? ⟨hb, 3, none⟩ = some (.bool false) := fun u => ((hp1 u).cell HB2.out.lt (fun h => h) _).trans (HB2.out.cell 3)
  have p4 : ∀ u, (pick u).cell? ⟨hb, 4, none⟩ = some (.bool false) := fun u => ((hp1 u).cell HB2.out.lt (fun h => h) _).trans (HB2.out.cell 4)
  have p5 : ∀ u, (pick u).cell? ⟨hb, 5, none⟩ = some (.int .i64 off) := fun u => ((hp1 u).cell HB2.out.lt (fun h => h) _).trans (HB2.out.cell 5)
  have p6 : ∀ u, (pick u).cell? ⟨hb, 6, none⟩ = some (.int .u8 ttl) := fun u => ((hp1 u).cell HB2.out.lt (fun h => h) _).trans (HB2.out.cell 6)
  have p7 : ∀ u, (pick u).cell? ⟨hb, 7, none⟩ = some (.int .u8 pr) := fun u => ((hp1 u).cell HB2.out.lt (fun h => h) _).trans (HB2.out.cell 7)
  have p8 : ∀ u, (pick u).cell? ⟨hb, 8, none⟩ = some (.int .u16 sm) := fun u => ((hp1 u).cell HB2.out.lt (fun h => h) _).trans (HB2.out.cell 8)
  have p9 : ∀ u, (pick u).cell? ⟨hb, 9, none⟩ = some (.bool false) := fun u => ((hp1 u).cell HB2.out.lt (fun h => h) _).trans (HB2.out.cell 9)
  have p10 : ∀ u, (pick u).cell? ⟨hb, 10, none⟩ = some (.int .u64 0) := fun u => ((hp1 u).cell HB2.out.lt (fun h => h) _).trans (HB2.out.cell 10)
  have p11 : ∀ u, (pick u).cell? ⟨hb, 11, none⟩ = some (.int .u64 src) := fun u => ((hp1 u).cell HB2.out.lt (fun h => h) _).trans (HB2.out.cell 11)
  have p12 : ∀ u, (pick u).cell? ⟨hb, 12, none⟩ = some (.bool false) := fun u => ((hp1 u).cell HB2.out.lt (fun h => h) _).trans (HB2.out.cell 12)
  have p13 : ∀ u, (pick u).cell? ⟨hb, 13, none⟩ = some (.int .u64 0) := fun u => ((hp1 u).cell HB2.out.lt (fun h => h) _).trans (HB2.out.cell 13)
  have p14 : ∀ u, (pick u).cell? ⟨hb, 14, none⟩ = some (.int .u64 dst) := fun u => ((hp1 u).cell HB2.out.lt (fun h => h) _).trans (HB2.out.cell 14)
  have p15 : ∀ u, (pick u).cell? ⟨hb, 15, none⟩ = some (.slice OA n oc) := fun u => ((hp1 u).cell HB2.out.lt (fun h => h) _).trans (HB2.out.cell 15)
  repeat (first | (refine wpR_det hp2 rfl ((hR.rel _).trans rfl) rfl ?_; intro K hK; go_big_quiet_op; go_big_quiet_on) | (refine wpR_ptr hp2 rfl ((hR.rel _).trans rfl) rfl rfl ?_; intro K hK; go_big_quiet_op; go_big_quiet_on) | (refine wpR_skip pick rfl ?_; intro K hK; go_big_quiet_op; go_big_quiet_on))
  refine wpR_rel pick rfl ((hR.rel _).trans rfl) ((hR.turns _).trans rfl) ?_ ?_
  · intro u hu
    have hk := hR.since hu.1
    have hks := hk.size
    have hz := refB_any 2 (len) u (by omega) (by omega) (by omega)
    unfold relAt
    go_simp
    refine hz.mono ?_
    rintro e w' ⟨v, rfl, hT, hb'⟩
    exact ⟨_, rfl, hR.intoB hb', hR.put 0 rfl rfl hT⟩
  intro v hv
  obtain ⟨u, _, hu⟩ := hv
  obtain ⟨A4, c4, rfl, -, -, -⟩ := hR.get 0 rfl hu
  clear hu
  rw [digs_length]
  intro K hK
  go_big_quiet_op
  go_big_quiet_on
  repeat (first | (refine wpR_det hp2 rfl ((hR.rel _).trans rfl) rfl ?_; intro K hK; go_big_quiet_op; go_big_quiet_on) | (refine wpR_ptr hp2 rfl ((hR.rel _).trans rfl) rfl rfl ?_; intro K hK; go_big_quiet_op; go_big_quiet_on) | (refine wpR_skip pick rfl ?_; intro K hK; go_big_quiet_op; go_big_quiet_on))
  refine wpR_rel pick rfl ((hR.rel _).trans rfl) ((hR.turns _).trans rfl) ?_ ?_
  · intro u hu
    have hk := hR.since hu.1
    have hks := hk.size
    have hz := refB_any 2 (id) u (by omega) (by omega) (by omega)
    unfold relAt
    go_simp
    refine hz.mono ?_
    rintro e w' ⟨v, rfl, hT, hb'⟩
    exact ⟨_, rfl, hR.intoB hb', hR.put 1 rfl rfl hT⟩
  intro v hv
  obtain ⟨u, _, hu⟩ := hv
  obtain ⟨A8, c8, rfl, -, -, -⟩ := hR.get 1 rfl hu
  clear hu
  rw [digs_length]
  intro K hK
  go_big_quiet_op
  go_big_quiet_on
  repeat (first | (refine wpR_det hp2 rfl ((hR.rel _).trans rfl) rfl ?_; intro K hK; go_big_quiet_op; go_big_quiet_on) | (refine wpR_ptr hp2 rfl ((hR.rel _).trans rfl) rfl rfl ?_; intro K hK; go_big_quiet_op; go_big_quiet_on) | (refine wpR_skip pick rfl ?_; intro K hK; go_big_quiet_op; go_big_quiet_on))
  refine wpR_rel pick rfl ((hR.rel _).trans rfl) ((hR.turns _).trans rfl) ?_ ?_
  · intro u hu
    have hk := hR.since hu.1
    have hks := hk.size
    have hz := refB_any 2 (off) u (by omega) (by omega) (by omega)
    unfold relAt
    go_simp
    refine hz.mono ?_
    rintro e w' ⟨v, rfl, hT, hb'⟩
    exact ⟨_, rfl, hR.intoB hb', hR.put 2 rfl rfl hT⟩
  intro v hv
  obtain ⟨u, _, hu⟩ := hv
  obtain ⟨A10, c10, rfl, -, -, -⟩ := hR.get 2 rfl hu
  clear hu
  rw [digs_length]
  intro K hK
  go_big_quiet_op
  go_big_quiet_on
  repeat (first | (refine wpR_det hp2 rfl ((hR.rel _).trans rfl) rfl ?_; intro K hK; go_big_quiet_op; go_big_quiet_on) | (refine wpR_ptr hp2 rfl ((hR.rel _).trans rfl) rfl rfl ?_; intro K hK; go_big_quiet_op; go_big_quiet_on) | (refine wpR_skip pick rfl ?_; intro K hK; go_big_quiet_op; go_big_quiet_on))
  refine wpR_rel pick rfl ((hR.rel _).trans rfl) ((hR.turns _).trans rfl) ?_ ?_
  · intro u hu
    have hk := hR.since hu.1
    have hks := hk.size
    unfold relAt
    go_simp
    refine ⟨hR.into0 ((Kept.refl _ _).alloc _), hR.put 3 rfl rfl ?_⟩
    exact byt4 HX4.out
  intro v hv
  obtain ⟨u, _, hu⟩ := hv
  obtain hx15 := hR.get 3 rfl hu
  clear hu
  obtain ⟨A15, c15, hv15, -, -, -⟩ := hx15
  rw [HX4L.out] at hv15
  subst hv15
  intro K hK
  go_big_quiet_op
  go_big_quiet_on
  repeat (first | (refine wpR_det hp2 rfl ((hR.rel _).trans rfl) rfl ?_; intro K hK; go_big_quiet_op; go_big_quiet_on) | (refine wpR_ptr hp2 rfl ((hR.rel _).trans rfl) rfl rfl ?_; intro K hK; go_big_quiet_op; go_big_quiet_on) | (refine wpR_skip pick rfl ?_; intro K hK; go_big_quiet_op; go_big_quiet_on))
  refine wpR_rel pick rfl ((hR.rel _).trans rfl) ((hR.turns _).trans rfl) ?_ ?_
  · intro u hu
    have hk := hR.since hu.1
    have hks := hk.size
    have hz := refV4_any src s0 s1 u
    unfold relAt
    go_simp
    refine hz.mono ?_
    rintro e w' ⟨v, rfl, hT, hb'⟩
    exact ⟨_, rfl, hR.intoB hb', hR.put 4 rfl rfl hT⟩
  intro v hv
  obtain ⟨u, _, hu⟩ := hv
  obtain ⟨A18, c18, rfl, -, -, -⟩ := hR.get 4 rfl hu
  clear hu
  rw [digs_length]
  intro K hK
  go_big_quiet_op
  go_big_quiet_on
  repeat (first | (refine wpR_det hp2 rfl ((hR.rel _).trans rfl) rfl ?_; intro K hK; go_big_quiet_op; go_big_quiet_on) | (refine wpR_ptr hp2 rfl ((hR.rel _).trans rfl) rfl rfl ?_; intro K hK; go_big_quiet_op; go_big_quiet_on) | (refine wpR_skip pick rfl ?_; intro K hK; go_big_quiet_op; go_big_quiet_on))
  refine wpR_rel pick rfl ((hR.rel _).trans rfl) ((hR.turns _).trans rfl) ?_ ?_
  · intro u hu
    have hk := hR.since hu.1
    have hks := hk.size
    have hz := refV4_any dst d0 d1 u
    unfold relAt
    go_simp
    refine hz.mono ?_
    rintro e w' ⟨v, rfl, hT, hb'⟩
    exact ⟨_, rfl, hR.intoB hb', hR.put 5 rfl rfl hT⟩
  intro v hv
  obtain ⟨u, _, hu⟩ := hv
  obtain ⟨A21, c21, rfl, -, -, -⟩ := hR.get 5 rfl hu
  clear hu
  rw [digs_length]
  intro K hK
  go_big_quiet_op
  go_big_quiet_on
  repeat (first | (refine wpR_det hp2 rfl ((hR.rel _).trans rfl) rfl ?_; intro K hK; go_big_quiet_op; go_big_quiet_on) | (refine wpR_ptr hp2 rfl ((hR.rel _).trans rfl) rfl rfl ?_; intro K hK; go_big_quiet_op; go_big_quiet_on) | (refine wpR_skip pick rfl ?_; intro K hK; go_big_quiet_op; go_big_quiet_on))
  refine wpR_rel pick rfl ((hR.rel _).trans rfl) ((hR.turns _).trans rfl) ?_ ?_
  · intro u hu
    have hk := hR.since hu.1
    have hks := hk.size
    have b0 := (hR.get 0 rfl (hu.2 _ _ (Got.upd_old (Got.upd_old (Got.upd_old (Got.upd_old (Got.upd_old (Got.upd_self _ _ _) rfl) rfl) rfl) rfl) rfl) (by kernel_rfl)))
    have b1 := (hR.get 1 rfl (hu.2 _ _ (Got.upd_old (Got.upd_old (Got.upd_old (Got.upd_old (Got.upd_self _ _ _) rfl) rfl) rfl) rfl) (by kernel_rfl)))
    have b2 := (hR.get 2 rfl (hu.2 _ _ (Got.upd_old (Got.upd_old (Got.upd_old (Got.upd_self _ _ _) rfl) rfl) rfl) (by kernel_rfl)))
    have b3 := (hR.get 3 rfl (hu.2 _ _ (Got.upd_old (Got.upd_old (Got.upd_self _ _ _) rfl) rfl) (by kernel_rfl)))
    have b4 := (hR.get 4 rfl (hu.2 _ _ (Got.upd_old (Got.upd_self _ _ _) rfl) (by kernel_rfl)))
    have b5 := (hR.get 5 rfl (hu.2 _ _ (Got.upd_self _ _ _) (by kernel_rfl)))
    have hal : Al u [.slice (some ⟨g2, 0, none⟩) 2 2, .slice A4 2 c4, .slice A8 2 c8, .slice A10 2 c10, .slice A15 4 c15, .slice A18 4 c18, .slice A21 4 c21, .slice OA n oc] [L2, digs 2 (len), digs 2 (id), digs 2 (off), X4, digs 4 (src), digs 4 (dst), os] := ⟨HT2.out.on0 hk, b0, b1, b2, b3, b4, b5, HOP.out.on0 hk, trivial⟩
    clear b0 b1 b2 b3 b4 b5
    unfold relAt
    go_simp
    refine ⟨hR.into0 ((Kept.refl _ _).alloc _), hR.put 6 rfl rfl ⟨u.heap.size, [.slice (some ⟨g2, 0, none⟩) 2 2, .slice A4 2 c4, .slice A8 2 c8, .slice A10 2 c10, .slice A15 4 c15, .slice A18 4 c18, .slice A21 4 c21, .slice OA n oc], rfl, rfl, (hal.on0 ((Kept.refl _ _).alloc _)).bys (Blk.new _ _ _)⟩⟩
  intro v hv
  obtain ⟨u, _, hu⟩ := hv
  obtain ⟨gb, vsb, rfl, -, -⟩ := hR.get 6 rfl hu
  clear hu
  intro K hK
  go_big_quiet_op
  go_big_quiet_on
  repeat (first | (refine wpR_det hp2 rfl ((hR.rel _).trans rfl) rfl ?_; intro K hK; go_big_quiet_op; go_big_quiet_on) | (refine wpR_ptr hp2 rfl ((hR.rel _).trans rfl) rfl rfl ?_; intro K hK; go_big_quiet_op; go_big_quiet_on) | (refine wpR_skip pick rfl ?_; intro K hK; go_big_quiet_op; go_big_quiet_on))
  refine wpR_rel pick rfl ((hR.rel _).trans rfl) ((hR.turns _).trans rfl) ?_ ?_
  · intro u hu
    have hk := hR.since hu.1
    have hks := hk.size
    obtain ⟨g', vs', e, hn', hB⟩ := (hR.get 6 rfl (hu.2 _ _ (Got.upd_self _ _ _) (by kernel_rfl)))
    obtain rfl : gb = g' := by injection e with e; injection e with e; injection e
    have hz := refJoin_any gb 8 vs' [L2, digs 2 (len), digs 2 (id), digs 2 (off), X4, digs 4 (src), digs 4 (dst), os] u hB (by rw [hn']; omega) HFL.out
    rw [hn'] at hz
    clear hB e
    unfold relAt
    go_simp
    refine hz.mono ?_
    rintro e w' ⟨v, rfl, hT, hb'⟩
    exact ⟨_, rfl, hR.intoB hb', hR.put 7 rfl rfl hT⟩
  intro v hv
  obtain ⟨u, _, hu⟩ := hv
  obtain hT := hR.get 7 rfl hu
  clear hu
  clear hT
  intro K hK
  go_big_quiet_op
  go_big_quiet_on
  repeat (first | (refine wpR_det hp2 rfl ((hR.rel _).trans rfl) rfl ?_; intro K hK; go_big_quiet_op; go_big_quiet_on) | (refine wpR_ptr hp2 rfl ((hR.rel _).trans rfl) rfl rfl ?_; intro K hK; go_big_quiet_op; go_big_quiet_on) | (refine wpR_skip pick rfl ?_; intro K hK; go_big_quiet_op; go_big_quiet_on))
  refine wpR_nil ?_
  intro w9 hk2 hF hM
  have HZ0 := Lib.hid ((hR.get 7 rfl (hF _ _ (Got.upd_self _ _ _))))
  have HK9 := Lib.hid (HK2.out.trans hk2)
  clear hF hM hk2 hp1 hp2 hR p0 p1 p2 p3 p4 p5 p6 p7 p8 p9 p10 p11 p12 p13 p14 p15
  rw [← HPR.out] at HZ0
  have hz := HZ0.out
  have HPL := Lib.hid (show (⟨tos, len, id, false, false, off, ttl, pr, sm, src, dst, os⟩ : Hd).pre.length = 20 + n by rw [HPR.out, HFN.out])
  obtain ⟨L, hL⟩ : ∃ L, (⟨tos, len, id, false, false, off, ttl, pr, sm, src, dst, os⟩ : Hd).pre = L := ⟨_, rfl⟩
  have HL := Lib.hid hL
  rw [hL] at hz HPL
  clear hL HZ0 HPR
  obtain ⟨AJ, cJ, rfl, -, -, hbs⟩ := hz
  rw [HPL.out]
  have HJ := Lib.hid hbs
  clear hbs
  go_wp2_with fail
  refine (refOf_len cJ w9.heap.size AJ L (20 + n) HPL.out (by omega) w9 (by omega) HJ.out).mono ?_
  rintro e w10 ⟨rfl, rfl⟩
  have hr := norm_range (total true L)
  obtain ⟨r, hN⟩ : ∃ r, 65535 - norm (total true L) = r := ⟨_, rfl⟩
  have r0 : 0 ≤ r := by omega
  have r1 : r ≤ 65535 := by omega
  rw [hN]
  have HCK := Lib.hid (show (⟨tos, len, id, false, false, off, ttl, pr, sm, src, dst, os⟩ : Hd).ck = r by unfold Hd.ck; rw [HL.out, hN])
  clear hr hN
  go_wp2_with fail
  refine (refB_any 2 r w9 (by omega) (by omega) (by omega)).mono ?_
  rintro e w11 ⟨v11, rfl, ⟨A11, c11, hv11, -, -, hb11⟩, hbw⟩
  rw [digs_length] at hv11
  subst hv11
  have HB11 := Lib.hid hb11
  have HK11 := Lib.hid (HK9.out.trans (Kept.ofB (S := fun _ => False) hbw))
  have HJ11 := Lib.hid (HJ.out.onB hbw (Nat.le_refl _))
  clear hb11 hbw
  go_wp2_with fail
  have hz := refSetRow_any AJ A11 cJ c11 10 L (digs 2 r) w11 (by rw [HPL.out]; omega) HJ11.out HB11.out (by rw [HPL.out, digs_length]; omega) (by rw [digs_length]; omega)
  rw [HPL.out, digs_length, over_fin] at hz
  refine hz.mono ?_
  clear hz
  rintro e w12 ⟨v12, rfl, hy, hbw⟩
  have HY12 := Lib.hid (hy.more (show w.heap.size ≤ w11.heap.size from Nat.le_trans HS1.out HK11.out.size))
  have HK12 := Lib.hid (HK11.out.trans (Kept.ofB (S := fun _ => False) hbw))
  clear hy hbw
  go_wp2_with fail
  go_ret
  refine ⟨_, rfl, ?_, HKW.out.trans (HK12.out.below HS1.out (fun _ h => h.elim))⟩
  unfold Hd.bytes
  rw [HL.out, HCK.out]
  exact HY12.out
set_option maxRecDepth 100000 in
set_option maxHeartbeats 4000000 in
theorem refBytesH_ft (tos len id : Int) (off ttl pr sm src dst : Int) (OA : Option Addr) (n oc : Nat) (os : List UInt8) (hn : os.length = n) (n40 : n ≤ 40) (n4 : n % 4 = 0) (t0 : 0 ≤ tos) (t1 : tos ≤ 255) (i0 : 0 ≤ id) (i1 : id ≤ 65535) (l0 : 20 + (n : Int) ≤ len) (l1 : len ≤ 65535) (o0 : 0 ≤ off) (o1 : off ≤ 8191) (x0 : 0 ≤ ttl) (x1 : ttl ≤ 255) (p0 : 0 ≤ pr) (p1 : pr ≤ 255) (s0 : 0 ≤ src) (s1 : src ≤ 4294967295) (d0 : 0 ≤ dst) (d1 : dst ≤ 4294967295) (w : World) (hoc : n ≤ oc ∧ oc ≤ maxLen) (hbs : BS w w.heap.size OA os) :
    Calls Try.prog 24 #[.agg #[.int .u8 tos, .int .i64 len, .int .u16 id, .bool false, .bool true, .int .i64 off, .int .u8 ttl, .int .u8 pr, .int .u16 sm, .bool false, .int .u64 0, .int .u64 src, .bool false, .int .u64 0, .int .u64 dst, .slice OA n oc]] w fun e w' => ∃ v, e = .returned v ∧ Row w' w.heap.size 5 v (bcs (⟨tos, len, id, false, true, off, ttl, pr, sm, src, dst, os⟩ : Hd).bytes) ∧ Below w.heap.size w w' := by
  have HY2 := Lib.hid hn
  have HOC := Lib.hid hoc
  have HBS := Lib.hid hbs
  clear hbs hn hoc
  go_enter Try.func24, Try.ntmps24
  go_upto_region 1 with fail
  obtain ⟨w1, hw1⟩ : ∃ w1 : World, w1 = w.alloc (.cells #[.int .u8 tos, .int .i64 len, .int .u16 id, .bool false, .bool true, .int .i64 off, .int .u8 ttl, .int .u8 pr, .int .u16 sm, .bool false, .int .u64 0, .int .u64 src, .bool false, .int .u64 0, .int .u64 dst, .slice OA n oc] 41) := ⟨_, rfl⟩
  have HB0 := Lib.hid (show Blk w1 w.heap.size 41 #[.int .u8 tos, .int .i64 len, .int .u16 id, .bool false, .bool true, .int .i64 off, .int .u8 ttl, .int .u8 pr, .int .u16 sm, .bool false, .int .u64 0, .int .u64 src, .bool false, .int .u64 0, .int .u64 dst, .slice OA n oc] by rw [hw1]; exact Blk.new _ _ _)
  have HKW := Lib.hid (show Below w.heap.size w w1 by rw [hw1]; exact (Below.refl _ _).alloc (Nat.le_refl _) _)
  have HS1 := Lib.hid (show w.heap.size ≤ w1.heap.size by rw [hw1]; simp)
  rw [← hw1]
  clear hw1
  obtain ⟨hb, hhb⟩ : ∃ hb, w.heap.size = hb := ⟨_, rfl⟩
  have HB : Hid (Blk w1 hb 41 #[.int .u8 tos, .int .i64 len, .int .u16 id, .bool false, .bool true, .int .i64 off, .int .u8 ttl, .int .u8 pr, .int .u16 sm, .bool false, .int .u64 0, .int .u64 src, .bool false, .int .u64 0, .int .u64 dst, .slice OA n oc]) := Lib.hid (by rw [← hhb]; exact HB0.out)
  rw [hhb]
  clear HB0 hhb
  have cB := HB.out.cell
  have lB := HB.out.lt
  go_upto_region 7 with fail
  obtain ⟨a69, ha69⟩ : ∃ a69 : Int, 69 + (n : Int) / 4 = a69 := ⟨_, rfl⟩
  rw [ha69]
  have a0 : 0 ≤ a69 := by omega
  have a1 : a69 ≤ 255 := by omega
  have HA69 := Lib.hid (show 64 + (20 + (n : Int)) / 4 = a69 by omega)
  clear ha69
  obtain ⟨w2, hw2⟩ : ∃ w2 : World, w2 = w1.alloc (.cells #[.int .u8 a69, .int .u8 tos] 5) := ⟨_, rfl⟩
  have HT := Lib.hid (show Blk w2 w1.heap.size 5 #[.int .u8 a69, .int .u8 tos] by rw [hw2]; exact Blk.new _ _ _)
  have HK2 := Lib.hid (show Kept (fun _ => False) w1 w2 by rw [hw2]; exact (Kept.refl _ _).alloc _)
  rw [← hw2]
  clear hw2 cB lB
  obtain ⟨g2, hg2⟩ : ∃ g2, w1.heap.size = g2 := ⟨_, rfl⟩
  rw [hg2] at HT ⊢
  clear hg2
  have HB2 := Lib.hid (HB.out.kept HK2.out (fun h => h))
  obtain ⟨L2, hL2⟩ : ∃ L2 : List UInt8, L2 = [b8 a69, b8 tos] := ⟨_, rfl⟩
  obtain ⟨X4, hX4⟩ : ∃ X4 : List UInt8, X4 = [b8 ttl, b8 pr, 0, 0] := ⟨_, rfl⟩
  have HL2 := Lib.hid hL2
  have HX4E := Lib.hid hX4
  have HT2 := Lib.hid (show Byt w2 (.slice (some ⟨g2, 0, none⟩) 2 2) L2 from by
    have hz := byt_two (g := g2) a0 a1 t0 t1 HT.out
    rw [hL2]; exact hz)
  have HX4 := Lib.hid (show (bcs X4) = [.int .u8 ttl, .int .u8 pr, .int .u8 0, .int .u8 0] by rw [hX4]; simp [bcs, b8_val, Int.emod_eq_of_lt x0 (by omega : ttl < 256), Int.emod_eq_of_lt p0 (by omega : pr < 256)])
  have HX4L := Lib.hid (show X4.length = 4 by rw [hX4]; rfl)
  have HL2L := Lib.hid (show L2.length = 2 by rw [hL2]; rfl)
  clear hL2 hX4
  have HOP := Lib.hid (show Byt w2 (.slice OA n oc) os from ⟨OA, oc, by rw [HY2.out], by rw [HY2.out]; exact HOC.out.1, HOC.out.2, (HBS.out.onB HKW.out (Nat.le_refl _)).on HK2.out (fun _ _ h => h)⟩)
  have HLS := Lib.hid (show ∀ l ∈ [L2, digs 2 (len), digs 2 (id), digs 2 (off + 8192), X4, digs 4 (src), digs 4 (dst), os], l.length ≤ maxLen by
    intro l hl
    simp only [List.mem_cons, List.not_mem_nil, or_false] at hl
    unfold maxLen
    rcases hl with rfl | rfl | rfl | rfl | rfl | rfl | rfl | rfl
    · rw [HL2L.out]; omega
    · rw [digs_length]; omega
    · rw [digs_length]; omega
    · rw [digs_length]; omega
    · rw [HX4L.out]; omega
    · rw [digs_length]; omega
    · rw [digs_length]; omega
    · rw [HY2.out]; omega)
  have HFN := Lib.hid (show ([L2, digs 2 (len), digs 2 (id), digs 2 (off + 8192), X4, digs 4 (src), digs 4 (dst), os] : List (List UInt8)).flatten.length = 20 + n by simp [digs_length, HL2L.out, HX4L.out, HY2.out]; omega)
  have HFL := Lib.hid (show ([L2, digs 2 (len), digs 2 (id), digs 2 (off + 8192), X4, digs 4 (src), digs 4 (dst), os] : List (List UInt8)).flatten.length ≤ 1000000 by rw [HFN.out]; omega)
  have HPR := Lib.hid (show (⟨tos, len, id, false, true, off, ttl, pr, sm, src, dst, os⟩ : Hd).pre = ([L2, digs 2 (len), digs 2 (id), digs 2 (off + 8192), X4, digs 4 (src), digs 4 (dst), os] : List (List UInt8)).flatten by
    simp [Hd.pre, Hd.parts, Hd.place, Hd.size, HY2.out, HL2.out, HX4E.out, HA69.out, digs]; decide)
  refine wp_region_kept 26 [(4, fun v u => Byt u v (digs 2 (len))), (8, fun v u => Byt u v (digs 2 (id))), (10, fun v u => Byt u v (digs 2 (off + 8192))), (15, fun v u => Byt u v X4), (18, fun v u => Byt u v (digs 4 (src))), (21, fun v u => Byt u v (digs 4 (dst))), (24, fun v u => BysN 8 u v [L2, digs 2 (len), digs 2 (id), digs 2 (off + 8192), X4, digs 4 (src), digs 4 (dst), os]), (25, fun v u => Byt u v ([L2, digs 2 (len), digs 2 (id), digs 2 (off + 8192), X4, digs 4 (src), digs 4 (dst), os]).flatten)] ?st ?ne rfl (by kernel_rfl) (by kernel_rfl) ?_
  case st =>
    intro p hp
    simp only [List.mem_cons, List.not_mem_nil, or_false] at hp
    rcases hp with rfl | rfl | rfl | rfl | rfl | rfl | rfl | rfl
    · intro v u u' h hk; exact h.on0 hk
    · intro v u u' h hk; exact h.on0 hk
    · intro v u u' h hk; exact h.on0 hk
    · intro v u u' h hk; exact h.on0 hk
    · intro v u u' h hk; exact h.on0 hk
    · intro v u u' h hk; exact h.on0 hk
    · intro v u u' h hk; exact h.on0 hk
    · intro v u u' h hk; exact h.on0 hk
  case ne =>
    intro p hp
    simp only [List.mem_cons, List.not_mem_nil, or_false] at hp
    rcases hp with rfl | rfl | rfl | rfl | rfl | rfl | rfl | rfl
    · exact Byt.some _ _ (by rw [digs_length]; unfold maxLen; omega)
    · exact Byt.some _ _ (by rw [digs_length]; unfold maxLen; omega)
    · exact Byt.some _ _ (by rw [digs_length]; unfold maxLen; omega)
    · exact Byt.some _ _ (by rw [HX4L.out]; unfold maxLen; omega)
    · exact Byt.some _ _ (by rw [digs_length]; unfold maxLen; omega)
    · exact Byt.some _ _ (by rw [digs_length]; unfold maxLen; omega)
    · exact BysN.some _ _ _ rfl HLS.out
    · exact Byt.some _ _ (by have := HFL.out; unfold maxLen; omega)
  simp only [List.take_succ_cons, List.take_zero, List.drop_succ_cons, List.drop_zero]
  intro G pick hR hp1 hp2
  have p0 : ∀ u, (pick u).cell? ⟨hb, 0, none⟩ = some (.int .u8 tos) := fun u => ((hp1 u).cell HB2.out.lt (fun h => h) _).trans (HB2.out.cell 0)
  have p1 : ∀ u, (pick u).cell? ⟨hb, 1, none⟩ = some (.int .i64 len) := fun u => ((hp1 u).cell HB2.out.lt (fun h => h) _).trans (HB2.out.cell 1)
  have p2 : ∀ u, (pick u).cell? ⟨hb, 2, none⟩ = some (.int .u16 id) := fun u => ((hp1 u).cell HB2.out.lt (fun h => h) _).trans (HB2.out.cell 2)
  have p3 : ∀ u, (pick u).cell? ⟨hb, 3, none⟩ = some (.bool false) := fun u => ((hp1 u).cell HB2.out.lt (fun h => h) _).trans (HB2.out.cell 3)
  have p4 : ∀ u, (pick u).cell? ⟨hb, 4, none⟩ = some (.bool true) := fun u => ((hp1 u).cell HB2.out.lt (fun h => h) _).trans (HB2.out.cell 4)
  have p5 : ∀ u, (pick u).cell? ⟨hb, 5, none⟩ = some (.int .i64 off) := fun u => ((hp1 u).cell HB2.out.lt (fun h => h) _).trans (HB2.out.cell 5)
  have p6 : ∀ u, (pick u).cell? ⟨hb, 6, none⟩ = some (.int .u8 ttl) := fun u => ((hp1 u).cell HB2.out.lt (fun h => h) _).trans (HB2.out.cell 6)
  have p7 : ∀ u, (pick u).cell? ⟨hb, 7, none⟩ = some (.int .u8 pr) := fun u => ((hp1 u).cell HB2.out.lt (fun h => h) _).trans (HB2.out.cell 7)
  have p8 : ∀ u, (pick u).cell? ⟨hb, 8, none⟩ = some (.int .u16 sm) := fun u => ((hp1 u).cell HB2.out.lt (fun h => h) _).trans (HB2.out.cell 8)
  have p9 : ∀ u, (pick u).cell? ⟨hb, 9, none⟩ = some (.bool false) := fun u => ((hp1 u).cell HB2.out.lt (fun h => h) _).trans (HB2.out.cell 9)
  have p10 : ∀ u, (pick u).cell? ⟨hb, 10, none⟩ = some (.int .u64 0) := fun u => ((hp1 u).cell HB2.out.lt (fun h => h) _).trans (HB2.out.cell 10)
  have p11 : ∀ u, (pick u).cell? ⟨hb, 11, none⟩ = some (.int .u64 src) := fun u => ((hp1 u).cell HB2.out.lt (fun h => h) _).trans (HB2.out.cell 11)
  have p12 : ∀ u, (pick u).cell? ⟨hb, 12, none⟩ = some (.bool false) := fun u => ((hp1 u).cell HB2.out.lt (fun h => h) _).trans (HB2.out.cell 12)
  have p13 : ∀ u, (pick u).cell? ⟨hb, 13, none⟩ = some (.int .u64 0) := fun u => ((hp1 u).cell HB2.out.lt (fun h => h) _).trans (HB2.out.cell 13)
  have p14 : ∀ u, (pick u).cell? ⟨hb, 14, none⟩ = some (.int .u64 dst) := fun u => ((hp1 u).cell HB2.out.lt (fun h => h) _).trans (HB2.out.cell 14)
  have p15 : ∀ u, (pick u).cell? ⟨hb, 15, none⟩ = some (.slice OA n oc) := fun u => ((hp1 u).cell HB2.out.lt (fun h => h) _).trans (HB2.out.cell 15)
  repeat (first | (refine wpR_det hp2 rfl ((hR.rel _).trans rfl) rfl ?_; intro K hK; go_big_quiet_op; go_big_quiet_on) | (refine wpR_ptr hp2 rfl ((hR.rel _).trans rfl) rfl rfl ?_; intro K hK; go_big_quiet_op; go_big_quiet_on) | (refine wpR_skip pick rfl ?_; intro K hK; go_big_quiet_op; go_big_quiet_on))
  refine wpR_rel pick rfl ((hR.rel _).trans rfl) ((hR.turns _).trans rfl) ?_ ?_
  · intro u hu
    have hk := hR.since hu.1
    have hks := hk.size
    have hz := refB_any 2 (len) u (by omega) (by omega) (by omega)
    unfold relAt
    go_simp
    refine hz.mono ?_
    rintro e w' ⟨v, rfl, hT, hb'⟩
    exact ⟨_, rfl, hR.intoB hb', hR.put 0 rfl rfl hT⟩
  intro v hv
  obtain ⟨u, _, hu⟩ := hv
  obtain ⟨A4, c4, rfl, -, -, -⟩ := hR.get 0 rfl hu
  clear hu
  rw [digs_length]
  intro K hK
  go_big_quiet_op
  go_big_quiet_on
  repeat (first | (refine wpR_det hp2 rfl ((hR.rel _).trans rfl) rfl ?_; intro K hK; go_big_quiet_op; go_big_quiet_on) | (refine wpR_ptr hp2 rfl ((hR.rel _).trans rfl) rfl rfl ?_; intro K hK; go_big_quiet_op; go_big_quiet_on) | (refine wpR_skip pick rfl ?_; intro K hK; go_big_quiet_op; go_big_quiet_on))
  refine wpR_rel pick rfl ((hR.rel _).trans rfl) ((hR.turns _).trans rfl) ?_ ?_
  · intro u hu
    have hk := hR.since hu.1
    have hks := hk.size
    have hz := refB_any 2 (id) u (by omega) (by omega) (by omega)
    unfold relAt
    go_simp
    refine hz.mono ?_
    rintro e w' ⟨v, rfl, hT, hb'⟩
    exact ⟨_, rfl, hR.intoB hb', hR.put 1 rfl rfl hT⟩
  intro v hv
  obtain ⟨u, _, hu⟩ := hv
  obtain ⟨A8, c8, rfl, -, -, -⟩ := hR.get 1 rfl hu
  clear hu
  rw [digs_length]
  intro K hK
  go_big_quiet_op
  go_big_quiet_on
  repeat (first | (refine wpR_det hp2 rfl ((hR.rel _).trans rfl) rfl ?_; intro K hK; go_big_quiet_op; go_big_quiet_on) | (refine wpR_ptr hp2 rfl ((hR.rel _).trans rfl) rfl rfl ?_; intro K hK; go_big_quiet_op; go_big_quiet_on) | (refine wpR_skip pick rfl ?_; intro K hK; go_big_quiet_op; go_big_quiet_on))
  refine wpR_rel pick rfl ((hR.rel _).trans rfl) ((hR.turns _).trans rfl) ?_ ?_
  · intro u hu
    have hk := hR.since hu.1
    have hks := hk.size
    have hz := refB_any 2 (off + 8192) u (by omega) (by omega) (by omega)
    unfold relAt
    go_simp
    refine hz.mono ?_
    rintro e w' ⟨v, rfl, hT, hb'⟩
    exact ⟨_, rfl, hR.intoB hb', hR.put 2 rfl rfl hT⟩
  intro v hv
  obtain ⟨u, _, hu⟩ := hv
  obtain ⟨A10, c10, rfl, -, -, -⟩ := hR.get 2 rfl hu
  clear hu
  rw [digs_length]
  intro K hK
  go_big_quiet_op
  go_big_quiet_on
  repeat (first | (refine wpR_det hp2 rfl ((hR.rel _).trans rfl) rfl ?_; intro K hK; go_big_quiet_op; go_big_quiet_on) | (refine wpR_ptr hp2 rfl ((hR.rel _).trans rfl) rfl rfl ?_; intro K hK; go_big_quiet_op; go_big_quiet_on) | (refine wpR_skip pick rfl ?_; intro K hK; go_big_quiet_op; go_big_quiet_on))
  refine wpR_rel pick rfl ((hR.rel _).trans rfl) ((hR.turns _).trans rfl) ?_ ?_
  · intro u hu
    have hk := hR.since hu.1
    have hks := hk.size
    unfold relAt
    go_simp
    refine ⟨hR.into0 ((Kept.refl _ _).alloc _), hR.put 3 rfl rfl ?_⟩
    exact byt4 HX4.out
  intro v hv
  obtain ⟨u, _, hu⟩ := hv
  obtain hx15 := hR.get 3 rfl hu
  clear hu
  obtain ⟨A15, c15, hv15, -, -, -⟩ := hx15
  rw [HX4L.out] at hv15
  subst hv15
  intro K hK
  go_big_quiet_op
  go_big_quiet_on
  repeat (first | (refine wpR_det hp2 rfl ((hR.rel _).trans rfl) rfl ?_; intro K hK; go_big_quiet_op; go_big_quiet_on) | (refine wpR_ptr hp2 rfl ((hR.rel _).trans rfl) rfl rfl ?_; intro K hK; go_big_quiet_op; go_big_quiet_on) | (refine wpR_skip pick rfl ?_; intro K hK; go_big_quiet_op; go_big_quiet_on))
  refine wpR_rel pick rfl ((hR.rel _).trans rfl) ((hR.turns _).trans rfl) ?_ ?_
  · intro u hu
    have hk := hR.since hu.1
    have hks := hk.size
    have hz := refV4_any src s0 s1 u
    unfold relAt
    go_simp
    refine hz.mono ?_
    rintro e w' ⟨v, rfl, hT, hb'⟩
    exact ⟨_, rfl, hR.intoB hb', hR.put 4 rfl rfl hT⟩
  intro v hv
  obtain ⟨u, _, hu⟩ := hv
  obtain ⟨A18, c18, rfl, -, -, -⟩ := hR.get 4 rfl hu
  clear hu
  rw [digs_length]
  intro K hK
  go_big_quiet_op
  go_big_quiet_on
  repeat (first | (refine wpR_det hp2 rfl ((hR.rel _).trans rfl) rfl ?_; intro K hK; go_big_quiet_op; go_big_quiet_on) | (refine wpR_ptr hp2 rfl ((hR.rel _).trans rfl) rfl rfl ?_; intro K hK; go_big_quiet_op; go_big_quiet_on) | (refine wpR_skip pick rfl ?_; intro K hK; go_big_quiet_op; go_big_quiet_on))
  refine wpR_rel pick rfl ((hR.rel _).trans rfl) ((hR.turns _).trans rfl) ?_ ?_
  · intro u hu
    have hk := hR.since hu.1
    have hks := hk.size
    have hz := refV4_any dst d0 d1 u
    unfold relAt
    go_simp
    refine hz.mono ?_
    rintro e w' ⟨v, rfl, hT, hb'⟩
    exact ⟨_, rfl, hR.intoB hb', hR.put 5 rfl rfl hT⟩
  intro v hv
  obtain ⟨u, _, hu⟩ := hv
  obtain ⟨A21, c21, rfl, -, -, -⟩ := hR.get 5 rfl hu
  clear hu
  rw [digs_length]
  intro K hK
  go_big_quiet_op
  go_big_quiet_on
  repeat (first | (refine wpR_det hp2 rfl ((hR.rel _).trans rfl) rfl ?_; intro K hK; go_big_quiet_op; go_big_quiet_on) | (refine wpR_ptr hp2 rfl ((hR.rel _).trans rfl) rfl rfl ?_; intro K hK; go_big_quiet_op; go_big_quiet_on) | (refine wpR_skip pick rfl ?_; intro K hK; go_big_quiet_op; go_big_quiet_on))
  refine wpR_rel pick rfl ((hR.rel _).trans rfl) ((hR.turns _).trans rfl) ?_ ?_
  · intro u hu
    have hk := hR.since hu.1
    have hks := hk.size
    have b0 := (hR.get 0 rfl (hu.2 _ _ (Got.upd_old (Got.upd_old (Got.upd_old (Got.upd_old (Got.upd_old (Got.upd_self _ _ _) rfl) rfl) rfl) rfl) rfl) (by kernel_rfl)))
    have b1 := (hR.get 1 rfl (hu.2 _ _ (Got.upd_old (Got.upd_old (Got.upd_old (Got.upd_old (Got.upd_self _ _ _) rfl) rfl) rfl) rfl) (by kernel_rfl)))
    have b2 := (hR.get 2 rfl (hu.2 _ _ (Got.upd_old (Got.upd_old (Got.upd_old (Got.upd_self _ _ _) rfl) rfl) rfl) (by kernel_rfl)))
    have b3 := (hR.get 3 rfl (hu.2 _ _ (Got.upd_old (Got.upd_old (Got.upd_self _ _ _) rfl) rfl) (by kernel_rfl)))
    have b4 := (hR.get 4 rfl (hu.2 _ _ (Got.upd_old (Got.upd_self _ _ _) rfl) (by kernel_rfl)))
    have b5 := (hR.get 5 rfl (hu.2 _ _ (Got.upd_self _ _ _) (by kernel_rfl)))
    have hal : Al u [.slice (some ⟨g2, 0, none⟩) 2 2, .slice A4 2 c4, .slice A8 2 c8, .slice A10 2 c10, .slice A15 4 c15, .slice A18 4 c18, .slice A21 4 c21, .slice OA n oc] [L2, digs 2 (len), digs 2 (id), digs 2 (off + 8192), X4, digs 4 (src), digs 4 (dst), os] := ⟨HT2.out.on0 hk, b0, b1, b2, b3, b4, b5, HOP.out.on0 hk, trivial⟩
    clear b0 b1 b2 b3 b4 b5
    unfold relAt
    go_simp
    refine ⟨hR.into0 ((Kept.refl _ _).alloc _), hR.put 6 rfl rfl ⟨u.heap.size, [.slice (some ⟨g2, 0, none⟩) 2 2, .slice A4 2 c4, .slice A8 2 c8, .slice A10 2 c10, .slice A15 4 c15, .slice A18 4 c18, .slice A21 4 c21, .slice OA n oc], rfl, rfl, (hal.on0 ((Kept.refl _ _).alloc _)).bys (Blk.new _ _ _)⟩⟩
  intro v hv
  obtain ⟨u, _, hu⟩ := hv
  obtain ⟨gb, vsb, rfl, -, -⟩ := hR.get 6 rfl hu
  clear hu
  intro K hK
  go_big_quiet_op
  go_big_quiet_on
  repeat (first | (refine wpR_det hp2 rfl ((hR.rel _).trans rfl) rfl ?_; intro K hK; go_big_quiet_op; go_big_quiet_on) | (refine wpR_ptr hp2 rfl ((hR.rel _).trans rfl) rfl rfl ?_; intro K hK; go_big_quiet_op; go_big_quiet_on) | (refine wpR_skip pick rfl ?_; intro K hK; go_big_quiet_op; go_big_quiet_on))
  refine wpR_rel pick rfl ((hR.rel _).trans rfl) ((hR.turns _).trans rfl) ?_ ?_
  · intro u hu
    have hk := hR.since hu.1
    have hks := hk.size
    obtain ⟨g', vs', e, hn', hB⟩ := (hR.get 6 rfl (hu.2 _ _ (Got.upd_self _ _ _) (by kernel_rfl)))
    obtain rfl : gb = g' := by injection e with e; injection e with e; injection e
    have hz := refJoin_any gb 8 vs' [L2, digs 2 (len), digs 2 (id), digs 2 (off + 8192), X4, digs 4 (src), digs 4 (dst), os] u hB (by rw [hn']; omega) HFL.out
    rw [hn'] at hz
    clear hB e
    unfold relAt
    go_simp
    refine hz.mono ?_
    rintro e w' ⟨v, rfl, hT, hb'⟩
    exact ⟨_, rfl, hR.intoB hb', hR.put 7 rfl rfl hT⟩
  intro v hv
  obtain ⟨u, _, hu⟩ := hv
  obtain hT := hR.get 7 rfl hu
  clear hu
  clear hT
  intro K hK
  go_big_quiet_op
  go_big_quiet_on
  repeat (first | (refine wpR_det hp2 rfl ((hR.rel _).trans rfl) rfl ?_; intro K hK; go_big_quiet_op; go_big_quiet_on) | (refine wpR_ptr hp2 rfl ((hR.rel _).trans rfl) rfl rfl ?_; intro K hK; go_big_quiet_op; go_big_quiet_on) | (refine wpR_skip pick rfl ?_; intro K hK; go_big_quiet_op; go_big_quiet_on))
  refine wpR_nil ?_
  intro w9 hk2 hF hM
  have HZ0 := Lib.hid ((hR.get 7 rfl (hF _ _ (Got.upd_self _ _ _))))
  have HK9 := Lib.hid (HK2.out.trans hk2)
  clear hF hM hk2 hp1 hp2 hR p0 p1 p2 p3 p4 p5 p6 p7 p8 p9 p10 p11 p12 p13 p14 p15
  rw [← HPR.out] at HZ0
  have hz := HZ0.out
  have HPL := Lib.hid (show (⟨tos, len, id, false, true, off, ttl, pr, sm, src, dst, os⟩ : Hd).pre.length = 20 + n by rw [HPR.out, HFN.out])
  obtain ⟨L, hL⟩ : ∃ L, (⟨tos, len, id, false, true, off, ttl, pr, sm, src, dst, os⟩ : Hd).pre = L := ⟨_, rfl⟩
  have HL := Lib.hid hL
  rw [hL] at hz HPL
  clear hL HZ0 HPR
  obtain ⟨AJ, cJ, rfl, -, -, hbs⟩ := hz
  rw [HPL.out]
  have HJ := Lib.hid hbs
  clear hbs
  go_wp2_with fail
  refine (refOf_len cJ w9.heap.size AJ L (20 + n) HPL.out (by omega) w9 (by omega) HJ.out).mono ?_
  rintro e w10 ⟨rfl, rfl⟩
  have hr := norm_range (total true L)
  obtain ⟨r, hN⟩ : ∃ r, 65535 - norm (total true L) = r := ⟨_, rfl⟩
  have r0 : 0 ≤ r := by omega
  have r1 : r ≤ 65535 := by omega
  rw [hN]
  have HCK := Lib.hid (show (⟨tos, len, id, false, true, off, ttl, pr, sm, src, dst, os⟩ : Hd).ck = r by unfold Hd.ck; rw [HL.out, hN])
  clear hr hN
  go_wp2_with fail
  refine (refB_any 2 r w9 (by omega) (by omega) (by omega)).mono ?_
  rintro e w11 ⟨v11, rfl, ⟨A11, c11, hv11, -, -, hb11⟩, hbw⟩
  rw [digs_length] at hv11
  subst hv11
  have HB11 := Lib.hid hb11
  have HK11 := Lib.hid (HK9.out.trans (Kept.ofB (S := fun _ => False) hbw))
  have HJ11 := Lib.hid (HJ.out.onB hbw (Nat.le_refl _))
  clear hb11 hbw
  go_wp2_with fail
  have hz := refSetRow_any AJ A11 cJ c11 10 L (digs 2 r) w11 (by rw [HPL.out]; omega) HJ11.out HB11.out (by rw [HPL.out, digs_length]; omega) (by rw [digs_length]; omega)
  rw [HPL.out, digs_length, over_fin] at hz
  refine hz.mono ?_
  clear hz
  rintro e w12 ⟨v12, rfl, hy, hbw⟩
  have HY12 := Lib.hid (hy.more (show w.heap.size ≤ w11.heap.size from Nat.le_trans HS1.out HK11.out.size))
  have HK12 := Lib.hid (HK11.out.trans (Kept.ofB (S := fun _ => False) hbw))
  clear hy hbw
  go_wp2_with fail
  go_ret
  refine ⟨_, rfl, ?_, HKW.out.trans (HK12.out.below HS1.out (fun _ h => h.elim))⟩
  unfold Hd.bytes
  rw [HL.out, HCK.out]
  exact HY12.out
set_option maxRecDepth 100000 in
set_option maxHeartbeats 4000000 in
theorem refBytesH_tf (tos len id : Int) (off ttl pr sm src dst : Int) (OA : Option Addr) (n oc : Nat) (os : List UInt8) (hn : os.length = n) (n40 : n ≤ 40) (n4 : n % 4 = 0) (t0 : 0 ≤ tos) (t1 : tos ≤ 255) (i0 : 0 ≤ id) (i1 : id ≤ 65535) (l0 : 20 + (n : Int) ≤ len) (l1 : len ≤ 65535) (o0 : 0 ≤ off) (o1 : off ≤ 8191) (x0 : 0 ≤ ttl) (x1 : ttl ≤ 255) (p0 : 0 ≤ pr) (p1 : pr ≤ 255) (s0 : 0 ≤ src) (s1 : src ≤ 4294967295) (d0 : 0 ≤ dst) (d1 : dst ≤ 4294967295) (w : World) (hoc : n ≤ oc ∧ oc ≤ maxLen) (hbs : BS w w.heap.size OA os) :
    Calls Try.prog 24 #[.agg #[.int .u8 tos, .int .i64 len, .int .u16 id, .bool true, .bool false, .int .i64 off, .int .u8 ttl, .int .u8 pr, .int .u16 sm, .bool false, .int .u64 0, .int .u64 src, .bool false, .int .u64 0, .int .u64 dst, .slice OA n oc]] w fun e w' => ∃ v, e = .returned v ∧ Row w' w.heap.size 5 v (bcs (⟨tos, len, id, true, false, off, ttl, pr, sm, src, dst, os⟩ : Hd).bytes) ∧ Below w.heap.size w w' := by
  have HY2 := Lib.hid hn
  have HOC := Lib.hid hoc
  have HBS := Lib.hid hbs
  clear hbs hn hoc
  go_enter Try.func24, Try.ntmps24
  go_upto_region 1 with fail
  obtain ⟨w1, hw1⟩ : ∃ w1 : World, w1 = w.alloc (.cells #[.int .u8 tos, .int .i64 len, .int .u16 id, .bool true, .bool false, .int .i64 off, .int .u8 ttl, .int .u8 pr, .int .u16 sm, .bool false, .int .u64 0, .int .u64 src, .bool false, .int .u64 0, .int .u64 dst, .slice OA n oc] 41) := ⟨_, rfl⟩
  have HB0 := Lib.hid (show Blk w1 w.heap.size 41 #[.int .u8 tos, .int .i64 len, .int .u16 id, .bool true, .bool false, .int .i64 off, .int .u8 ttl, .int .u8 pr, .int .u16 sm, .bool false, .int .u64 0, .int .u64 src, .bool false, .int .u64 0, .int .u64 dst, .slice OA n oc] by rw [hw1]; exact Blk.new _ _ _)
  have HKW := Lib.hid (show Below w.heap.size w w1 by rw [hw1]; exact (Below.refl _ _).alloc (Nat.le_refl _) _)
  have HS1 := Lib.hid (show w.heap.size ≤ w1.heap.size by rw [hw1]; simp)
  rw [← hw1]
  clear hw1
  obtain ⟨hb, hhb⟩ : ∃ hb, w.heap.size = hb := ⟨_, rfl⟩
  have HB : Hid (Blk w1 hb 41 #[.int .u8 tos, .int .i64 len, .int .u16 id, .bool true, .bool false, .int .i64 off, .int .u8 ttl, .int .u8 pr, .int .u16 sm, .bool false, .int .u64 0, .int .u64 src, .bool false, .int .u64 0, .int .u64 dst, .slice OA n oc]) := Lib.hid (by rw [← hhb]; exact HB0.out)
  rw [hhb]
  clear HB0 hhb
  have cB := HB.out.cell
  have lB := HB.out.lt
  go_upto_region 7 with fail
  obtain ⟨a69, ha69⟩ : ∃ a69 : Int, 69 + (n : Int) / 4 = a69 := ⟨_, rfl⟩
  rw [ha69]
  have a0 : 0 ≤ a69 := by omega
  have a1 : a69 ≤ 255 := by omega
  have HA69 := Lib.hid (show 64 + (20 + (n : Int)) / 4 = a69 by omega)
  clear ha69
  obtain ⟨w2, hw2⟩ : ∃ w2 : World, w2 = w1.alloc (.cells #[.int .u8 a69, .int .u8 tos] 5) := ⟨_, rfl⟩
  have HT := Lib.hid (show Blk w2 w1.heap.size 5 #[.int .u8 a69, .int .u8 tos] by rw [hw2]; exact Blk.new _ _ _)
  have HK2 := Lib.hid (show Kept (fun _ => False) w1 w2 by rw [hw2]; exact (Kept.refl _ _).alloc _)
  rw [← hw2]
  clear hw2 cB lB
  obtain ⟨g2, hg2⟩ : ∃ g2, w1.heap.size = g2 := ⟨_, rfl⟩
  rw [hg2] at HT ⊢
  clear hg2
  have HB2 := Lib.hid (HB.out.kept HK2.out (fun h => h))
  obtain ⟨L2, hL2⟩ : ∃ L2 : List UInt8, L2 = [b8 a69, b8 tos] := ⟨_, rfl⟩
  obtain ⟨X4, hX4⟩ : ∃ X4 : List UInt8, X4 = [b8 ttl, b8 pr, 0, 0] := ⟨_, rfl⟩
  have HL2 := Lib.hid hL2
  have HX4E := Lib.hid hX4
  have HT2 := Lib.hid (show Byt w2 (.slice (some ⟨g2, 0, none⟩) 2 2) L2 from by
    have hz := byt_two (g := g2) a0 a1 t0 t1 HT.out
    rw [hL2]; exact hz)
  have HX4 := Lib.hid (show (bcs X4) = [.int .u8 ttl, .int .u8 pr, .int .u8 0, .int .u8 0] by rw [hX4]; simp [bcs, b8_val, Int.emod_eq_of_lt x0 (by omega : ttl < 256), Int.emod_eq_of_lt p0 (by omega : pr < 256)])
  have HX4L := Lib.hid (show X4.length = 4 by rw [hX4]; rfl)
  have HL2L := Lib.hid (show L2.length = 2 by rw [hL2]; rfl)
  clear hL2 hX4
  have HOP := Lib.hid (show Byt w2 (.slice OA n oc) os from ⟨OA, oc, by rw [HY2.out], by rw [HY2.out]; exact HOC.out.1, HOC.out.2, (HBS.out.onB HKW.out (Nat.le_refl _)).on HK2.out (fun _ _ h => h)⟩)
  have HLS := Lib.hid (show ∀ l ∈ [L2, digs 2 (len), digs 2 (id), digs 2 (off + 16384), X4, digs 4 (src), digs 4 (dst), os], l.length ≤ maxLen by
    intro l hl
    simp only [List.mem_cons, List.not_mem_nil, or_false] at hl
    unfold maxLen
    rcases hl with rfl | rfl | rfl | rfl | rfl | rfl | rfl | rfl
    · rw [HL2L.out]; omega
    · rw [digs_length]; omega
    · rw [digs_length]; omega
    · rw [digs_length]; omega
    · rw [HX4L.out]; omega
    · rw [digs_length]; omega
    · rw [digs_length]; omega
    · rw [HY2.out]; omega)
  have HFN := Lib.hid (show ([L2, digs 2 (len), digs 2 (id), digs 2 (off + 16384), X4, digs 4 (src), digs 4 (dst), os] : List (List UInt8)).flatten.length = 20 + n by simp [digs_length, HL2L.out, HX4L.out, HY2.out]; omega)
  have HFL := Lib.hid (show ([L2, digs 2 (len), digs 2 (id), digs 2 (off + 16384), X4, digs 4 (src), digs 4 (dst), os] : List (List UInt8)).flatten.length ≤ 1000000 by rw [HFN.out]; omega)
  have HPR := Lib.hid (show (⟨tos, len, id, true, false, off, ttl, pr, sm, src, dst, os⟩ : Hd).pre = ([L2, digs 2 (len), digs 2 (id), digs 2 (off + 16384), X4, digs 4 (src), digs 4 (dst), os] : List (List UInt8)).flatten by
    simp [Hd.pre, Hd.parts, Hd.place, Hd.size, HY2.out, HL2.out, HX4E.out, HA69.out, digs]; decide)
  refine wp_region_kept 26 [(4, fun v u => Byt u v (digs 2 (len))), (8, fun v u => Byt u v (digs 2 (id))), (10, fun v u => Byt u v (digs 2 (off + 16384))), (15, fun v u => Byt u v X4), (18, fun v u => Byt u v (digs 4 (src))), (21, fun v u => Byt u v (digs 4 (dst))), (24, fun v u => BysN 8 u v [L2, digs 2 (len), digs 2 (id), digs 2 (off + 16384), X4, digs 4 (src), digs 4 (dst), os]), (25, fun v u => Byt u v ([L2, digs 2 (len), digs 2 (id), digs 2 (off + 16384), X4, digs 4 (src), digs 4 (dst), os]).flatten)] ?st ?ne rfl (by kernel_rfl) (by kernel_rfl) ?_
  case st =>
    intro p hp
    simp only [List.mem_cons, List.not_mem_nil, or_false] at hp
    rcases hp with rfl | rfl | rfl | rfl | rfl | rfl | rfl | rfl
    · intro v u u' h hk; exact h.on0 hk
    · intro v u u' h hk; exact h.on0 hk
    · intro v u u' h hk; exact h.on0 hk
    · intro v u u' h hk; exact h.on0 hk
    · intro v u u' h hk; exact h.on0 hk
    · intro v u u' h hk; exact h.on0 hk
    · intro v u u' h hk; exact h.on0 hk
    · intro v u u' h hk; exact h.on0 hk
  case ne =>
    intro p hp
    simp only [List.mem_cons, List.not_mem_nil, or_false] at hp
    rcases hp with rfl | rfl | rfl | rfl | rfl | rfl | rfl | rfl
    · exact Byt.some _ _ (by rw [digs_length]; unfold maxLen; omega)
    · exact Byt.some _ _ (by rw [digs_length]; unfold maxLen; omega)
    · exact Byt.some _ _ (by rw [digs_length]; unfold maxLen; omega)
    · exact Byt.some _ _ (by rw [HX4L.out]; unfold maxLen; omega)
    · exact Byt.some _ _ (by rw [digs_length]; unfold maxLen; omega)
    · exact Byt.some _ _ (by rw [digs_length]; unfold maxLen; omega)
    · exact BysN.some _ _ _ rfl HLS.out
    · exact Byt.some _ _ (by have := HFL.out; unfold maxLen; omega)
  simp only [List.take_succ_cons, List.take_zero, List.drop_succ_cons, List.drop_zero]
  intro G pick hR hp1 hp2
  have p0 : ∀ u, (pick u).cell? ⟨hb, 0, none⟩ = some (.int .u8 tos) := fun u => ((hp1 u).cell HB2.out.lt (fun h => h) _).trans (HB2.out.cell 0)
  have p1 : ∀ u, (pick u).cell? ⟨hb, 1, none⟩ = some (.int .i64 len) := fun u => ((hp1 u).cell HB2.out.lt (fun h => h) _).trans (HB2.out.cell 1)
  have p2 : ∀ u, (pick u).cell? ⟨hb, 2, none⟩ = some (.int .u16 id) := fun u => ((hp1 u).cell HB2.out.lt (fun h => h) _).trans (HB2.out.cell 2)
  have p3 : ∀ u, (pick u).cell? ⟨hb, 3, none⟩ = some (.bool true) := fun u => ((hp1 u).cell HB2.out.lt (fun h => h) _).trans (HB2.out.cell 3)
  have p4 : ∀ u, (pick u).cell? ⟨hb, 4, none⟩ = some (.bool false) := fun u => ((hp1 u).cell HB2.out.lt (fun h => h) _).trans (HB2.out.cell 4)
  have p5 : ∀ u, (pick u).cell? ⟨hb, 5, none⟩ = some (.int .i64 off) := fun u => ((hp1 u).cell HB2.out.lt (fun h => h) _).trans (HB2.out.cell 5)
  have p6 : ∀ u, (pick u).cell? ⟨hb, 6, none⟩ = some (.int .u8 ttl) := fun u => ((hp1 u).cell HB2.out.lt (fun h => h) _).trans (HB2.out.cell 6)
  have p7 : ∀ u, (pick u).cell? ⟨hb, 7, none⟩ = some (.int .u8 pr) := fun u => ((hp1 u).cell HB2.out.lt (fun h => h) _).trans (HB2.out.cell 7)
  have p8 : ∀ u, (pick u).cell? ⟨hb, 8, none⟩ = some (.int .u16 sm) := fun u => ((hp1 u).cell HB2.out.lt (fun h => h) _).trans (HB2.out.cell 8)
  have p9 : ∀ u, (pick u).cell? ⟨hb, 9, none⟩ = some (.bool false) := fun u => ((hp1 u).cell HB2.out.lt (fun h => h) _).trans (HB2.out.cell 9)
  have p10 : ∀ u, (pick u).cell? ⟨hb, 10, none⟩ = some (.int .u64 0) := fun u => ((hp1 u).cell HB2.out.lt (fun h => h) _).trans (HB2.out.cell 10)
  have p11 : ∀ u, (pick u).cell? ⟨hb, 11, none⟩ = some (.int .u64 src) := fun u => ((hp1 u).cell HB2.out.lt (fun h => h) _).trans (HB2.out.cell 11)
  have p12 : ∀ u, (pick u).cell? ⟨hb, 12, none⟩ = some (.bool false) := fun u => ((hp1 u).cell HB2.out.lt (fun h => h) _).trans (HB2.out.cell 12)
  have p13 : ∀ u, (pick u).cell? ⟨hb, 13, none⟩ = some (.int .u64 0) := fun u => ((hp1 u).cell HB2.out.lt (fun h => h) _).trans (HB2.out.cell 13)
  have p14 : ∀ u, (pick u).cell? ⟨hb, 14, none⟩ = some (.int .u64 dst) := fun u => ((hp1 u).cell HB2.out.lt (fun h => h) _).trans (HB2.out.cell 14)
  have p15 : ∀ u, (pick u).cell? ⟨hb, 15, none⟩ = some (.slice OA n oc) := fun u => ((hp1 u).cell HB2.out.lt (fun h => h) _).trans (HB2.out.cell 15)
  repeat (first | (refine wpR_det hp2 rfl ((hR.rel _).trans rfl) rfl ?_; intro K hK; go_big_quiet_op; go_big_quiet_on) | (refine wpR_ptr hp2 rfl ((hR.rel _).trans rfl) rfl rfl ?_; intro K hK; go_big_quiet_op; go_big_quiet_on) | (refine wpR_skip pick rfl ?_; intro K hK; go_big_quiet_op; go_big_quiet_on))
  refine wpR_rel pick rfl ((hR.rel _).trans rfl) ((hR.turns _).trans rfl) ?_ ?_
  · intro u hu
    have hk := hR.since hu.1
    have hks := hk.size
    have hz := refB_any 2 (len) u (by omega) (by omega) (by omega)
    unfold relAt
    go_simp
    refine hz.mono ?_
    rintro e w' ⟨v, rfl, hT, hb'⟩
    exact ⟨_, rfl, hR.intoB hb', hR.put 0 rfl rfl hT⟩
  intro v hv
  obtain ⟨u, _, hu⟩ := hv
  obtain ⟨A4, c4, rfl, -, -, -⟩ := hR.get 0 rfl hu
  clear hu
  rw [digs_length]
  intro K hK
  go_big_quiet_op
  go_big_quiet_on
  repeat (first | (refine wpR_det hp2 rfl ((hR.rel _).trans rfl) rfl ?_; intro K hK; go_big_quiet_op; go_big_quiet_on) | (refine wpR_ptr hp2 rfl ((hR.rel _).trans rfl) rfl rfl ?_; intro K hK; go_big_quiet_op; go_big_quiet_on) | (refine wpR_skip pick rfl ?_; intro K hK; go_big_quiet_op; go_big_quiet_on))
  refine wpR_rel pick rfl ((hR.rel _).trans rfl) ((hR.turns _).trans rfl) ?_ ?_
  · intro u hu
    have hk := hR.since hu.1
    have hks := hk.size
    have hz := refB_any 2 (id) u (by omega) (by omega) (by omega)
    unfold relAt
    go_simp
    refine hz.mono ?_
    rintro e w' ⟨v, rfl, hT, hb'⟩
    exact ⟨_, rfl, hR.intoB hb', hR.put 1 rfl rfl hT⟩
  intro v hv
  obtain ⟨u, _, hu⟩ := hv
  obtain ⟨A8, c8, rfl, -, -, -⟩ := hR.get 1 rfl hu
  clear hu
  rw [digs_length]
  intro K hK
  go_big_quiet_op
  go_big_quiet_on
  repeat (first | (refine wpR_det hp2 rfl ((hR.rel _).trans rfl) rfl ?_; intro K hK; go_big_quiet_op; go_big_quiet_on) | (refine wpR_ptr hp2 rfl ((hR.rel _).trans rfl) rfl rfl ?_; intro K hK; go_big_quiet_op; go_big_quiet_on) | (refine wpR_skip pick rfl ?_; intro K hK; go_big_quiet_op; go_big_quiet_on))
  refine wpR_rel pick rfl ((hR.rel _).trans rfl) ((hR.turns _).trans rfl) ?_ ?_
  · intro u hu
    have hk := hR.since hu.1
    have hks := hk.size
    have hz := refB_any 2 (off + 16384) u (by omega) (by omega) (by omega)
    unfold relAt
    go_simp
    refine hz.mono ?_
    rintro e w' ⟨v, rfl, hT, hb'⟩
    exact ⟨_, rfl, hR.intoB hb', hR.put 2 rfl rfl hT⟩
  intro v hv
  obtain ⟨u, _, hu⟩ := hv
  obtain ⟨A10, c10, rfl, -, -, -⟩ := hR.get 2 rfl hu
  clear hu
  rw [digs_length]
  intro K hK
  go_big_quiet_op
  go_big_quiet_on
  repeat (first | (refine wpR_det hp2 rfl ((hR.rel _).trans rfl) rfl ?_; intro K hK; go_big_quiet_op; go_big_quiet_on) | (refine wpR_ptr hp2 rfl ((hR.rel _).trans rfl) rfl rfl ?_; intro K hK; go_big_quiet_op; go_big_quiet_on) | (refine wpR_skip pick rfl ?_; intro K hK; go_big_quiet_op; go_big_quiet_on))
  refine wpR_rel pick rfl ((hR.rel _).trans rfl) ((hR.turns _).trans rfl) ?_ ?_
  · intro u hu
    have hk := hR.since hu.1
    have hks := hk.size
    unfold relAt
    go_simp
    refine ⟨hR.into0 ((Kept.refl _ _).alloc _), hR.put 3 rfl rfl ?_⟩
    exact byt4 HX4.out
  intro v hv
  obtain ⟨u, _, hu⟩ := hv
  obtain hx15 := hR.get 3 rfl hu
  clear hu
  obtain ⟨A15, c15, hv15, -, -, -⟩ := hx15
  rw [HX4L.out] at hv15
  subst hv15
  intro K hK
  go_big_quiet_op
  go_big_quiet_on
  repeat (first | (refine wpR_det hp2 rfl ((hR.rel _).trans rfl) rfl ?_; intro K hK; go_big_quiet_op; go_big_quiet_on) | (refine wpR_ptr hp2 rfl ((hR.rel _).trans rfl) rfl rfl ?_; intro K hK; go_big_quiet_op; go_big_quiet_on) | (refine wpR_skip pick rfl ?_; intro K hK; go_big_quiet_op; go_big_quiet_on))
  refine wpR_rel pick rfl ((hR.rel _).trans rfl) ((hR.turns _).trans rfl) ?_ ?_
  · intro u hu
    have hk := hR.since hu.1
    have hks := hk.size
    have hz := refV4_any src s0 s1 u
    unfold relAt
    go_simp
    refine hz.mono ?_
    rintro e w' ⟨v, rfl, hT, hb'⟩
    exact ⟨_, rfl, hR.intoB hb', hR.put 4 rfl rfl hT⟩
  intro v hv
  obtain ⟨u, _, hu⟩ := hv
  obtain ⟨A18, c18, rfl, -, -, -⟩ := hR.get 4 rfl hu
  clear hu
  rw [digs_length]
  intro K hK
  go_big_quiet_op
  go_big_quiet_on
  repeat (first | (refine wpR_det hp2 rfl ((hR.rel _).trans rfl) rfl ?_; intro K hK; go_big_quiet_op; go_big_quiet_on) | (refine wpR_ptr hp2 rfl ((hR.rel _).trans rfl) rfl rfl ?_; intro K hK; go_big_quiet_op; go_big_quiet_on) | (refine wpR_skip pick rfl ?_; intro K hK; go_big_quiet_op; go_big_quiet_on))
  refine wpR_rel pick rfl ((hR.rel _).trans rfl) ((hR.turns _).trans rfl) ?_ ?_
  · intro u hu
    have hk := hR.since hu.1
    have hks := hk.size
    have hz := refV4_any dst d0 d1 u
    unfold relAt
    go_simp
    refine hz.mono ?_
    rintro e w' ⟨v, rfl, hT, hb'⟩
    exact ⟨_, rfl, hR.intoB hb', hR.put 5 rfl rfl hT⟩
  intro v hv
  obtain ⟨u, _, hu⟩ := hv
  obtain ⟨A21, c21, rfl, -, -, -⟩ := hR.get 5 rfl hu
  clear hu
  rw [digs_length]
  intro K hK
  go_big_quiet_op
  go_big_quiet_on
  repeat (first | (refine wpR_det hp2 rfl ((hR.rel _).trans rfl) rfl ?_; intro K hK; go_big_quiet_op; go_big_quiet_on) | (refine wpR_ptr hp2 rfl ((hR.rel _).trans rfl) rfl rfl ?_; intro K hK; go_big_quiet_op; go_big_quiet_on) | (refine wpR_skip pick rfl ?_; intro K hK; go_big_quiet_op; go_big_quiet_on))
  refine wpR_rel pick rfl ((hR.rel _).trans rfl) ((hR.turns _).trans rfl) ?_ ?_
  · intro u hu
    have hk := hR.since hu.1
    have hks := hk.size
    have b0 := (hR.get 0 rfl (hu.2 _ _ (Got.upd_old (Got.upd_old (Got.upd_old (Got.upd_old (Got.upd_old (Got.upd_self _ _ _) rfl) rfl) rfl) rfl) rfl) (by kernel_rfl)))
    have b1 := (hR.get 1 rfl (hu.2 _ _ (Got.upd_old (Got.upd_old (Got.upd_old (Got.upd_old (Got.upd_self _ _ _) rfl) rfl) rfl) rfl) (by kernel_rfl)))
    have b2 := (hR.get 2 rfl (hu.2 _ _ (Got.upd_old (Got.upd_old (Got.upd_old (Got.upd_self _ _ _) rfl) rfl) rfl) (by kernel_rfl)))
    have b3 := (hR.get 3 rfl (hu.2 _ _ (Got.upd_old (Got.upd_old (Got.upd_self _ _ _) rfl) rfl) (by kernel_rfl)))
    have b4 := (hR.get 4 rfl (hu.2 _ _ (Got.upd_old (Got.upd_self _ _ _) rfl) (by kernel_rfl)))
    have b5 := (hR.get 5 rfl (hu.2 _ _ (Got.upd_self _ _ _) (by kernel_rfl)))
    have hal : Al u [.slice (some ⟨g2, 0, none⟩) 2 2, .slice A4 2 c4, .slice A8 2 c8, .slice A10 2 c10, .slice A15 4 c15, .slice A18 4 c18, .slice A21 4 c21, .slice OA n oc] [L2, digs 2 (len), digs 2 (id), digs 2 (off + 16384), X4, digs 4 (src), digs 4 (dst), os] := ⟨HT2.out.on0 hk, b0, b1, b2, b3, b4, b5, HOP.out.on0 hk, trivial⟩
    clear b0 b1 b2 b3 b4 b5
    unfold relAt
    go_simp
    refine ⟨hR.into0 ((Kept.refl _ _).alloc _), hR.put 6 rfl rfl ⟨u.heap.size, [.slice (some ⟨g2, 0, none⟩) 2 2, .slice A4 2 c4, .slice A8 2 c8, .slice A10 2 c10, .slice A15 4 c15, .slice A18 4 c18, .slice A21 4 c21, .slice OA n oc], rfl, rfl, (hal.on0 ((Kept.refl _ _).alloc _)).bys (Blk.new _ _ _)⟩⟩
  intro v hv
  obtain ⟨u, _, hu⟩ := hv
  obtain ⟨gb, vsb, rfl, -, -⟩ := hR.get 6 rfl hu
  clear hu
  intro K hK
  go_big_quiet_op
  go_big_quiet_on
  repeat (first | (refine wpR_det hp2 rfl ((hR.rel _).trans rfl) rfl ?_; intro K hK; go_big_quiet_op; go_big_quiet_on) | (refine wpR_ptr hp2 rfl ((hR.rel _).trans rfl) rfl rfl ?_; intro K hK; go_big_quiet_op; go_big_quiet_on) | (refine wpR_skip pick rfl ?_; intro K hK; go_big_quiet_op; go_big_quiet_on))
  refine wpR_rel pick rfl ((hR.rel _).trans rfl) ((hR.turns _).trans rfl) ?_ ?_
  · intro u hu
    have hk := hR.since hu.1
    have hks := hk.size
    obtain ⟨g', vs', e, hn', hB⟩ := (hR.get 6 rfl (hu.2 _ _ (Got.upd_self _ _ _) (by kernel_rfl)))
    obtain rfl : gb = g' := by injection e with e; injection e with e; injection e
    have hz := refJoin_any gb 8 vs' [L2, digs 2 (len), digs 2 (id), digs 2 (off + 16384), X4, digs 4 (src), digs 4 (dst), os] u hB (by rw [hn']; omega) HFL.out
    rw [hn'] at hz
    clear hB e
    unfold relAt
    go_simp
    refine hz.mono ?_
    rintro e w' ⟨v, rfl, hT, hb'⟩
    exact ⟨_, rfl, hR.intoB hb', hR.put 7 rfl rfl hT⟩
  intro v hv
  obtain ⟨u, _, hu⟩ := hv
  obtain hT := hR.get 7 rfl hu
  clear hu
  clear hT
  intro K hK
  go_big_quiet_op
  go_big_quiet_on
  repeat (first | (refine wpR_det hp2 rfl ((hR.rel _).trans rfl) rfl ?_; intro K hK; go_big_quiet_op; go_big_quiet_on) | (refine wpR_ptr hp2 rfl ((hR.rel _).trans rfl) rfl rfl ?_; intro K hK; go_big_quiet_op; go_big_quiet_on) | (refine wpR_skip pick rfl ?_; intro K hK; go_big_quiet_op; go_big_quiet_on))
  refine wpR_nil ?_
  intro w9 hk2 hF hM
  have HZ0 := Lib.hid ((hR.get 7 rfl (hF _ _ (Got.upd_self _ _ _))))
  have HK9 := Lib.hid (HK2.out.trans hk2)
  clear hF hM hk2 hp1 hp2 hR p0 p1 p2 p3 p4 p5 p6 p7 p8 p9 p10 p11 p12 p13 p14 p15
  rw [← HPR.out] at HZ0
  have hz := HZ0.out
  have HPL := Lib.hid (show (⟨tos, len, id, true, false, off, ttl, pr, sm, src, dst, os⟩ : Hd).pre.length = 20 + n by rw [HPR.out, HFN.out])
  obtain ⟨L, hL⟩ : ∃ L, (⟨tos, len, id, true, false, off, ttl, pr, sm, src, dst, os⟩ : Hd).pre = L := ⟨_, rfl⟩
  have HL := Lib.hid hL
  rw [hL] at hz HPL
  clear hL HZ0 HPR
  obtain ⟨AJ, cJ, rfl, -, -, hbs⟩ := hz
  rw [HPL.out]
  have HJ := Lib.hid hbs
  clear hbs
  go_wp2_with fail
  refine (refOf_len cJ w9.heap.size AJ L (20 + n) HPL.out (by omega) w9 (by omega) HJ.out).mono ?_
  rintro e w10 ⟨rfl, rfl⟩
  have hr := norm_range (total true L)
  obtain ⟨r, hN⟩ : ∃ r, 65535 - norm (total true L) = r := ⟨_, rfl⟩
  have r0 : 0 ≤ r := by omega
  have r1 : r ≤ 65535 := by omega
  rw [hN]
  have HCK := Lib.hid (show (⟨tos, len, id, true, false, off, ttl, pr, sm, src, dst, os⟩ : Hd).ck = r by unfold Hd.ck; rw [HL.out, hN])
  clear hr hN
  go_wp2_with fail
  refine (refB_any 2 r w9 (by omega) (by omega) (by omega)).mono ?_
  rintro e w11 ⟨v11, rfl, ⟨A11, c11, hv11, -, -, hb11⟩, hbw⟩
  rw [digs_length] at hv11
  subst hv11
  have HB11 := Lib.hid hb11
  have HK11 := Lib.hid (HK9.out.trans (Kept.ofB (S := fun _ => False) hbw))
  have HJ11 := Lib.hid (HJ.out.onB hbw (Nat.le_refl _))
  clear hb11 hbw
  go_wp2_with fail
  have hz := refSetRow_any AJ A11 cJ c11 10 L (digs 2 r) w11 (by rw [HPL.out]; omega) HJ11.out HB11.out (by rw [HPL.out, digs_length]; omega) (by rw [digs_length]; omega)
  rw [HPL.out, digs_length, over_fin] at hz
  refine hz.mono ?_
  clear hz
  rintro e w12 ⟨v12, rfl, hy, hbw⟩
  have HY12 := Lib.hid (hy.more (show w.heap.size ≤ w11.heap.size from Nat.le_trans HS1.out HK11.out.size))
  have HK12 := Lib.hid (HK11.out.trans (Kept.ofB (S := fun _ => False) hbw))
  clear hy hbw
  go_wp2_with fail
  go_ret
  refine ⟨_, rfl, ?_, HKW.out.trans (HK12.out.below HS1.out (fun _ h => h.elim))⟩
  unfold Hd.bytes
  rw [HL.out, HCK.out]
  exact HY12.out
set_option maxRecDepth 100000 in
set_option maxHeartbeats 4000000 in
theorem refBytesH_tt (tos len id : Int) (off ttl pr sm src dst : Int) (OA : Option Addr) (n oc : Nat) (os : List UInt8) (hn : os.length = n) (n40 : n ≤ 40) (n4 : n % 4 = 0) (t0 : 0 ≤ tos) (t1 : tos ≤ 255) (i0 : 0 ≤ id) (i1 : id ≤ 65535) (l0 : 20 + (n : Int) ≤ len) (l1 : len ≤ 65535) (o0 : 0 ≤ off) (o1 : off ≤ 8191) (x0 : 0 ≤ ttl) (x1 : ttl ≤ 255) (p0 : 0 ≤ pr) (p1 : pr ≤ 255) (s0 : 0 ≤ src) (s1 : src ≤ 4294967295) (d0 : 0 ≤ dst) (d1 : dst ≤ 4294967295) (w : World) (hoc : n ≤ oc ∧ oc ≤ maxLen) (hbs : BS w w.heap.size OA os) :
    Calls Try.prog 24 #[.agg #[.int .u8 tos, .int .i64 len, .int .u16 id, .bool true, .bool true, .int .i64 off, .int .u8 ttl, .int .u8 pr, .int .u16 sm, .bool false, .int .u64 0, .int .u64 src, .bool false, .int .u64 0, .int .u64 dst, .slice OA n oc]] w fun e w' => ∃ v, e = .returned v ∧ Row w' w.heap.size 5 v (bcs (⟨tos, len, id, true, true, off, ttl, pr, sm, src, dst, os⟩ : Hd).bytes) ∧ Below w.heap.size w w' := by
  have HY2 := Lib.hid hn
  have HOC := Lib.hid hoc
  have HBS := Lib.hid hbs
  clear hbs hn hoc
  go_enter Try.func24, Try.ntmps24
  go_upto_region 1 with fail
  obtain ⟨w1, hw1⟩ : ∃ w1 : World, w1 = w.alloc (.cells #[.int .u8 tos, .int .i64 len, .int .u16 id, .bool true, .bool true, .int .i64 off, .int .u8 ttl, .int .u8 pr, .int .u16 sm, .bool false, .int .u64 0, .int .u64 src, .bool false, .int .u64 0, .int .u64 dst, .slice OA n oc] 41) := ⟨_, rfl⟩
  have HB0 := Lib.hid (show Blk w1 w.heap.size 41 #[.int .u8 tos, .int .i64 len, .int .u16 id, .bool true, .bool true, .int .i64 off, .int .u8 ttl, .int .u8 pr, .int .u16 sm, .bool false, .int .u64 0, .int .u64 src, .bool false, .int .u64 0, .int .u64 dst, .slice OA n oc] by rw [hw1]; exact Blk.new _ _ _)
  have HKW := Lib.hid (show Below w.heap.size w w1 by rw [hw1]; exact (Below.refl _ _).alloc (Nat.le_refl _) _)
  have HS1 := Lib.hid (show w.heap.size ≤ w1.heap.size by rw [hw1]; simp)
  rw [← hw1]
  clear hw1
  obtain ⟨hb, hhb⟩ : ∃ hb, w.heap.size = hb := ⟨_, rfl⟩
  have HB : Hid (Blk w1 hb 41 #[.int .u8 tos, .int .i64 len, .int .u16 id, .bool true, .bool true, .int .i64 off, .int .u8 ttl, .int .u8 pr, .int .u16 sm, .bool false, .int .u64 0, .int .u64 src, .bool false, .int .u64 0, .int .u64 dst, .slice OA n oc]) := Lib.hid (by rw [← hhb]; exact HB0.out)
  rw [hhb]
  clear HB0 hhb
  have cB := HB.out.cell
  have lB := HB.out.lt
  go_upto_region 7 with fail
  obtain ⟨a69, ha69⟩ : ∃ a69 : Int, 69 + (n : Int) / 4 = a69 := ⟨_, rfl⟩
  rw [ha69]
  have a0 : 0 ≤ a69 := by omega
  have a1 : a69 ≤ 255 := by omega
  have HA69 := Lib.hid (show 64 + (20 + (n : Int)) / 4 = a69 by omega)
  clear ha69
  obtain ⟨w2, hw2⟩ : ∃ w2 : World, w2 = w1.alloc (.cells #[.int .u8 a69, .int .u8 tos] 5) := ⟨_, rfl⟩
  have HT := Lib.hid (show Blk w2 w1.heap.size 5 #[.int .u8 a69, .int .u8 tos] by rw [hw2]; exact Blk.new _ _ _)
  have HK2 := Lib.hid (show Kept (fun _ => False) w1 w2 by rw [hw2]; exact (Kept.refl _ _).alloc _)
  rw [← hw2]
  clear hw2 cB lB
  obtain ⟨g2, hg2⟩ : ∃ g2, w1.heap.size = g2 := ⟨_, rfl⟩
  rw [hg2] at HT ⊢
  clear hg2
  have HB2 := Lib.hid (HB.out.kept HK2.out (fun h => h))
  obtain ⟨L2, hL2⟩ : ∃ L2 : List UInt8, L2 = [b8 a69, b8 tos] := ⟨_, rfl⟩
  obtain ⟨X4, hX4⟩ : ∃ X4 : List UInt8, X4 = [b8 ttl, b8 pr, 0, 0] := ⟨_, rfl⟩
  have HL2 := Lib.hid hL2
  have HX4E := Lib.hid hX4
  have HT2 := Lib.hid (show Byt w2 (.slice (some ⟨g2, 0, none⟩) 2 2) L2 from by
    have hz := byt_two (g := g2) a0 a1 t0 t1 HT.out
    rw [hL2]; exact hz)
  have HX4 := Lib.hid (show (bcs X4) = [.int .u8 ttl, .int .u8 pr, .int .u8 0, .int .u8 0] by rw [hX4]; simp [bcs, b8_val, Int.emod_eq_of_lt x0 (by omega : ttl < 256), Int.emod_eq_of_lt p0 (by omega : pr < 256)])
  have HX4L := Lib.hid (show X4.length = 4 by rw [hX4]; rfl)
  have HL2L := Lib.hid (show L2.length = 2 by rw [hL2]; rfl)
  clear hL2 hX4
  have HOP := Lib.hid (show Byt w2 (.slice OA n oc) os from ⟨OA, oc, by rw [HY2.out], by rw [HY2.out]; exact HOC.out.1, HOC.out.2, (HBS.out.onB HKW.out (Nat.le_refl _)).on HK2.out (fun _ _ h => h)⟩)
  have HLS := Lib.hid (show ∀ l ∈ [L2, digs 2 (len), digs 2 (id), digs 2 (off + 16384 + 8192), X4, digs 4 (src), digs 4 (dst), os], l.length ≤ maxLen by
    intro l hl
    simp only [List.mem_cons, List.not_mem_nil, or_false] at hl
    unfold maxLen
    rcases hl with rfl | rfl | rfl | rfl | rfl | rfl | rfl | rfl
    · rw [HL2L.out]; omega
    · rw [digs_length]; omega
    · rw [digs_length]; omega
    · rw [digs_length]; omega
    · rw [HX4L.out]; omega
    · rw [digs_length]; omega
    · rw [digs_length]; omega
    · rw [HY2.out]; omega)
  have HFN := Lib.hid (show ([L2, digs 2 (len), digs 2 (id), digs 2 (off + 16384 + 8192), X4, digs 4 (src), digs 4 (dst), os] : List (List UInt8)).flatten.length = 20 + n by simp [digs_length, HL2L.out, HX4L.out, HY2.out]; omega)
  have HFL := Lib.hid (show ([L2, digs 2 (len), digs 2 (id), digs 2 (off + 16384 + 8192), X4, digs 4 (src), digs 4 (dst), os] : List (List UInt8)).flatten.length ≤ 1000000 by rw [HFN.out]; omega)
  have HPR := Lib.hid (show (⟨tos, len, id, true, true, off, ttl, pr, sm, src, dst, os⟩ : Hd).pre = ([L2, digs 2 (len), digs 2 (id), digs 2 (off + 16384 + 8192), X4, digs 4 (src), digs 4 (dst), os] : List (List UInt8)).flatten by
    simp [Hd.pre, Hd.parts, Hd.place, Hd.size, HY2.out, HL2.out, HX4E.out, HA69.out, digs]; decide)
  refine wp_region_kept 26 [(4, fun v u => Byt u v (digs 2 (len))), (8, fun v u => Byt u v (digs 2 (id))), (10, fun v u => Byt u v (digs 2 (off + 16384 + 8192))), (15, fun v u => Byt u v X4), (18, fun v u => Byt u v (digs 4 (src))), (21, fun v u => Byt u v (digs 4 (dst))), (24, fun v u => BysN 8 u v [L2, digs 2 (len), digs 2 (id), digs 2 (off + 16384 + 8192), X4, digs 4 (src), digs 4 (dst), os]), (25, fun v u => Byt u v ([L2, digs 2 (len), digs 2 (id), digs 2 (off + 16384 + 8192), X4, digs 4 (src), digs 4 (dst), os]).flatten)] ?st ?ne rfl (by kernel_rfl) (by kernel_rfl) ?_
  case st =>
    intro p hp
    simp only [List.mem_cons, List.not_mem_nil, or_false] at hp
    rcases hp with rfl | rfl | rfl | rfl | rfl | rfl | rfl | rfl
    · intro v u u' h hk; exact h.on0 hk
    · intro v u u' h hk; exact h.on0 hk
    · intro v u u' h hk; exact h.on0 hk
    · intro v u u' h hk; exact h.on0 hk
    · intro v u u' h hk; exact h.on0 hk
    · intro v u u' h hk; exact h.on0 hk
    · intro v u u' h hk; exact h.on0 hk
    · intro v u u' h hk; exact h.on0 hk
  case ne =>
    intro p hp
    simp only [List.mem_cons, List.not_mem_nil, or_false] at hp
    rcases hp with rfl | rfl | rfl | rfl | rfl | rfl | rfl | rfl
    · exact Byt.some _ _ (by rw [digs_length]; unfold maxLen; omega)
    · exact Byt.some _ _ (by rw [digs_length]; unfold maxLen; omega)
    · exact Byt.some _ _ (by rw [digs_length]; unfold maxLen; omega)
    · exact Byt.some _ _ (by rw [HX4L.out]; unfold maxLen; omega)
    · exact Byt.some _ _ (by rw [digs_length]; unfold maxLen; omega)
    · exact Byt.some _ _ (by rw [digs_length]; unfold maxLen; omega)
    · exact BysN.some _ _ _ rfl HLS.out
    · exact Byt.some _ _ (by have := HFL.out; unfold maxLen; omega)
  simp only [List.take_succ_cons, List.take_zero, List.drop_succ_cons, List.drop_zero]
  intro G pick hR hp1 hp2
  have p0 : ∀ u, (pick u).cell? ⟨hb, 0, none⟩ = some (.int .u8 tos) := fun u => ((hp1 u).cell HB2.out.lt (fun h => h) _).trans (HB2.out.cell 0)
  have p1 : ∀ u, (pick u).cell? ⟨hb, 1, none⟩ = some (.int .i64 len) := fun u => ((hp1 u).cell HB2.out.lt (fun h => h) _).trans (HB2.out.cell 1)
  have p2 : ∀ u, (pick u).cell? ⟨hb, 2, none⟩ = some (.int .u16 id) := fun u => ((hp1 u).cell HB2.out.lt (fun h => h) _).trans (HB2.out.cell 2)
  have p3 : ∀ u, (pick u).cell? ⟨hb, 3, none⟩ = some (.bool true) := fun u => ((hp1 u).cell HB2.out.lt (fun h => h) _).trans (HB2.out.cell 3)
  have p4 : ∀ u, (pick u).cell? ⟨hb, 4, none⟩ = some (.bool true) := fun u => ((hp1 u).cell HB2.out.lt (fun h => h) _).trans (HB2.out.cell 4)
  have p5 : ∀ u, (pick u).cell? ⟨hb, 5, none⟩ = some (.int .i64 off) := fun u => ((hp1 u).cell HB2.out.lt (fun h => h) _).trans (HB2.out.cell 5)
  have p6 : ∀ u, (pick u).cell? ⟨hb, 6, none⟩ = some (.int .u8 ttl) := fun u => ((hp1 u).cell HB2.out.lt (fun h => h) _).trans (HB2.out.cell 6)
  have p7 : ∀ u, (pick u).cell? ⟨hb, 7, none⟩ = some (.int .u8 pr) := fun u => ((hp1 u).cell HB2.out.lt (fun h => h) _).trans (HB2.out.cell 7)
  have p8 : ∀ u, (pick u).cell? ⟨hb, 8, none⟩ = some (.int .u16 sm) := fun u => ((hp1 u).cell HB2.out.lt (fun h => h) _).trans (HB2.out.cell 8)
  have p9 : ∀ u, (pick u).cell? ⟨hb, 9, none⟩ = some (.bool false) := fun u => ((hp1 u).cell HB2.out.lt (fun h => h) _).trans (HB2.out.cell 9)
  have p10 : ∀ u, (pick u).cell? ⟨hb, 10, none⟩ = some (.int .u64 0) := fun u => ((hp1 u).cell HB2.out.lt (fun h => h) _).trans (HB2.out.cell 10)
  have p11 : ∀ u, (pick u).cell? ⟨hb, 11, none⟩ = some (.int .u64 src) := fun u => ((hp1 u).cell HB2.out.lt (fun h => h) _).trans (HB2.out.cell 11)
  have p12 : ∀ u, (pick u).cell? ⟨hb, 12, none⟩ = some (.bool false) := fun u => ((hp1 u).cell HB2.out.lt (fun h => h) _).trans (HB2.out.cell 12)
  have p13 : ∀ u, (pick u).cell? ⟨hb, 13, none⟩ = some (.int .u64 0) := fun u => ((hp1 u).cell HB2.out.lt (fun h => h) _).trans (HB2.out.cell 13)
  have p14 : ∀ u, (pick u).cell? ⟨hb, 14, none⟩ = some (.int .u64 dst) := fun u => ((hp1 u).cell HB2.out.lt (fun h => h) _).trans (HB2.out.cell 14)
  have p15 : ∀ u, (pick u).cell? ⟨hb, 15, none⟩ = some (.slice OA n oc) := fun u => ((hp1 u).cell HB2.out.lt (fun h => h) _).trans (HB2.out.cell 15)
  repeat (first | (refine wpR_det hp2 rfl ((hR.rel _).trans rfl) rfl ?_; intro K hK; go_big_quiet_op; go_big_quiet_on) | (refine wpR_ptr hp2 rfl ((hR.rel _).trans rfl) rfl rfl ?_; intro K hK; go_big_quiet_op; go_big_quiet_on) | (refine wpR_skip pick rfl ?_; intro K hK; go_big_quiet_op; go_big_quiet_on))
  refine wpR_rel pick rfl ((hR.rel _).trans rfl) ((hR.turns _).trans rfl) ?_ ?_
  · intro u hu
    have hk := hR.since hu.1
    have hks := hk.size
    have hz := refB_any 2 (len) u (by omega) (by omega) (by omega)
    unfold relAt
    go_simp
    refine hz.mono ?_
    rintro e w' ⟨v, rfl, hT, hb'⟩
    exact ⟨_, rfl, hR.intoB hb', hR.put 0 rfl rfl hT⟩
  intro v hv
  obtain ⟨u, _, hu⟩ := hv
  obtain ⟨A4, c4, rfl, -, -, -⟩ := hR.get 0 rfl hu
  clear hu
  rw [digs_length]
  intro K hK
  go_big_quiet_op
  go_big_quiet_on
  repeat (first | (refine wpR_det hp2 rfl ((hR.rel _).trans rfl) rfl ?_; intro K hK; go_big_quiet_op; go_big_quiet_on) | (refine wpR_ptr hp2 rfl ((hR.rel _).trans rfl) rfl rfl ?_; intro K hK; go_big_quiet_op; go_big_quiet_on) | (refine wpR_skip pick rfl ?_; intro K hK; go_big_quiet_op; go_big_quiet_on))
  refine wpR_rel pick rfl ((hR.rel _).trans rfl) ((hR.turns _).trans rfl) ?_ ?_
  · intro u hu
    have hk := hR.since hu.1
    have hks := hk.size
    have hz := refB_any 2 (id) u (by omega) (by omega) (by omega)
    unfold relAt
    go_simp
    refine hz.mono ?_
    rintro e w' ⟨v, rfl, hT, hb'⟩
    exact ⟨_, rfl, hR.intoB hb', hR.put 1 rfl rfl hT⟩
  intro v hv
  obtain ⟨u, _, hu⟩ := hv
  obtain ⟨A8, c8, rfl, -, -, -⟩ := hR.get 1 rfl hu
  clear hu
  rw [digs_length]
  intro K hK
  go_big_quiet_op
  go_big_quiet_on
  repeat (first | (refine wpR_det hp2 rfl ((hR.rel _).trans rfl) rfl ?_; intro K hK; go_big_quiet_op; go_big_quiet_on) | (refine wpR_ptr hp2 rfl ((hR.rel _).trans rfl) rfl rfl ?_; intro K hK; go_big_quiet_op; go_big_quiet_on) | (refine wpR_skip pick rfl ?_; intro K hK; go_big_quiet_op; go_big_quiet_on))
  refine wpR_rel pick rfl ((hR.rel _).trans rfl) ((hR.turns _).trans rfl) ?_ ?_
  · intro u hu
    have hk := hR.since hu.1
    have hks := hk.size
    have hz := refB_any 2 (off + 16384 + 8192) u (by omega) (by omega) (by omega)
    unfold relAt
    go_simp
    refine hz.mono ?_
    rintro e w' ⟨v, rfl, hT, hb'⟩
    exact ⟨_, rfl, hR.intoB hb', hR.put 2 rfl rfl hT⟩
  intro v hv
  obtain ⟨u, _, hu⟩ := hv
  obtain ⟨A10, c10, rfl, -, -, -⟩ := hR.get 2 rfl hu
  clear hu
  rw [digs_length]
  intro K hK
  go_big_quiet_op
  go_big_quiet_on
  repeat (first | (refine wpR_det hp2 rfl ((hR.rel _).trans rfl) rfl ?_; intro K hK; go_big_quiet_op; go_big_quiet_on) | (refine wpR_ptr hp2 rfl ((hR.rel _).trans rfl) rfl rfl ?_; intro K hK; go_big_quiet_op; go_big_quiet_on) | (refine wpR_skip pick rfl ?_; intro K hK; go_big_quiet_op; go_big_quiet_on))
  refine wpR_rel pick rfl ((hR.rel _).trans rfl) ((hR.turns _).trans rfl) ?_ ?_
  · intro u hu
    have hk := hR.since hu.1
    have hks := hk.size
    unfold relAt
    go_simp
    refine ⟨hR.into0 ((Kept.refl _ _).alloc _), hR.put 3 rfl rfl ?_⟩
    exact byt4 HX4.out
  intro v hv
  obtain ⟨u, _, hu⟩ := hv
  obtain hx15 := hR.get 3 rfl hu
  clear hu
  obtain ⟨A15, c15, hv15, -, -, -⟩ := hx15
  rw [HX4L.out] at hv15
  subst hv15
  intro K hK
  go_big_quiet_op
  go_big_quiet_on
  repeat (first | (refine wpR_det hp2 rfl ((hR.rel _).trans rfl) rfl ?_; intro K hK; go_big_quiet_op; go_big_quiet_on) | (refine wpR_ptr hp2 rfl ((hR.rel _).trans rfl) rfl rfl ?_; intro K hK; go_big_quiet_op; go_big_quiet_on) | (refine wpR_skip pick rfl ?_; intro K hK; go_big_quiet_op; go_big_quiet_on))
  refine wpR_rel pick rfl ((hR.rel _).trans rfl) ((hR.turns _).trans rfl) ?_ ?_
  · intro u hu
    have hk := hR.since hu.1
    have hks := hk.size
    have hz := refV4_any src s0 s1 u
    unfold relAt
    go_simp
    refine hz.mono ?_
    rintro e w' ⟨v, rfl, hT, hb'⟩
    exact ⟨_, rfl, hR.intoB hb', hR.put 4 rfl rfl hT⟩
  intro v hv
  obtain ⟨u, _, hu⟩ := hv
  obtain ⟨A18, c18, rfl, -, -, -⟩ := hR.get 4 rfl hu
  clear hu
  rw [digs_length]
  intro K hK
  go_big_quiet_op
  go_big_quiet_on
  repeat (first | (refine wpR_det hp2 rfl ((hR.rel _).trans rfl) rfl ?_; intro K hK; go_big_quiet_op; go_big_quiet_on) | (refine wpR_ptr hp2 rfl ((hR.rel _).trans rfl) rfl rfl ?_; intro K hK; go_big_quiet_op; go_big_quiet_on) | (refine wpR_skip pick rfl ?_; intro K hK; go_big_quiet_op; go_big_quiet_on))
  refine wpR_rel pick rfl ((hR.rel _).trans rfl) ((hR.turns _).trans rfl) ?_ ?_
  · intro u hu
    have hk := hR.since hu.1
    have hks := hk.size
    have hz := refV4_any dst d0 d1 u
    unfold relAt
    go_simp
    refine hz.mono ?_
    rintro e w' ⟨v, rfl, hT, hb'⟩
    exact ⟨_, rfl, hR.intoB hb', hR.put 5 rfl rfl hT⟩
  intro v hv
  obtain ⟨u, _, hu⟩ := hv
  obtain ⟨A21, c21, rfl, -, -, -⟩ := hR.get 5 rfl hu
  clear hu
  rw [digs_length]
  intro K hK
  go_big_quiet_op
  go_big_quiet_on
  repeat (first | (refine wpR_det hp2 rfl ((hR.rel _).trans rfl) rfl ?_; intro K hK; go_big_quiet_op; go_big_quiet_on) | (refine wpR_ptr hp2 rfl ((hR.rel _).trans rfl) rfl rfl ?_; intro K hK; go_big_quiet_op; go_big_quiet_on) | (refine wpR_skip pick rfl ?_; intro K hK; go_big_quiet_op; go_big_quiet_on))
  refine wpR_rel pick rfl ((hR.rel _).trans rfl) ((hR.turns _).trans rfl) ?_ ?_
  · intro u hu
    have hk := hR.since hu.1
    have hks := hk.size
    have b0 := (hR.get 0 rfl (hu.2 _ _ (Got.upd_old (Got.upd_old (Got.upd_old (Got.upd_old (Got.upd_old (Got.upd_self _ _ _) rfl) rfl) rfl) rfl) rfl) (by kernel_rfl)))
    have b1 := (hR.get 1 rfl (hu.2 _ _ (Got.upd_old (Got.upd_old (Got.upd_old (Got.upd_old (Got.upd_self _ _ _) rfl) rfl) rfl) rfl) (by kernel_rfl)))
    have b2 := (hR.get 2 rfl (hu.2 _ _ (Got.upd_old (Got.upd_old (Got.upd_old (Got.upd_self _ _ _) rfl) rfl) rfl) (by kernel_rfl)))
    have b3 := (hR.get 3 rfl (hu.2 _ _ (Got.upd_old (Got.upd_old (Got.upd_self _ _ _) rfl) rfl) (by kernel_rfl)))
    have b4 := (hR.get 4 rfl (hu.2 _ _ (Got.upd_old (Got.upd_self _ _ _) rfl) (by kernel_rfl)))
    have b5 := (hR.get 5 rfl (hu.2 _ _ (Got.upd_self _ _ _) (by kernel_rfl)))
    have hal : Al u [.slice (some ⟨g2, 0, none⟩) 2 2, .slice A4 2 c4, .slice A8 2 c8, .slice A10 2 c10, .slice A15 4 c15, .slice A18 4 c18, .slice A21 4 c21, .slice OA n oc] [L2, digs 2 (len), digs 2 (id), digs 2 (off + 16384 + 8192), X4, digs 4 (src), digs 4 (dst), os] := ⟨HT2.out.on0 hk, b0, b1, b2, b3, b4, b5, HOP.out.on0 hk, trivial⟩
    clear b0 b1 b2 b3 b4 b5
    unfold relAt
    go_simp
    refine ⟨hR.into0 ((Kept.refl _ _).alloc _), hR.put 6 rfl rfl ⟨u.heap.size, [.slice (some ⟨g2, 0, none⟩) 2 2, .slice A4 2 c4, .slice A8 2 c8, .slice A10 2 c10, .slice A15 4 c15, .slice A18 4 c18, .slice A21 4 c21, .slice OA n oc], rfl, rfl, (hal.on0 ((Kept.refl _ _).alloc _)).bys (Blk.new _ _ _)⟩⟩
  intro v hv
  obtain ⟨u, _, hu⟩ := hv
  obtain ⟨gb, vsb, rfl, -, -⟩ := hR.get 6 rfl hu
  clear hu
  intro K hK
  go_big_quiet_op
  go_big_quiet_on
  repeat (first | (refine wpR_det hp2 rfl ((hR.rel _).trans rfl) rfl ?_; intro K hK; go_big_quiet_op; go_big_quiet_on) | (refine wpR_ptr hp2 rfl ((hR.rel _).trans rfl) rfl rfl ?_; intro K hK; go_big_quiet_op; go_big_quiet_on) | (refine wpR_skip pick rfl ?_; intro K hK; go_big_quiet_op; go_big_quiet_on))
  refine wpR_rel pick rfl ((hR.rel _).trans rfl) ((hR.turns _).trans rfl) ?_ ?_
  · intro u hu
    have hk := hR.since hu.1
    have hks := hk.size
    obtain ⟨g', vs', e, hn', hB⟩ := (hR.get 6 rfl (hu.2 _ _ (Got.upd_self _ _ _) (by kernel_rfl)))
    obtain rfl : gb = g' := by injection e with e; injection e with e; injection e
    have hz := refJoin_any gb 8 vs' [L2, digs 2 (len), digs 2 (id), digs 2 (off + 16384 + 8192), X4, digs 4 (src), digs 4 (dst), os] u hB (by rw [hn']; omega) HFL.out
    rw [hn'] at hz
    clear hB e
    unfold relAt
    go_simp
    refine hz.mono ?_
    rintro e w' ⟨v, rfl, hT, hb'⟩
    exact ⟨_, rfl, hR.intoB hb', hR.put 7 rfl rfl hT⟩
  intro v hv
  obtain ⟨u, _, hu⟩ := hv
  obtain hT := hR.get 7 rfl hu
  clear hu
  clear hT
  intro K hK
  go_big_quiet_op
  go_big_quiet_on
  repeat (first | (refine wpR_det hp2 rfl ((hR.rel _).trans rfl) rfl ?_; intro K hK; go_big_quiet_op; go_big_quiet_on) | (refine wpR_ptr hp2 rfl ((hR.rel _).trans rfl) rfl rfl ?_; intro K hK; go_big_quiet_op; go_big_quiet_on) | (refine wpR_skip pick rfl ?_; intro K hK; go_big_quiet_op; go_big_quiet_on))
  refine wpR_nil ?_
  intro w9 hk2 hF hM
  have HZ0 := Lib.hid ((hR.get 7 rfl (hF _ _ (Got.upd_self _ _ _))))
  have HK9 := Lib.hid (HK2.out.trans hk2)
  clear hF hM hk2 hp1 hp2 hR p0 p1 p2 p3 p4 p5 p6 p7 p8 p9 p10 p11 p12 p13 p14 p15
  rw [← HPR.out] at HZ0
  have hz := HZ0.out
  have HPL := Lib.hid (show (⟨tos, len, id, true, true, off, ttl, pr, sm, src, dst, os⟩ : Hd).pre.length = 20 + n by rw [HPR.out, HFN.out])
  obtain ⟨L, hL⟩ : ∃ L, (⟨tos, len, id, true, true, off, ttl, pr, sm, src, dst, os⟩ : Hd).pre = L := ⟨_, rfl⟩
  have HL := Lib.hid hL
  rw [hL] at hz HPL
  clear hL HZ0 HPR
  obtain ⟨AJ, cJ, rfl, -, -, hbs⟩ := hz
  rw [HPL.out]
  have HJ := Lib.hid hbs
  clear hbs
  go_wp2_with fail
  refine (refOf_len cJ w9.heap.size AJ L (20 + n) HPL.out (by omega) w9 (by omega) HJ.out).mono ?_
  rintro e w10 ⟨rfl, rfl⟩
  have hr := norm_range (total true L)
  obtain ⟨r, hN⟩ : ∃ r, 65535 - norm (total true L) = r := ⟨_, rfl⟩
  have r0 : 0 ≤ r := by omega
  have r1 : r ≤ 65535 := by omega
  rw [hN]
  have HCK := Lib.hid (show (⟨tos, len, id, true, true, off, ttl, pr, sm, src, dst, os⟩ : Hd).ck = r by unfold Hd.ck; rw [HL.out, hN])
  clear hr hN
  go_wp2_with fail
  refine (refB_any 2 r w9 (by omega) (by omega) (by omega)).mono ?_
  rintro e w11 ⟨v11, rfl, ⟨A11, c11, hv11, -, -, hb11⟩, hbw⟩
  rw [digs_length] at hv11
  subst hv11
  have HB11 := Lib.hid hb11
  have HK11 := Lib.hid (HK9.out.trans (Kept.ofB (S := fun _ => False) hbw))
  have HJ11 := Lib.hid (HJ.out.onB hbw (Nat.le_refl _))
  clear hb11 hbw
  go_wp2_with fail
  have hz := refSetRow_any AJ A11 cJ c11 10 L (digs 2 r) w11 (by rw [HPL.out]; omega) HJ11.out HB11.out (by rw [HPL.out, digs_length]; omega) (by rw [digs_length]; omega)
  rw [HPL.out, digs_length, over_fin] at hz
  refine hz.mono ?_
  clear hz
  rintro e w12 ⟨v12, rfl, hy, hbw⟩
  have HY12 := Lib.hid (hy.more (show w.heap.size ≤ w11.heap.size from Nat.le_trans HS1.out HK11.out.size))
  have HK12 := Lib.hid (HK11.out.trans (Kept.ofB (S := fun _ => False) hbw))
  clear hy hbw
  go_wp2_with fail
  go_ret
  refine ⟨_, rfl, ?_, HKW.out.trans (HK12.out.below HS1.out (fun _ h => h.elim))⟩
  unfold Hd.bytes
  rw [HL.out, HCK.out]
  exact HY12.out
end Go.Proofs.Ytidooohgbiiikaa
