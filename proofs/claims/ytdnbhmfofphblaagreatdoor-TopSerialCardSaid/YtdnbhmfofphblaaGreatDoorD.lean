/- ip4's Packet, walked. -/
import Derived.Test.YtdnbhmfofphblaaGreatDoorC
namespace Go.Proofs.YtdnbhmfofphblaaGreatDoor
set_option maxRecDepth 100000
open Go.RowKit
set_option linter.unusedVariables false
theorem bytesH_any (tos len id : Int) (stay more : Bool) (off ttl pr sm src dst : Int) (OA : Option Addr) (n oc : Nat) (os : List UInt8) (hn : os.length = n) (n40 : n ≤ 40) (n4 : n % 4 = 0) (t0 : 0 ≤ tos) (t1 : tos ≤ 255) (i0 : 0 ≤ id) (i1 : id ≤ 65535) (l0 : 20 + (n : Int) ≤ len) (l1 : len ≤ 65535) (o0 : 0 ≤ off) (o1 : off ≤ 8191) (x0 : 0 ≤ ttl) (x1 : ttl ≤ 255) (p0 : 0 ≤ pr) (p1 : pr ≤ 255) (s0 : 0 ≤ src) (s1 : src ≤ 4294967295) (d0 : 0 ≤ dst) (d1 : dst ≤ 4294967295) (w : World) (hbs : BS w w.heap.size OA os) :
    Calls Tryz.prog 120 #[.agg #[.int .u8 tos, .int .i64 len, .int .u16 id, .bool stay, .bool more, .int .i64 off, .int .u8 ttl, .int .u8 pr, .int .u16 sm, .bool false, .int .u64 0, .int .u64 src, .bool false, .int .u64 0, .int .u64 dst, .slice OA n oc]] w fun e w' => ∃ v, e = .returned v ∧ Row w' w.heap.size 5 v (bcs (⟨tos, len, id, stay, more, off, ttl, pr, sm, src, dst, os⟩ : Hd).bytes) ∧ Below w.heap.size w w' := by
  cases stay <;> cases more
  · exact bytesH_ff tos len id off ttl pr sm src dst OA n oc os hn n40 n4 t0 t1 i0 i1 l0 l1 o0 o1 x0 x1 p0 p1 s0 s1 d0 d1 w hbs
  · exact bytesH_ft tos len id off ttl pr sm src dst OA n oc os hn n40 n4 t0 t1 i0 i1 l0 l1 o0 o1 x0 x1 p0 p1 s0 s1 d0 d1 w hbs
  · exact bytesH_tf tos len id off ttl pr sm src dst OA n oc os hn n40 n4 t0 t1 i0 i1 l0 l1 o0 o1 x0 x1 p0 p1 s0 s1 d0 d1 w hbs
  · exact bytesH_tt tos len id off ttl pr sm src dst OA n oc os hn n40 n4 t0 t1 i0 i1 l0 l1 o0 o1 x0 x1 p0 p1 s0 s1 d0 d1 w hbs
set_option maxRecDepth 100000 in
set_option maxHeartbeats 4000000 in
theorem packet_yes (tos len id : Int) (stay more : Bool) (off ttl pr sm src dst : Int) (OA : Option Addr) (n oc : Nat) (os : List UInt8) (hn : os.length = n) (n40 : n ≤ 40) (n4 : n % 4 = 0) (t0 : 0 ≤ tos) (t1 : tos ≤ 255) (i0 : 0 ≤ id) (i1 : id ≤ 65535) (o0 : 0 ≤ off) (x0 : 0 ≤ ttl) (x1 : ttl ≤ 255) (p0 : 0 ≤ pr) (p1 : pr ≤ 255) (s0 : 0 ≤ src) (s1 : src ≤ 4294967295) (d0 : 0 ≤ dst) (d1 : dst ≤ 4294967295) (x : List UInt8) (XA : Option Addr) (m xc : Nat) (hm : x.length = m) (m1 : m ≤ 60000) (o1 : off ≤ 8191) (w : World) (hbs : BS w w.heap.size OA os) (hxs : BS w w.heap.size XA x) :
    Calls Tryz.prog 66 #[.agg #[.int .u8 tos, .int .i64 len, .int .u16 id, .bool stay, .bool more, .int .i64 off, .int .u8 ttl, .int .u8 pr, .int .u16 sm, .bool false, .int .u64 0, .int .u64 src, .bool false, .int .u64 0, .int .u64 dst, .slice OA n oc], .slice XA m xc] w fun e w' => ∃ v, e = .returned (.tuple #[v, .int .i64 0]) ∧ Row w' w.heap.size 5 v (bcs ((⟨tos, len, id, stay, more, off, ttl, pr, sm, src, dst, os⟩ : Hd).pkt x)) ∧ Below w.heap.size w w' := by
  have h5 := Tryz.info5r
  have HY2 := Lib.hid hn
  have HM := Lib.hid hm
  have HBS := Lib.hid hbs
  have HXS := Lib.hid hxs
  clear hbs hxs hn hm
  go_enter Tryz.func66, Tryz.ntmps66
  go_upto_region 1 with fail
  obtain ⟨w1, hw1⟩ : ∃ w1 : World, w1 = w.alloc (.cells #[.int .u8 tos, .int .i64 len, .int .u16 id, .bool stay, .bool more, .int .i64 off, .int .u8 ttl, .int .u8 pr, .int .u16 sm, .bool false, .int .u64 0, .int .u64 src, .bool false, .int .u64 0, .int .u64 dst, .slice OA n oc] 190) := ⟨_, rfl⟩
  have HB0 := Lib.hid (show Blk w1 w.heap.size 190 #[.int .u8 tos, .int .i64 len, .int .u16 id, .bool stay, .bool more, .int .i64 off, .int .u8 ttl, .int .u8 pr, .int .u16 sm, .bool false, .int .u64 0, .int .u64 src, .bool false, .int .u64 0, .int .u64 dst, .slice OA n oc] by rw [hw1]; exact Blk.new _ _ _)
  have HKW := Lib.hid (show Below w.heap.size w w1 by rw [hw1]; exact (Below.refl _ _).alloc (Nat.le_refl _) _)
  have HS1 := Lib.hid (show w.heap.size < w1.heap.size by rw [hw1]; simp)
  rw [← hw1]
  clear hw1
  obtain ⟨hb, hhb⟩ : ∃ hb, w.heap.size = hb := ⟨_, rfl⟩
  have HB : Hid (Blk w1 hb 190 #[.int .u8 tos, .int .i64 len, .int .u16 id, .bool stay, .bool more, .int .i64 off, .int .u8 ttl, .int .u8 pr, .int .u16 sm, .bool false, .int .u64 0, .int .u64 src, .bool false, .int .u64 0, .int .u64 dst, .slice OA n oc]) := Lib.hid (by rw [← hhb]; exact HB0.out)
  rw [hhb]
  have HHB := Lib.hid hhb
  clear HB0 hhb
  have cB := HB.out.cell
  have fB := HB.out.frozen
  have lB := HB.out.lt
  go_wp2_with fail
  refine (size_any tos len id stay more off ttl pr sm src dst OA n oc n40 w1).mono ?_
  rintro e w2 ⟨rfl, hb2⟩
  have HK2 := Lib.hid (Kept.ofB (S := fun _ => False) hb2)
  clear hb2 cB lB fB
  have cB := (HB.out.kept HK2.out (fun h => h)).cell
  have fB := (HB.out.kept HK2.out (fun h => h)).frozen
  have lB := (HB.out.kept HK2.out (fun h => h)).lt
  go_upto_region 2 with fail
  generalize hw3 : World.setCell _ _ _ = w3
  have HB3 := Lib.hid (show Blk w3 hb 190 #[.int .u8 tos, .int .i64 (20 + (n : Int) + (m : Int)), .int .u16 id, .bool stay, .bool more, .int .i64 off, .int .u8 ttl, .int .u8 pr, .int .u16 sm, .bool false, .int .u64 0, .int .u64 src, .bool false, .int .u64 0, .int .u64 dst, .slice OA n oc] by rw [← hw3]; exact (HB.out.kept HK2.out (fun h => h)).set_to rfl)
  have HK3 := Lib.hid (show Kept (fun i => i = hb) w1 w3 by rw [← hw3]; exact Kept.setIn (S := fun i => i = hb) rfl (HK2.out.mono (fun _ _ h => h.elim)))
  have HW3 := Lib.hid (show Below w.heap.size w w3 from HKW.out.trans (HK3.out.below (by have := HS1.out; omega) (fun i e => by subst e; have := HHB.out; omega)))
  clear hw3 cB fB lB
  have cB := HB3.out.cell
  have lB := HB3.out.lt
  have HOB := Lib.hid (HBS.out.onB HW3.out (Nat.le_refl _))
  have HXB := Lib.hid (HXS.out.onB HW3.out (Nat.le_refl _))
  have HS3 := Lib.hid (show w.heap.size ≤ w3.heap.size from HW3.out.size)
  go_wp2_with fail
  refine (rightH_yes tos _ id stay more off ttl pr sm src dst OA n oc n40 n4 (by omega) (by omega) o0 s0 s1 d0 d1 o1 w3).mono ?_
  rintro e w4 ⟨rfl, hb4⟩
  have HW4 := Lib.hid (HW3.out.trans (hb4.mono HW3.out.size))
  have HS4 := Lib.hid (show w.heap.size ≤ w4.heap.size from HW4.out.size)
  have HB4 := Lib.hid (HB3.out.below hb4 HB3.out.lt)
  have HOB4 := Lib.hid (HBS.out.onB HW4.out (Nat.le_refl _))
  clear hb4 cB lB
  have cB := HB4.out.cell
  have lB := HB4.out.lt
  go_wp2_with fail
  refine (bytesH_any tos _ id stay more off ttl pr sm src dst OA n oc os HY2.out n40 n4 t0 t1 i0 i1 (by omega) (by omega) o0 o1 x0 x1 p0 p1 s0 s1 d0 d1 w4 HOB4.out).mono ?_
  rintro e w5 ⟨v5, rfl, hrow, hb5⟩
  have hbl : (⟨tos, 20 + (n : Int) + (m : Int), id, stay, more, off, ttl, pr, sm, src, dst, os⟩ : Hd).bytes.length = 20 + n := by rw [Hd.bytes_len]; show 20 + os.length = 20 + n; rw [HY2.out]
  have HR5 := Lib.hid hrow
  have HBL := Lib.hid hbl
  have HW5 := Lib.hid (HW4.out.trans (hb5.mono HS4.out))
  have HX5 := Lib.hid (HXS.out.onB HW5.out (Nat.le_refl _))
  have HS5 := Lib.hid (show w4.heap.size ≤ w5.heap.size from hb5.size)
  obtain ⟨A5, c5, hve, -, -⟩ := hrow.shape
  rw [bcs_length, hbl] at hve
  subst hve
  clear hrow hbl hb5 cB lB
  go_wp2_with (at_builtin; refine wpList_append_row rfl (.tmp 19) (.tmp 20) 44 rfl w4.heap.size 5 (.int .u8 0) 1 Tryz.underlying44 h5 rfl _ (bcs (⟨tos, 20 + (n : Int) + (m : Int), id, stay, more, off, ttl, pr, sm, src, dst, os⟩ : Hd).bytes) rfl XA m xc (bcs x) rfl ?a0 HR5.out HX5.out.src (bcs_one _) ?a3 ?a4 HS5.out ?_)
  case a0 => rw [bcs_length, HM.out]
  case a3 => rw [bcs_length, bcs_length, HM.out, HBL.out]; unfold maxLen; omega
  case a4 => rw [bcs_length, bcs_length, HM.out, HBL.out]; omega
  intro v6 w6 hrow hgr _
  rw [← bcs_append] at hrow
  have HR6 := Lib.hid hrow
  have HW6 := Lib.hid (HW5.out.trans (below_grown hgr (fun i e => by have := (HR5.out.lt i e).1; have := HS4.out; omega) (by have := HS4.out; have := HS5.out; omega)))
  clear hrow hgr
  go_wp2_with fail
  go_ret2
  refine ⟨_, rfl, ?_, HW6.out⟩
  have e1 : (⟨tos, len, id, stay, more, off, ttl, pr, sm, src, dst, os⟩ : Hd).pkt x = (⟨tos, 20 + (n : Int) + (m : Int), id, stay, more, off, ttl, pr, sm, src, dst, os⟩ : Hd).bytes ++ x := by
    show ({ (⟨tos, len, id, stay, more, off, ttl, pr, sm, src, dst, os⟩ : Hd) with len := ((20 + os.length : Nat) : Int) + (x.length : Int) } : Hd).bytes ++ x = _
    rw [HY2.out, HM.out, show ((20 + n : Nat) : Int) = 20 + (n : Int) by omega]
  rw [e1]
  exact HR6.out.more HS4.out
set_option maxRecDepth 100000 in
set_option maxHeartbeats 4000000 in
theorem packet_no (tos len id : Int) (stay more : Bool) (off ttl pr sm src dst : Int) (OA : Option Addr) (n oc : Nat) (os : List UInt8) (hn : os.length = n) (n40 : n ≤ 40) (n4 : n % 4 = 0) (t0 : 0 ≤ tos) (t1 : tos ≤ 255) (i0 : 0 ≤ id) (i1 : id ≤ 65535) (o0 : 0 ≤ off) (x0 : 0 ≤ ttl) (x1 : ttl ≤ 255) (p0 : 0 ≤ pr) (p1 : pr ≤ 255) (s0 : 0 ≤ src) (s1 : src ≤ 4294967295) (d0 : 0 ≤ dst) (d1 : dst ≤ 4294967295) (x : List UInt8) (XA : Option Addr) (m xc : Nat) (hm : x.length = m) (m1 : m ≤ 60000) (o1 : ¬ off ≤ 8191) (w : World) (hbs : BS w w.heap.size OA os) (hxs : BS w w.heap.size XA x) :
    Calls Tryz.prog 66 #[.agg #[.int .u8 tos, .int .i64 len, .int .u16 id, .bool stay, .bool more, .int .i64 off, .int .u8 ttl, .int .u8 pr, .int .u16 sm, .bool false, .int .u64 0, .int .u64 src, .bool false, .int .u64 0, .int .u64 dst, .slice OA n oc], .slice XA m xc] w fun e w' => e = .returned (.tuple #[.slice none 0 0, .int .i64 1]) ∧ Below w.heap.size w w' := by
  have h5 := Tryz.info5r
  have HY2 := Lib.hid hn
  have HM := Lib.hid hm
  have HBS := Lib.hid hbs
  have HXS := Lib.hid hxs
  clear hbs hxs hn hm
  go_enter Tryz.func66, Tryz.ntmps66
  go_upto_region 1 with fail
  obtain ⟨w1, hw1⟩ : ∃ w1 : World, w1 = w.alloc (.cells #[.int .u8 tos, .int .i64 len, .int .u16 id, .bool stay, .bool more, .int .i64 off, .int .u8 ttl, .int .u8 pr, .int .u16 sm, .bool false, .int .u64 0, .int .u64 src, .bool false, .int .u64 0, .int .u64 dst, .slice OA n oc] 190) := ⟨_, rfl⟩
  have HB0 := Lib.hid (show Blk w1 w.heap.size 190 #[.int .u8 tos, .int .i64 len, .int .u16 id, .bool stay, .bool more, .int .i64 off, .int .u8 ttl, .int .u8 pr, .int .u16 sm, .bool false, .int .u64 0, .int .u64 src, .bool false, .int .u64 0, .int .u64 dst, .slice OA n oc] by rw [hw1]; exact Blk.new _ _ _)
  have HKW := Lib.hid (show Below w.heap.size w w1 by rw [hw1]; exact (Below.refl _ _).alloc (Nat.le_refl _) _)
  have HS1 := Lib.hid (show w.heap.size < w1.heap.size by rw [hw1]; simp)
  rw [← hw1]
  clear hw1
  obtain ⟨hb, hhb⟩ : ∃ hb, w.heap.size = hb := ⟨_, rfl⟩
  have HB : Hid (Blk w1 hb 190 #[.int .u8 tos, .int .i64 len, .int .u16 id, .bool stay, .bool more, .int .i64 off, .int .u8 ttl, .int .u8 pr, .int .u16 sm, .bool false, .int .u64 0, .int .u64 src, .bool false, .int .u64 0, .int .u64 dst, .slice OA n oc]) := Lib.hid (by rw [← hhb]; exact HB0.out)
  rw [hhb]
  have HHB := Lib.hid hhb
  clear HB0 hhb
  have cB := HB.out.cell
  have fB := HB.out.frozen
  have lB := HB.out.lt
  go_wp2_with fail
  refine (size_any tos len id stay more off ttl pr sm src dst OA n oc n40 w1).mono ?_
  rintro e w2 ⟨rfl, hb2⟩
  have HK2 := Lib.hid (Kept.ofB (S := fun _ => False) hb2)
  clear hb2 cB lB fB
  have cB := (HB.out.kept HK2.out (fun h => h)).cell
  have fB := (HB.out.kept HK2.out (fun h => h)).frozen
  have lB := (HB.out.kept HK2.out (fun h => h)).lt
  go_upto_region 2 with fail
  generalize hw3 : World.setCell _ _ _ = w3
  have HB3 := Lib.hid (show Blk w3 hb 190 #[.int .u8 tos, .int .i64 (20 + (n : Int) + (m : Int)), .int .u16 id, .bool stay, .bool more, .int .i64 off, .int .u8 ttl, .int .u8 pr, .int .u16 sm, .bool false, .int .u64 0, .int .u64 src, .bool false, .int .u64 0, .int .u64 dst, .slice OA n oc] by rw [← hw3]; exact (HB.out.kept HK2.out (fun h => h)).set_to rfl)
  have HK3 := Lib.hid (show Kept (fun i => i = hb) w1 w3 by rw [← hw3]; exact Kept.setIn (S := fun i => i = hb) rfl (HK2.out.mono (fun _ _ h => h.elim)))
  have HW3 := Lib.hid (show Below w.heap.size w w3 from HKW.out.trans (HK3.out.below (by have := HS1.out; omega) (fun i e => by subst e; have := HHB.out; omega)))
  clear hw3 cB fB lB
  have cB := HB3.out.cell
  have lB := HB3.out.lt
  have HOB := Lib.hid (HBS.out.onB HW3.out (Nat.le_refl _))
  have HXB := Lib.hid (HXS.out.onB HW3.out (Nat.le_refl _))
  have HS3 := Lib.hid (show w.heap.size ≤ w3.heap.size from HW3.out.size)
  go_wp2_with fail
  refine (rightH_no tos _ id stay more off ttl pr sm src dst OA n oc n40 n4 (by omega) (by omega) o0 s0 s1 d0 d1 (by omega) w3).mono ?_
  rintro e w4 ⟨rfl, hb4⟩
  have HW4 := Lib.hid (HW3.out.trans (hb4.mono HW3.out.size))
  have HS4 := Lib.hid (show w.heap.size ≤ w4.heap.size from HW4.out.size)
  have HB4 := Lib.hid (HB3.out.below hb4 HB3.out.lt)
  have HOB4 := Lib.hid (HBS.out.onB HW4.out (Nat.le_refl _))
  clear hb4 cB lB
  have cB := HB4.out.cell
  have lB := HB4.out.lt
  go_wp2_with fail
  go_ret2
  exact ⟨rfl, HW4.out⟩
end Go.Proofs.YtdnbhmfofphblaaGreatDoor
