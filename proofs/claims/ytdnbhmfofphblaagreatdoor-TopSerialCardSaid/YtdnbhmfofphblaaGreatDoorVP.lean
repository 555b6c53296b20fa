/- The law TopSerial. -/
import Derived.Test.YtdnbhmfofphblaaGreatDoorVO
import Derived.Test.YtdnbhmfofphblaaGreatDoorVE
import Derived.Test.YtdnbhmfofphblaaGreatDoorVD
import Derived.Test.YtdnbhmfofphblaaGreatDoorNums
import Derived.Test.YtdnbhmfofphblaaGreatDoorFl
import Derived.Test.YtdnbhmfofphblaaGreatDoorTI
namespace Go.Proofs.YtdnbhmfofphblaaGreatDoor
open Go.RowKit
set_option maxRecDepth 100000
set_option linter.unusedVariables false
set_option linter.unusedSimpArgs false
theorem obs (now : Int) (n0 : 0 ≤ now) (n1 : now ≤ 4294967295) : (#[.int .u8 1, .int .u8 1, .int .u8 8, .int .u8 10, .int .u8 (now / 16777216), .int .u8 (now / 65536 % 256), .int .u8 (now / 256 % 256), .int .u8 (now % 256), .int .u8 0, .int .u8 0, .int .u8 0, .int .u8 0] : Array Value).toList = bcs ([1, 1, 8, 10] ++ (digs 4 now ++ digs 4 0)) := by
  have e : digs 4 now = [b8 (now / 256 / 256 / 256), b8 (now / 256 / 256), b8 (now / 256), b8 now] := rfl
  rw [e]
  show [_, _, _, _, Value.int .u8 _, Value.int .u8 _, Value.int .u8 _, Value.int .u8 _, _, _, _, _] = [Value.int .u8 1, Value.int .u8 1, Value.int .u8 8, Value.int .u8 10, Value.int .u8 ((b8 (now / 256 / 256 / 256)).toNat : Int), Value.int .u8 ((b8 (now / 256 / 256)).toNat : Int), Value.int .u8 ((b8 (now / 256)).toNat : Int), Value.int .u8 ((b8 now).toNat : Int), Value.int .u8 0, Value.int .u8 0, Value.int .u8 0, Value.int .u8 0]
  rw [b8_val, b8_val, b8_val, b8_val, show now / 256 / 256 / 256 % 256 = now / 16777216 by omega, show now / 256 / 256 % 256 = now / 65536 % 256 by omega]
/-- What is known of the last stamp at the head of round i. -/
def Last (mk : Int) (i : Nat) (now last : Int) : Prop := i = 0 ∨ ∃ p d : Int, 0 ≤ p ∧ p ≤ 4294967295 ∧ 0 ≤ d ∧ d < 32768 ∧ now = (p + d) % 4294967296 ∧ last = p % 65536 * 65536 + mk
theorem last_ahead {mk now last : Int} {i : Nat} (h : Last mk i now last) (hi : 0 < i) : (now % 65536 * 65536 + mk - last) % 4294967296 < 2147483648 := by
  rcases h with h | ⟨p, d, p0, p1, d0, d1, rfl, rfl⟩
  · omega
  · omega
theorem last_next {mk now z : Int} {i : Nat} (n0 : 0 ≤ now) (n1 : now ≤ 4294967295) (z0 : 0 ≤ z) : Last mk (i + 1) ((now + z % 32768) % 4294967296) (now % 65536 * 65536 + mk) := .inr ⟨now, z % 32768, n0, n1, by omega, by omega, rfl, rfl⟩
set_option maxRecDepth 100000 in
set_option maxHeartbeats 2000000 in
theorem serial_any (mk : Int) (mk0 : 0 ≤ mk) (mk1 : mk ≤ 65535) (SA : Option Addr) (sn sc : Nat) (zs : List Int) (hs : zs.length = sn) (hsn : sn ≤ maxLen) (f : Fl) (hf : f.wf) (start : Int) (t0 : 0 ≤ start) (t1 : start ≤ 4294967295) (w : World) (hz : NS w w.heap.size SA .u16 zs) (hzr : ∀ z ∈ zs, 0 ≤ z ∧ z ≤ 65535) :
    Calls Tryz.prog 3 #[.int .u16 mk, .slice SA sn sc, .agg #[.bool f.src.six, .int .u64 f.src.high, .int .u64 f.src.low, .bool f.dst.six, .int .u64 f.dst.high, .int .u64 f.dst.low, .int .u16 f.sp, .int .u16 f.dp, .int .u8 f.pr], .int .u32 start] w fun e w' => e = .returned (.bool true) ∧ Kept (fun _ => False) w w' := by
  have sp0 := hf.sp0
  have sp1 : f.sp ≤ 65535 := by have := hf.sp1; omega
  have dp0 := hf.dp0
  have dp1 : f.dp ≤ 65535 := by have := hf.dp1; omega
  have HZ := Lib.hid hz
  have HZR := Lib.hid hzr
  have HSN := Lib.hid hs
  unfold maxLen at hsn
  clear hf hz hzr hs
  go_enter Tryz.func3, Tryz.ntmps3
  go_upto_region 1 with fail
  obtain ⟨w1, hw1⟩ : ∃ w1 : World, w1 = (w.alloc (.cells #[.bool f.src.six, .int .u64 f.src.high, .int .u64 f.src.low, .bool f.dst.six, .int .u64 f.dst.high, .int .u64 f.dst.low, .int .u16 f.sp, .int .u16 f.dp, .int .u8 f.pr] 28)) := ⟨_, rfl⟩
  have HAB1 := Lib.hid (show Blk w1 w.heap.size 28 #[.bool f.src.six, .int .u64 f.src.high, .int .u64 f.src.low, .bool f.dst.six, .int .u64 f.dst.high, .int .u64 f.dst.low, .int .u16 f.sp, .int .u16 f.dp, .int .u8 f.pr] by rw [hw1]; exact Blk.new _ _ _)
  have HK1 := Lib.hid (show Kept (fun _ => False) w w1 by rw [hw1]; exact (Kept.refl _ _).alloc _)
  rw [← hw1]
  clear hw1
  obtain ⟨ab, hab⟩ : ∃ ab, w.heap.size = ab := ⟨_, rfl⟩
  rw [hab] at HAB1
  (try rw [hab])
  have HNE := Lib.hid (show ab = w.heap.size + 0 ∧ True from ⟨by omega, trivial⟩)
  clear hab
  have cAB := HAB1.out.cell
  have lAB := HAB1.out.lt
  have fAB := HAB1.out.frozen
  go_wp2_with fail
  refine (worksT w1).mono ?_
  rintro e w2 ⟨rfl, hk⟩
  have HK2 := Lib.hid (HK1.out.trans hk)
  have HS2 := Lib.hid (show Kept (fun _ => False) w1 w2 from hk)
  have HAB2 := Lib.hid (HAB1.out.kept hk (fun h => h))
  clear cAB lAB fAB
  have cAB := HAB2.out.cell
  have lAB := HAB2.out.lt
  have fAB := HAB2.out.frozen
  clear hk
  go_wp2_with fail
  refine (fltNew (fun _ => 0) 3 0 0 (by omega) (by omega) (by omega) (by omega) (by omega) (by omega) w2).mono ?_
  rintro e w3 ⟨xb, cl, jb, nb, db, mb, st, su, rm, RA, rc, ra, TA, tc, sb, cb, mg, rfl, -, -, h1, h2, h3, hx, -, -, hr, hsh, hco, hmp, hk⟩
  have HX3 := Lib.hid hx
  have HR3 := Lib.hid hr
  have HH3 := Lib.hid hsh
  have HC3 := Lib.hid hco
  have HM3 := Lib.hid hmp
  have HK3 := Lib.hid (HK2.out.trans hk)
  have HS3 := Lib.hid (show Kept (fun _ => False) w2 w3 from hk)
  have HAB3 := Lib.hid (HAB2.out.kept hk (fun h => h))
  clear cAB lAB fAB
  have cAB := HAB3.out.cell
  have lAB := HAB3.out.lt
  have fAB := HAB3.out.frozen
  have HGE := Lib.hid (show w.heap.size ≤ sb ∧ w.heap.size ≤ cb ∧ w.heap.size ≤ mg by have := HK2.out.size; omega)
  clear hk hx hr hsh hco hmp h1 h2 h3
  go_upto_region 7 with (show wpList _ _ _ ((⟨none, .store 28 (.tmp 11) _, _, _, _, none⟩ : Oper) :: _) _ _; refine wpList_store_mid rfl 28 (.tmp 11) _ rfl w3.heap.size 0 #[.bool false, .int .u64 0, .int .u64 0, .bool false, .int .u64 0, .int .u64 0, .int .u16 f.sp, .int .u16 f.dp, .int .u8 6] rfl rfl ((Blk.new w3 28 #[.bool false, .int .u64 0, .int .u64 0, .bool false, .int .u64 0, .int .u64 0, .int .u16 0, .int .u16 0, .int .u8 0]).there rfl) (by kernel_rfl) (by simp [Value.oneCell']) ?_)
  generalize hwq : (World.setCells _ _ _ _) = w4
  have hk : Kept (fun _ => False) w3 w4 := by rw [← hwq]; exact ((Kept.refl _ _).alloc _).then (Kept.setCells (S := fun i => i = w3.heap.size) rfl _ _ (Kept.refl _ _)) (fun i hi e => by omega)
  have HFB4 := Lib.hid (show Blk w4 w3.heap.size 28 #[.bool false, .int .u64 0, .int .u64 0, .bool false, .int .u64 0, .int .u64 0, .int .u16 f.sp, .int .u16 f.dp, .int .u8 6] by rw [← hwq]; exact (Blk.new w3 28 #[.bool false, .int .u64 0, .int .u64 0, .bool false, .int .u64 0, .int .u64 0, .int .u16 0, .int .u16 0, .int .u8 0]).setAll #[.bool false, .int .u64 0, .int .u64 0, .bool false, .int .u64 0, .int .u64 0, .int .u16 f.sp, .int .u16 f.dp, .int .u8 6] rfl)
  have HX4 := Lib.hid (HX3.out.kept hk (fun h => h))
  have HR4 := Lib.hid (Row.kept HR3.out hk (fun _ _ h => h))
  have HH4 := Lib.hid (HH3.out.kept hk (fun h => h))
  have HC4 := Lib.hid (HC3.out.kept hk (fun h => h))
  have HM4 := Lib.hid (HM3.out.kept hk (fun h => h))
  have HK4 := Lib.hid (HK3.out.trans hk)
  clear hwq hk cAB lAB fAB
  obtain ⟨fb, hfb⟩ : ∃ fb, w3.heap.size = fb := ⟨_, rfl⟩
  rw [hfb] at HFB4 ⊢
  clear hfb
  go_wp2_with fail
  refine (shimOf (fun _ => 0) xb db cl mb w2.heap.size RA TA rc tc sb w4 HX4.out HR4.out).mono ?_
  rintro e w' ⟨rfl, rfl⟩
  go_wp2_with (show wpList _ _ _ ((⟨_, .load 28 (.tmp 11), _, _, _, none⟩ : Oper) :: _) _ _; refine wpList_load_mid rfl 28 (.tmp 11) rfl fb 0 rfl [.bool false, .int .u64 0, .int .u64 0, .bool false, .int .u64 0, .int .u64 0, .int .u16 f.sp, .int .u16 f.dp, .int .u8 6] _ HFB4.out.range Tryz.underlying28 rfl (by kernel_rfl) ?_)
  refine (openedT 3 1 0 1048576 0 f.sp f.dp mk (by omega) sp0 sp1 dp0 dp1 mk0 mk1 sb cb mg 0 w4 HH4.out HC4.out HM4.out).mono ?_
  rintro e w5 ⟨eb, rfl, q1, q2, q3, q4, hk⟩
  have HCN5 := Lib.hid (show Blk w5 cb 272 #[.int .i64 3, .map (some mg), .pointer (some ⟨eb, 0, none⟩), .pointer (some ⟨eb, 0, none⟩)] ∧ Blk w5 eb 206 #[.bool false, .int .u64 0, .int .u64 0, .bool false, .int .u64 0, .int .u64 0, .int .u16 f.sp, .int .u16 f.dp, .int .u8 6, .int .u16 mk, .pointer none, .pointer none] ∧ MapB w5 mg #[⟨.agg #[.bool false, .int .u64 0, .int .u64 0, .bool false, .int .u64 0, .int .u64 0, .int .u16 f.sp, .int .u16 f.dp, .int .u8 6], .pointer (some ⟨eb, 0, none⟩), 0⟩] (0 + 1) from ⟨q2, q3, q4⟩)
  have HH5 := Lib.hid (HH4.out.kept hk (fun h => h.elim (fun h => HH4.out.ne_ HC4.out (by decide) h) (fun h => HM4.out.ne HH4.out h.symm)))
  have HFB5 := Lib.hid (HFB4.out.kept hk (fun h => h.elim (fun h => HFB4.out.ne_ HC4.out (by decide) h) (fun h => HM4.out.ne HFB4.out h.symm)))
  have HEG := Lib.hid (show w.heap.size ≤ eb by have := HK4.out.size; omega)
  have HK5 := Lib.hid (HK4.out.then hk (fun i hi h => by have := HGE.out; omega))
  clear q1 q2 q3 q4 hk
  go_wp2_with fail
  go_loopw [13, 14, 15] (fun t13 t14 t15 wr => ∃ i : Nat, ∃ now last : Int, i ≤ sn ∧ i ≤ 60 ∧ t15 = .int .i64 i ∧ t13 = .int .u32 now ∧ 0 ≤ now ∧ now ≤ 4294967295 ∧ t14 = .int .u32 last ∧ 0 ≤ last ∧ last ≤ 4294967295 ∧ Hid (Last mk i now last) ∧ Hid (Blk wr cb 272 #[.int .i64 3, .map (some mg), .pointer (some ⟨eb, 0, none⟩), .pointer (some ⟨eb, 0, none⟩)] ∧ Blk wr eb 206 #[.bool false, .int .u64 0, .int .u64 0, .bool false, .int .u64 0, .int .u64 0, .int .u16 f.sp, .int .u16 f.dp, .int .u8 6, .int .u16 mk, .pointer none, .pointer none] ∧ MapB wr mg #[⟨.agg #[.bool false, .int .u64 0, .int .u64 0, .bool false, .int .u64 0, .int .u64 0, .int .u16 f.sp, .int .u16 f.dp, .int .u8 6], .pointer (some ⟨eb, 0, none⟩), 0⟩] (0 + 1)) ∧ Hid (Blk wr sb 95 #[.pointer none, .int .i64 1, .pointer (some ⟨cb, 0, none⟩), .int .u64 0, .int .u64 1048576, .int .u64 0]) ∧ Hid (Blk wr fb 28 #[.bool false, .int .u64 0, .int .u64 0, .bool false, .int .u64 0, .int .u64 0, .int .u16 f.sp, .int .u16 f.dp, .int .u8 6]) ∧ Hid (Kept (fun _ => False) w wr)) (fun _ _ t15 _ => 61 - (intOf t15).toNat)
  case atStart => exact ⟨0, start, 0, Nat.zero_le _, by omega, rfl, rfl, t0, t1, rfl, by omega, by omega, Lib.hid (.inl rfl), HCN5, HH5, HFB5, HK5⟩
  case round =>
    obtain ⟨i, now, last, hi, hi60, rfl, rfl, n0, n1, rfl, l0, l1, HLA, HCN, HH, HFB, HKR⟩ := hrel
    by_cases hlt : i < sn ∧ i < 60
    · obtain ⟨hl1, hl2⟩ := hlt
      obtain ⟨b, off, hb, rfl, hN⟩ := HZ.out.at (i := i) (by rw [HSN.out]; exact hl1)
      have hzi := hN i (by rw [HSN.out]; exact hl1)
      have hil : i < zs.length := by rw [HSN.out]; exact hl1
      obtain ⟨z, hz⟩ : ∃ z, zs[i] = z := ⟨_, rfl⟩
      have hzr := HZR.out zs[i] (List.getElem_mem _)
      rw [hz] at hzi hzr
      have HCZ := Lib.hid (And.intro hb hzi)
      obtain ⟨z0, z1⟩ := hzr
      clear hN hzi hz hb hil
      go_upto_region 15 with fail
      obtain ⟨wA, hwA⟩ : ∃ wA : World, wA = wr.alloc (.cells #[.int .u8 1, .int .u8 1, .int .u8 8, .int .u8 10, .int .u8 (now / 16777216), .int .u8 (now / 65536 % 256), .int .u8 (now / 256 % 256), .int .u8 (now % 256), .int .u8 0, .int .u8 0, .int .u8 0, .int .u8 0] 5) := ⟨_, rfl⟩
      have hk : Kept (fun _ => False) wr wA := by rw [hwA]; exact (Kept.refl _ _).alloc _
      have HRO := Lib.hid (show Row wA wr.heap.size 5 (.slice (some ⟨wr.heap.size, 0, none⟩) 12 12) (bcs ([1, 1, 8, 10] ++ (digs 4 now ++ digs 4 0))) by rw [hwA]; exact Row.of_blk (xs := bcs ([1, 1, 8, 10] ++ (digs 4 now ++ digs 4 0))) (Blk.new wr 5 #[.int .u8 1, .int .u8 1, .int .u8 8, .int .u8 10, .int .u8 (now / 16777216), .int .u8 (now / 65536 % 256), .int .u8 (now / 256 % 256), .int .u8 (now % 256), .int .u8 0, .int .u8 0, .int .u8 0, .int .u8 0]) (Nat.le_refl _) (by show 12 ≤ maxLen; decide) (obs now n0 n1))
      have HLE := Lib.hid (show cb < wr.heap.size ∧ eb < wr.heap.size from ⟨HCN.out.1.lt, HCN.out.2.1.lt⟩)
      have HCNA := Lib.hid ((⟨HCN.out.1.kept hk (fun h => h), HCN.out.2.1.kept hk (fun h => h), HCN.out.2.2.kept hk (fun h => h)⟩ : _ ∧ _ ∧ _))
      have HHA := Lib.hid (HH.out.kept hk (fun h => h))
      have HFBA := Lib.hid (HFB.out.kept hk (fun h => h))
      have HKRA := Lib.hid (HKR.out.trans hk)
      rw [← hwA]
      clear hk hwA
      go_wp2_with (show wpList _ _ _ ((⟨_, .load 28 (.tmp 11), _, _, _, none⟩ : Oper) :: _) _ _; refine wpList_load_mid rfl 28 (.tmp 11) rfl fb 0 rfl [.bool false, .int .u64 0, .int .u64 0, .bool false, .int .u64 0, .int .u64 0, .int .u16 f.sp, .int .u16 f.dp, .int .u8 6] _ HFBA.out.range Tryz.underlying28 rfl (by kernel_rfl) ?_)
      refine (leaveT 3 1 0 1048576 0 f.sp f.dp mk now n0 n1 mk0 mk1 sp0 sp1 dp0 dp1 sb cb mg eb 0 (0 + 1) wr.heap.size (some ⟨wr.heap.size, 0, none⟩) 12 (by decide) wA HHA.out HCNA.out HRO.out HLE.out.1 HLE.out.2).mono ?_
      rintro e wB ⟨pv, rfl, hp, c1, c2, c3, hk⟩
      obtain ⟨vv, hvv⟩ : ∃ vv, now % 65536 * 65536 + mk = vv := ⟨_, rfl⟩
      rw [hvv] at hp
      have hp : Byt wB pv ((⟨0, 0, 0, true, false, 0, 64, 6, 0, 0, 0, []⟩ : Hd).pkt (⟨f.dp, f.sp, 0, 0, 16, 0, ((⟨f.dp, f.sp, 0, 0, 16, 0, 0, 0, ([1, 1, 8, 10] ++ (digs 4 vv ++ digs 4 0)), []⟩ : Sg).ck 0 0), 0, ([1, 1, 8, 10] ++ (digs 4 vv ++ digs 4 0)), []⟩ : Sg).bytes) := hp
      have HCNB := Lib.hid (And.intro c1 (And.intro c2 c3))
      have HHB := Lib.hid (HHA.out.kept hk (fun h => h.elim (fun h => HHA.out.ne_ HCNA.out.1 (by decide) h) (fun h => HHA.out.ne_ HCNA.out.2.1 (by decide) h)))
      have HFBB := Lib.hid (HFBA.out.kept hk (fun h => h.elim (fun h => HFBA.out.ne_ HCNA.out.1 (by decide) h) (fun h => HFBA.out.ne_ HCNA.out.2.1 (by decide) h)))
      have HKRB := Lib.hid (HKRA.out.then hk (fun i hi h => by have := HGE.out; have := HEG.out; omega))
      have hl12 : ([1, 1, 8, 10] ++ (digs 4 vv ++ digs 4 0)).length = 12 := by simp [digs_length]
      have hckr := (⟨f.dp, f.sp, 0, 0, 16, 0, 0, 0, ([1, 1, 8, 10] ++ (digs 4 vv ++ digs 4 0)), []⟩ : Sg).ck_range 0 0
      have hwf : (⟨f.dp, f.sp, 0, 0, 16, 0, ((⟨f.dp, f.sp, 0, 0, 16, 0, 0, 0, ([1, 1, 8, 10] ++ (digs 4 vv ++ digs 4 0)), []⟩ : Sg).ck 0 0), 0, ([1, 1, 8, 10] ++ (digs 4 vv ++ digs 4 0)), []⟩ : Sg).wf := wf12 f.dp f.sp 16 _ ([1, 1, 8, 10] ++ (digs 4 vv ++ digs 4 0)) dp0 dp1 sp0 sp1 (by omega) (by omega) hckr.1 hckr.2 hl12
      have es0 : (⟨f.dp, f.sp, 0, 0, 16, 0, 0, 0, ([1, 1, 8, 10] ++ (digs 4 vv ++ digs 4 0)), []⟩ : Sg).size = 32 := by rw [Sg.size]; show 20 + (([1, 1, 8, 10] ++ (digs 4 vv ++ digs 4 0))).length + 0 = 32; rw [hl12]
      have es2 : (⟨f.dp, f.sp, 0, 0, 16, 0, ((⟨f.dp, f.sp, 0, 0, 16, 0, 0, 0, ([1, 1, 8, 10] ++ (digs 4 vv ++ digs 4 0)), []⟩ : Sg).ck 0 0), 0, ([1, 1, 8, 10] ++ (digs 4 vv ++ digs 4 0)), []⟩ : Sg).size = 32 := by rw [Sg.size]; show 20 + (([1, 1, 8, 10] ++ (digs 4 vv ++ digs 4 0))).length + 0 = 32; rw [hl12]
      have ez : (⟨f.dp, f.sp, 0, 0, 16, 0, 0, 0, ([1, 1, 8, 10] ++ (digs 4 vv ++ digs 4 0)), []⟩ : Sg).summed 0 0 = (⟨f.dp, f.sp, 0, 0, 16, 0, ((⟨f.dp, f.sp, 0, 0, 16, 0, 0, 0, ([1, 1, 8, 10] ++ (digs 4 vv ++ digs 4 0)), []⟩ : Sg).ck 0 0), 0, ([1, 1, 8, 10] ++ (digs 4 vv ++ digs 4 0)), []⟩ : Sg) := rfl
      have hz := (⟨f.dp, f.sp, 0, 0, 16, 0, 0, 0, ([1, 1, 8, 10] ++ (digs 4 vv ++ digs 4 0)), []⟩ : Sg).fine 0 0
      rw [ez, es0] at hz
      have hz2 : 65535 - norm (total true (pseudo 0 0 6 (((⟨f.dp, f.sp, 0, 0, 16, 0, ((⟨f.dp, f.sp, 0, 0, 16, 0, 0, 0, ([1, 1, 8, 10] ++ (digs 4 vv ++ digs 4 0)), []⟩ : Sg).ck 0 0), 0, ([1, 1, 8, 10] ++ (digs 4 vv ++ digs 4 0)), []⟩ : Sg).size : Nat) : Int) ++ (⟨f.dp, f.sp, 0, 0, 16, 0, ((⟨f.dp, f.sp, 0, 0, 16, 0, 0, 0, ([1, 1, 8, 10] ++ (digs 4 vv ++ digs 4 0)), []⟩ : Sg).ck 0 0), 0, ([1, 1, 8, 10] ++ (digs 4 vv ++ digs 4 0)), []⟩ : Sg).bytes)) = 0 := by rw [es2]; exact hz
      have hsl : (⟨f.dp, f.sp, 0, 0, 16, 0, ((⟨f.dp, f.sp, 0, 0, 16, 0, 0, 0, ([1, 1, 8, 10] ++ (digs 4 vv ++ digs 4 0)), []⟩ : Sg).ck 0 0), 0, ([1, 1, 8, 10] ++ (digs 4 vv ++ digs 4 0)), []⟩ : Sg).bytes.length = 32 := by rw [Sg.bytes_len, es2]
      have hpl : ((⟨0, 0, 0, true, false, 0, 64, 6, 0, 0, 0, []⟩ : Hd).pkt (⟨f.dp, f.sp, 0, 0, 16, 0, ((⟨f.dp, f.sp, 0, 0, 16, 0, 0, 0, ([1, 1, 8, 10] ++ (digs 4 vv ++ digs 4 0)), []⟩ : Sg).ck 0 0), 0, ([1, 1, 8, 10] ++ (digs 4 vv ++ digs 4 0)), []⟩ : Sg).bytes).length = 52 := by rw [Hd.pkt_len, hsl]; rfl
      obtain ⟨PA, pc, hpe, h1, h2, h3⟩ := hp
      rw [hpl] at hpe h1
      subst hpe
      have HHO := Lib.hid (hostPk 0 0 (by decide) (by decide) (by decide) (by decide) true 64 (by decide) (by decide) f.dp f.sp 0 0 16 0 ((⟨f.dp, f.sp, 0, 0, 16, 0, 0, 0, ([1, 1, 8, 10] ++ (digs 4 vv ++ digs 4 0)), []⟩ : Sg).ck 0 0) 0 ([1, 1, 8, 10] ++ (digs 4 vv ++ digs 4 0)) [] 12 0 hl12 rfl (by omega) (by omega) (by omega) (by omega) hwf hz2 PA 52 pc hpl ⟨h1, h2⟩ wB h3)
      have v0 : 0 ≤ vv := by omega
      have v1 : vv ≤ 4294967295 := by omega
      have HV16 := Lib.hid (show vv % 65536 = mk by omega)
      have HVV := Lib.hid hvv
      clear hp c1 c2 c3 hk hl12 hckr hwf es0 es2 ez hz hz2 hsl hpl h1 h2 h3 hvv
      go_wp2_with fail
      refine HHO.out.mono ?_
      rintro e wC ⟨VA, vc, UA, uc, rfl, hvr, -, hk⟩
      have HVR := Lib.hid hvr
      have HVC := Lib.hid (show 12 ≤ vc ∧ vc ≤ maxLen by obtain ⟨_, c', e', h1, h2⟩ := hvr.shape; injection e' with _ _ ec; subst ec; rw [bcs_length] at h1; simp [digs_length] at h1; exact ⟨h1, h2⟩)
      have HCNC := Lib.hid ((⟨HCNB.out.1.kept hk (fun h => h), HCNB.out.2.1.kept hk (fun h => h), HCNB.out.2.2.kept hk (fun h => h)⟩ : _ ∧ _ ∧ _))
      have HHC := Lib.hid (HHB.out.kept hk (fun h => h))
      have HFBC := Lib.hid (HFBB.out.kept hk (fun h => h))
      have HKRC := Lib.hid (HKRB.out.trans hk)
      clear hvr hk HHO
      obtain ⟨ck, hck⟩ : ∃ ck, ((⟨f.dp, f.sp, 0, 0, 16, 0, 0, 0, ([1, 1, 8, 10] ++ (digs 4 vv ++ digs 4 0)), []⟩ : Sg).ck 0 0) = ck := ⟨_, rfl⟩
      rw [hck]
      clear hck
      go_upto_region 17 with (show wpList _ _ _ ((⟨none, .store 54 (.tmp 19) _, _, _, _, none⟩ : Oper) :: _) _ _; refine wpList_store_mid rfl 54 (.tmp 19) _ rfl wC.heap.size 0 #[.bool false, .bool true, .int .u8 64, .bool false, .int .u64 0, .int .u64 0, .bool false, .int .u64 0, .int .u64 0, .int .u16 f.dp, .int .u16 f.sp, .int .u8 6, .int .u16 f.dp, .int .u16 f.sp, .int .u32 0, .int .u32 0, .int .u8 16, .int .u16 0, .int .u16 ck, .int .u16 0, .slice VA 12 vc, .slice UA 0 uc, .int .u16 0, .int .u16 0, .int .u16 0, .slice none 0 0, .int .u8 0, .int .u8 0, .int .u16 0, .int .u32 0, .slice none 0 0] rfl rfl ((Blk.new wC 54 #[.bool false, .bool false, .int .u8 0, .bool false, .int .u64 0, .int .u64 0, .bool false, .int .u64 0, .int .u64 0, .int .u16 0, .int .u16 0, .int .u8 0, .int .u16 0, .int .u16 0, .int .u32 0, .int .u32 0, .int .u8 0, .int .u16 0, .int .u16 0, .int .u16 0, .slice none 0 0, .slice none 0 0, .int .u16 0, .int .u16 0, .int .u16 0, .slice none 0 0, .int .u8 0, .int .u8 0, .int .u16 0, .int .u32 0, .slice none 0 0]).there rfl) (by kernel_rfl) (by simp [Value.oneCell']) ?_)
      generalize hwq : (World.setCells _ _ _ _) = wD
      have hk : Kept (fun _ => False) wC wD := by rw [← hwq]; exact ((Kept.refl _ _).alloc _).then (Kept.setCells (S := fun i => i = wC.heap.size) rfl _ _ (Kept.refl _ _)) (fun i hi e => by omega)
      have T1 : Blk (wC.alloc (.cells #[.bool false, .bool false, .int .u8 0, .bool false, .int .u64 0, .int .u64 0, .bool false, .int .u64 0, .int .u64 0, .int .u16 0, .int .u16 0, .int .u8 0, .int .u16 0, .int .u16 0, .int .u32 0, .int .u32 0, .int .u8 0, .int .u16 0, .int .u16 0, .int .u16 0, .slice none 0 0, .slice none 0 0, .int .u16 0, .int .u16 0, .int .u16 0, .slice none 0 0, .int .u8 0, .int .u8 0, .int .u16 0, .int .u32 0, .slice none 0 0] 54)) wC.heap.size 54 #[.bool false, .bool false, .int .u8 0, .bool false, .int .u64 0, .int .u64 0, .bool false, .int .u64 0, .int .u64 0, .int .u16 0, .int .u16 0, .int .u8 0, .int .u16 0, .int .u16 0, .int .u32 0, .int .u32 0, .int .u8 0, .int .u16 0, .int .u16 0, .int .u16 0, .slice none 0 0, .slice none 0 0, .int .u16 0, .int .u16 0, .int .u16 0, .slice none 0 0, .int .u8 0, .int .u8 0, .int .u16 0, .int .u32 0, .slice none 0 0] := Blk.new wC 54 #[.bool false, .bool false, .int .u8 0, .bool false, .int .u64 0, .int .u64 0, .bool false, .int .u64 0, .int .u64 0, .int .u16 0, .int .u16 0, .int .u8 0, .int .u16 0, .int .u16 0, .int .u32 0, .int .u32 0, .int .u8 0, .int .u16 0, .int .u16 0, .int .u16 0, .slice none 0 0, .slice none 0 0, .int .u16 0, .int .u16 0, .int .u16 0, .slice none 0 0, .int .u8 0, .int .u8 0, .int .u16 0, .int .u32 0, .slice none 0 0]
      have T2 : Blk (World.setCells (wC.alloc (.cells #[.bool false, .bool false, .int .u8 0, .bool false, .int .u64 0, .int .u64 0, .bool false, .int .u64 0, .int .u64 0, .int .u16 0, .int .u16 0, .int .u8 0, .int .u16 0, .int .u16 0, .int .u32 0, .int .u32 0, .int .u8 0, .int .u16 0, .int .u16 0, .int .u16 0, .slice none 0 0, .slice none 0 0, .int .u16 0, .int .u16 0, .int .u16 0, .slice none 0 0, .int .u8 0, .int .u8 0, .int .u16 0, .int .u32 0, .slice none 0 0] 54)) wC.heap.size 0 [.bool false, .bool true, .int .u8 64, .bool false, .int .u64 0, .int .u64 0, .bool false, .int .u64 0, .int .u64 0, .int .u16 f.dp, .int .u16 f.sp, .int .u8 6, .int .u16 f.dp, .int .u16 f.sp, .int .u32 0, .int .u32 0, .int .u8 16, .int .u16 0, .int .u16 ck, .int .u16 0, .slice VA 12 vc, .slice UA 0 uc, .int .u16 0, .int .u16 0, .int .u16 0, .slice none 0 0, .int .u8 0, .int .u8 0, .int .u16 0, .int .u32 0, .slice none 0 0]) wC.heap.size 54 #[.bool false, .bool true, .int .u8 64, .bool false, .int .u64 0, .int .u64 0, .bool false, .int .u64 0, .int .u64 0, .int .u16 f.dp, .int .u16 f.sp, .int .u8 6, .int .u16 f.dp, .int .u16 f.sp, .int .u32 0, .int .u32 0, .int .u8 16, .int .u16 0, .int .u16 ck, .int .u16 0, .slice VA 12 vc, .slice UA 0 uc, .int .u16 0, .int .u16 0, .int .u16 0, .slice none 0 0, .int .u8 0, .int .u8 0, .int .u16 0, .int .u32 0, .slice none 0 0] := T1.setMid 0 _ _ (by simp) rfl
      have HIB := Lib.hid (show Blk wD wC.heap.size 54 #[.bool false, .bool true, .int .u8 64, .bool false, .int .u64 0, .int .u64 0, .bool false, .int .u64 0, .int .u64 0, .int .u16 f.dp, .int .u16 f.sp, .int .u8 6, .int .u16 f.dp, .int .u16 f.sp, .int .u32 0, .int .u32 0, .int .u8 16, .int .u16 0, .int .u16 ck, .int .u16 0, .slice VA 12 vc, .slice UA 0 uc, .int .u16 0, .int .u16 0, .int .u16 0, .slice none 0 0, .int .u8 0, .int .u8 0, .int .u16 0, .int .u32 0, .slice none 0 0] by rw [← hwq]; exact T2)
      have HVRD := Lib.hid (Row.kept HVR.out hk (fun _ _ h => h))
      have HCND := Lib.hid ((⟨HCNC.out.1.kept hk (fun h => h), HCNC.out.2.1.kept hk (fun h => h), HCNC.out.2.2.kept hk (fun h => h)⟩ : _ ∧ _ ∧ _))
      have HHD := Lib.hid (HHC.out.kept hk (fun h => h))
      have HFBD := Lib.hid (HFBC.out.kept hk (fun h => h))
      have HKRD := Lib.hid (HKRC.out.trans hk)
      clear hk hwq T1 T2
      go_wp2_with (show wpList _ _ _ ((⟨_, .load 48 (.tmp 86), _, _, _, none⟩ : Oper) :: _) _ _; refine wpList_load_mid rfl 48 (.tmp 86) rfl wC.heap.size 12 rfl [.int .u16 f.dp, .int .u16 f.sp, .int .u32 0, .int .u32 0, .int .u8 16, .int .u16 0, .int .u16 ck, .int .u16 0, .slice VA 12 vc, .slice UA 0 uc] _ (HIB.out.rangeMid 12 10 _ rfl) Tryz.underlying48 rfl (by kernel_rfl) ?_)
      refine (stampT f.dp f.sp 0 0 16 0 ck 0 VA vc UA 0 uc vv 0 v0 v1 (by omega) (by omega) HVC.out wD HVRD.out.byt_bs).mono ?_
      rintro e wE ⟨rfl, hk⟩
      have HCNE := Lib.hid ((⟨HCND.out.1.kept hk (fun h => h), HCND.out.2.1.kept hk (fun h => h), HCND.out.2.2.kept hk (fun h => h)⟩ : _ ∧ _ ∧ _))
      have HHE := Lib.hid (HHD.out.kept hk (fun h => h))
      have HFBE := Lib.hid (HFBD.out.kept hk (fun h => h))
      have HKRE := Lib.hid (HKRD.out.trans hk)
      clear hk
      have cz : wE.cell? ⟨b, off + i, none⟩ = some (.int .u16 z) := (HKRE.out.cell HCZ.out.1 (fun h => h) _).trans HCZ.out.2
      have hv16 := HV16.out
      by_cases hi0 : i = 0
      · have g0 : decide (0 < (i : Int)) = false := decide_eq_false (by omega)
        have g1 : decide (0 < i) = false := decide_eq_false (by omega)
        have g2 : ¬ 0 < i := by omega
        clear hi0
        go_wp2_with fail
        go_roundw
        case rel => exact ⟨i + 1, (now + z % 32768) % 4294967296, vv, by omega, by omega, by go_num, rfl, by omega, by omega, rfl, v0, v1, Lib.hid (by rw [← HVV.out]; exact last_next n0 n1 z0), HCNE, HHE, HFBE, HKRE⟩
        case measure => simp [intOf]; omega
      · have g0 : decide (0 < (i : Int)) = true := decide_eq_true (by omega)
        have g1 : decide (0 < i) = true := decide_eq_true (by omega)
        have g2 : 0 < i := by omega
        have ha : (vv - last) % 4294967296 < 2147483648 := by rw [← HVV.out]; exact last_ahead HLA.out g2
        have HAH := Lib.hid (aheadT last vv l0 l1 v0 v1 ha wE)
        clear hi0 ha
        go_wp2_with fail
        refine HAH.out.mono ?_
        rintro e w' ⟨rfl, rfl⟩
        go_wp2_with fail
        go_roundw
        case rel => exact ⟨i + 1, (now + z % 32768) % 4294967296, vv, by omega, by omega, by go_num, rfl, by omega, by omega, rfl, v0, v1, Lib.hid (by rw [← HVV.out]; exact last_next n0 n1 z0), HCNE, HHE, HFBE, HKRE⟩
        case measure => simp [intOf]; omega
    · go_wp2_with fail
      all_goals
        refine (worksT wr).mono ?_
        rintro e w6 ⟨rfl, hk⟩
        go_wp2_with fail
        go_ret
        exact ⟨rfl, HKR.out.trans hk⟩
end Go.Proofs.YtdnbhmfofphblaaGreatDoor
