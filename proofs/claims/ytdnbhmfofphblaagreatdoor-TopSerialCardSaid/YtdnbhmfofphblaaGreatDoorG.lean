/- ip4's header, walked. -/
import Derived.Test.YtdnbhmfofphblaaGreatDoorRdr
import Derived.Test.YtdnbhmfofphblaaGreatDoorC
import Derived.Test.YtdnbhmfofphblaaGreatDoorBase
import Derived.Deep.MidRow
namespace Go.Proofs.YtdnbhmfofphblaaGreatDoor
set_option maxRecDepth 100000
open Go.RowKit
set_option linter.unusedVariables false
theorem results_blk_tmp2 {P : Program} {fn : Func} {p u v : Tmp} {ty : TypeId} (h : fn.results = #[.cell p ty, .tmp u, .tmp v]) (tmps : Array Value) (w : World) (g : Nat) (t : TypeId) (cs : Array Value) (d : TypeDesc)
    (hp : tmps.getD p undef = .pointer (some ⟨g, 0, none⟩)) (hg : Blk w g t cs)
    (hu : P.underlying ty = some d) (hd : (match d with | .struct _ | .array _ _ => true | _ => false) = true) (hi : (P.info? ty).map (·.size) = some cs.size) :
    (results fn tmps).run P w = .ok (.tuple #[.agg cs, tmps.getD u undef, tmps.getD v undef]) w := by
  have e : (results fn tmps).run P w =
      ((asAddr (tmps.getD p undef)).run P w).andThen fun a w₁ => ((loadVar ty a).run P w₁).andThen fun x w₂ => .ok (.tuple #[x, tmps.getD u undef, tmps.getD v undef]) w₂ := by
    simp only [results, h]
    simp [Sem.run_bind, Result.andThen]
  rw [e, hp]
  simp [asAddr, run_loadVar_row w g t ty cs (0, 0) d hg hu hd hi, Result.andThen]
theorem Blk.range' {w : World} {g t : Nat} {cs : Array Value} (h : Blk w g t cs) : w.rangeAt g 0 cs.toList := by
  have := World.rangeAt_of_block h 0 cs.size
  simpa using this
theorem right_len (pb po pc cap B : Nat) (A : Option Addr) (l : List UInt8) (m : Nat) (hm : l.length = m) (w : World) (hl : m ≤ 100000) (hp : w.cell? ⟨pb, po, none⟩ = some (.slice A m cap)) (hb : BS w B A l) :
    Calls Tryz.prog 174 #[.slice (some ⟨pb, po, none⟩) 1 pc] w fun e w' => e = .returned (.bool (decide (65535 - norm (total true l) = 0))) ∧ w = w' := by
  subst hm
  exact right_any pb po pc cap B A l w hl hp hb
theorem cloneRow_any (A : Option Addr) (c : Nat) (l : List UInt8) (w : World) (hl : l.length ≤ 1000000) (hB : BS w w.heap.size A l) :
    Calls Tryz.prog 87 #[.slice A l.length c] w fun e w' => ∃ v, e = .returned v ∧ Row w' w.heap.size 5 v (bcs l) ∧ Below w.heap.size w w' := by
  have hq := fun W => Lib.run_eql_slice_nil (P := Tryz.prog) W 44 5 A l.length c 0 0 Tryz.underlying44
  have h5 := Tryz.info5r
  have HB := Lib.hid hB
  cases A with
  | none =>
    obtain rfl : l = [] := by
      rcases hB with h | ⟨_, _, _, h, _⟩
      · exact h
      · cases h
    clear hB hq
    have hq := fun W => Lib.run_eql_slice_nil (P := Tryz.prog) W 44 5 none 0 c 0 0 Tryz.underlying44
    go_enter Tryz.func87, Tryz.ntmps87
    go_wp2_with fail
    go_ret
    exact ⟨_, rfl, Row.nil _ _ _, Below.refl _ _⟩
  | some A =>
    clear hB
    go_enter Tryz.func87, Tryz.ntmps87
    go_wp2_with (at_builtin; refine wpList_append_row rfl (.tmp 5) (.tmp 6) 44 rfl w.heap.size 5 (.int .u8 0) 1 Tryz.underlying44 h5 rfl _ [] rfl (some A) l.length c (bcs l) rfl (bcs_length l).symm ?a1 ?a2 (bcs_one l) ?a3 ?a4 ?a5 ?_)
    case a1 => exact Row.of_blk (cs := #[]) (Blk.new_ rfl _ _) (Nat.le_refl _) (by simp) rfl
    case a2 => exact (HB.out.alloc (Nat.le_refl _) _).src
    case a3 => rw [bcs_length]; unfold maxLen; simp; omega
    case a4 => rw [bcs_length]; simp; omega
    case a5 => simp
    intro v1 w1 hrow hgr _
    have HR := Lib.hid hrow
    have HB1 := Lib.hid (show Below w.heap.size w w1 from ((Below.refl _ _).alloc (Nat.le_refl _) _).trans (below_grown hgr (fun i e => by simp [Value.ownBlock] at e; omega) (by simp)))
    clear hrow hgr
    go_wp2_with fail
    go_ret
    exact ⟨_, rfl, HR.out, HB1.out⟩

theorem clone_len (A : Option Addr) (c : Nat) (l : List UInt8) (m : Nat) (hm : l.length = m) (w : World) (hl : m ≤ 1000000) (hB : BS w w.heap.size A l) :
    Calls Tryz.prog 87 #[.slice A m c] w fun e w' => ∃ v, e = .returned v ∧ Row w' w.heap.size 5 v (bcs l) ∧ Below w.heap.size w w' := by
  subst hm
  exact cloneRow_any A c l w hl hB
/-- A header's cells. -/
def Hd.cells (h : Hd) (v : Value) : Array Value := #[.int .u8 h.tos, .int .i64 h.len, .int .u16 h.id, .bool h.stay, .bool h.more, .int .i64 h.off, .int .u8 h.ttl, .int .u8 h.proto, .int .u16 h.sum, .bool false, .int .u64 0, .int .u64 h.src, .bool false, .int .u64 0, .int .u64 h.dst, v]
def HeadP (b : List UInt8) (w : World) (e : Ending) (w' : World) : Prop := Below w.heap.size w w' ∧
  ((perr b ≠ 0 ∧ e = .returned (.tuple #[.agg #[.int .u8 0, .int .i64 0, .int .u16 0, .bool false, .bool false, .int .i64 0, .int .u8 0, .int .u8 0, .int .u16 0, .bool false, .int .u64 0, .int .u64 0, .bool false, .int .u64 0, .int .u64 0, .slice none 0 0], .int .i64 0, .int .i64 (perr b)])) ∨
   (perr b = 0 ∧ ∃ v, e = .returned (.tuple #[.agg ((phd b).cells v), .int .i64 (hsz b : Int), .int .i64 0]) ∧ Row w' w.heap.size 5 v (bcs (phd b).opts)))
set_option maxRecDepth 100000 in
set_option maxHeartbeats 8000000 in
theorem header_any (A : Option Addr) (c : Nat) (b : List UInt8) (w : World) (hl : b.length ≤ 100000) (hc : b.length ≤ c ∧ c ≤ maxLen) (hB : BS w w.heap.size A b) :
    Calls Tryz.prog 117 #[.slice A b.length c] w (HeadP b w) := by
  have HBS := Lib.hid hB
  clear hB
  by_cases h20 : b.length < 20
  · have HPE := Lib.hid (show perr b = 20 by unfold perr; rw [if_pos h20])
    go_enter Tryz.func117, Tryz.ntmps117
    go_upto_region 1 with fail
    obtain ⟨w1, hw1⟩ : ∃ w1 : World, w1 = w.alloc (.cells #[.int .u8 0, .int .i64 0, .int .u16 0, .bool false, .bool false, .int .i64 0, .int .u8 0, .int .u8 0, .int .u16 0, .bool false, .int .u64 0, .int .u64 0, .bool false, .int .u64 0, .int .u64 0, .slice none 0 0] 190) := ⟨_, rfl⟩
    have HR0 := Lib.hid (show Blk w1 w.heap.size 190 #[.int .u8 0, .int .i64 0, .int .u16 0, .bool false, .bool false, .int .i64 0, .int .u8 0, .int .u8 0, .int .u16 0, .bool false, .int .u64 0, .int .u64 0, .bool false, .int .u64 0, .int .u64 0, .slice none 0 0] by rw [hw1]; exact Blk.new _ _ _)
    have HKW := Lib.hid (show Below w.heap.size w w1 by rw [hw1]; exact (Below.refl _ _).alloc (Nat.le_refl _) _)
    have HS1 := Lib.hid (show w.heap.size ≤ w1.heap.size by rw [hw1]; simp)
    rw [← hw1]
    clear hw1
    obtain ⟨rb, hrb⟩ : ∃ rb, w.heap.size = rb := ⟨_, rfl⟩
    have HR1 : Hid (Blk w1 rb 190 #[.int .u8 0, .int .i64 0, .int .u16 0, .bool false, .bool false, .int .i64 0, .int .u8 0, .int .u8 0, .int .u16 0, .bool false, .int .u64 0, .int .u64 0, .bool false, .int .u64 0, .int .u64 0, .slice none 0 0]) := Lib.hid (by rw [← hrb]; exact HR0.out)
    rw [hrb]
    have HRBW := Lib.hid (show w.heap.size ≤ rb by omega)
    have HK1 := Lib.hid (Kept.refl (fun _ => False) w1)
    clear HR0 hrb
    have HKy := Lib.hid (show Kept (fun i => i = rb) w1 w1 from HK1.out.mono (fun _ _ h => h.elim))
    have HRz := HR1
    go_wp2_with (show wpList _ _ _ ((⟨none, .store 190 (.tmp 2) _, _, _, _, none⟩ : Oper) :: _) _ _; refine wpList_store_mid rfl 190 (.tmp 2) _ rfl rb 0 #[.int .u8 0, .int .i64 0, .int .u16 0, .bool false, .bool false, .int .i64 0, .int .u8 0, .int .u8 0, .int .u16 0, .bool false, .int .u64 0, .int .u64 0, .bool false, .int .u64 0, .int .u64 0, .slice none 0 0] rfl rfl (HRz.out.there rfl) (by kernel_rfl) (by simp [Value.oneCell']) ?_)
    generalize hwz : (World.setCells _ _ _ _) = wz
    have HKz := Lib.hid (show Kept (fun i => i = rb) w1 wz by rw [← hwz]; exact Kept.setCells (S := fun i => i = rb) rfl _ _ (Kept.refl _ _))
    have HRzz := Lib.hid (show Blk wz rb 190 #[.int .u8 0, .int .i64 0, .int .u16 0, .bool false, .bool false, .int .i64 0, .int .u8 0, .int .u8 0, .int .u16 0, .bool false, .int .u64 0, .int .u64 0, .bool false, .int .u64 0, .int .u64 0, .slice none 0 0] by rw [← hwz]; exact HRz.out.setAll #[.int .u8 0, .int .i64 0, .int .u16 0, .bool false, .bool false, .int .i64 0, .int .u8 0, .int .u8 0, .int .u16 0, .bool false, .int .u64 0, .int .u64 0, .bool false, .int .u64 0, .int .u64 0, .slice none 0 0] rfl)
    clear hwz
    refine bodyPost_ret (results_blk_tmp2 (P := Tryz.prog) (show Tryz.f117.results = _ from rfl) _ _ rb 190 #[.int .u8 0, .int .i64 0, .int .u16 0, .bool false, .bool false, .int .i64 0, .int .u8 0, .int .u8 0, .int .u16 0, .bool false, .int .u64 0, .int .u64 0, .bool false, .int .u64 0, .int .u64 0, .slice none 0 0] _ rfl HRzz.out Tryz.underlying190 rfl (by kernel_rfl)) rfl ⟨HKW.out.trans ((HKy.out.then HKz.out (fun i hi e => by omega) : Kept (fun i => i = rb) w1 wz).below HS1.out (fun i e => by have := HRBW.out; omega)), .inl ⟨?_, ?_⟩⟩
    · rw [HPE.out]; decide
    · rw [HPE.out]; rfl
  have HL := Lib.hid h20
  obtain ⟨bb, o, hbb, rfl, _⟩ := HBS.out.at (k := 0) (by omega)
  have h20' : 20 ≤ b.length := by omega
  obtain ⟨z, hz⟩ : ∃ z, hsz b = z := ⟨_, rfl⟩
  have zr := hsz_le b
  rw [hz] at zr
  obtain ⟨z60, z4⟩ := zr
  obtain ⟨v0, hv0⟩ : ∃ x, fld b 0 1 = x := ⟨_, rfl⟩
  have rv0 := fld_range b 0 1 (by omega)
  rw [hv0] at rv0
  have v00 : 0 ≤ v0 := rv0.1
  have v01 : v0 ≤ 255 := by have := rv0.2; simp only [show (256 : Int) ^ 1 = 256 from rfl] at this; omega
  have Hv0 := Lib.hid hv0
  have Tv0 := Lib.hid (show fld (b.take 20) 0 1 = v0 by rw [fld_take b 0 1 20 (by omega)]; exact hv0)
  clear hv0 rv0
  obtain ⟨v1, hv1⟩ : ∃ x, fld b 1 1 = x := ⟨_, rfl⟩
  have rv1 := fld_range b 1 1 (by omega)
  rw [hv1] at rv1
  have v10 : 0 ≤ v1 := rv1.1
  have v11 : v1 ≤ 255 := by have := rv1.2; simp only [show (256 : Int) ^ 1 = 256 from rfl] at this; omega
  have Hv1 := Lib.hid hv1
  have Tv1 := Lib.hid (show fld (b.take 20) 1 1 = v1 by rw [fld_take b 1 1 20 (by omega)]; exact hv1)
  clear hv1 rv1
  obtain ⟨v2, hv2⟩ : ∃ x, fld b 2 2 = x := ⟨_, rfl⟩
  have rv2 := fld_range b 2 2 (by omega)
  rw [hv2] at rv2
  have v20 : 0 ≤ v2 := rv2.1
  have v21 : v2 ≤ 65535 := by have := rv2.2; simp only [show (256 : Int) ^ 2 = 65536 from rfl] at this; omega
  have Hv2 := Lib.hid hv2
  have Tv2 := Lib.hid (show fld (b.take 20) 2 2 = v2 by rw [fld_take b 2 2 20 (by omega)]; exact hv2)
  clear hv2 rv2
  obtain ⟨v4, hv4⟩ : ∃ x, fld b 4 2 = x := ⟨_, rfl⟩
  have rv4 := fld_range b 4 2 (by omega)
  rw [hv4] at rv4
  have v40 : 0 ≤ v4 := rv4.1
  have v41 : v4 ≤ 65535 := by have := rv4.2; simp only [show (256 : Int) ^ 2 = 65536 from rfl] at this; omega
  have Hv4 := Lib.hid hv4
  have Tv4 := Lib.hid (show fld (b.take 20) 4 2 = v4 by rw [fld_take b 4 2 20 (by omega)]; exact hv4)
  clear hv4 rv4
  obtain ⟨v6, hv6⟩ : ∃ x, fld b 6 2 = x := ⟨_, rfl⟩
  have rv6 := fld_range b 6 2 (by omega)
  rw [hv6] at rv6
  have v60 : 0 ≤ v6 := rv6.1
  have v61 : v6 ≤ 65535 := by have := rv6.2; simp only [show (256 : Int) ^ 2 = 65536 from rfl] at this; omega
  have Hv6 := Lib.hid hv6
  have Tv6 := Lib.hid (show fld (b.take 20) 6 2 = v6 by rw [fld_take b 6 2 20 (by omega)]; exact hv6)
  clear hv6 rv6
  obtain ⟨v8, hv8⟩ : ∃ x, fld b 8 1 = x := ⟨_, rfl⟩
  have rv8 := fld_range b 8 1 (by omega)
  rw [hv8] at rv8
  have v80 : 0 ≤ v8 := rv8.1
  have v81 : v8 ≤ 255 := by have := rv8.2; simp only [show (256 : Int) ^ 1 = 256 from rfl] at this; omega
  have Hv8 := Lib.hid hv8
  have Tv8 := Lib.hid (show fld (b.take 20) 8 1 = v8 by rw [fld_take b 8 1 20 (by omega)]; exact hv8)
  clear hv8 rv8
  obtain ⟨v9, hv9⟩ : ∃ x, fld b 9 1 = x := ⟨_, rfl⟩
  have rv9 := fld_range b 9 1 (by omega)
  rw [hv9] at rv9
  have v90 : 0 ≤ v9 := rv9.1
  have v91 : v9 ≤ 255 := by have := rv9.2; simp only [show (256 : Int) ^ 1 = 256 from rfl] at this; omega
  have Hv9 := Lib.hid hv9
  have Tv9 := Lib.hid (show fld (b.take 20) 9 1 = v9 by rw [fld_take b 9 1 20 (by omega)]; exact hv9)
  clear hv9 rv9
  obtain ⟨v10, hv10⟩ : ∃ x, fld b 10 2 = x := ⟨_, rfl⟩
  have rv10 := fld_range b 10 2 (by omega)
  rw [hv10] at rv10
  have v100 : 0 ≤ v10 := rv10.1
  have v101 : v10 ≤ 65535 := by have := rv10.2; simp only [show (256 : Int) ^ 2 = 65536 from rfl] at this; omega
  have Hv10 := Lib.hid hv10
  have Tv10 := Lib.hid (show fld (b.take 20) 10 2 = v10 by rw [fld_take b 10 2 20 (by omega)]; exact hv10)
  clear hv10 rv10
  obtain ⟨v12, hv12⟩ : ∃ x, fld b 12 4 = x := ⟨_, rfl⟩
  have rv12 := fld_range b 12 4 (by omega)
  rw [hv12] at rv12
  have v120 : 0 ≤ v12 := rv12.1
  have v121 : v12 ≤ 4294967295 := by have := rv12.2; simp only [show (256 : Int) ^ 4 = 4294967296 from rfl] at this; omega
  have Hv12 := Lib.hid hv12
  have Tv12 := Lib.hid (show fld (b.take 20) 12 4 = v12 by rw [fld_take b 12 4 20 (by omega)]; exact hv12)
  clear hv12 rv12
  obtain ⟨v16, hv16⟩ : ∃ x, fld b 16 4 = x := ⟨_, rfl⟩
  have rv16 := fld_range b 16 4 (by omega)
  rw [hv16] at rv16
  have v160 : 0 ≤ v16 := rv16.1
  have v161 : v16 ≤ 4294967295 := by have := rv16.2; simp only [show (256 : Int) ^ 4 = 4294967296 from rfl] at this; omega
  have Hv16 := Lib.hid hv16
  have Tv16 := Lib.hid (show fld (b.take 20) 16 4 = v16 by rw [fld_take b 16 4 20 (by omega)]; exact hv16)
  clear hv16 rv16
  have hzz : (z : Int) = 4 * (v0 % 16) := by rw [← hz, ← Hv0.out]; unfold hsz; have := Hv0.out; omega
  have HZ := Lib.hid hz
  have HZZ := Lib.hid hzz
  clear hzz
  have e15 := and15 v0 v00 (by omega)
  have eSp := Lib.hid (andBit v6 15 32768 (by decide) (by decide) v60 (by omega))
  have H20 := Lib.hid (show (b.take 20).length = 20 by rw [List.length_take]; omega)
  clear hz
  go_enter Tryz.func117, Tryz.ntmps117
  go_upto_region 1 with fail
  obtain ⟨w1, hw1⟩ : ∃ w1 : World, w1 = w.alloc (.cells #[.int .u8 0, .int .i64 0, .int .u16 0, .bool false, .bool false, .int .i64 0, .int .u8 0, .int .u8 0, .int .u16 0, .bool false, .int .u64 0, .int .u64 0, .bool false, .int .u64 0, .int .u64 0, .slice none 0 0] 190) := ⟨_, rfl⟩
  have HR0 := Lib.hid (show Blk w1 w.heap.size 190 #[.int .u8 0, .int .i64 0, .int .u16 0, .bool false, .bool false, .int .i64 0, .int .u8 0, .int .u8 0, .int .u16 0, .bool false, .int .u64 0, .int .u64 0, .bool false, .int .u64 0, .int .u64 0, .slice none 0 0] by rw [hw1]; exact Blk.new _ _ _)
  have HKW := Lib.hid (show Below w.heap.size w w1 by rw [hw1]; exact (Below.refl _ _).alloc (Nat.le_refl _) _)
  have HS1 := Lib.hid (show w.heap.size ≤ w1.heap.size by rw [hw1]; simp)
  rw [← hw1]
  clear hw1
  obtain ⟨rb, hrb⟩ : ∃ rb, w.heap.size = rb := ⟨_, rfl⟩
  have HR1 : Hid (Blk w1 rb 190 #[.int .u8 0, .int .i64 0, .int .u16 0, .bool false, .bool false, .int .i64 0, .int .u8 0, .int .u8 0, .int .u16 0, .bool false, .int .u64 0, .int .u64 0, .bool false, .int .u64 0, .int .u64 0, .slice none 0 0]) := Lib.hid (by rw [← hrb]; exact HR0.out)
  rw [hrb]
  have HRBW := Lib.hid (show w.heap.size ≤ rb by omega)
  clear HR0 hrb
  have HB1 := Lib.hid (HBS.out.onB HKW.out (Nat.le_refl _))
  have c20 : ¬ (c : Int) < 20 := by have := hc.1; omega
  have hcm := hc.2
  unfold maxLen at hcm
  have hc1 := hc.1
  go_wp2_with fail
  have hq := readL_any (some ⟨bb, o, none⟩) c (b.take 20) w1 (by rw [H20.out]; omega) (HB1.out.take_ 20)
  rw [H20.out] at hq
  refine hq.mono ?_
  clear hq
  rintro e w2 ⟨rd, rfl, hrd, hR, hbw⟩
  have HRD2 := Lib.hid (show RdL w2 rd ((b.take 20).drop 0) by rw [List.drop_zero]; exact hR)
  have HK2 := Lib.hid (Kept.ofB (S := fun _ => False) hbw)
  have HGE := Lib.hid hrd
  clear hR hbw hrd
  go_wp2_with fail
  refine (rdByte rd 0 (b.take 20) v0 w2 (by rw [H20.out]; omega) (by rw [H20.out]; omega) Tv0.out HRD2.out).mono ?_
  rintro e w3 ⟨rfl, hR, hK⟩
  have HRD3 := Lib.hid hR
  have HKR3 := Lib.hid hK
  clear hR hK
  have HK3 := Lib.hid (HK2.out.then HKR3.out (fun i hi e => by have := HGE.out; omega))
  go_upto_region 6 with fail
  rw [← HZZ.out]
  go_wp2_with fail
  refine (rdByte rd 1 (b.take 20) v1 w3 (by rw [H20.out]; omega) (by rw [H20.out]; omega) Tv1.out HRD3.out).mono ?_
  rintro e w4 ⟨rfl, hR, hK⟩
  have HRD4 := Lib.hid hR
  have HKR4 := Lib.hid hK
  clear hR hK
  go_wp2_with fail
  refine (rdWord rd 2 (b.take 20) v2 w4 (by rw [H20.out]; omega) (by rw [H20.out]; omega) Tv2.out HRD4.out).mono ?_
  rintro e w5 ⟨rfl, hR, hK⟩
  have HRD5 := Lib.hid hR
  have HKR5 := Lib.hid hK
  clear hR hK
  go_wp2_with fail
  refine (rdWord rd 4 (b.take 20) v4 w5 (by rw [H20.out]; omega) (by rw [H20.out]; omega) Tv4.out HRD5.out).mono ?_
  rintro e w6 ⟨rfl, hR, hK⟩
  have HRD6 := Lib.hid hR
  have HKR6 := Lib.hid hK
  clear hR hK
  have HK6 := Lib.hid (HK3.out.then ((HKR4.out.trans HKR5.out).trans HKR6.out) (fun i hi e => by have := HGE.out; omega))
  go_upto_region 7 with (show wpList _ _ _ ((⟨none, .store 190 (.tmp 8) _, _, _, _, none⟩ : Oper) :: _) _ _; refine wpList_store_mid rfl 190 (.tmp 8) _ rfl w6.heap.size 0 #[.int .u8 v1, .int .i64 v2, .int .u16 v4, .bool false, .bool false, .int .i64 0, .int .u8 0, .int .u8 0, .int .u16 0, .bool false, .int .u64 0, .int .u64 0, .bool false, .int .u64 0, .int .u64 0, .slice none 0 0] rfl rfl ((Blk.new w6 190 #[.int .u8 0, .int .i64 0, .int .u16 0, .bool false, .bool false, .int .i64 0, .int .u8 0, .int .u8 0, .int .u16 0, .bool false, .int .u64 0, .int .u64 0, .bool false, .int .u64 0, .int .u64 0, .slice none 0 0]).there rfl) (by kernel_rfl) (by simp [Value.oneCell']) ?_)
  generalize hw7 : (World.setCells _ _ _ _) = w7
  have HH7 := Lib.hid (show Blk w7 w6.heap.size 190 #[.int .u8 v1, .int .i64 v2, .int .u16 v4, .bool false, .bool false, .int .i64 0, .int .u8 0, .int .u8 0, .int .u16 0, .bool false, .int .u64 0, .int .u64 0, .bool false, .int .u64 0, .int .u64 0, .slice none 0 0] by rw [← hw7]; exact (Blk.new w6 190 #[.int .u8 0, .int .i64 0, .int .u16 0, .bool false, .bool false, .int .i64 0, .int .u8 0, .int .u8 0, .int .u16 0, .bool false, .int .u64 0, .int .u64 0, .bool false, .int .u64 0, .int .u64 0, .slice none 0 0]).setAll #[.int .u8 v1, .int .i64 v2, .int .u16 v4, .bool false, .bool false, .int .i64 0, .int .u8 0, .int .u8 0, .int .u16 0, .bool false, .int .u64 0, .int .u64 0, .bool false, .int .u64 0, .int .u64 0, .slice none 0 0] rfl)
  have HKA := Lib.hid (show Kept (fun i => i = w6.heap.size) (w6.alloc (.cells #[.int .u8 0, .int .i64 0, .int .u16 0, .bool false, .bool false, .int .i64 0, .int .u8 0, .int .u8 0, .int .u16 0, .bool false, .int .u64 0, .int .u64 0, .bool false, .int .u64 0, .int .u64 0, .slice none 0 0] 190)) w7 by rw [← hw7]; exact Kept.setCells (S := fun i => i = w6.heap.size) rfl _ _ (Kept.refl _ _))
  have HKB := Lib.hid (show Kept (fun _ => False) w6 w7 from ((Kept.refl _ _).alloc _).then HKA.out (fun i hi e => by omega))
  have HK7 := Lib.hid (HK6.out.trans HKB.out)
  have HRD7 := Lib.hid (HRD6.out.on HKB.out (fun _ _ h => h))
  have HTR := Lib.hid (show rd < w6.heap.size by obtain ⟨_, _, h, _⟩ := HRD6.out; exact h.lt)
  have HTW := Lib.hid (show w1.heap.size ≤ w6.heap.size from HK6.out.size)
  clear hw7 HKA HKB
  obtain ⟨ht, hht⟩ : ∃ ht, w6.heap.size = ht := ⟨_, rfl⟩
  rw [hht] at HH7 HTR HTW ⊢
  clear hht
  go_wp2_with fail
  refine (rdWord rd 6 (b.take 20) v6 w7 (by rw [H20.out]; omega) (by rw [H20.out]; omega) Tv6.out HRD7.out).mono ?_
  rintro e w8 ⟨rfl, hR, hK⟩
  have HRD8 := Lib.hid hR
  have HKR8 := Lib.hid hK
  clear hR hK
  have HK8 := Lib.hid (HK7.out.then HKR8.out (fun i hi e => by have := HGE.out; omega))
  have HH8 := Lib.hid (HH7.out.kept HKR8.out (fun e => by have := HTR.out; omega))
  have HR8 := Lib.hid (HR1.out.kept HK8.out (fun h => h))
  have cB := HH8.out.cell
  have lB := HH8.out.lt
  have HBF : Hid (badForm b ↔ (v0 / 16 ≠ 4 ∨ z < 20 ∨ 32768 ≤ v6 ∨ v2 < (z : Int))) := Lib.hid (by unfold badForm; rw [Hv0.out, HZ.out, Hv6.out, Hv2.out])
  by_cases k1 : ¬ v0 / 16 = 4
  · have HPE := Lib.hid (show perr b = 21 by unfold perr; rw [if_neg HL.out, if_pos (HBF.out.2 (by omega))])
    have HKy := Lib.hid (show Kept (fun i => i = rb) w1 w8 from HK8.out.mono (fun _ _ h => h.elim))
    have HRz := HR8
    go_wp2_with (show wpList _ _ _ ((⟨none, .store 190 (.tmp 2) _, _, _, _, none⟩ : Oper) :: _) _ _; refine wpList_store_mid rfl 190 (.tmp 2) _ rfl rb 0 #[.int .u8 0, .int .i64 0, .int .u16 0, .bool false, .bool false, .int .i64 0, .int .u8 0, .int .u8 0, .int .u16 0, .bool false, .int .u64 0, .int .u64 0, .bool false, .int .u64 0, .int .u64 0, .slice none 0 0] rfl rfl (HRz.out.there rfl) (by kernel_rfl) (by simp [Value.oneCell']) ?_)
    generalize hwz : (World.setCells _ _ _ _) = wz
    have HKz := Lib.hid (show Kept (fun i => i = rb) w8 wz by rw [← hwz]; exact Kept.setCells (S := fun i => i = rb) rfl _ _ (Kept.refl _ _))
    have HRzz := Lib.hid (show Blk wz rb 190 #[.int .u8 0, .int .i64 0, .int .u16 0, .bool false, .bool false, .int .i64 0, .int .u8 0, .int .u8 0, .int .u16 0, .bool false, .int .u64 0, .int .u64 0, .bool false, .int .u64 0, .int .u64 0, .slice none 0 0] by rw [← hwz]; exact HRz.out.setAll #[.int .u8 0, .int .i64 0, .int .u16 0, .bool false, .bool false, .int .i64 0, .int .u8 0, .int .u8 0, .int .u16 0, .bool false, .int .u64 0, .int .u64 0, .bool false, .int .u64 0, .int .u64 0, .slice none 0 0] rfl)
    clear hwz
    refine bodyPost_ret (results_blk_tmp2 (P := Tryz.prog) (show Tryz.f117.results = _ from rfl) _ _ rb 190 #[.int .u8 0, .int .i64 0, .int .u16 0, .bool false, .bool false, .int .i64 0, .int .u8 0, .int .u8 0, .int .u16 0, .bool false, .int .u64 0, .int .u64 0, .bool false, .int .u64 0, .int .u64 0, .slice none 0 0] _ rfl HRzz.out Tryz.underlying190 rfl (by kernel_rfl)) rfl ⟨HKW.out.trans ((HKy.out.then HKz.out (fun i hi e => by omega) : Kept (fun i => i = rb) w1 wz).below HS1.out (fun i e => by have := HRBW.out; omega)), .inl ⟨?_, ?_⟩⟩
    · rw [HPE.out]; decide
    · rw [HPE.out]; rfl
  have k1 : v0 / 16 = 4 := by omega
  by_cases k2 : z < 20
  · have HPE := Lib.hid (show perr b = 21 by unfold perr; rw [if_neg HL.out, if_pos (HBF.out.2 (by omega))])
    have HKy := Lib.hid (show Kept (fun i => i = rb) w1 w8 from HK8.out.mono (fun _ _ h => h.elim))
    have HRz := HR8
    go_wp2_with (show wpList _ _ _ ((⟨none, .store 190 (.tmp 2) _, _, _, _, none⟩ : Oper) :: _) _ _; refine wpList_store_mid rfl 190 (.tmp 2) _ rfl rb 0 #[.int .u8 0, .int .i64 0, .int .u16 0, .bool false, .bool false, .int .i64 0, .int .u8 0, .int .u8 0, .int .u16 0, .bool false, .int .u64 0, .int .u64 0, .bool false, .int .u64 0, .int .u64 0, .slice none 0 0] rfl rfl (HRz.out.there rfl) (by kernel_rfl) (by simp [Value.oneCell']) ?_)
    generalize hwz : (World.setCells _ _ _ _) = wz
    have HKz := Lib.hid (show Kept (fun i => i = rb) w8 wz by rw [← hwz]; exact Kept.setCells (S := fun i => i = rb) rfl _ _ (Kept.refl _ _))
    have HRzz := Lib.hid (show Blk wz rb 190 #[.int .u8 0, .int .i64 0, .int .u16 0, .bool false, .bool false, .int .i64 0, .int .u8 0, .int .u8 0, .int .u16 0, .bool false, .int .u64 0, .int .u64 0, .bool false, .int .u64 0, .int .u64 0, .slice none 0 0] by rw [← hwz]; exact HRz.out.setAll #[.int .u8 0, .int .i64 0, .int .u16 0, .bool false, .bool false, .int .i64 0, .int .u8 0, .int .u8 0, .int .u16 0, .bool false, .int .u64 0, .int .u64 0, .bool false, .int .u64 0, .int .u64 0, .slice none 0 0] rfl)
    clear hwz
    refine bodyPost_ret (results_blk_tmp2 (P := Tryz.prog) (show Tryz.f117.results = _ from rfl) _ _ rb 190 #[.int .u8 0, .int .i64 0, .int .u16 0, .bool false, .bool false, .int .i64 0, .int .u8 0, .int .u8 0, .int .u16 0, .bool false, .int .u64 0, .int .u64 0, .bool false, .int .u64 0, .int .u64 0, .slice none 0 0] _ rfl HRzz.out Tryz.underlying190 rfl (by kernel_rfl)) rfl ⟨HKW.out.trans ((HKy.out.then HKz.out (fun i hi e => by omega) : Kept (fun i => i = rb) w1 wz).below HS1.out (fun i e => by have := HRBW.out; omega)), .inl ⟨?_, ?_⟩⟩
    · rw [HPE.out]; decide
    · rw [HPE.out]; rfl
  have k2' : 20 ≤ z := by omega
  by_cases k3 : 32768 ≤ v6
  · have HPE := Lib.hid (show perr b = 21 by unfold perr; rw [if_neg HL.out, if_pos (HBF.out.2 (by omega))])
    have eSp' : bits .and .u16 v6 32768 = 32768 := by have := eSp.out; rw [show ((32768 : Nat) : Int) = 32768 from rfl] at this; rw [this]; omega
    have HKy := Lib.hid (show Kept (fun i => i = rb) w1 w8 from HK8.out.mono (fun _ _ h => h.elim))
    have HRz := HR8
    go_wp2_with (show wpList _ _ _ ((⟨none, .store 190 (.tmp 2) _, _, _, _, none⟩ : Oper) :: _) _ _; refine wpList_store_mid rfl 190 (.tmp 2) _ rfl rb 0 #[.int .u8 0, .int .i64 0, .int .u16 0, .bool false, .bool false, .int .i64 0, .int .u8 0, .int .u8 0, .int .u16 0, .bool false, .int .u64 0, .int .u64 0, .bool false, .int .u64 0, .int .u64 0, .slice none 0 0] rfl rfl (HRz.out.there rfl) (by kernel_rfl) (by simp [Value.oneCell']) ?_)
    generalize hwz : (World.setCells _ _ _ _) = wz
    have HKz := Lib.hid (show Kept (fun i => i = rb) w8 wz by rw [← hwz]; exact Kept.setCells (S := fun i => i = rb) rfl _ _ (Kept.refl _ _))
    have HRzz := Lib.hid (show Blk wz rb 190 #[.int .u8 0, .int .i64 0, .int .u16 0, .bool false, .bool false, .int .i64 0, .int .u8 0, .int .u8 0, .int .u16 0, .bool false, .int .u64 0, .int .u64 0, .bool false, .int .u64 0, .int .u64 0, .slice none 0 0] by rw [← hwz]; exact HRz.out.setAll #[.int .u8 0, .int .i64 0, .int .u16 0, .bool false, .bool false, .int .i64 0, .int .u8 0, .int .u8 0, .int .u16 0, .bool false, .int .u64 0, .int .u64 0, .bool false, .int .u64 0, .int .u64 0, .slice none 0 0] rfl)
    clear hwz
    refine bodyPost_ret (results_blk_tmp2 (P := Tryz.prog) (show Tryz.f117.results = _ from rfl) _ _ rb 190 #[.int .u8 0, .int .i64 0, .int .u16 0, .bool false, .bool false, .int .i64 0, .int .u8 0, .int .u8 0, .int .u16 0, .bool false, .int .u64 0, .int .u64 0, .bool false, .int .u64 0, .int .u64 0, .slice none 0 0] _ rfl HRzz.out Tryz.underlying190 rfl (by kernel_rfl)) rfl ⟨HKW.out.trans ((HKy.out.then HKz.out (fun i hi e => by omega) : Kept (fun i => i = rb) w1 wz).below HS1.out (fun i e => by have := HRBW.out; omega)), .inl ⟨?_, ?_⟩⟩
    · rw [HPE.out]; decide
    · rw [HPE.out]; rfl
  have eSp' : bits .and .u16 v6 32768 = 0 := by have := eSp.out; rw [show ((32768 : Nat) : Int) = 32768 from rfl] at this; rw [this]; omega
  clear eSp
  by_cases k4 : v2 < (z : Int)
  · have HPE := Lib.hid (show perr b = 21 by unfold perr; rw [if_neg HL.out, if_pos (HBF.out.2 (by omega))])
    have HKy := Lib.hid (show Kept (fun i => i = rb) w1 w8 from HK8.out.mono (fun _ _ h => h.elim))
    have HRz := HR8
    go_wp2_with (show wpList _ _ _ ((⟨none, .store 190 (.tmp 2) _, _, _, _, none⟩ : Oper) :: _) _ _; refine wpList_store_mid rfl 190 (.tmp 2) _ rfl rb 0 #[.int .u8 0, .int .i64 0, .int .u16 0, .bool false, .bool false, .int .i64 0, .int .u8 0, .int .u8 0, .int .u16 0, .bool false, .int .u64 0, .int .u64 0, .bool false, .int .u64 0, .int .u64 0, .slice none 0 0] rfl rfl (HRz.out.there rfl) (by kernel_rfl) (by simp [Value.oneCell']) ?_)
    generalize hwz : (World.setCells _ _ _ _) = wz
    have HKz := Lib.hid (show Kept (fun i => i = rb) w8 wz by rw [← hwz]; exact Kept.setCells (S := fun i => i = rb) rfl _ _ (Kept.refl _ _))
    have HRzz := Lib.hid (show Blk wz rb 190 #[.int .u8 0, .int .i64 0, .int .u16 0, .bool false, .bool false, .int .i64 0, .int .u8 0, .int .u8 0, .int .u16 0, .bool false, .int .u64 0, .int .u64 0, .bool false, .int .u64 0, .int .u64 0, .slice none 0 0] by rw [← hwz]; exact HRz.out.setAll #[.int .u8 0, .int .i64 0, .int .u16 0, .bool false, .bool false, .int .i64 0, .int .u8 0, .int .u8 0, .int .u16 0, .bool false, .int .u64 0, .int .u64 0, .bool false, .int .u64 0, .int .u64 0, .slice none 0 0] rfl)
    clear hwz
    refine bodyPost_ret (results_blk_tmp2 (P := Tryz.prog) (show Tryz.f117.results = _ from rfl) _ _ rb 190 #[.int .u8 0, .int .i64 0, .int .u16 0, .bool false, .bool false, .int .i64 0, .int .u8 0, .int .u8 0, .int .u16 0, .bool false, .int .u64 0, .int .u64 0, .bool false, .int .u64 0, .int .u64 0, .slice none 0 0] _ rfl HRzz.out Tryz.underlying190 rfl (by kernel_rfl)) rfl ⟨HKW.out.trans ((HKy.out.then HKz.out (fun i hi e => by omega) : Kept (fun i => i = rb) w1 wz).below HS1.out (fun i e => by have := HRBW.out; omega)), .inl ⟨?_, ?_⟩⟩
    · rw [HPE.out]; decide
    · rw [HPE.out]; rfl
  have HNB := Lib.hid (show ¬ badForm b from fun h => by have := HBF.out.1 h; omega)
  by_cases k5 : (b.length : Int) < v2
  · have HPE := Lib.hid (show perr b = 20 by unfold perr; rw [if_neg HL.out, if_neg HNB.out, Hv2.out, if_pos k5])
    by_cases k6 : b.length < z
    · have k6' : (b.length : Int) < (z : Int) := by omega
      have HKy := Lib.hid (show Kept (fun i => i = rb) w1 w8 from HK8.out.mono (fun _ _ h => h.elim))
      have HRz := HR8
      go_wp2_with (show wpList _ _ _ ((⟨none, .store 190 (.tmp 2) _, _, _, _, none⟩ : Oper) :: _) _ _; refine wpList_store_mid rfl 190 (.tmp 2) _ rfl rb 0 #[.int .u8 0, .int .i64 0, .int .u16 0, .bool false, .bool false, .int .i64 0, .int .u8 0, .int .u8 0, .int .u16 0, .bool false, .int .u64 0, .int .u64 0, .bool false, .int .u64 0, .int .u64 0, .slice none 0 0] rfl rfl (HRz.out.there rfl) (by kernel_rfl) (by simp [Value.oneCell']) ?_)
      generalize hwz : (World.setCells _ _ _ _) = wz
      have HKz := Lib.hid (show Kept (fun i => i = rb) w8 wz by rw [← hwz]; exact Kept.setCells (S := fun i => i = rb) rfl _ _ (Kept.refl _ _))
      have HRzz := Lib.hid (show Blk wz rb 190 #[.int .u8 0, .int .i64 0, .int .u16 0, .bool false, .bool false, .int .i64 0, .int .u8 0, .int .u8 0, .int .u16 0, .bool false, .int .u64 0, .int .u64 0, .bool false, .int .u64 0, .int .u64 0, .slice none 0 0] by rw [← hwz]; exact HRz.out.setAll #[.int .u8 0, .int .i64 0, .int .u16 0, .bool false, .bool false, .int .i64 0, .int .u8 0, .int .u8 0, .int .u16 0, .bool false, .int .u64 0, .int .u64 0, .bool false, .int .u64 0, .int .u64 0, .slice none 0 0] rfl)
      clear hwz
      refine bodyPost_ret (results_blk_tmp2 (P := Tryz.prog) (show Tryz.f117.results = _ from rfl) _ _ rb 190 #[.int .u8 0, .int .i64 0, .int .u16 0, .bool false, .bool false, .int .i64 0, .int .u8 0, .int .u8 0, .int .u16 0, .bool false, .int .u64 0, .int .u64 0, .bool false, .int .u64 0, .int .u64 0, .slice none 0 0] _ rfl HRzz.out Tryz.underlying190 rfl (by kernel_rfl)) rfl ⟨HKW.out.trans ((HKy.out.then HKz.out (fun i hi e => by omega) : Kept (fun i => i = rb) w1 wz).below HS1.out (fun i e => by have := HRBW.out; omega)), .inl ⟨?_, ?_⟩⟩
      · rw [HPE.out]; decide
      · rw [HPE.out]; rfl
    · have k6' : ¬ (b.length : Int) < (z : Int) := by omega
      have HKy := Lib.hid (show Kept (fun i => i = rb) w1 w8 from HK8.out.mono (fun _ _ h => h.elim))
      have HRz := HR8
      go_wp2_with (show wpList _ _ _ ((⟨none, .store 190 (.tmp 2) _, _, _, _, none⟩ : Oper) :: _) _ _; refine wpList_store_mid rfl 190 (.tmp 2) _ rfl rb 0 #[.int .u8 0, .int .i64 0, .int .u16 0, .bool false, .bool false, .int .i64 0, .int .u8 0, .int .u8 0, .int .u16 0, .bool false, .int .u64 0, .int .u64 0, .bool false, .int .u64 0, .int .u64 0, .slice none 0 0] rfl rfl (HRz.out.there rfl) (by kernel_rfl) (by simp [Value.oneCell']) ?_)
      generalize hwz : (World.setCells _ _ _ _) = wz
      have HKz := Lib.hid (show Kept (fun i => i = rb) w8 wz by rw [← hwz]; exact Kept.setCells (S := fun i => i = rb) rfl _ _ (Kept.refl _ _))
      have HRzz := Lib.hid (show Blk wz rb 190 #[.int .u8 0, .int .i64 0, .int .u16 0, .bool false, .bool false, .int .i64 0, .int .u8 0, .int .u8 0, .int .u16 0, .bool false, .int .u64 0, .int .u64 0, .bool false, .int .u64 0, .int .u64 0, .slice none 0 0] by rw [← hwz]; exact HRz.out.setAll #[.int .u8 0, .int .i64 0, .int .u16 0, .bool false, .bool false, .int .i64 0, .int .u8 0, .int .u8 0, .int .u16 0, .bool false, .int .u64 0, .int .u64 0, .bool false, .int .u64 0, .int .u64 0, .slice none 0 0] rfl)
      clear hwz
      refine bodyPost_ret (results_blk_tmp2 (P := Tryz.prog) (show Tryz.f117.results = _ from rfl) _ _ rb 190 #[.int .u8 0, .int .i64 0, .int .u16 0, .bool false, .bool false, .int .i64 0, .int .u8 0, .int .u8 0, .int .u16 0, .bool false, .int .u64 0, .int .u64 0, .bool false, .int .u64 0, .int .u64 0, .slice none 0 0] _ rfl HRzz.out Tryz.underlying190 rfl (by kernel_rfl)) rfl ⟨HKW.out.trans ((HKy.out.then HKz.out (fun i hi e => by omega) : Kept (fun i => i = rb) w1 wz).below HS1.out (fun i e => by have := HRBW.out; omega)), .inl ⟨?_, ?_⟩⟩
      · rw [HPE.out]; decide
      · rw [HPE.out]; rfl
  have k6 : ¬ (b.length : Int) < (z : Int) := by omega
  have HZL := Lib.hid (show (b.take z).length = z by rw [List.length_take]; omega)
  have HB8 := Lib.hid (HB1.out.on HK8.out (fun _ _ h => h))
  go_wp2_with fail
  refine (right_len w8.heap.size 0 1 c w8.heap.size (some ⟨bb, o, none⟩) (b.take z) z HZL.out _ (by omega) ?p1 ?p2).mono ?_
  case p1 => exact (Blk.new _ _ _).cell 0
  case p2 => exact (HB8.out.take_ z).alloc (Nat.le_refl _) _
  rintro e w9 ⟨rfl, hw⟩
  have HK9 := Lib.hid (show Kept (fun _ => False) w1 w9 by rw [← hw]; exact HK8.out.alloc _)
  have HR9 := Lib.hid (show Blk w9 rb 190 #[.int .u8 0, .int .i64 0, .int .u16 0, .bool false, .bool false, .int .i64 0, .int .u8 0, .int .u8 0, .int .u16 0, .bool false, .int .u64 0, .int .u64 0, .bool false, .int .u64 0, .int .u64 0, .slice none 0 0] by rw [← hw]; exact HR8.out.alloc _)
  have HH9 := Lib.hid (show Blk w9 ht 190 #[.int .u8 v1, .int .i64 v2, .int .u16 v4, .bool false, .bool false, .int .i64 0, .int .u8 0, .int .u8 0, .int .u16 0, .bool false, .int .u64 0, .int .u64 0, .bool false, .int .u64 0, .int .u64 0, .slice none 0 0] by rw [← hw]; exact HH8.out.alloc _)
  have HRD9 := Lib.hid (show RdL w9 rd ((b.take 20).drop 8) by rw [← hw]; exact HRD8.out.on ((Kept.refl (fun _ => False) _).alloc _) (fun _ _ h => h))
  clear hw cB lB
  have cB := HH9.out.cell
  have fB := HH9.out.frozen
  have lB := HH9.out.lt
  by_cases ks : ¬ 65535 - norm (total true (b.take z)) = 0
  · have HPE := Lib.hid (show perr b = 22 by unfold perr; rw [if_neg HL.out, if_neg HNB.out, Hv2.out, if_neg (by omega), HZ.out, if_pos ks])
    rw [decide_eq_false ks]
    have HKy := Lib.hid (show Kept (fun i => i = rb) w1 w9 from HK9.out.mono (fun _ _ h => h.elim))
    have HRz := HR9
    go_wp2_with (show wpList _ _ _ ((⟨none, .store 190 (.tmp 2) _, _, _, _, none⟩ : Oper) :: _) _ _; refine wpList_store_mid rfl 190 (.tmp 2) _ rfl rb 0 #[.int .u8 0, .int .i64 0, .int .u16 0, .bool false, .bool false, .int .i64 0, .int .u8 0, .int .u8 0, .int .u16 0, .bool false, .int .u64 0, .int .u64 0, .bool false, .int .u64 0, .int .u64 0, .slice none 0 0] rfl rfl (HRz.out.there rfl) (by kernel_rfl) (by simp [Value.oneCell']) ?_)
    generalize hwz : (World.setCells _ _ _ _) = wz
    have HKz := Lib.hid (show Kept (fun i => i = rb) w9 wz by rw [← hwz]; exact Kept.setCells (S := fun i => i = rb) rfl _ _ (Kept.refl _ _))
    have HRzz := Lib.hid (show Blk wz rb 190 #[.int .u8 0, .int .i64 0, .int .u16 0, .bool false, .bool false, .int .i64 0, .int .u8 0, .int .u8 0, .int .u16 0, .bool false, .int .u64 0, .int .u64 0, .bool false, .int .u64 0, .int .u64 0, .slice none 0 0] by rw [← hwz]; exact HRz.out.setAll #[.int .u8 0, .int .i64 0, .int .u16 0, .bool false, .bool false, .int .i64 0, .int .u8 0, .int .u8 0, .int .u16 0, .bool false, .int .u64 0, .int .u64 0, .bool false, .int .u64 0, .int .u64 0, .slice none 0 0] rfl)
    clear hwz
    refine bodyPost_ret (results_blk_tmp2 (P := Tryz.prog) (show Tryz.f117.results = _ from rfl) _ _ rb 190 #[.int .u8 0, .int .i64 0, .int .u16 0, .bool false, .bool false, .int .i64 0, .int .u8 0, .int .u8 0, .int .u16 0, .bool false, .int .u64 0, .int .u64 0, .bool false, .int .u64 0, .int .u64 0, .slice none 0 0] _ rfl HRzz.out Tryz.underlying190 rfl (by kernel_rfl)) rfl ⟨HKW.out.trans ((HKy.out.then HKz.out (fun i hi e => by omega) : Kept (fun i => i = rb) w1 wz).below HS1.out (fun i e => by have := HRBW.out; omega)), .inl ⟨?_, ?_⟩⟩
    · rw [HPE.out]; decide
    · rw [HPE.out]; rfl
  have ks : 65535 - norm (total true (b.take z)) = 0 := Decidable.not_not.1 ks
  have HPE := Lib.hid (show perr b = 0 by unfold perr; rw [if_neg HL.out, if_neg HNB.out, Hv2.out, if_neg (by omega), HZ.out, if_neg (by rw [ks]; decide)])
  rw [decide_eq_true ks]
  clear ks
  have q14 : (bits .and .u16 v6 16384 != 0) = decide (v6 / 16384 % 2 = 1) := by
    have e := andBit v6 14 16384 (by decide) (by decide) v60 (by omega)
    rw [show ((16384 : Nat) : Int) = 16384 from rfl] at e
    rw [e]
    by_cases h : v6 / 16384 % 2 = 1
    · rw [h]; decide
    · have : v6 / 16384 % 2 = 0 := by omega
      rw [this]; decide
  have q13 : (bits .and .u16 v6 8192 != 0) = decide (v6 / 8192 % 2 = 1) := by
    have e := andBit v6 13 8192 (by decide) (by decide) v60 (by omega)
    rw [show ((8192 : Nat) : Int) = 8192 from rfl] at e
    rw [e]
    by_cases h : v6 / 8192 % 2 = 1
    · rw [h]; decide
    · have : v6 / 8192 % 2 = 0 := by omega
      rw [this]; decide
  have Q14 := Lib.hid q14
  have Q13 := Lib.hid q13
  clear q14 q13
  have e13 := and13 v6 v60 (by omega)
  have lT := HTR.out
  have HRTB := Lib.hid (show rb < ht by have := HR1.out.lt; have := HTW.out; omega)
  go_upto_region 17 with fail
  generalize hw10 : World.setCell _ _ _ = w10
  rw [Q14.out, Q13.out] at hw10
  have HH10 := Lib.hid (show Blk w10 ht 190 #[.int .u8 v1, .int .i64 v2, .int .u16 v4, .bool (decide (v6 / 16384 % 2 = 1)), .bool (decide (v6 / 8192 % 2 = 1)), .int .i64 (v6 % 8192), .int .u8 0, .int .u8 0, .int .u16 0, .bool false, .int .u64 0, .int .u64 0, .bool false, .int .u64 0, .int .u64 0, .slice none 0 0] by rw [← hw10]; exact ((HH9.out.set_ 3 _).set_ 4 _).set_to rfl)
  have HKs := Lib.hid (show Kept (fun i => i = ht) w9 w10 by rw [← hw10]; repeat (first | exact Kept.refl _ _ | refine Kept.setIn (S := fun i => i = ht) rfl ?_))
  have HK10 := Lib.hid (HK9.out.then HKs.out (fun i hi e => by have := HTW.out; omega))
  have HRD10 := Lib.hid (HRD9.out.on HKs.out (fun i hi e => by have := HTR.out; omega))
  clear hw10 HKs cB fB lB
  have cB := HH10.out.cell
  have fB := HH10.out.frozen
  have lB := HH10.out.lt
  go_wp2_with fail
  refine (rdByte rd 8 (b.take 20) v8 w10 (by rw [H20.out]; omega) (by rw [H20.out]; omega) Tv8.out HRD10.out).mono ?_
  rintro e w11 ⟨rfl, hR, hK⟩
  have HRD11 := Lib.hid hR
  have HKR11 := Lib.hid hK
  clear hR hK
  have HK11 := Lib.hid (HK10.out.then HKR11.out (fun i hi e => by have := HGE.out; omega))
  have HH11 := Lib.hid (HH10.out.kept HKR11.out (fun e => by have := HTR.out; omega))
  clear cB fB lB
  have cB := HH11.out.cell
  have fB := HH11.out.frozen
  have lB := HH11.out.lt
  go_upto_region 18 with fail
  generalize hw12 : World.setCell _ _ _ = w12
  have HH12 := Lib.hid (show Blk w12 ht 190 #[.int .u8 v1, .int .i64 v2, .int .u16 v4, .bool (decide (v6 / 16384 % 2 = 1)), .bool (decide (v6 / 8192 % 2 = 1)), .int .i64 (v6 % 8192), .int .u8 v8, .int .u8 0, .int .u16 0, .bool false, .int .u64 0, .int .u64 0, .bool false, .int .u64 0, .int .u64 0, .slice none 0 0] by rw [← hw12]; exact HH11.out.set_to rfl)
  have HKs := Lib.hid (show Kept (fun i => i = ht) w11 w12 by rw [← hw12]; repeat (first | exact Kept.refl _ _ | refine Kept.setIn (S := fun i => i = ht) rfl ?_))
  have HK12 := Lib.hid (HK11.out.then HKs.out (fun i hi e => by have := HTW.out; omega))
  have HRD12 := Lib.hid (HRD11.out.on HKs.out (fun i hi e => by have := HTR.out; omega))
  clear hw12 HKs cB fB lB
  have cB := HH12.out.cell
  have fB := HH12.out.frozen
  have lB := HH12.out.lt
  go_wp2_with fail
  refine (rdByte rd 9 (b.take 20) v9 w12 (by rw [H20.out]; omega) (by rw [H20.out]; omega) Tv9.out HRD12.out).mono ?_
  rintro e w13 ⟨rfl, hR, hK⟩
  have HRD13 := Lib.hid hR
  have HKR13 := Lib.hid hK
  clear hR hK
  have HK13 := Lib.hid (HK12.out.then HKR13.out (fun i hi e => by have := HGE.out; omega))
  have HH13 := Lib.hid (HH12.out.kept HKR13.out (fun e => by have := HTR.out; omega))
  clear cB fB lB
  have cB := HH13.out.cell
  have fB := HH13.out.frozen
  have lB := HH13.out.lt
  go_upto_region 19 with fail
  generalize hw14 : World.setCell _ _ _ = w14
  have HH14 := Lib.hid (show Blk w14 ht 190 #[.int .u8 v1, .int .i64 v2, .int .u16 v4, .bool (decide (v6 / 16384 % 2 = 1)), .bool (decide (v6 / 8192 % 2 = 1)), .int .i64 (v6 % 8192), .int .u8 v8, .int .u8 v9, .int .u16 0, .bool false, .int .u64 0, .int .u64 0, .bool false, .int .u64 0, .int .u64 0, .slice none 0 0] by rw [← hw14]; exact HH13.out.set_to rfl)
  have HKs := Lib.hid (show Kept (fun i => i = ht) w13 w14 by rw [← hw14]; repeat (first | exact Kept.refl _ _ | refine Kept.setIn (S := fun i => i = ht) rfl ?_))
  have HK14 := Lib.hid (HK13.out.then HKs.out (fun i hi e => by have := HTW.out; omega))
  have HRD14 := Lib.hid (HRD13.out.on HKs.out (fun i hi e => by have := HTR.out; omega))
  clear hw14 HKs cB fB lB
  have cB := HH14.out.cell
  have fB := HH14.out.frozen
  have lB := HH14.out.lt
  go_wp2_with fail
  refine (rdWord rd 10 (b.take 20) v10 w14 (by rw [H20.out]; omega) (by rw [H20.out]; omega) Tv10.out HRD14.out).mono ?_
  rintro e w15 ⟨rfl, hR, hK⟩
  have HRD15 := Lib.hid hR
  have HKR15 := Lib.hid hK
  clear hR hK
  have HK15 := Lib.hid (HK14.out.then HKR15.out (fun i hi e => by have := HGE.out; omega))
  have HH15 := Lib.hid (HH14.out.kept HKR15.out (fun e => by have := HTR.out; omega))
  clear cB fB lB
  have cB := HH15.out.cell
  have fB := HH15.out.frozen
  have lB := HH15.out.lt
  go_upto_region 20 with fail
  generalize hw16 : World.setCell _ _ _ = w16
  have HH16 := Lib.hid (show Blk w16 ht 190 #[.int .u8 v1, .int .i64 v2, .int .u16 v4, .bool (decide (v6 / 16384 % 2 = 1)), .bool (decide (v6 / 8192 % 2 = 1)), .int .i64 (v6 % 8192), .int .u8 v8, .int .u8 v9, .int .u16 v10, .bool false, .int .u64 0, .int .u64 0, .bool false, .int .u64 0, .int .u64 0, .slice none 0 0] by rw [← hw16]; exact HH15.out.set_to rfl)
  have HKs := Lib.hid (show Kept (fun i => i = ht) w15 w16 by rw [← hw16]; repeat (first | exact Kept.refl _ _ | refine Kept.setIn (S := fun i => i = ht) rfl ?_))
  have HK16 := Lib.hid (HK15.out.then HKs.out (fun i hi e => by have := HTW.out; omega))
  have HRD16 := Lib.hid (HRD15.out.on HKs.out (fun i hi e => by have := HTR.out; omega))
  clear hw16 HKs cB fB lB
  have cB := HH16.out.cell
  have fB := HH16.out.frozen
  have lB := HH16.out.lt
  go_wp2_with fail
  refine (rdLong rd 12 (b.take 20) v12 w16 (by rw [H20.out]; omega) (by rw [H20.out]; omega) Tv12.out HRD16.out).mono ?_
  rintro e w17 ⟨rfl, hR, hK⟩
  have HRD17 := Lib.hid hR
  have HKR17 := Lib.hid hK
  clear hR hK
  have HK17 := Lib.hid (HK16.out.then HKR17.out (fun i hi e => by have := HGE.out; omega))
  have HH17 := Lib.hid (HH16.out.kept HKR17.out (fun e => by have := HTR.out; omega))
  clear cB fB lB
  have cB := HH17.out.cell
  have fB := HH17.out.frozen
  have lB := HH17.out.lt
  go_upto_region 21 with fail
  generalize hw18 : World.setCell _ _ _ = w18
  have HH18 := Lib.hid (show Blk w18 ht 190 #[.int .u8 v1, .int .i64 v2, .int .u16 v4, .bool (decide (v6 / 16384 % 2 = 1)), .bool (decide (v6 / 8192 % 2 = 1)), .int .i64 (v6 % 8192), .int .u8 v8, .int .u8 v9, .int .u16 v10, .bool false, .int .u64 0, .int .u64 v12, .bool false, .int .u64 0, .int .u64 0, .slice none 0 0] by rw [← hw18]; exact ((HH17.out.set_ 9 _).set_ 10 _).set_to rfl)
  have HKs := Lib.hid (show Kept (fun i => i = ht) w17 w18 by rw [← hw18]; repeat (first | exact Kept.refl _ _ | refine Kept.setIn (S := fun i => i = ht) rfl ?_))
  have HK18 := Lib.hid (HK17.out.then HKs.out (fun i hi e => by have := HTW.out; omega))
  have HRD18 := Lib.hid (HRD17.out.on HKs.out (fun i hi e => by have := HTR.out; omega))
  clear hw18 HKs cB fB lB
  have cB := HH18.out.cell
  have fB := HH18.out.frozen
  have lB := HH18.out.lt
  go_wp2_with fail
  refine (rdLong rd 16 (b.take 20) v16 w18 (by rw [H20.out]; omega) (by rw [H20.out]; omega) Tv16.out HRD18.out).mono ?_
  rintro e w19 ⟨rfl, hR, hK⟩
  have HRD19 := Lib.hid hR
  have HKR19 := Lib.hid hK
  clear hR hK
  have HK19 := Lib.hid (HK18.out.then HKR19.out (fun i hi e => by have := HGE.out; omega))
  have HH19 := Lib.hid (HH18.out.kept HKR19.out (fun e => by have := HTR.out; omega))
  clear cB fB lB
  have cB := HH19.out.cell
  have fB := HH19.out.frozen
  have lB := HH19.out.lt
  go_upto_region 22 with fail
  generalize hw20 : World.setCell _ _ _ = w20
  have HH20 := Lib.hid (show Blk w20 ht 190 #[.int .u8 v1, .int .i64 v2, .int .u16 v4, .bool (decide (v6 / 16384 % 2 = 1)), .bool (decide (v6 / 8192 % 2 = 1)), .int .i64 (v6 % 8192), .int .u8 v8, .int .u8 v9, .int .u16 v10, .bool false, .int .u64 0, .int .u64 v12, .bool false, .int .u64 0, .int .u64 v16, .slice none 0 0] by rw [← hw20]; exact ((HH19.out.set_ 12 _).set_ 13 _).set_to rfl)
  have HKs := Lib.hid (show Kept (fun i => i = ht) w19 w20 by rw [← hw20]; repeat (first | exact Kept.refl _ _ | refine Kept.setIn (S := fun i => i = ht) rfl ?_))
  have HK20 := Lib.hid (HK19.out.then HKs.out (fun i hi e => by have := HTW.out; omega))
  have HRD20 := Lib.hid (HRD19.out.on HKs.out (fun i hi e => by have := HTR.out; omega))
  clear hw20 HKs cB fB lB
  have cB := HH20.out.cell
  have fB := HH20.out.frozen
  have lB := HH20.out.lt
  have HBw := Lib.hid (HB1.out.on HK20.out (fun _ _ h => h))
  have HRw := Lib.hid (HR1.out.kept HK20.out (fun h => h))
  have HO := Lib.hid (show ((b.drop 20).take (z - 20)).length = z - 20 by rw [List.length_take, List.length_drop]; omega)
  by_cases hc20 : 20 < c
  · have j1 : (20 : Int) < (c : Int) := by omega
    have HYB := Lib.hid (show BS w20 w20.heap.size (some ⟨bb, o + 20, none⟩) ((b.drop 20).take (z - 20)) from (HBw.out.drop_ 20).take_ _)
    go_wp2_with fail
    refine (clone_len (some ⟨bb, o + 20, none⟩) (c - 20) ((b.drop 20).take (z - 20)) (z - 20) HO.out w20 (by omega) HYB.out).mono ?_
    rintro e w21 ⟨v, rfl, hy, hbw⟩
    obtain ⟨NA, nc, hve, -, -⟩ := hy.shape
    rw [bcs_length, HO.out] at hve
    subst hve
    have HNR := Lib.hid hy
    have HKc := Lib.hid (Kept.ofB (S := fun _ => False) hbw)
    have HK21 := Lib.hid (HK20.out.trans HKc.out)
    have HH21 := Lib.hid (HH20.out.kept HKc.out (fun h => h))
    have HGQ := Lib.hid (show ht < w20.heap.size from HH20.out.lt)
    clear cB fB lB hbw hy
    have cB := HH21.out.cell
    have fB := HH21.out.frozen
    have lB := HH21.out.lt
    go_upto_region 23 with fail
    generalize hwq : World.setCell _ _ _ = wq
    have HHq := Lib.hid (show Blk wq ht 190 #[.int .u8 v1, .int .i64 v2, .int .u16 v4, .bool (decide (v6 / 16384 % 2 = 1)), .bool (decide (v6 / 8192 % 2 = 1)), .int .i64 (v6 % 8192), .int .u8 v8, .int .u8 v9, .int .u16 v10, .bool false, .int .u64 0, .int .u64 v12, .bool false, .int .u64 0, .int .u64 v16, .slice NA (z - 20) nc] by rw [← hwq]; exact HH21.out.set_to rfl)
    have HKs2 := Lib.hid (show Kept (fun i => i = ht ∨ i = rb) w21 wq by rw [← hwq]; exact Kept.setIn (S := fun i => i = ht ∨ i = rb) (.inl rfl) (Kept.refl _ _))
    have HKs := Lib.hid (show Kept (fun i => i = ht) w21 wq by rw [← hwq]; exact Kept.setIn (S := fun i => i = ht) rfl (Kept.refl _ _))
    have HKq := Lib.hid (HK21.out.then HKs.out (fun i hi e => by have := HTW.out; omega))
    have HRq := Lib.hid (HR1.out.kept HKq.out (fun h => h))
    have HNS := Lib.hid (show Byt wq (.slice NA (z - 20) nc) ((b.drop 20).take (z - 20)) from (HNR.out.kept HKs.out (fun g hg e => by have := (HNR.out.lt g hg).1; have := HGQ.out; omega)).byt)
    clear hwq HKs cB fB lB
    go_wp2_with (first | (show wpList _ _ _ ((⟨_, .load 190 (.tmp 8), _, _, _, none⟩ : Oper) :: _) _ _; refine wpList_load_mid rfl 190 (.tmp 8) rfl ht 0 rfl [.int .u8 v1, .int .i64 v2, .int .u16 v4, .bool (decide (v6 / 16384 % 2 = 1)), .bool (decide (v6 / 8192 % 2 = 1)), .int .i64 (v6 % 8192), .int .u8 v8, .int .u8 v9, .int .u16 v10, .bool false, .int .u64 0, .int .u64 v12, .bool false, .int .u64 0, .int .u64 v16, .slice NA (z - 20) nc] _ HHq.out.range' Tryz.underlying190 rfl (by kernel_rfl) ?_) | (show wpList _ _ _ ((⟨none, .store 190 (.tmp 2) _, _, _, _, none⟩ : Oper) :: _) _ _; refine wpList_store_mid rfl 190 (.tmp 2) _ rfl rb 0 #[.int .u8 v1, .int .i64 v2, .int .u16 v4, .bool (decide (v6 / 16384 % 2 = 1)), .bool (decide (v6 / 8192 % 2 = 1)), .int .i64 (v6 % 8192), .int .u8 v8, .int .u8 v9, .int .u16 v10, .bool false, .int .u64 0, .int .u64 v12, .bool false, .int .u64 0, .int .u64 v16, .slice NA (z - 20) nc] rfl rfl (HRq.out.there rfl) (by kernel_rfl) (by simp [Value.oneCell']) ?_))
    generalize hwz : (World.setCells _ _ _ _) = wz
    have HKz := Lib.hid (show Kept (fun i => i = rb) wq wz by rw [← hwz]; exact Kept.setCells (S := fun i => i = rb) rfl _ _ (Kept.refl _ _))
    have HRzz := Lib.hid (show Blk wz rb 190 #[.int .u8 v1, .int .i64 v2, .int .u16 v4, .bool (decide (v6 / 16384 % 2 = 1)), .bool (decide (v6 / 8192 % 2 = 1)), .int .i64 (v6 % 8192), .int .u8 v8, .int .u8 v9, .int .u16 v10, .bool false, .int .u64 0, .int .u64 v12, .bool false, .int .u64 0, .int .u64 v16, .slice NA (z - 20) nc] by rw [← hwz]; exact HRq.out.setAll #[.int .u8 v1, .int .i64 v2, .int .u16 v4, .bool (decide (v6 / 16384 % 2 = 1)), .bool (decide (v6 / 8192 % 2 = 1)), .int .i64 (v6 % 8192), .int .u8 v8, .int .u8 v9, .int .u16 v10, .bool false, .int .u64 0, .int .u64 v12, .bool false, .int .u64 0, .int .u64 v16, .slice NA (z - 20) nc] rfl)
    have HNZ := Lib.hid (show Row wz w.heap.size 5 (.slice NA (z - 20) nc) (bcs ((b.drop 20).take (z - 20))) from (HNR.out.kept (HKs2.out.trans (HKz.out.mono (fun _ _ h => .inr h))) (fun g hg e => by have := (HNR.out.lt g hg).1; have := HGQ.out; have := HRTB.out; omega)).more (Nat.le_trans HS1.out HK20.out.size))
    clear hwz
    refine bodyPost_ret (results_blk_tmp2 (P := Tryz.prog) (show Tryz.f117.results = _ from rfl) _ _ rb 190 #[.int .u8 v1, .int .i64 v2, .int .u16 v4, .bool (decide (v6 / 16384 % 2 = 1)), .bool (decide (v6 / 8192 % 2 = 1)), .int .i64 (v6 % 8192), .int .u8 v8, .int .u8 v9, .int .u16 v10, .bool false, .int .u64 0, .int .u64 v12, .bool false, .int .u64 0, .int .u64 v16, .slice NA (z - 20) nc] _ rfl HRzz.out Tryz.underlying190 rfl (by kernel_rfl)) rfl ⟨HKW.out.trans ((HKq.out.mono (T := fun i => i = rb) (fun _ _ h => h.elim) |>.trans HKz.out : Kept (fun i => i = rb) w1 wz).below HS1.out (fun i e => by have := HRBW.out; omega)), .inr ⟨HPE.out, .slice NA (z - 20) nc, ?_, ?_⟩⟩
    · rw [HZ.out]
      unfold phd Hd.cells
      simp only []
      rw [Hv1.out, Hv2.out, Hv4.out, Hv6.out, Hv8.out, Hv9.out, Hv10.out, Hv12.out, Hv16.out]
      rfl
    · show Row wz w.heap.size 5 _ (bcs ((b.drop 20).take (hsz b - 20)))
      rw [HZ.out]
      exact HNZ.out
  · have HCEQ := Lib.hid (show c = 20 by omega)
    have HYB := Lib.hid (show BS w20 w20.heap.size (some ⟨bb, o, none⟩) ((b.drop 20).take (z - 20)) from .inl (by rw [List.drop_eq_nil_of_le (by omega)]; simp))
    go_wp2_with fail
    refine (clone_len (some ⟨bb, o, none⟩) (c - 20) ((b.drop 20).take (z - 20)) (z - 20) HO.out w20 (by omega) HYB.out).mono ?_
    rintro e w21 ⟨v, rfl, hy, hbw⟩
    obtain ⟨NA, nc, hve, -, -⟩ := hy.shape
    rw [bcs_length, HO.out] at hve
    subst hve
    have HNR := Lib.hid hy
    have HKc := Lib.hid (Kept.ofB (S := fun _ => False) hbw)
    have HK21 := Lib.hid (HK20.out.trans HKc.out)
    have HH21 := Lib.hid (HH20.out.kept HKc.out (fun h => h))
    have HGQ := Lib.hid (show ht < w20.heap.size from HH20.out.lt)
    clear cB fB lB hbw hy
    have cB := HH21.out.cell
    have fB := HH21.out.frozen
    have lB := HH21.out.lt
    go_upto_region 23 with fail
    generalize hwq : World.setCell _ _ _ = wq
    have HHq := Lib.hid (show Blk wq ht 190 #[.int .u8 v1, .int .i64 v2, .int .u16 v4, .bool (decide (v6 / 16384 % 2 = 1)), .bool (decide (v6 / 8192 % 2 = 1)), .int .i64 (v6 % 8192), .int .u8 v8, .int .u8 v9, .int .u16 v10, .bool false, .int .u64 0, .int .u64 v12, .bool false, .int .u64 0, .int .u64 v16, .slice NA (z - 20) nc] by rw [← hwq]; exact HH21.out.set_to rfl)
    have HKs2 := Lib.hid (show Kept (fun i => i = ht ∨ i = rb) w21 wq by rw [← hwq]; exact Kept.setIn (S := fun i => i = ht ∨ i = rb) (.inl rfl) (Kept.refl _ _))
    have HKs := Lib.hid (show Kept (fun i => i = ht) w21 wq by rw [← hwq]; exact Kept.setIn (S := fun i => i = ht) rfl (Kept.refl _ _))
    have HKq := Lib.hid (HK21.out.then HKs.out (fun i hi e => by have := HTW.out; omega))
    have HRq := Lib.hid (HR1.out.kept HKq.out (fun h => h))
    have HNS := Lib.hid (show Byt wq (.slice NA (z - 20) nc) ((b.drop 20).take (z - 20)) from (HNR.out.kept HKs.out (fun g hg e => by have := (HNR.out.lt g hg).1; have := HGQ.out; omega)).byt)
    clear hwq HKs cB fB lB
    go_wp2_with (first | (show wpList _ _ _ ((⟨_, .load 190 (.tmp 8), _, _, _, none⟩ : Oper) :: _) _ _; refine wpList_load_mid rfl 190 (.tmp 8) rfl ht 0 rfl [.int .u8 v1, .int .i64 v2, .int .u16 v4, .bool (decide (v6 / 16384 % 2 = 1)), .bool (decide (v6 / 8192 % 2 = 1)), .int .i64 (v6 % 8192), .int .u8 v8, .int .u8 v9, .int .u16 v10, .bool false, .int .u64 0, .int .u64 v12, .bool false, .int .u64 0, .int .u64 v16, .slice NA (z - 20) nc] _ HHq.out.range' Tryz.underlying190 rfl (by kernel_rfl) ?_) | (show wpList _ _ _ ((⟨none, .store 190 (.tmp 2) _, _, _, _, none⟩ : Oper) :: _) _ _; refine wpList_store_mid rfl 190 (.tmp 2) _ rfl rb 0 #[.int .u8 v1, .int .i64 v2, .int .u16 v4, .bool (decide (v6 / 16384 % 2 = 1)), .bool (decide (v6 / 8192 % 2 = 1)), .int .i64 (v6 % 8192), .int .u8 v8, .int .u8 v9, .int .u16 v10, .bool false, .int .u64 0, .int .u64 v12, .bool false, .int .u64 0, .int .u64 v16, .slice NA (z - 20) nc] rfl rfl (HRq.out.there rfl) (by kernel_rfl) (by simp [Value.oneCell']) ?_))
    generalize hwz : (World.setCells _ _ _ _) = wz
    have HKz := Lib.hid (show Kept (fun i => i = rb) wq wz by rw [← hwz]; exact Kept.setCells (S := fun i => i = rb) rfl _ _ (Kept.refl _ _))
    have HRzz := Lib.hid (show Blk wz rb 190 #[.int .u8 v1, .int .i64 v2, .int .u16 v4, .bool (decide (v6 / 16384 % 2 = 1)), .bool (decide (v6 / 8192 % 2 = 1)), .int .i64 (v6 % 8192), .int .u8 v8, .int .u8 v9, .int .u16 v10, .bool false, .int .u64 0, .int .u64 v12, .bool false, .int .u64 0, .int .u64 v16, .slice NA (z - 20) nc] by rw [← hwz]; exact HRq.out.setAll #[.int .u8 v1, .int .i64 v2, .int .u16 v4, .bool (decide (v6 / 16384 % 2 = 1)), .bool (decide (v6 / 8192 % 2 = 1)), .int .i64 (v6 % 8192), .int .u8 v8, .int .u8 v9, .int .u16 v10, .bool false, .int .u64 0, .int .u64 v12, .bool false, .int .u64 0, .int .u64 v16, .slice NA (z - 20) nc] rfl)
    have HNZ := Lib.hid (show Row wz w.heap.size 5 (.slice NA (z - 20) nc) (bcs ((b.drop 20).take (z - 20))) from (HNR.out.kept (HKs2.out.trans (HKz.out.mono (fun _ _ h => .inr h))) (fun g hg e => by have := (HNR.out.lt g hg).1; have := HGQ.out; have := HRTB.out; omega)).more (Nat.le_trans HS1.out HK20.out.size))
    clear hwz
    refine bodyPost_ret (results_blk_tmp2 (P := Tryz.prog) (show Tryz.f117.results = _ from rfl) _ _ rb 190 #[.int .u8 v1, .int .i64 v2, .int .u16 v4, .bool (decide (v6 / 16384 % 2 = 1)), .bool (decide (v6 / 8192 % 2 = 1)), .int .i64 (v6 % 8192), .int .u8 v8, .int .u8 v9, .int .u16 v10, .bool false, .int .u64 0, .int .u64 v12, .bool false, .int .u64 0, .int .u64 v16, .slice NA (z - 20) nc] _ rfl HRzz.out Tryz.underlying190 rfl (by kernel_rfl)) rfl ⟨HKW.out.trans ((HKq.out.mono (T := fun i => i = rb) (fun _ _ h => h.elim) |>.trans HKz.out : Kept (fun i => i = rb) w1 wz).below HS1.out (fun i e => by have := HRBW.out; omega)), .inr ⟨HPE.out, .slice NA (z - 20) nc, ?_, ?_⟩⟩
    · rw [HZ.out]
      unfold phd Hd.cells
      simp only []
      rw [Hv1.out, Hv2.out, Hv4.out, Hv6.out, Hv8.out, Hv9.out, Hv10.out, Hv12.out, Hv16.out]
      rfl
    · show Row wz w.heap.size 5 _ (bcs ((b.drop 20).take (hsz b - 20)))
      rw [HZ.out]
      exact HNZ.out
end Go.Proofs.YtdnbhmfofphblaaGreatDoor
