/- The document's fit at any pattern. -/
import Derived.Test.YthfdhggcnkgjfaaGreatDoorXF
namespace Go.Proofs.YthfdhggcnkgjfaaGreatDoor
open Go.RowKit
set_option linter.unusedVariables false
set_option linter.unusedSimpArgs false
set_option maxRecDepth 20000 in
set_option maxHeartbeats 16000000 in
theorem fit_any (p : ByteArray) (ws : List ByteArray) (Ad : Option Addr) (cap : Nat) (w : World) (hp : p.size ≤ 10) (hcap : ws.length ≤ cap) (hcm : cap ≤ maxLen) (hz : (joinC 32 (ws.map (·.data.toList))).length ≤ 4000) (hS : SS w w.heap.size Ad ws) :
    Calls Tryz.prog 19 #[.slice Ad ws.length cap, .string p] w (FitRet w (fitS p.data.toList (ws.map (·.data.toList)) Fd.zero)) := by
  unfold maxLen at hcm
  have h3 : (Tryz.prog.info? 3).map (fun i => (i.zero, i.size, i.bytes)) = some (some (.int .i64 0), 1, 8) := by kernel_rfl
  have HS0 := Lib.hid hS
  have HZ0 := Lib.hid hz
  clear hS hz
  go_enter Tryz.func19, Tryz.ntmps19
  go_upto_region 1 with fail
  obtain ⟨w1, hw1⟩ : ∃ w1 : World, w1 = w.alloc (.cells #[.int .i64 0, .int .i64 0, .int .i64 0, .int .i64 0, .int .i64 0, .bool false, .int .u64 0, .int .u64 0, .int .u16 0, .int .u8 0, .int .i64 0, .slice none 0 0, .int .i64 0, .int .i64 0, .int .u8 0, .slice none 0 0, .int .u32 0, .int .u32 0, .int .u32 0, .bool false, .int .u64 0, .int .u64 0, .int .u16 0, .slice none 0 0, .bool false, .int .u64 0, .int .u64 0, .int .i64 0, .int .u8 0, .int .i64 0, .bool false] 60) := ⟨_, rfl⟩
  have HR1 := Lib.hid (show Blk w1 w.heap.size 60 #[.int .i64 0, .int .i64 0, .int .i64 0, .int .i64 0, .int .i64 0, .bool false, .int .u64 0, .int .u64 0, .int .u16 0, .int .u8 0, .int .i64 0, .slice none 0 0, .int .i64 0, .int .i64 0, .int .u8 0, .slice none 0 0, .int .u32 0, .int .u32 0, .int .u32 0, .bool false, .int .u64 0, .int .u64 0, .int .u16 0, .slice none 0 0, .bool false, .int .u64 0, .int .u64 0, .int .i64 0, .int .u8 0, .int .i64 0, .bool false] by rw [hw1]; exact Blk.new _ _ _)
  have HK1 := Lib.hid (show Kept (fun _ => False) w w1 by rw [hw1]; exact (Kept.refl _ _).alloc _)
  rw [← hw1]
  clear hw1
  obtain ⟨rb, hrb⟩ : ∃ rb, w.heap.size = rb := ⟨_, rfl⟩
  have HRB := Lib.hid hrb
  rw [hrb] at HR1 ⊢
  clear hrb
  go_upto_region 2 with (show wpList _ _ _ ((⟨none, .store 60 (.tmp 5) _, _, _, _, none⟩ : Oper) :: _) _ _; refine wpList_store_mid rfl 60 (.tmp 5) _ rfl w1.heap.size 0 #[.int .i64 0, .int .i64 0, .int .i64 0, .int .i64 0, .int .i64 0, .bool false, .int .u64 0, .int .u64 0, .int .u16 0, .int .u8 0, .int .i64 0, .slice none 0 0, .int .i64 0, .int .i64 0, .int .u8 0, .slice none 0 0, .int .u32 0, .int .u32 0, .int .u32 0, .bool false, .int .u64 0, .int .u64 0, .int .u16 0, .slice none 0 0, .bool false, .int .u64 0, .int .u64 0, .int .i64 0, .int .u8 0, .int .i64 0, .bool true] rfl rfl ((Blk.new w1 60 #[.int .i64 0, .int .i64 0, .int .i64 0, .int .i64 0, .int .i64 0, .bool false, .int .u64 0, .int .u64 0, .int .u16 0, .int .u8 0, .int .i64 0, .slice none 0 0, .int .i64 0, .int .i64 0, .int .u8 0, .slice none 0 0, .int .u32 0, .int .u32 0, .int .u32 0, .bool false, .int .u64 0, .int .u64 0, .int .u16 0, .slice none 0 0, .bool false, .int .u64 0, .int .u64 0, .int .i64 0, .int .u8 0, .int .i64 0, .bool false]).there rfl) (by kernel_rfl) (by simp [Value.oneCell']) ?_)
  generalize hw4 : (World.setCells _ _ _ _) = w2
  have HKA := Lib.hid (show Kept (fun i => i = w1.heap.size) (w1.alloc (.cells #[.int .i64 0, .int .i64 0, .int .i64 0, .int .i64 0, .int .i64 0, .bool false, .int .u64 0, .int .u64 0, .int .u16 0, .int .u8 0, .int .i64 0, .slice none 0 0, .int .i64 0, .int .i64 0, .int .u8 0, .slice none 0 0, .int .u32 0, .int .u32 0, .int .u32 0, .bool false, .int .u64 0, .int .u64 0, .int .u16 0, .slice none 0 0, .bool false, .int .u64 0, .int .u64 0, .int .i64 0, .int .u8 0, .int .i64 0, .bool false] 60)) w2 by rw [← hw4]; exact Kept.setCells (S := fun i => i = w1.heap.size) rfl _ _ (Kept.refl _ _))
  have HS4 := Lib.hid (show Blk w2 w1.heap.size 60 #[.int .i64 0, .int .i64 0, .int .i64 0, .int .i64 0, .int .i64 0, .bool false, .int .u64 0, .int .u64 0, .int .u16 0, .int .u8 0, .int .i64 0, .slice none 0 0, .int .i64 0, .int .i64 0, .int .u8 0, .slice none 0 0, .int .u32 0, .int .u32 0, .int .u32 0, .bool false, .int .u64 0, .int .u64 0, .int .u16 0, .slice none 0 0, .bool false, .int .u64 0, .int .u64 0, .int .i64 0, .int .u8 0, .int .i64 0, .bool true] by rw [← hw4]; exact (Blk.new w1 60 #[.int .i64 0, .int .i64 0, .int .i64 0, .int .i64 0, .int .i64 0, .bool false, .int .u64 0, .int .u64 0, .int .u16 0, .int .u8 0, .int .i64 0, .slice none 0 0, .int .i64 0, .int .i64 0, .int .u8 0, .slice none 0 0, .int .u32 0, .int .u32 0, .int .u32 0, .bool false, .int .u64 0, .int .u64 0, .int .u16 0, .slice none 0 0, .bool false, .int .u64 0, .int .u64 0, .int .i64 0, .int .u8 0, .int .i64 0, .bool false]).setAll #[.int .i64 0, .int .i64 0, .int .i64 0, .int .i64 0, .int .i64 0, .bool false, .int .u64 0, .int .u64 0, .int .u16 0, .int .u8 0, .int .i64 0, .slice none 0 0, .int .i64 0, .int .i64 0, .int .u8 0, .slice none 0 0, .int .u32 0, .int .u32 0, .int .u32 0, .bool false, .int .u64 0, .int .u64 0, .int .u16 0, .slice none 0 0, .bool false, .int .u64 0, .int .u64 0, .int .i64 0, .int .u8 0, .int .i64 0, .bool true] rfl)
  have HKB := Lib.hid (show Kept (fun _ => False) w1 w2 from ((Kept.refl _ _).alloc _).then HKA.out (fun i hi e => by omega))
  have HNE := Lib.hid (show rb ≠ w1.heap.size from fun e => by have := HR1.out.lt; omega)
  have HGE := Lib.hid (show w.heap.size ≤ w1.heap.size from HK1.out.size)
  have HB2 := Lib.hid (show Below w.heap.size w w2 from (HK1.out.trans HKB.out).below (Nat.le_refl _) (fun _ h => h.elim))
  have HST0 := Lib.hid (show FitSt w w2 w1.heap.size rb (.slice none 0 0) (.slice none 0 0) Fd.zero from ⟨HS4.out, HR1.out.kept HKB.out (fun h => h), LoadIn.nil _, Row.nil _ _ _, HB2.out⟩)
  have HSX0 := Lib.hid (HS0.out.below (Nat.le_refl _) HB2.out)
  clear hw4 HKA HS4 HKB HR1 HK1 HB2 HS0
  obtain ⟨fb, hfb⟩ : ∃ fb, w1.heap.size = fb := ⟨_, rfl⟩
  rw [hfb] at HST0 HNE HGE ⊢
  clear hfb
  go_wp2_with fail
  go_loopw [0, 6] (fun l i wr' => ∃ (k : Nat) (Ax : Option Addr) (c : Nat) (xs : List ByteArray) (fd : Fd) (lv nv : Value), k ≤ p.size ∧ fd.nums.length ≤ k ∧ l = .slice Ax xs.length c ∧ i = .int .i64 (k : Int) ∧ xs.length ≤ c ∧ c ≤ cap ∧ Hid (SS wr' w.heap.size Ax xs) ∧ Hid (fitS p.data.toList (ws.map (·.data.toList)) Fd.zero = fitS (p.data.toList.drop k) (xs.map (·.data.toList)) fd) ∧ Hid (FitSt w wr' fb rb lv nv fd) ∧ Hid ((joinC 32 (xs.map (·.data.toList))).length ≤ 4000)) (fun _ i _ => p.size - (intOf i).toNat)
  case atStart => exact ⟨0, Ad, cap, ws, Fd.zero, _, _, by omega, Nat.le_refl _, rfl, rfl, hcap, Nat.le_refl _, HSX0, Lib.hid rfl, HST0, HZ0⟩
  case round =>
    clear HSX0 HST0 HZ0
    obtain ⟨k, Ax, c, xs, fd, lv, nv, hk, hnl, rfl, rfl, hxc, hcc, HSX, HFS, HST, HZX⟩ := hrel
    have k0 : (0 : Int) ≤ (k : Int) := Int.natCast_nonneg _
    by_cases hkp : k < p.size
    · have kI : (k : Int) < (p.size : Int) := by omega
      have HDR := Lib.hid (show p.data.toList.drop k = (p[k]'hkp) :: p.data.toList.drop (k + 1) from List.drop_eq_getElem_cons (by rw [← Lib.size_eq]; exact hkp))
      go_upto_region 6 with fail
      generalize (p[k]'hkp) = ch at HDR ⊢
      cases xs with
      | nil =>
        have HF := Lib.hid (show fitS p.data.toList (ws.map (·.data.toList)) Fd.zero = none by rw [HFS.out, HDR.out]; exact fitS_none rfl)
        have HR5 := Lib.hid HST.out.res
        have HB5 := Lib.hid HST.out.bel
        clear HST HSX HFS HDR HZX
        go_wp2_with (show wpList _ _ _ ((⟨none, .store 60 (.tmp 4) _, _, _, _, none⟩ : Oper) :: _) _ _; refine wpList_store_mid rfl 60 (.tmp 4) _ rfl rb 0 #[.int .i64 0, .int .i64 0, .int .i64 0, .int .i64 0, .int .i64 0, .bool false, .int .u64 0, .int .u64 0, .int .u16 0, .int .u8 0, .int .i64 0, .slice none 0 0, .int .i64 0, .int .i64 0, .int .u8 0, .slice none 0 0, .int .u32 0, .int .u32 0, .int .u32 0, .bool false, .int .u64 0, .int .u64 0, .int .u16 0, .slice none 0 0, .bool false, .int .u64 0, .int .u64 0, .int .i64 0, .int .u8 0, .int .i64 0, .bool false] rfl rfl (HR5.out.there rfl) (by kernel_rfl) (by simp [Value.oneCell']) ?_)
        generalize hw9 : (World.setCells _ _ _ _) = w9
        have HK9 := Lib.hid (show Kept (fun i => i = rb) wr w9 by rw [← hw9]; exact Kept.setCells (S := fun i => i = rb) rfl _ _ (Kept.refl _ _))
        have HR9 := Lib.hid (show Blk w9 rb 60 Z63 by rw [← hw9]; exact HR5.out.setAll Z63 rfl)
        clear hw9
        refine bodyPost_ret (results_blk1 (P := Tryz.prog) (show Tryz.f19.results = _ from rfl) _ _ rb 60 Z63 _ rfl HR9.out Tryz.underlying60 rfl (by kernel_rfl)) rfl ⟨?_, ?_⟩
        · exact HB5.out.trans (HK9.out.below HB5.out.size (fun i e => by have := HRB.out; omega))
        · rw [HF.out]; try exact rfl
      | cons x xs =>
        obtain ⟨b, off, hb, rfl, c0, -⟩ := HSX.out.head
        have hxz : x.size ≤ 4000 := by
          have := (joinC_tail_len x.data.toList (xs.map (·.data.toList))).1
          have h2 := HZX.out
          rw [List.map_cons] at h2
          rw [Lib.size_eq]
          omega
        have hbw : b < wr.heap.size := Nat.lt_of_lt_of_le hb HST.out.bel.size
        have hbf : ¬ b = fb := by have := HGE.out; omega
        have hbf2 : ¬ fb = b := by have := HGE.out; omega
        have hlx : (xs.length : Int) + 1 ≠ 0 := by omega
        have hlx2 : (((xs.length : Int) + 1) == 0) = false := by simp; omega
        rw [List.length_cons] at hxc ⊢
        have cF := HST.out.fld.cell
        have fF := HST.out.fld.frozen
        have lF := HST.out.fld.lt
        have lR := HST.out.res.lt
        by_cases n97 : ch = 97
        · subst n97
          have HP := Lib.hid (refParseA x hxz)
          go_wp2_with fail
          refine (HP.out wr).mono ?_
          rintro e w4 ⟨rfl, hb4⟩
          have HST4 := Lib.hid (HST.out.below hb4)
          have HSX4 := Lib.hid (HSX.out.below HST.out.bel.size hb4)
          clear hb4 HP HST HSX
          cases ha : addrP x.data.toList with
          | none =>
            have HF := Lib.hid (show fitS p.data.toList (ws.map (·.data.toList)) Fd.zero = none by rw [HFS.out, HDR.out]; exact fitS_none (by rw [List.map_cons, fitStep_a, ha]; rfl))
            clear ha
            unfold adrV
            simp only [Option.isSome_none]
            go_upto_region 37 with (show wpList _ _ _ ((⟨none, .store 25 (.tmp 54) _, _, _, _, none⟩ : Oper) :: _) _ _; refine wpList_store_mid rfl 25 (.tmp 54) _ rfl fb 24 #[.bool false, .int .u64 0, .int .u64 0] rfl rfl (HST4.out.there (n := 3) (by omega)) (by kernel_rfl) (by simp [Value.oneCell']) ?_)
            generalize hw5 : (World.setCells _ _ _ _) = w5
            have HK5 := Lib.hid (show Kept (fun i => i = fb) w4 w5 by rw [← hw5]; exact Kept.setCells (S := fun i => i = fb) rfl _ _ (Kept.refl _ _))
            have HR5 := Lib.hid (HST4.out.spoil HNE.out HGE.out HK5.out).1
            have HB5 := Lib.hid (HST4.out.spoil HNE.out HGE.out HK5.out).2
            clear hw5 HK5
            clear HST4 HSX4
            go_wp2_with (show wpList _ _ _ ((⟨none, .store 60 (.tmp 4) _, _, _, _, none⟩ : Oper) :: _) _ _; refine wpList_store_mid rfl 60 (.tmp 4) _ rfl rb 0 #[.int .i64 0, .int .i64 0, .int .i64 0, .int .i64 0, .int .i64 0, .bool false, .int .u64 0, .int .u64 0, .int .u16 0, .int .u8 0, .int .i64 0, .slice none 0 0, .int .i64 0, .int .i64 0, .int .u8 0, .slice none 0 0, .int .u32 0, .int .u32 0, .int .u32 0, .bool false, .int .u64 0, .int .u64 0, .int .u16 0, .slice none 0 0, .bool false, .int .u64 0, .int .u64 0, .int .i64 0, .int .u8 0, .int .i64 0, .bool false] rfl rfl (HR5.out.there rfl) (by kernel_rfl) (by simp [Value.oneCell']) ?_)
            generalize hw9 : (World.setCells _ _ _ _) = w9
            have HK9 := Lib.hid (show Kept (fun i => i = rb) w5 w9 by rw [← hw9]; exact Kept.setCells (S := fun i => i = rb) rfl _ _ (Kept.refl _ _))
            have HR9 := Lib.hid (show Blk w9 rb 60 Z63 by rw [← hw9]; exact HR5.out.setAll Z63 rfl)
            clear hw9
            refine bodyPost_ret (results_blk1 (P := Tryz.prog) (show Tryz.f19.results = _ from rfl) _ _ rb 60 Z63 _ rfl HR9.out Tryz.underlying60 rfl (by kernel_rfl)) rfl ⟨?_, ?_⟩
            · exact HB5.out.trans (HK9.out.below HB5.out.size (fun i e => by have := HRB.out; omega))
            · rw [HF.out]; try exact rfl
          | some a =>
            have HFX5 := Lib.hid (show fitS p.data.toList (ws.map (·.data.toList)) Fd.zero = fitS (p.data.toList.drop (k + 1)) (xs.map (·.data.toList)) { fd with a := a } by rw [HFS.out, HDR.out]; exact fitS_some (by rw [List.map_cons, fitStep_a, ha]; rfl))
            clear ha
            obtain ⟨six, hi, lo⟩ := a
            unfold adrV
            simp only [Option.isSome_some]
            go_upto_region 37 with (show wpList _ _ _ ((⟨none, .store 25 (.tmp 54) _, _, _, _, none⟩ : Oper) :: _) _ _; refine wpList_store_mid rfl 25 (.tmp 54) _ rfl fb 24 #[.bool six, .int .u64 (hi : Int), .int .u64 (lo : Int)] rfl rfl (HST4.out.there (n := 3) (by omega)) (by kernel_rfl) (by simp [Value.oneCell']) ?_)
            generalize hw5 : (World.setCells _ _ _ _) = w5
            have HK5 := Lib.hid (show Kept (fun i => i = fb) w4 w5 by rw [← hw5]; exact Kept.setCells (S := fun i => i = fb) rfl _ _ (Kept.refl _ _))
            have HBF := Lib.hid (show Blk w5 fb 60 (FC lv nv { fd with a := ⟨six, hi, lo⟩ }) by rw [← hw5]; exact HST4.out.fld.set3 rfl)
            have HST5 := Lib.hid (HST4.out.turn HNE.out HGE.out HK5.out HBF.out rfl rfl)
            have HSX5 := Lib.hid (HSX4.out.kept HST4.out.bel.size HK5.out (fun i hi e => by have := HGE.out; omega))
            clear hw5 HK5 HBF
            clear HST4 HSX4
            obtain ⟨b5, o5, hb5, he5, -, hat⟩ := HSX5.out.head
            injection he5 with he5
            injection he5 with h51 h52 h53
            subst h51 h52
            have HSR := Lib.hid (SS.rest hb5 hat (show xs.length + 1 ≤ c from hxc))
            clear hat h53
            go_wp2_with fail
            go_roundw
            case rel => exact ⟨k + 1, _, c - 1, xs, { fd with a := ⟨six, hi, lo⟩ }, lv, nv, by omega, by first | (show fd.nums.length ≤ k + 1; omega) | (simp; omega), by first | rfl | simp, by go_num, by omega, by omega, HSR, HFX5, HST5, Lib.hid (by have := (joinC_tail_len x.data.toList (xs.map (·.data.toList))).2; have := HZX.out; rw [List.map_cons] at this; omega)⟩
            case measure => simp [intOf]; omega
        have q97 : ((ch.toNat : Int) == 97) = false := int_ne (b := 97) fun e => n97 (UInt8.toNat_inj.1 e)
        by_cases n112 : ch = 112
        · subst n112
          have HXL := Lib.hid (show x.toList = x.data.toList by rw [Lib.toList_data])
          have HST4 := HST
          have HSX4 := HSX
          clear HST HSX
          by_cases t1 : x.data.toList = tcpT
          · have et : (x.toList == [116, 99, 112]) = true := by rw [HXL.out, t1]; rfl
            have eu : (x.toList == [117, 100, 112]) = false := by rw [HXL.out, t1]; rfl
            have hv : protoP x.data.toList = some 6 := by unfold protoP; rw [if_pos t1]
            have HFX5 := Lib.hid (show fitS p.data.toList (ws.map (·.data.toList)) Fd.zero = fitS (p.data.toList.drop (k + 1)) (xs.map (·.data.toList)) { fd with p := 6 } by rw [HFS.out, HDR.out]; exact fitS_some (by rw [List.map_cons, fitStep_p, hv]; rfl))
            clear hv t1
            go_upto_region 37 with fail
            generalize hw5 : World.setCell _ _ _ = w5
            have HK5 := Lib.hid (show Kept (fun i => i = fb) wr w5 by rw [← hw5]; exact Kept.setIn (S := fun i => i = fb) (b := fb) rfl (Kept.refl _ _))
            have HBF := Lib.hid (show Blk w5 fb 60 (FC lv nv { fd with p := 6 }) by rw [← hw5]; exact HST4.out.fld.set_to rfl)
            have HST5 := Lib.hid (HST4.out.turn HNE.out HGE.out HK5.out HBF.out rfl rfl)
            have HSX5 := Lib.hid (HSX4.out.kept HST4.out.bel.size HK5.out (fun i hi e => by have := HGE.out; omega))
            clear hw5 HK5 HBF
            clear HST4 HSX4 c0 cF fF lF lR
            obtain ⟨b5, o5, hb5, he5, -, hat⟩ := HSX5.out.head
            injection he5 with he5
            injection he5 with h51 h52 h53
            subst h51 h52
            have HSR := Lib.hid (SS.rest hb5 hat (show xs.length + 1 ≤ c from hxc))
            clear hat h53
            go_wp2_with fail
            go_roundw
            case rel => exact ⟨k + 1, _, c - 1, xs, { fd with p := 6 }, lv, nv, by omega, by first | (show fd.nums.length ≤ k + 1; omega) | (simp; omega), by first | rfl | simp, by go_num, by omega, by omega, HSR, HFX5, HST5, Lib.hid (by have := (joinC_tail_len x.data.toList (xs.map (·.data.toList))).2; have := HZX.out; rw [List.map_cons] at this; omega)⟩
            case measure => simp [intOf]; omega
          · have et : (x.toList == [116, 99, 112]) = false := by rw [HXL.out]; exact beq_eq_false_iff_ne.2 t1
            by_cases t2 : x.data.toList = udpT
            · have eu : (x.toList == [117, 100, 112]) = true := by rw [HXL.out, t2]; rfl
              have hv : protoP x.data.toList = some 17 := by unfold protoP; rw [if_neg t1, if_pos t2]
              have HFX5 := Lib.hid (show fitS p.data.toList (ws.map (·.data.toList)) Fd.zero = fitS (p.data.toList.drop (k + 1)) (xs.map (·.data.toList)) { fd with p := 17 } by rw [HFS.out, HDR.out]; exact fitS_some (by rw [List.map_cons, fitStep_p, hv]; rfl))
              clear hv t1 t2
              go_upto_region 37 with fail
              generalize hw5 : World.setCell (World.setCell _ _ _) _ _ = w5
              have HK5 := Lib.hid (show Kept (fun i => i = fb) wr w5 by rw [← hw5]; exact Kept.setIn (S := fun i => i = fb) (b := fb) rfl (Kept.setIn (S := fun i => i = fb) (b := fb) rfl (Kept.refl _ _)))
              have HBF := Lib.hid (show Blk w5 fb 60 (FC lv nv { fd with p := 17 }) by rw [← hw5]; exact (HST4.out.fld.set_ 28 _).set_to rfl)
              have HST5 := Lib.hid (HST4.out.turn HNE.out HGE.out HK5.out HBF.out rfl rfl)
              have HSX5 := Lib.hid (HSX4.out.kept HST4.out.bel.size HK5.out (fun i hi e => by have := HGE.out; omega))
              clear hw5 HK5 HBF
              clear HST4 HSX4 c0 cF fF lF lR
              obtain ⟨b5, o5, hb5, he5, -, hat⟩ := HSX5.out.head
              injection he5 with he5
              injection he5 with h51 h52 h53
              subst h51 h52
              have HSR := Lib.hid (SS.rest hb5 hat (show xs.length + 1 ≤ c from hxc))
              clear hat h53
              go_wp2_with fail
              go_roundw
              case rel => exact ⟨k + 1, _, c - 1, xs, { fd with p := 17 }, lv, nv, by omega, by first | (show fd.nums.length ≤ k + 1; omega) | (simp; omega), by first | rfl | simp, by go_num, by omega, by omega, HSR, HFX5, HST5, Lib.hid (by have := (joinC_tail_len x.data.toList (xs.map (·.data.toList))).2; have := HZX.out; rw [List.map_cons] at this; omega)⟩
              case measure => simp [intOf]; omega
            · have eu : (x.toList == [117, 100, 112]) = false := by rw [HXL.out]; exact beq_eq_false_iff_ne.2 t2
              have hv : protoP x.data.toList = none := by unfold protoP; rw [if_neg t1, if_neg t2]
              have HF := Lib.hid (show fitS p.data.toList (ws.map (·.data.toList)) Fd.zero = none by rw [HFS.out, HDR.out]; exact fitS_none (by rw [List.map_cons, fitStep_p, hv]; rfl))
              clear hv t1 t2
              go_upto_region 37 with fail
              generalize hw5 : World.setCell _ _ _ = w5
              have HK5 := Lib.hid (show Kept (fun i => i = fb) wr w5 by rw [← hw5]; exact Kept.setIn (S := fun i => i = fb) (b := fb) rfl (Kept.refl _ _))
              have HR5 := Lib.hid (HST4.out.spoil HNE.out HGE.out HK5.out).1
              have HB5 := Lib.hid (HST4.out.spoil HNE.out HGE.out HK5.out).2
              clear hw5 HK5
              clear HST4 HSX4 c0 cF fF lF lR
              go_wp2_with (show wpList _ _ _ ((⟨none, .store 60 (.tmp 4) _, _, _, _, none⟩ : Oper) :: _) _ _; refine wpList_store_mid rfl 60 (.tmp 4) _ rfl rb 0 #[.int .i64 0, .int .i64 0, .int .i64 0, .int .i64 0, .int .i64 0, .bool false, .int .u64 0, .int .u64 0, .int .u16 0, .int .u8 0, .int .i64 0, .slice none 0 0, .int .i64 0, .int .i64 0, .int .u8 0, .slice none 0 0, .int .u32 0, .int .u32 0, .int .u32 0, .bool false, .int .u64 0, .int .u64 0, .int .u16 0, .slice none 0 0, .bool false, .int .u64 0, .int .u64 0, .int .i64 0, .int .u8 0, .int .i64 0, .bool false] rfl rfl (HR5.out.there rfl) (by kernel_rfl) (by simp [Value.oneCell']) ?_)
              generalize hw9 : (World.setCells _ _ _ _) = w9
              have HK9 := Lib.hid (show Kept (fun i => i = rb) w5 w9 by rw [← hw9]; exact Kept.setCells (S := fun i => i = rb) rfl _ _ (Kept.refl _ _))
              have HR9 := Lib.hid (show Blk w9 rb 60 Z63 by rw [← hw9]; exact HR5.out.setAll Z63 rfl)
              clear hw9
              refine bodyPost_ret (results_blk1 (P := Tryz.prog) (show Tryz.f19.results = _ from rfl) _ _ rb 60 Z63 _ rfl HR9.out Tryz.underlying60 rfl (by kernel_rfl)) rfl ⟨?_, ?_⟩
              · exact HB5.out.trans (HK9.out.below HB5.out.size (fun i e => by have := HRB.out; omega))
              · rw [HF.out]; try exact rfl
        have q112 : ((ch.toNat : Int) == 112) = false := int_ne (b := 112) fun e => n112 (UInt8.toNat_inj.1 e)
        by_cases n119 : ch = 119
        · subst n119
          have HXL := Lib.hid (show x.toList = x.data.toList by rw [Lib.toList_data])
          clear cF fF lF lR c0 hbw
          go_upto_region 23 with fail
          go_loopw [8, 9] (fun o i wr' => ∃ (j : Nat), 1 ≤ j ∧ j ≤ 5 ∧ i = .int .i64 (j : Int) ∧ o = .bool (wayU j x.data.toList).isSome ∧ Hid (SS wr' w.heap.size (some ⟨b, off, none⟩) (x :: xs)) ∧ Hid (FitSt w wr' fb rb lv nv { fd with wy := (wayU j x.data.toList).getD fd.wy })) (fun _ i _ => 5 - (intOf i).toNat)
          case atStart => exact ⟨1, by omega, by omega, rfl, rfl, HSX, HST⟩
          case round =>
            clear HSX HST
            obtain ⟨j, hj1, hj5, rfl, rfl, HSX, HST⟩ := hrel
            have j0 : (1 : Int) ≤ (j : Int) := by omega
            by_cases hj4 : j ≤ 4
            · have jI : (j : Int) ≤ 4 := by omega
              obtain ⟨b5, o5, hb5, he5, c0, -⟩ := HSX.out.head
              injection he5 with he5
              injection he5 with h51 h52 h53
              subst h51 h52
              have hbw : b < wr.heap.size := Nat.lt_of_lt_of_le hb HST.out.bel.size
              clear h53 hb5
              go_upto_region 25 with fail
              refine wp_region_kept 6 [(1, fun v u => v = .string ⟨(wayN j).toArray⟩)] ?st ?ne rfl (by kernel_rfl) (by kernel_rfl) ?_
              case st =>
                intro p hp
                simp only [List.mem_cons, List.not_mem_nil, or_false] at hp
                subst hp
                · intro v u u' h hk; exact h
              case ne =>
                intro p hp
                simp only [List.mem_cons, List.not_mem_nil, or_false] at hp
                subst hp
                · exact ⟨_, _, Kept.refl _ _, rfl⟩
              simp only [List.take_succ_cons, List.take_zero, List.drop_succ_cons, List.drop_zero]
              intro G pick hR hp1 hp2
              have s0 : ∀ u, (pick u).cell? ⟨b, off, none⟩ = some (.string x) := fun u => ((hp1 u).cell hbw (fun h => h) _).trans c0
              repeat (first | (refine wpR_det hp2 rfl ((hR.rel _).trans rfl) rfl ?_; intro K hK; go_big_quiet_op; go_big_quiet_on) | (refine wpR_ptr hp2 rfl ((hR.rel _).trans rfl) rfl rfl ?_; intro K hK; go_big_quiet_op; go_big_quiet_on) | (refine wpR_skip pick rfl ?_; intro K hK; go_big_quiet_op; go_big_quiet_on))
              refine wpR_rel pick rfl ((hR.rel _).trans rfl) ((hR.turns _).trans rfl) ?_ ?_
              · intro u hu
                have hk := hR.since hu.1
                have hks := hk.size
                have hz := refName_any j hj1 hj4 u
                unfold relAt
                go_simp
                refine hz.mono ?_
                rintro e w' ⟨rfl, hb'⟩
                exact ⟨_, rfl, hR.intoB hb', hR.put 0 rfl rfl rfl⟩
              intro v hv
              obtain ⟨u, _, hu⟩ := hv
              obtain rfl := hR.get 0 rfl hu
              clear hu
              obtain ⟨ns, hns⟩ : ∃ ns : ByteArray, ns = ⟨(wayN j).toArray⟩ := ⟨_, rfl⟩
              rw [← hns]
              have HNS := Lib.hid (show ns.toList = wayN j by rw [hns, Lib.toList_data])
              clear hns
              intro K hK
              go_big_quiet_op
              go_big_quiet_on
              repeat (first | (refine wpR_det hp2 rfl ((hR.rel _).trans rfl) rfl ?_; intro K hK; go_big_quiet_op; go_big_quiet_on) | (refine wpR_ptr hp2 rfl ((hR.rel _).trans rfl) rfl rfl ?_; intro K hK; go_big_quiet_op; go_big_quiet_on) | (refine wpR_skip pick rfl ?_; intro K hK; go_big_quiet_op; go_big_quiet_on))
              refine wpR_nil ?_
              intro w5 hk2 hF hM
              have HST5 := Lib.hid (HST.out.below (hk2.below (Nat.le_refl _) (fun _ h => h.elim)))
              have HSX5 := Lib.hid (HSX.out.below HST.out.bel.size (hk2.below (Nat.le_refl _) (fun _ h => h.elim)))
              clear hF hM hk2 hp1 hp2 hR s0 HSX HST c0 hbw
              obtain ⟨q, hq⟩ : ∃ q : Bool, (ns.toList == x.toList) = q := ⟨_, rfl⟩
              rw [hq]
              by_cases hw : wayN j = x.data.toList
              · have e1 : q = true := by rw [← hq, HNS.out, HXL.out, hw]; simp
                subst e1
                clear hq
                have HU := Lib.hid (show wayU (j + 1) x.data.toList = some j by rw [wayU, if_pos ⟨hj1, hw⟩])
                have cF := HST5.out.fld.cell
                have fF := HST5.out.fld.frozen
                have lF := HST5.out.fld.lt
                unfold FC at cF
                clear hw
                go_upto_region 24 with fail
                generalize hw6 : World.setCell _ _ _ = w6
                have HK6 := Lib.hid (show Kept (fun i => i = fb) w5 w6 by rw [← hw6]; exact Kept.setIn (S := fun i => i = fb) (b := fb) rfl (Kept.refl _ _))
                have HBF := Lib.hid (show Blk w6 fb 60 (FC lv nv { fd with wy := (wayU (j + 1) x.data.toList).getD fd.wy }) by rw [← hw6, HU.out]; exact HST5.out.fld.set_to rfl)
                have HST6 := Lib.hid (HST5.out.turn HNE.out HGE.out HK6.out HBF.out rfl rfl)
                have HSX6 := Lib.hid (HSX5.out.kept HST5.out.bel.size HK6.out (fun i hi e => by have := HGE.out; omega))
                clear hw6 HK6 HBF HST5 HSX5 cF fF lF
                go_wp2_with fail
                go_roundw
                case rel => exact ⟨j + 1, by omega, by omega, by go_num, by rw [HU.out]; rfl, HSX6, HST6⟩
                case measure => simp [intOf]; omega
              · have e1 : q = false := by rw [← hq, HNS.out, HXL.out]; exact beq_eq_false_iff_ne.2 hw
                subst e1
                clear hq
                have HU := Lib.hid (show wayU (j + 1) x.data.toList = wayU j x.data.toList by rw [wayU, if_neg (fun h => hw h.2)])
                have HST6 := Lib.hid (show FitSt w w5 fb rb lv nv { fd with wy := (wayU (j + 1) x.data.toList).getD fd.wy } by rw [HU.out]; exact HST5.out)
                clear hw
                go_wp2_with fail
                go_roundw
                case rel => exact ⟨j + 1, by omega, by omega, by go_num, by rw [HU.out], HSX5, HST6⟩
                case measure => simp [intOf]; omega
            · have jI : ¬ (j : Int) ≤ 4 := by omega
              have hj : j = 5 := by omega
              subst hj
              obtain ⟨o5, ho5⟩ : ∃ o5, wayU 5 x.data.toList = o5 := ⟨_, rfl⟩
              rw [ho5] at HST ⊢
              have HSX5 := HSX
              cases o5 with
              | none =>
                have HF := Lib.hid (show fitS p.data.toList (ws.map (·.data.toList)) Fd.zero = none by rw [HFS.out, HDR.out]; exact fitS_none (by rw [List.map_cons, fitStep_w, show wayP x.data.toList = none from ho5]; rfl))
                have HR5 := Lib.hid HST.out.res
                have HB5 := Lib.hid HST.out.bel
                clear ho5 HST HSX HSX5
                simp only [Option.isSome_none]
                go_wp2_with (show wpList _ _ _ ((⟨none, .store 60 (.tmp 4) _, _, _, _, none⟩ : Oper) :: _) _ _; refine wpList_store_mid rfl 60 (.tmp 4) _ rfl rb 0 #[.int .i64 0, .int .i64 0, .int .i64 0, .int .i64 0, .int .i64 0, .bool false, .int .u64 0, .int .u64 0, .int .u16 0, .int .u8 0, .int .i64 0, .slice none 0 0, .int .i64 0, .int .i64 0, .int .u8 0, .slice none 0 0, .int .u32 0, .int .u32 0, .int .u32 0, .bool false, .int .u64 0, .int .u64 0, .int .u16 0, .slice none 0 0, .bool false, .int .u64 0, .int .u64 0, .int .i64 0, .int .u8 0, .int .i64 0, .bool false] rfl rfl (HR5.out.there rfl) (by kernel_rfl) (by simp [Value.oneCell']) ?_)
                generalize hw9 : (World.setCells _ _ _ _) = w9
                have HK9 := Lib.hid (show Kept (fun i => i = rb) wr w9 by rw [← hw9]; exact Kept.setCells (S := fun i => i = rb) rfl _ _ (Kept.refl _ _))
                have HR9 := Lib.hid (show Blk w9 rb 60 Z63 by rw [← hw9]; exact HR5.out.setAll Z63 rfl)
                clear hw9
                refine bodyPost_ret (results_blk1 (P := Tryz.prog) (show Tryz.f19.results = _ from rfl) _ _ rb 60 Z63 _ rfl HR9.out Tryz.underlying60 rfl (by kernel_rfl)) rfl ⟨?_, ?_⟩
                · exact HB5.out.trans (HK9.out.below HB5.out.size (fun i e => by have := HRB.out; omega))
                · rw [HF.out]; try exact rfl
              | some n =>
                have HFX5 := Lib.hid (show fitS p.data.toList (ws.map (·.data.toList)) Fd.zero = fitS (p.data.toList.drop (k + 1)) (xs.map (·.data.toList)) { fd with wy := n } by rw [HFS.out, HDR.out]; exact fitS_some (by rw [List.map_cons, fitStep_w, show wayP x.data.toList = some n from ho5]; rfl))
                have HST5 := Lib.hid (show FitSt w wr fb rb lv nv { fd with wy := n } from HST.out)
                clear ho5 HST HSX
                simp only [Option.isSome_some]
                obtain ⟨b5, o5, hb5, he5, -, hat⟩ := HSX5.out.head
                injection he5 with he5
                injection he5 with h51 h52 h53
                subst h51 h52
                have HSR := Lib.hid (SS.rest hb5 hat (show xs.length + 1 ≤ c from hxc))
                clear hat h53
                go_wp2_with fail
                go_roundw
                case rel => exact ⟨k + 1, _, c - 1, xs, { fd with wy := n }, lv, nv, by omega, by first | (show fd.nums.length ≤ k + 1; omega) | (simp; omega), by first | rfl | simp, by go_num, by omega, by omega, HSR, HFX5, HST5, Lib.hid (by have := (joinC_tail_len x.data.toList (xs.map (·.data.toList))).2; have := HZX.out; rw [List.map_cons] at this; omega)⟩
                case measure => simp [intOf]; omega
        have q119 : ((ch.toNat : Int) == 119) = false := int_ne (b := 119) fun e => n119 (UInt8.toNat_inj.1 e)
        by_cases n84 : ch = 84
        · subst n84
          obtain ⟨b5, o5, hb5, he5, -, hat⟩ := HSX.out.head
          injection he5 with he5
          injection he5 with h51 h52 h53
          subst h51 h52
          have HAT := Lib.hid hat
          clear h53 hb5 hat cF fF lF lR
          go_upto_region 30 with fail
          go_loop [10, 11] (fun o i => ∃ (j : Nat) (sb : ByteArray), 1 ≤ j ∧ j ≤ xs.length + 1 ∧ i = .int .i64 (j : Int) ∧ o = .string sb ∧ Hid (sb.data.toList = joinC 32 (((x :: xs).map (·.data.toList)).take j))) (fun _ i => xs.length + 1 - (intOf i).toNat)
          case atStart => exact ⟨1, x, by omega, by omega, rfl, rfl, Lib.hid rfl⟩
          case round =>
            obtain ⟨j, sb, hj1, hjx, rfl, rfl, HSB⟩ := hrel
            have hsb : sb.size ≤ 4000 := by
              rw [Lib.size_eq, HSB.out]
              exact Nat.le_trans (joinC_take_le 32 _ j) HZX.out
            have j0 : (1 : Int) ≤ (j : Int) := by omega
            by_cases hj : j < xs.length + 1
            · have jI : (j : Int) < (xs.length : Int) + 1 := by omega
              have hjl : j < (x :: xs).length := by simpa using hj
              have cj := HAT.out j hjl
              have HTK := Lib.hid (show ((x :: xs).map (·.data.toList)).take (j + 1) = ((x :: xs).map (·.data.toList)).take j ++ [((x :: xs)[j]'hjl).data.toList] by rw [List.take_succ_eq_append_getElem (by simpa using hjl), List.getElem_map])
              have hy : ((x :: xs)[j]'hjl).size ≤ 4000 := by
                rw [Lib.size_eq]
                exact Nat.le_trans (joinC_len_get 32 _ _ (List.mem_map_of_mem (f := fun (z : ByteArray) => z.data.toList) (List.getElem_mem hjl))) HZX.out
              generalize ((x :: xs)[j]'hjl) = y at cj HTK hy
              go_wp2_with fail
              go_round
              case rel => exact ⟨j + 1, _, by omega, by omega, by go_num, rfl, Lib.hid (by
                rw [HTK.out, joinC_snoc 32 _ (by
                  intro e
                  have := congrArg List.length e
                  simp at this
                  omega), ← HSB.out]
                simp)⟩
              case measure => simp [intOf]; omega
            · have jI : ¬ (j : Int) < (xs.length : Int) + 1 := by omega
              have hjE : j = xs.length + 1 := by omega
              subst hjE
              have HL := Lib.hid (show sb.data.toList = joinC 32 (x.data.toList :: xs.map (·.data.toList)) by
                rw [HSB.out, List.take_of_length_le (by simp)]; rfl)
              have hcv := fun (w : World) (s : ByteArray) => Lib.run_convert_string_bytes (P := Tryz.prog) w 9 30 5 s Tryz.underlying9 Tryz.underlying30 Tryz.underlying5
              obtain ⟨lv', hlv⟩ : ∃ lv', lv' = Value.slice (some ⟨wr.heap.size, 0, none⟩) sb.size (grownCap wr sb.size 0 5) := ⟨_, rfl⟩
              have HLC := Lib.hid (load_conv wr sb hsb).1
              have HST4 := Lib.hid (HST.out.below ((load_conv wr sb hsb).2.below (Nat.le_refl _) (fun _ h => h.elim)))
              have HSX4 := Lib.hid (HSX.out.below HST.out.bel.size ((load_conv wr sb hsb).2.below (Nat.le_refl _) (fun _ h => h.elim)))
              have cF := HST4.out.fld.cell
              have fF := HST4.out.fld.frozen
              have lF := HST4.out.fld.lt
              unfold FC at cF
              go_upto_region 34 with fail
              rw [← hlv] at HLC ⊢
              generalize hw5 : World.setCell _ _ _ = w5
              have HK5 := Lib.hid (show Kept (fun i => i = fb) (Lib.bytesWorld wr 5 sb) w5 by rw [← hw5]; exact Kept.setIn (S := fun i => i = fb) (b := fb) rfl (Kept.refl _ _))
              have HBF := Lib.hid (show Blk w5 fb 60 (FC lv' nv { fd with load := sb.data.toList }) by rw [← hw5]; exact HST4.out.fld.set_to rfl)
              have HST5 := Lib.hid (HST4.out.loaded HNE.out HGE.out HLC.out HK5.out HBF.out)
              have HFX5 := Lib.hid (show fitS p.data.toList (ws.map (·.data.toList)) Fd.zero = fitS (p.data.toList.drop (k + 1)) (([] : List ByteArray).map (·.data.toList)) { fd with load := sb.data.toList } by rw [HFS.out, HDR.out]; exact fitS_some (by rw [List.map_cons, fitStep_T, ← HL.out]; rfl))
              clear hw5 HK5 HBF HST4 HSX4 cF fF lF hlv HLC HSX HST HFS HDR HAT HSB HL hcv
              go_wp2_with fail
              go_roundw
              case rel => exact ⟨k + 1, _, c - 1, [], { fd with load := sb.data.toList }, lv', nv, by omega, by (show fd.nums.length ≤ k + 1; omega), by first | rfl | simp, by go_num, by simp, by omega, Lib.hid (.inl rfl), HFX5, HST5, Lib.hid (by simp [joinC])⟩
              case measure => simp [intOf]; omega
        have q84 : ((ch.toNat : Int) == 84) = false := int_ne (b := 84) fun e => n84 (UInt8.toNat_inj.1 e)
        by_cases n80 : ch = 80
        · subst n80
          obtain ⟨o5, ho5⟩ : ∃ o5, numP 10 (65535) x.data.toList = o5 := ⟨_, rfl⟩
          obtain ⟨vn, hvn⟩ : ∃ vn, o5.getD 0 = vn := ⟨_, rfl⟩
          obtain ⟨ok, hok⟩ : ∃ ok, o5.isSome = ok := ⟨_, rfl⟩
          have HNB := Lib.hid (fun (u : World) => refNumber10 x (65535) (by first | omega | exact limP_le _) (by omega) u)
          rw [ho5, numRet_eq, hvn, hok] at HNB
          have hvm : (vn : Int) ≤ 1073741824 := by
            have : vn ≤ 1073741824 := by
              rw [← hvn, ← ho5]
              cases hn : numP 10 (65535) x.data.toList with
              | none => exact Nat.zero_le _
              | some n => exact Nat.le_trans (numP_le hn) (by first | omega | exact limP_le _)
            omega
          have hv0 : (0 : Int) ≤ (vn : Int) := Int.natCast_nonneg _
          clear cF fF
          go_upto_region 36 with fail
          refine wp_region_peek 12 (fun i => i = fb) [10] [] [3] [(4, fun v u => v = .int .i64 65535), (5, fun v u => v = .tuple #[.int .i64 (vn : Int), .bool ok]), (10, fun v u => Blk u fb 60 (FC lv nv { fd with po := vn }))] ?st ?ne rfl (by kernel_rfl) (by kernel_rfl) (by kernel_rfl) (by kernel_rfl) ?_
          case st =>
            intro p hp
            simp only [List.mem_cons, List.not_mem_nil, or_false] at hp
            rcases hp with rfl | rfl | rfl
            · intro v u u' h hk; exact h
            · intro v u u' h hk; exact h
            · intro v u u' h hk; exact h.kept hk (fun h => h)
          case ne =>
            intro p hp
            simp only [List.mem_cons, List.not_mem_nil, or_false] at hp
            rcases hp with rfl | rfl | rfl
            · exact ⟨_, _, Kept.refl _ _, rfl⟩
            · exact ⟨_, _, Kept.refl _ _, rfl⟩
            · exact ⟨undef, _, (Kept.setIn (S := fun i => i = fb) (b := fb) rfl (Kept.refl _ _)), HST.out.fld.set_to (i := 27) (u := .int .i64 (vn : Int)) rfl⟩
          simp only [List.take_succ_cons, List.take_zero, List.drop_succ_cons, List.drop_zero]
          intro G pick pick0 hR hp1 hp2 hpk hq1 hq2
          have s0 : ∀ u, (pick u).cell? ⟨b, off, none⟩ = some (.string x) := fun u => ((hp1 u).cell hbw hbf _).trans c0
          repeat (first | (refine wpR_peek hq2 rfl ((hR.rel _).trans rfl) ((hpk _).trans rfl) rfl ?_; intro K hK; go_big_quiet_op; go_big_quiet_on) | (refine wpR_det hp2 rfl ((hR.rel _).trans rfl) rfl ?_; intro K hK; go_big_quiet_op; go_big_quiet_on) | (refine wpR_ptr hp2 rfl ((hR.rel _).trans rfl) rfl rfl ?_; intro K hK; go_big_quiet_op; go_big_quiet_on) | (refine wpR_skip pick rfl ?_; intro K hK; go_big_quiet_op; go_big_quiet_on))
          refine wpR_rel pick rfl ((hR.rel _).trans rfl) ((hR.turns _).trans rfl) ?_ ?_
          · intro u hu
            have hk := hR.since hu.1
            have hks := hk.size
            have hz := limitP u
            unfold relAt
            go_simp
            refine hz.mono ?_
            rintro e w' ⟨rfl, rfl⟩
            exact ⟨_, rfl, hR.same, hR.put 0 rfl rfl rfl⟩
          intro v hv
          obtain ⟨u, _, hu⟩ := hv
          obtain rfl := hR.get 0 rfl hu
          clear hu
          intro K hK
          go_big_quiet_op
          go_big_quiet_on
          repeat (first | (refine wpR_peek hq2 rfl ((hR.rel _).trans rfl) ((hpk _).trans rfl) rfl ?_; intro K hK; go_big_quiet_op; go_big_quiet_on) | (refine wpR_det hp2 rfl ((hR.rel _).trans rfl) rfl ?_; intro K hK; go_big_quiet_op; go_big_quiet_on) | (refine wpR_ptr hp2 rfl ((hR.rel _).trans rfl) rfl rfl ?_; intro K hK; go_big_quiet_op; go_big_quiet_on) | (refine wpR_skip pick rfl ?_; intro K hK; go_big_quiet_op; go_big_quiet_on))
          refine wpR_rel pick rfl ((hR.rel _).trans rfl) ((hR.turns _).trans rfl) ?_ ?_
          · intro u hu
            have hk := hR.since hu.1
            have hks := hk.size
            have hz := HNB.out u
            unfold relAt
            go_simp
            refine hz.mono ?_
            rintro e w' ⟨rfl, rfl⟩
            exact ⟨_, rfl, hR.same, hR.put 1 rfl rfl rfl⟩
          intro v hv
          obtain ⟨u, _, hu⟩ := hv
          obtain rfl := hR.get 1 rfl hu
          clear hu
          intro K hK
          go_big_quiet_op
          go_big_quiet_on
          repeat (first | (refine wpR_peek hq2 rfl ((hR.rel _).trans rfl) ((hpk _).trans rfl) rfl ?_; intro K hK; go_big_quiet_op; go_big_quiet_on) | (refine wpR_det hp2 rfl ((hR.rel _).trans rfl) rfl ?_; intro K hK; go_big_quiet_op; go_big_quiet_on) | (refine wpR_ptr hp2 rfl ((hR.rel _).trans rfl) rfl rfl ?_; intro K hK; go_big_quiet_op; go_big_quiet_on) | (refine wpR_skip pick rfl ?_; intro K hK; go_big_quiet_op; go_big_quiet_on))
          refine wpR_turn pick rfl ((hR.rel _).trans rfl) ((hR.turns _).trans rfl) ((hR.adds _).trans rfl) ?_ ?_
          · intro u hu hM
            have hk := hR.since hu.1
            have hks := hk.size
            have hK0 := hR.first hM
            have hB0 := HST.out.fld.kept hK0 (fun h => h)
            have cB := hB0.cell
            have fB := hB0.frozen
            have lB := hB0.lt
            unfold FC at cB
            unfold relAt
            go_simp
            exact ⟨hR.into (Kept.setIn (S := fun i => i = fb) (b := fb) rfl (Kept.refl _ _)), hR.put 2 rfl rfl (hB0.set_to rfl)⟩
          intro v hv
          obtain ⟨u, _, hu⟩ := hv
          obtain - := hR.get 2 rfl hu
          clear hu
          intro K hK
          go_big_quiet_op
          go_big_quiet_on
          repeat (first | (refine wpR_peek hq2 rfl ((hR.rel _).trans rfl) ((hpk _).trans rfl) rfl ?_; intro K hK; go_big_quiet_op; go_big_quiet_on) | (refine wpR_det hp2 rfl ((hR.rel _).trans rfl) rfl ?_; intro K hK; go_big_quiet_op; go_big_quiet_on) | (refine wpR_ptr hp2 rfl ((hR.rel _).trans rfl) rfl rfl ?_; intro K hK; go_big_quiet_op; go_big_quiet_on) | (refine wpR_skip pick rfl ?_; intro K hK; go_big_quiet_op; go_big_quiet_on))
          refine wpR_nil ?_
          intro w5 hk2 hF hM
          have HBF := Lib.hid (show Blk w5 fb 60 (FC lv nv { fd with po := vn }) from hR.get 2 rfl hM)
          have HST5 := Lib.hid (HST.out.turn HNE.out HGE.out hk2 HBF.out rfl rfl)
          have HSX5 := Lib.hid (HSX.out.kept HST.out.bel.size hk2 (fun i hi e => by have := HGE.out; omega))
          clear hF hM hk2 hp1 hp2 hR hpk hq1 hq2 s0 HST HSX HBF c0 hbw lF lR HNB
          go_upto_region 37 with fail
          cases o5 with
          | none =>
            have hok' : ok = false := hok.symm
            subst hok'
            have HF := Lib.hid (show fitS p.data.toList (ws.map (·.data.toList)) Fd.zero = none by rw [HFS.out, HDR.out]; exact fitS_none (by rw [List.map_cons, fitStep_P, ho5]; rfl))
            have HR6 := Lib.hid HST5.out.res
            have HB6 := Lib.hid HST5.out.bel
            clear HST5 HSX5 ho5 hvn hok
            go_wp2_with (show wpList _ _ _ ((⟨none, .store 60 (.tmp 4) _, _, _, _, none⟩ : Oper) :: _) _ _; refine wpList_store_mid rfl 60 (.tmp 4) _ rfl rb 0 #[.int .i64 0, .int .i64 0, .int .i64 0, .int .i64 0, .int .i64 0, .bool false, .int .u64 0, .int .u64 0, .int .u16 0, .int .u8 0, .int .i64 0, .slice none 0 0, .int .i64 0, .int .i64 0, .int .u8 0, .slice none 0 0, .int .u32 0, .int .u32 0, .int .u32 0, .bool false, .int .u64 0, .int .u64 0, .int .u16 0, .slice none 0 0, .bool false, .int .u64 0, .int .u64 0, .int .i64 0, .int .u8 0, .int .i64 0, .bool false] rfl rfl (HR6.out.there rfl) (by kernel_rfl) (by simp [Value.oneCell']) ?_)
            generalize hw9 : (World.setCells _ _ _ _) = w9
            have HK9 := Lib.hid (show Kept (fun i => i = rb) w5 w9 by rw [← hw9]; exact Kept.setCells (S := fun i => i = rb) rfl _ _ (Kept.refl _ _))
            have HR9 := Lib.hid (show Blk w9 rb 60 Z63 by rw [← hw9]; exact HR6.out.setAll Z63 rfl)
            clear hw9
            refine bodyPost_ret (results_blk1 (P := Tryz.prog) (show Tryz.f19.results = _ from rfl) _ _ rb 60 Z63 _ rfl HR9.out Tryz.underlying60 rfl (by kernel_rfl)) rfl ⟨?_, ?_⟩
            · exact HB6.out.trans (HK9.out.below HB6.out.size (fun i e => by have := HRB.out; omega))
            · rw [HF.out]; try exact rfl
          | some n =>
            have hok' : ok = true := hok.symm
            have hvn' : n = vn := hvn
            subst hok' hvn'
            have HFX5 := Lib.hid (show fitS p.data.toList (ws.map (·.data.toList)) Fd.zero = fitS (p.data.toList.drop (k + 1)) (xs.map (·.data.toList)) { fd with po := n } by rw [HFS.out, HDR.out]; exact fitS_some (by rw [List.map_cons, fitStep_P, ho5]; rfl))
            clear ho5 hvn hok
            obtain ⟨b5, o5, hb5, he5, -, hat⟩ := HSX5.out.head
            injection he5 with he5
            injection he5 with h51 h52 h53
            subst h51 h52
            have HSR := Lib.hid (SS.rest hb5 hat (show xs.length + 1 ≤ c from hxc))
            clear hat h53
            go_wp2_with fail
            go_roundw
            case rel => exact ⟨k + 1, _, c - 1, xs, { fd with po := n }, lv, nv, by omega, by first | (show fd.nums.length ≤ k + 1; omega) | (simp; omega), by first | rfl | simp, by go_num, by omega, by omega, HSR, HFX5, HST5, Lib.hid (by have := (joinC_tail_len x.data.toList (xs.map (·.data.toList))).2; have := HZX.out; rw [List.map_cons] at this; omega)⟩
            case measure => simp [intOf]; omega
        have q80 : ((ch.toNat : Int) == 80) = false := int_ne (b := 80) fun e => n80 (UInt8.toNat_inj.1 e)
        obtain ⟨o5, ho5⟩ : ∃ o5, numP 10 (limP ch) x.data.toList = o5 := ⟨_, rfl⟩
        obtain ⟨vn, hvn⟩ : ∃ vn, o5.getD 0 = vn := ⟨_, rfl⟩
        obtain ⟨ok, hok⟩ : ∃ ok, o5.isSome = ok := ⟨_, rfl⟩
        have HNB := Lib.hid (fun (u : World) => refNumber10 x (limP ch) (by first | omega | exact limP_le _) (by omega) u)
        rw [ho5, numRet_eq, hvn, hok] at HNB
        have hvm : (vn : Int) ≤ 1073741824 := by
          have : vn ≤ 1073741824 := by
            rw [← hvn, ← ho5]
            cases hn : numP 10 (limP ch) x.data.toList with
            | none => exact Nat.zero_le _
            | some n => exact Nat.le_trans (numP_le hn) (by first | omega | exact limP_le _)
          omega
        have hv0 : (0 : Int) ≤ (vn : Int) := Int.natCast_nonneg _
        clear cF fF
        go_upto_region 10 with fail
        refine wp_region_kept 11 [(4, fun v u => v = .int .i64 (limP ch : Int)), (5, fun v u => v = .tuple #[.int .i64 (vn : Int), .bool ok])] ?st ?ne rfl (by kernel_rfl) (by kernel_rfl) ?_
        case st =>
          intro p hp
          simp only [List.mem_cons, List.not_mem_nil, or_false] at hp
          rcases hp with rfl | rfl
          · intro v u u' h hk; exact h
          · intro v u u' h hk; exact h
        case ne =>
          intro p hp
          simp only [List.mem_cons, List.not_mem_nil, or_false] at hp
          rcases hp with rfl | rfl
          · exact ⟨_, _, Kept.refl _ _, rfl⟩
          · exact ⟨_, _, Kept.refl _ _, rfl⟩
        simp only [List.take_succ_cons, List.take_zero, List.drop_succ_cons, List.drop_zero]
        intro G pick hR hp1 hp2
        have s0 : ∀ u, (pick u).cell? ⟨b, off, none⟩ = some (.string x) := fun u => ((hp1 u).cell hbw (fun h => h) _).trans c0
        repeat (first | (refine wpR_det hp2 rfl ((hR.rel _).trans rfl) rfl ?_; intro K hK; go_big_quiet_op; go_big_quiet_on) | (refine wpR_ptr hp2 rfl ((hR.rel _).trans rfl) rfl rfl ?_; intro K hK; go_big_quiet_op; go_big_quiet_on) | (refine wpR_skip pick rfl ?_; intro K hK; go_big_quiet_op; go_big_quiet_on))
        refine wpR_rel pick rfl ((hR.rel _).trans rfl) ((hR.turns _).trans rfl) ?_ ?_
        · intro u hu
          have hk := hR.since hu.1
          have hks := hk.size
          have hz := limit_any ch u
          unfold relAt
          go_simp
          refine hz.mono ?_
          rintro e w' ⟨rfl, rfl⟩
          exact ⟨_, rfl, hR.same, hR.put 0 rfl rfl rfl⟩
        intro v hv
        obtain ⟨u, _, hu⟩ := hv
        obtain rfl := hR.get 0 rfl hu
        clear hu
        intro K hK
        go_big_quiet_op
        go_big_quiet_on
        repeat (first | (refine wpR_det hp2 rfl ((hR.rel _).trans rfl) rfl ?_; intro K hK; go_big_quiet_op; go_big_quiet_on) | (refine wpR_ptr hp2 rfl ((hR.rel _).trans rfl) rfl rfl ?_; intro K hK; go_big_quiet_op; go_big_quiet_on) | (refine wpR_skip pick rfl ?_; intro K hK; go_big_quiet_op; go_big_quiet_on))
        refine wpR_rel pick rfl ((hR.rel _).trans rfl) ((hR.turns _).trans rfl) ?_ ?_
        · intro u hu
          have hk := hR.since hu.1
          have hks := hk.size
          have hz := HNB.out u
          unfold relAt
          go_simp
          refine hz.mono ?_
          rintro e w' ⟨rfl, rfl⟩
          exact ⟨_, rfl, hR.same, hR.put 1 rfl rfl rfl⟩
        intro v hv
        obtain ⟨u, _, hu⟩ := hv
        obtain rfl := hR.get 1 rfl hu
        clear hu
        intro K hK
        go_big_quiet_op
        go_big_quiet_on
        repeat (first | (refine wpR_det hp2 rfl ((hR.rel _).trans rfl) rfl ?_; intro K hK; go_big_quiet_op; go_big_quiet_on) | (refine wpR_ptr hp2 rfl ((hR.rel _).trans rfl) rfl rfl ?_; intro K hK; go_big_quiet_op; go_big_quiet_on) | (refine wpR_skip pick rfl ?_; intro K hK; go_big_quiet_op; go_big_quiet_on))
        refine wpR_nil ?_
        intro w4 hk2 hF hM
        have HST4 := Lib.hid (HST.out.below (hk2.below (Nat.le_refl _) (fun _ h => h.elim)))
        have HSX4 := Lib.hid (HSX.out.below HST.out.bel.size (hk2.below (Nat.le_refl _) (fun _ h => h.elim)))
        clear hF hM hk2 hp1 hp2 hR s0 HST HSX c0 hbw lF lR HNB
        go_upto_region 11 with fail
        have cF := HST4.out.fld.cell
        have fF := HST4.out.fld.frozen
        have lF := HST4.out.fld.lt
        have hwb := HST4.out.bel.size
        unfold FC at cF
        go_wp2_with (at_builtin; go_loud (refine wpList_append_row rfl (.tmp 39) (.tmp 41) 58 rfl w.heap.size 3 (.int .i64 0) 8 Tryz.underlying58 h3 rfl _ (ics fd.nums) rfl (some ⟨w4.heap.size, 0, none⟩) 1 1 [.int .i64 (vn : Int)] rfl rfl (HST4.out.num.alloc _) (Src.blk (Blk.new _ _ _) rfl) (by simp [Value.oneCell']) ?a3 ?a4 ?a5 ?_))
        case a3 => simp [ics]; unfold maxLen; omega
        case a4 => simp [ics]; omega
        case a5 => first | omega | (simp; omega)
        intro v6 w6 hr6 hg6 _
        have HR6 := Lib.hid (show Row w6 w.heap.size 3 v6 (ics (fd.nums ++ [vn])) by unfold ics at hr6 ⊢; rw [List.map_append]; exact hr6)
        have HST4a := Lib.hid (HST4.out.below (bel1 (o := .cells #[.int .i64 (vn : Int)] 3)))
        have HF6 := Lib.hid (HST4a.out.fld.grown hg6 (fun e => HST4a.out.num.ne HST4a.out.fld (by decide) e.symm))
        have HG6 := Lib.hid hg6
        have HSX6 := Lib.hid ((HSX4.out.below HST4.out.bel.size (bel1 (o := .cells #[.int .i64 (vn : Int)] 3))).keep fun b o hb => World.cell?_of_block (w := (w4.alloc (.cells #[.int .i64 (vn : Int)] 3))) (hg6.block b (Nat.lt_of_lt_of_le hb HST4a.out.bel.size) (fun e => by have := (HST4a.out.num.lt b e.symm).1; omega)))
        obtain ⟨VA, vc, hv6, -, -⟩ := hr6.shape
        have HV6 := Lib.hid hv6
        rw [hv6]
        clear cF fF lF hr6 hg6 HST4 HSX4 hv6
        have cF := HF6.out.cell
        have fF := HF6.out.frozen
        have lF := HF6.out.lt
        unfold FC at cF
        go_upto_region 12 with fail
        generalize hw5 : World.setCell _ _ _ = w5
        have HK5 := Lib.hid (show Kept (fun i => i = fb) w6 w5 by rw [← hw5]; exact Kept.setIn (S := fun i => i = fb) (b := fb) rfl (Kept.refl _ _))
        have HBF := Lib.hid (show Blk w5 fb 60 (FC lv v6 { fd with nums := fd.nums ++ [vn] }) by rw [← hw5, HV6.out, List.length_append, List.length_singleton]; exact HF6.out.set_to rfl)
        have HST5 := Lib.hid (HST4a.out.pushed HNE.out HGE.out HG6.out HR6.out HK5.out HBF.out)
        have HSX5 := Lib.hid (HSX6.out.kept (Nat.le_trans HST4a.out.bel.size HG6.out.size) HK5.out (fun i hi e => by have := HGE.out; omega))
        clear hw5 HK5 HBF HF6 HG6 HR6 HST4a HSX6 cF fF lF
        go_upto_region 37 with fail
        cases o5 with
        | none =>
          have hok' : ok = false := hok.symm
          subst hok'
          have HF := Lib.hid (show fitS p.data.toList (ws.map (·.data.toList)) Fd.zero = none by rw [HFS.out, HDR.out]; exact fitS_none (by rw [List.map_cons, (fitStep_n n97 n112 n119 n84 n80), ho5]; rfl))
          have HR6 := Lib.hid HST5.out.res
          have HB6 := Lib.hid HST5.out.bel
          clear HST5 HSX5 ho5 hvn hok
          go_wp2_with (show wpList _ _ _ ((⟨none, .store 60 (.tmp 4) _, _, _, _, none⟩ : Oper) :: _) _ _; refine wpList_store_mid rfl 60 (.tmp 4) _ rfl rb 0 #[.int .i64 0, .int .i64 0, .int .i64 0, .int .i64 0, .int .i64 0, .bool false, .int .u64 0, .int .u64 0, .int .u16 0, .int .u8 0, .int .i64 0, .slice none 0 0, .int .i64 0, .int .i64 0, .int .u8 0, .slice none 0 0, .int .u32 0, .int .u32 0, .int .u32 0, .bool false, .int .u64 0, .int .u64 0, .int .u16 0, .slice none 0 0, .bool false, .int .u64 0, .int .u64 0, .int .i64 0, .int .u8 0, .int .i64 0, .bool false] rfl rfl (HR6.out.there rfl) (by kernel_rfl) (by simp [Value.oneCell']) ?_)
          generalize hw9 : (World.setCells _ _ _ _) = w9
          have HK9 := Lib.hid (show Kept (fun i => i = rb) w5 w9 by rw [← hw9]; exact Kept.setCells (S := fun i => i = rb) rfl _ _ (Kept.refl _ _))
          have HR9 := Lib.hid (show Blk w9 rb 60 Z63 by rw [← hw9]; exact HR6.out.setAll Z63 rfl)
          clear hw9
          refine bodyPost_ret (results_blk1 (P := Tryz.prog) (show Tryz.f19.results = _ from rfl) _ _ rb 60 Z63 _ rfl HR9.out Tryz.underlying60 rfl (by kernel_rfl)) rfl ⟨?_, ?_⟩
          · exact HB6.out.trans (HK9.out.below HB6.out.size (fun i e => by have := HRB.out; omega))
          · rw [HF.out]; try exact rfl
        | some n =>
          have hok' : ok = true := hok.symm
          have hvn' : n = vn := hvn
          subst hok' hvn'
          have HFX5 := Lib.hid (show fitS p.data.toList (ws.map (·.data.toList)) Fd.zero = fitS (p.data.toList.drop (k + 1)) (xs.map (·.data.toList)) { fd with nums := fd.nums ++ [n] } by rw [HFS.out, HDR.out]; exact fitS_some (by rw [List.map_cons, (fitStep_n n97 n112 n119 n84 n80), ho5]; rfl))
          clear ho5 hvn hok
          obtain ⟨b5, o5, hb5, he5, -, hat⟩ := HSX5.out.head
          injection he5 with he5
          injection he5 with h51 h52 h53
          subst h51 h52
          have HSR := Lib.hid (SS.rest hb5 hat (show xs.length + 1 ≤ c from hxc))
          clear hat h53
          go_wp2_with fail
          go_roundw
          case rel => exact ⟨k + 1, _, c - 1, xs, { fd with nums := fd.nums ++ [n] }, lv, v6, by omega, by first | (show fd.nums.length ≤ k + 1; omega) | (simp; omega), by first | rfl | simp, by go_num, by omega, by omega, HSR, HFX5, HST5, Lib.hid (by have := (joinC_tail_len x.data.toList (xs.map (·.data.toList))).2; have := HZX.out; rw [List.map_cons] at this; omega)⟩
          case measure => simp [intOf]; omega
    · have kI : ¬ (k : Int) < (p.size : Int) := by omega
      have HDN := Lib.hid (show p.data.toList.drop k = [] from List.drop_eq_nil_iff.2 (by rw [← Lib.size_eq]; omega))
      cases xs with
      | nil =>
        have HF := Lib.hid (show fitS p.data.toList (ws.map (·.data.toList)) Fd.zero = some fd by rw [HFS.out, HDN.out]; rfl)
        obtain ⟨LA, lc, hle, -⟩ := HST.out.low
        obtain ⟨NA, nc, hne, -⟩ := HST.out.num.shape
        subst hle hne
        obtain ⟨a, po, pp, wy, hfe⟩ : ∃ a po pp wy, FC (.slice LA fd.load.length lc) (.slice NA (ics fd.nums).length nc) fd = #[.int .i64 0, .int .i64 0, .int .i64 0, .int .i64 0, .int .i64 0, .bool false, .int .u64 0, .int .u64 0, .int .u16 0, .int .u8 0, .int .i64 0, .slice none 0 0, .int .i64 0, .int .i64 0, .int .u8 0, .slice LA fd.load.length lc, .int .u32 0, .int .u32 0, .int .u32 0, .bool false, .int .u64 0, .int .u64 0, .int .u16 0, .slice NA (ics fd.nums).length nc, .bool a.six, .int .u64 (a.hi : Int), .int .u64 (a.lo : Int), .int .i64 (po : Int), .int .u8 (pp : Int), .int .i64 (wy : Int), .bool true] := ⟨fd.a, fd.po, fd.p, fd.wy, rfl⟩
        have HFL := Lib.hid (show Blk wr fb 60 #[.int .i64 0, .int .i64 0, .int .i64 0, .int .i64 0, .int .i64 0, .bool false, .int .u64 0, .int .u64 0, .int .u16 0, .int .u8 0, .int .i64 0, .slice none 0 0, .int .i64 0, .int .i64 0, .int .u8 0, .slice LA fd.load.length lc, .int .u32 0, .int .u32 0, .int .u32 0, .bool false, .int .u64 0, .int .u64 0, .int .u16 0, .slice NA (ics fd.nums).length nc, .bool a.six, .int .u64 (a.hi : Int), .int .u64 (a.lo : Int), .int .i64 (po : Int), .int .u8 (pp : Int), .int .i64 (wy : Int), .bool true] by rw [← hfe]; exact HST.out.fld)
        have HFE := Lib.hid hfe
        have HRS := Lib.hid HST.out.res
        have HLW := Lib.hid HST.out.low
        have HNM := Lib.hid HST.out.num
        have HBL := Lib.hid HST.out.bel
        have hrt := fun cs fr (hg : wr.heap[rb]? = some (Obj.cells cs 5 fr)) => blk_not HST.out.res hg (by decide)
        have HNR := Lib.hid (fun g (hg : (.slice NA (ics fd.nums).length nc : Value).ownBlock = some g) (e : g = rb) => HST.out.num.ne HST.out.res (by decide) (by rw [hg, e]))
        have HRT := Lib.hid hrt
        clear hfe HST HSX HFS HDN HZX hrt
        go_wp2_with (first | (show wpList _ _ _ ((⟨_, .load 60 (.tmp 5), _, _, _, none⟩ : Oper) :: _) _ _; refine wpList_load_mid rfl 60 (.tmp 5) rfl fb 0 rfl [.int .i64 0, .int .i64 0, .int .i64 0, .int .i64 0, .int .i64 0, .bool false, .int .u64 0, .int .u64 0, .int .u16 0, .int .u8 0, .int .i64 0, .slice none 0 0, .int .i64 0, .int .i64 0, .int .u8 0, .slice LA fd.load.length lc, .int .u32 0, .int .u32 0, .int .u32 0, .bool false, .int .u64 0, .int .u64 0, .int .u16 0, .slice NA (ics fd.nums).length nc, .bool a.six, .int .u64 (a.hi : Int), .int .u64 (a.lo : Int), .int .i64 (po : Int), .int .u8 (pp : Int), .int .i64 (wy : Int), .bool true] _ HFL.out.range Tryz.underlying60 rfl (by kernel_rfl) ?_) | (show wpList _ _ _ ((⟨none, .store 60 (.tmp 4) _, _, _, _, none⟩ : Oper) :: _) _ _; refine wpList_store_mid rfl 60 (.tmp 4) _ rfl rb 0 #[.int .i64 0, .int .i64 0, .int .i64 0, .int .i64 0, .int .i64 0, .bool false, .int .u64 0, .int .u64 0, .int .u16 0, .int .u8 0, .int .i64 0, .slice none 0 0, .int .i64 0, .int .i64 0, .int .u8 0, .slice LA fd.load.length lc, .int .u32 0, .int .u32 0, .int .u32 0, .bool false, .int .u64 0, .int .u64 0, .int .u16 0, .slice NA (ics fd.nums).length nc, .bool a.six, .int .u64 (a.hi : Int), .int .u64 (a.lo : Int), .int .i64 (po : Int), .int .u8 (pp : Int), .int .i64 (wy : Int), .bool true] rfl rfl (HRS.out.there rfl) (by kernel_rfl) (by simp [Value.oneCell']) ?_))
        generalize hw9 : (World.setCells _ _ _ _) = w9
        have HK9 := Lib.hid (show Kept (fun i => i = rb) wr w9 by rw [← hw9]; exact Kept.setCells (S := fun i => i = rb) rfl _ _ (Kept.refl _ _))
        have HR9 := Lib.hid (show Blk w9 rb 60 #[.int .i64 0, .int .i64 0, .int .i64 0, .int .i64 0, .int .i64 0, .bool false, .int .u64 0, .int .u64 0, .int .u16 0, .int .u8 0, .int .i64 0, .slice none 0 0, .int .i64 0, .int .i64 0, .int .u8 0, .slice LA fd.load.length lc, .int .u32 0, .int .u32 0, .int .u32 0, .bool false, .int .u64 0, .int .u64 0, .int .u16 0, .slice NA (ics fd.nums).length nc, .bool a.six, .int .u64 (a.hi : Int), .int .u64 (a.lo : Int), .int .i64 (po : Int), .int .u8 (pp : Int), .int .i64 (wy : Int), .bool true] by rw [← hw9]; exact HRS.out.setAll #[.int .i64 0, .int .i64 0, .int .i64 0, .int .i64 0, .int .i64 0, .bool false, .int .u64 0, .int .u64 0, .int .u16 0, .int .u8 0, .int .i64 0, .slice none 0 0, .int .i64 0, .int .i64 0, .int .u8 0, .slice LA fd.load.length lc, .int .u32 0, .int .u32 0, .int .u32 0, .bool false, .int .u64 0, .int .u64 0, .int .u16 0, .slice NA (ics fd.nums).length nc, .bool a.six, .int .u64 (a.hi : Int), .int .u64 (a.lo : Int), .int .i64 (po : Int), .int .u8 (pp : Int), .int .i64 (wy : Int), .bool true] rfl)
        clear hw9
        refine bodyPost_ret (results_blk1 (P := Tryz.prog) (show Tryz.f19.results = _ from rfl) _ _ rb 60 #[.int .i64 0, .int .i64 0, .int .i64 0, .int .i64 0, .int .i64 0, .bool false, .int .u64 0, .int .u64 0, .int .u16 0, .int .u8 0, .int .i64 0, .slice none 0 0, .int .i64 0, .int .i64 0, .int .u8 0, .slice LA fd.load.length lc, .int .u32 0, .int .u32 0, .int .u32 0, .bool false, .int .u64 0, .int .u64 0, .int .u16 0, .slice NA (ics fd.nums).length nc, .bool a.six, .int .u64 (a.hi : Int), .int .u64 (a.lo : Int), .int .i64 (po : Int), .int .u8 (pp : Int), .int .i64 (wy : Int), .bool true] _ rfl HR9.out Tryz.underlying60 rfl (by kernel_rfl)) rfl ⟨?_, ?_⟩
        · exact HBL.out.trans (HK9.out.below HBL.out.size (fun i e => by have := HRB.out; omega))
        · rw [HF.out]
          exact ⟨_, _, by rw [HFE.out], HLW.out.keep (fun g cs fr hg => HK9.out.block g (lt_of_heap hg) (fun e => by subst e; exact HRT.out _ _ hg)), HNM.out.kept HK9.out (fun g hg e => HNR.out g hg e)⟩
      | cons x xs =>
        have HF := Lib.hid (show fitS p.data.toList (ws.map (·.data.toList)) Fd.zero = none by rw [HFS.out, HDN.out]; rfl)
        have HR5 := Lib.hid HST.out.res
        have HB5 := Lib.hid HST.out.bel
        have hlx : (0 : Int) < (xs.length : Int) + 1 := by omega
        rw [List.length_cons]
        clear HST HSX HFS HDN HZX
        go_wp2_with (show wpList _ _ _ ((⟨none, .store 60 (.tmp 4) _, _, _, _, none⟩ : Oper) :: _) _ _; refine wpList_store_mid rfl 60 (.tmp 4) _ rfl rb 0 #[.int .i64 0, .int .i64 0, .int .i64 0, .int .i64 0, .int .i64 0, .bool false, .int .u64 0, .int .u64 0, .int .u16 0, .int .u8 0, .int .i64 0, .slice none 0 0, .int .i64 0, .int .i64 0, .int .u8 0, .slice none 0 0, .int .u32 0, .int .u32 0, .int .u32 0, .bool false, .int .u64 0, .int .u64 0, .int .u16 0, .slice none 0 0, .bool false, .int .u64 0, .int .u64 0, .int .i64 0, .int .u8 0, .int .i64 0, .bool false] rfl rfl (HR5.out.there rfl) (by kernel_rfl) (by simp [Value.oneCell']) ?_)
        generalize hw9 : (World.setCells _ _ _ _) = w9
        have HK9 := Lib.hid (show Kept (fun i => i = rb) wr w9 by rw [← hw9]; exact Kept.setCells (S := fun i => i = rb) rfl _ _ (Kept.refl _ _))
        have HR9 := Lib.hid (show Blk w9 rb 60 Z63 by rw [← hw9]; exact HR5.out.setAll Z63 rfl)
        clear hw9
        refine bodyPost_ret (results_blk1 (P := Tryz.prog) (show Tryz.f19.results = _ from rfl) _ _ rb 60 Z63 _ rfl HR9.out Tryz.underlying60 rfl (by kernel_rfl)) rfl ⟨?_, ?_⟩
        · exact HB5.out.trans (HK9.out.below HB5.out.size (fun i e => by have := HRB.out; omega))
        · rw [HF.out]; try exact rfl
end Go.Proofs.YthfdhggcnkgjfaaGreatDoor
