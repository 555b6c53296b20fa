/- The reference's Get and Parse, walked. -/
import Derived.Test.YtidooohgbiiikaaH
import Derived.Test.YtidooohgbiiikaaE
import Derived.Test.YtidooohgbiiikaaRefNum
import Derived.Test.YtidooohgbiiikaaRowE
namespace Go.Proofs.Ytidooohgbiiikaa
open Go.RowKit
set_option linter.unusedVariables false
def FreshP (B t : Nat) (cs : Array Value) (u : World) (v : Value) : Prop := ∃ g, v = .pointer (some ⟨g, 0, none⟩) ∧ Blk u g t cs ∧ B ≤ g
def FreshS (B : Nat) (u : World) (v : Value) : Prop := ∃ g, v = .slice (some ⟨g, 0, none⟩) 0 0 ∧ Blk u g 5 #[] ∧ B ≤ g
theorem relAt_append_emptyB {w : World} {o : Oper} {a : Act} {R : Value → World → Prop} (s x : Operand)
    (ho : o.op = .call { callee := .builtin .append, args := #[s, x], argTypes := #[22, 22] }) (base g : Nat) (hs : a.eval s = .slice (some ⟨g, 0, none⟩) 0 0) (C : Option Addr) (m d : Nat) (l : List UInt8) (hx : a.eval x = .slice C m d) (hm : m = l.length)
    (hg : Blk w g 5 #[]) (hb : base ≤ g) (hsrc : Src w C (bcs l)) (hl : l.length ≤ 1000000) (hbase : base ≤ w.heap.size) (h : ∀ v' w', Row w' base 5 v' (bcs l) → Below w.heap.size w w' → R v' w') : relAt Try.prog o a w R := by
  have h5 := Try.info5r
  have hM : ∀ x ∈ (bcs l).map (fun v => [v]), x.length = 1 := by
    intro x hx
    obtain ⟨v, _, rfl⟩ := List.mem_map.1 hx
    rfl
  have hF : ((bcs l).map (fun v => [v])).flatten = bcs l := by
    generalize bcs l = q
    induction q with
    | nil => rfl
    | cons a r ih => simp [ih]
  have hL : ((bcs l).map (fun v => [v])).length = l.length := by rw [List.length_map, bcs_length]
  refine relAt_append_emptyN s x 22 ho base 5 (.int .u8 0) 1 1 Try.underlying22 h5 rfl (by omega) g hs C m d ((bcs l).map (fun v => [v])) hx (by rw [hL, hm]) ?_ hM (by rw [hF]; exact hsrc) (by rw [hL]; unfold maxLen; omega) (by rw [hL]; omega) hbase ?_
  · exact RowN.of_blk (cs := #[]) hg hb (by unfold maxLen; omega) (fun x hx => by cases hx) rfl rfl
  · intro v' w' hr hb' _
    refine h v' w' ?_ hb'
    have := hr.2
    rw [hF, hL] at this
    unfold Row
    rw [bcs_length]
    exact this
theorem refGet_any (A : Option Addr) (c at_ n : Nat) (b : List UInt8) (v : Int) (w : World) (hl : b.length ≤ 100000) (hc : b.length ≤ c ∧ c ≤ maxLen) (n1 : 1 ≤ n ∧ n ≤ 8) (hk : at_ + n ≤ b.length) (hv : fld b at_ n = v) (hB : BS w w.heap.size A b) :
    Calls Try.prog 21 #[.slice A b.length c, .int .i64 (at_ : Int), .int .i64 (n : Int)] w fun e w' => e = .returned (.int .u64 v) ∧ w = w' := by
  obtain ⟨bb, o, hbb, rfl, _⟩ := hB.at (k := 0) (by omega)
  obtain ⟨m0, m8⟩ := n1
  have hcm := hc.2
  unfold maxLen at hcm
  have hc1 := hc.1
  have hll : ((b.drop at_).take n).length = n := by rw [List.length_take, List.length_drop]; omega
  have hz := refNum_any (some ⟨bb, o + at_, none⟩) (c - at_) ((b.drop at_).take n) w (by omega) ((hB.drop_ at_).take_ n)
  rw [hll, show num ((b.drop at_).take n) = v from hv] at hz
  have H := Lib.hid hz
  have j1 : (at_ : Int) < (c : Int) := by omega
  have j2 : (at_ : Int) + (n : Int) ≤ (b.length : Int) := by omega
  have j3 : ¬ at_ = c := by omega
  clear hz hB hv hll
  go_enter Try.func21, Try.ntmps21
  go_wp2_with fail
  refine H.out.mono ?_
  rintro e w' ⟨rfl, rfl⟩
  go_wp2_with fail
  go_ret
  exact ⟨rfl, rfl⟩
set_option maxRecDepth 100000 in
set_option maxHeartbeats 8000000 in
theorem refParse_any (A : Option Addr) (c : Nat) (b : List UInt8) (w : World) (hl : b.length ≤ 100000) (hc : b.length ≤ c ∧ c ≤ maxLen) (hB : BS w w.heap.size A b) :
    Calls Try.prog 11 #[.slice A b.length c] w (ParseP b w) := by
  have HBS := Lib.hid hB
  have h5 := Try.info5r
  clear hB
  by_cases h20 : b.length < 20
  · have HPE := Lib.hid (show perr b = 20 by unfold perr; rw [if_pos h20])
    go_enter Try.func11, Try.ntmps11
    go_upto_region 1 with fail
    obtain ⟨w1, hw1⟩ : ∃ w1 : World, w1 = w.alloc (.cells #[.int .u8 0, .int .i64 0, .int .u16 0, .bool false, .bool false, .int .i64 0, .int .u8 0, .int .u8 0, .int .u16 0, .bool false, .int .u64 0, .int .u64 0, .bool false, .int .u64 0, .int .u64 0, .slice none 0 0] 41) := ⟨_, rfl⟩
    have HR0 := Lib.hid (show Blk w1 w.heap.size 41 #[.int .u8 0, .int .i64 0, .int .u16 0, .bool false, .bool false, .int .i64 0, .int .u8 0, .int .u8 0, .int .u16 0, .bool false, .int .u64 0, .int .u64 0, .bool false, .int .u64 0, .int .u64 0, .slice none 0 0] by rw [hw1]; exact Blk.new _ _ _)
    have HKW := Lib.hid (show Below w.heap.size w w1 by rw [hw1]; exact (Below.refl _ _).alloc (Nat.le_refl _) _)
    have HS1 := Lib.hid (show w.heap.size ≤ w1.heap.size by rw [hw1]; simp)
    rw [← hw1]
    clear hw1
    obtain ⟨rb, hrb⟩ : ∃ rb, w.heap.size = rb := ⟨_, rfl⟩
    have HR1 : Hid (Blk w1 rb 41 #[.int .u8 0, .int .i64 0, .int .u16 0, .bool false, .bool false, .int .i64 0, .int .u8 0, .int .u8 0, .int .u16 0, .bool false, .int .u64 0, .int .u64 0, .bool false, .int .u64 0, .int .u64 0, .slice none 0 0]) := Lib.hid (by rw [← hrb]; exact HR0.out)
    rw [hrb]
    have HRBW := Lib.hid (show w.heap.size ≤ rb by omega)
    have HK1 := Lib.hid (Kept.refl (fun _ => False) w1)
    clear HR0 hrb
    have HKy := Lib.hid (show Kept (fun i => i = rb) w1 w1 from HK1.out.mono (fun _ _ h => h.elim))
    have HRz := Lib.hid (HR1.out)
    go_wp2_with (show wpList _ _ _ ((⟨none, .store 41 (.tmp 2) _, _, _, _, none⟩ : Oper) :: _) _ _; refine wpList_store_mid rfl 41 (.tmp 2) _ rfl rb 0 #[.int .u8 0, .int .i64 0, .int .u16 0, .bool false, .bool false, .int .i64 0, .int .u8 0, .int .u8 0, .int .u16 0, .bool false, .int .u64 0, .int .u64 0, .bool false, .int .u64 0, .int .u64 0, .slice none 0 0] rfl rfl (HRz.out.there rfl) (by kernel_rfl) (by simp [Value.oneCell']) ?_)
    generalize hwz : (World.setCells _ _ _ _) = wz
    have HKz := Lib.hid (show Kept (fun i => i = rb) w1 wz by rw [← hwz]; exact Kept.setCells (S := fun i => i = rb) rfl _ _ (Kept.refl _ _))
    have HRzz := Lib.hid (show Blk wz rb 41 #[.int .u8 0, .int .i64 0, .int .u16 0, .bool false, .bool false, .int .i64 0, .int .u8 0, .int .u8 0, .int .u16 0, .bool false, .int .u64 0, .int .u64 0, .bool false, .int .u64 0, .int .u64 0, .slice none 0 0] by rw [← hwz]; exact HRz.out.setAll #[.int .u8 0, .int .i64 0, .int .u16 0, .bool false, .bool false, .int .i64 0, .int .u8 0, .int .u8 0, .int .u16 0, .bool false, .int .u64 0, .int .u64 0, .bool false, .int .u64 0, .int .u64 0, .slice none 0 0] rfl)
    clear hwz
    refine bodyPost_ret (results_blk_tmp2 (P := Try.prog) (show Try.f11.results = _ from rfl) _ _ rb 41 #[.int .u8 0, .int .i64 0, .int .u16 0, .bool false, .bool false, .int .i64 0, .int .u8 0, .int .u8 0, .int .u16 0, .bool false, .int .u64 0, .int .u64 0, .bool false, .int .u64 0, .int .u64 0, .slice none 0 0] _ rfl HRzz.out Try.underlying41 rfl (by kernel_rfl)) rfl ⟨HKW.out.trans ((HKy.out.trans HKz.out).below HS1.out (fun i e => by have := HRBW.out; omega)), .inl ⟨?_, ?_⟩⟩
    · rw [HPE.out]; decide
    · rw [HPE.out]; rfl
  have HL := Lib.hid h20
  obtain ⟨bb, o, hbb0, rfl, hbat⟩ := HBS.out.at (k := 0) (by omega)
  have h20' : 20 ≤ b.length := by omega
  obtain ⟨z, hz⟩ : ∃ z, hsz b = z := ⟨_, rfl⟩
  have zr := hsz_le b
  rw [hz] at zr
  obtain ⟨z60, z4⟩ := zr
  obtain ⟨v0, hv0⟩ : ∃ x, fld b 0 1 = x := ⟨_, rfl⟩
  have rv0 := fld_range b 0 1 (by omega)
  rw [hv0] at rv0
  have v00 : 0 ≤ v0 := rv0.1
  have v01 : v0 ≤ 255 := by have := rv0.2; simp only [show (256 : Int) ^ 1 = 256 from rfl] at this; omega
  have Hv0 := Lib.hid hv0
  have Tv0 := Lib.hid (show fld (b.take 20) 0 1 = v0 by rw [fld_take b 0 1 20 (by omega)]; exact hv0)
  clear hv0 rv0
  obtain ⟨v1, hv1⟩ : ∃ x, fld b 1 1 = x := ⟨_, rfl⟩
  have rv1 := fld_range b 1 1 (by omega)
  rw [hv1] at rv1
  have v10 : 0 ≤ v1 := rv1.1
  have v11 : v1 ≤ 255 := by have := rv1.2; simp only [show (256 : Int) ^ 1 = 256 from rfl] at this; omega
  have Hv1 := Lib.hid hv1
  have Tv1 := Lib.hid (show fld (b.take 20) 1 1 = v1 by rw [fld_take b 1 1 20 (by omega)]; exact hv1)
  clear hv1 rv1
  obtain ⟨v2, hv2⟩ : ∃ x, fld b 2 2 = x := ⟨_, rfl⟩
  have rv2 := fld_range b 2 2 (by omega)
  rw [hv2] at rv2
  have v20 : 0 ≤ v2 := rv2.1
  have v21 : v2 ≤ 65535 := by have := rv2.2; simp only [show (256 : Int) ^ 2 = 65536 from rfl] at this; omega
  have Hv2 := Lib.hid hv2
  have Tv2 := Lib.hid (show fld (b.take 20) 2 2 = v2 by rw [fld_take b 2 2 20 (by omega)]; exact hv2)
  clear hv2 rv2
  obtain ⟨v4, hv4⟩ : ∃ x, fld b 4 2 = x := ⟨_, rfl⟩
  have rv4 := fld_range b 4 2 (by omega)
  rw [hv4] at rv4
  have v40 : 0 ≤ v4 := rv4.1
  have v41 : v4 ≤ 65535 := by have := rv4.2; simp only [show (256 : Int) ^ 2 = 65536 from rfl] at this; omega
  have Hv4 := Lib.hid hv4
  have Tv4 := Lib.hid (show fld (b.take 20) 4 2 = v4 by rw [fld_take b 4 2 20 (by omega)]; exact hv4)
  clear hv4 rv4
  obtain ⟨v6, hv6⟩ : ∃ x, fld b 6 2 = x := ⟨_, rfl⟩
  have rv6 := fld_range b 6 2 (by omega)
  rw [hv6] at rv6
  have v60 : 0 ≤ v6 := rv6.1
  have v61 : v6 ≤ 65535 := by have := rv6.2; simp only [show (256 : Int) ^ 2 = 65536 from rfl] at this; omega
  have Hv6 := Lib.hid hv6
  have Tv6 := Lib.hid (show fld (b.take 20) 6 2 = v6 by rw [fld_take b 6 2 20 (by omega)]; exact hv6)
  clear hv6 rv6
  obtain ⟨v8, hv8⟩ : ∃ x, fld b 8 1 = x := ⟨_, rfl⟩
  have rv8 := fld_range b 8 1 (by omega)
  rw [hv8] at rv8
  have v80 : 0 ≤ v8 := rv8.1
  have v81 : v8 ≤ 255 := by have := rv8.2; simp only [show (256 : Int) ^ 1 = 256 from rfl] at this; omega
  have Hv8 := Lib.hid hv8
  have Tv8 := Lib.hid (show fld (b.take 20) 8 1 = v8 by rw [fld_take b 8 1 20 (by omega)]; exact hv8)
  clear hv8 rv8
  obtain ⟨v9, hv9⟩ : ∃ x, fld b 9 1 = x := ⟨_, rfl⟩
  have rv9 := fld_range b 9 1 (by omega)
  rw [hv9] at rv9
  have v90 : 0 ≤ v9 := rv9.1
  have v91 : v9 ≤ 255 := by have := rv9.2; simp only [show (256 : Int) ^ 1 = 256 from rfl] at this; omega
  have Hv9 := Lib.hid hv9
  have Tv9 := Lib.hid (show fld (b.take 20) 9 1 = v9 by rw [fld_take b 9 1 20 (by omega)]; exact hv9)
  clear hv9 rv9
  obtain ⟨v10, hv10⟩ : ∃ x, fld b 10 2 = x := ⟨_, rfl⟩
  have rv10 := fld_range b 10 2 (by omega)
  rw [hv10] at rv10
  have v100 : 0 ≤ v10 := rv10.1
  have v101 : v10 ≤ 65535 := by have := rv10.2; simp only [show (256 : Int) ^ 2 = 65536 from rfl] at this; omega
  have Hv10 := Lib.hid hv10
  have Tv10 := Lib.hid (show fld (b.take 20) 10 2 = v10 by rw [fld_take b 10 2 20 (by omega)]; exact hv10)
  clear hv10 rv10
  obtain ⟨v12, hv12⟩ : ∃ x, fld b 12 4 = x := ⟨_, rfl⟩
  have rv12 := fld_range b 12 4 (by omega)
  rw [hv12] at rv12
  have v120 : 0 ≤ v12 := rv12.1
  have v121 : v12 ≤ 4294967295 := by have := rv12.2; simp only [show (256 : Int) ^ 4 = 4294967296 from rfl] at this; omega
  have Hv12 := Lib.hid hv12
  have Tv12 := Lib.hid (show fld (b.take 20) 12 4 = v12 by rw [fld_take b 12 4 20 (by omega)]; exact hv12)
  clear hv12 rv12
  obtain ⟨v16, hv16⟩ : ∃ x, fld b 16 4 = x := ⟨_, rfl⟩
  have rv16 := fld_range b 16 4 (by omega)
  rw [hv16] at rv16
  have v160 : 0 ≤ v16 := rv16.1
  have v161 : v16 ≤ 4294967295 := by have := rv16.2; simp only [show (256 : Int) ^ 4 = 4294967296 from rfl] at this; omega
  have Hv16 := Lib.hid hv16
  have Tv16 := Lib.hid (show fld (b.take 20) 16 4 = v16 by rw [fld_take b 16 4 20 (by omega)]; exact hv16)
  clear hv16 rv16
  have hzz : (z : Int) = v0 % 16 * 4 := by rw [← hz, ← Hv0.out]; unfold hsz; have := Hv0.out; omega
  have HZ := Lib.hid hz
  have HZZ := Lib.hid hzz
  clear hzz hz
  have HCL := Lib.hid hc
  have hc1 := hc.1
  have hcm := hc.2
  unfold maxLen at hcm
  have HBAT := Lib.hid hbat
  clear hbat
  go_enter Try.func11, Try.ntmps11
  go_upto_region 1 with fail
  obtain ⟨w1, hw1⟩ : ∃ w1 : World, w1 = w.alloc (.cells #[.int .u8 0, .int .i64 0, .int .u16 0, .bool false, .bool false, .int .i64 0, .int .u8 0, .int .u8 0, .int .u16 0, .bool false, .int .u64 0, .int .u64 0, .bool false, .int .u64 0, .int .u64 0, .slice none 0 0] 41) := ⟨_, rfl⟩
  have HR0 := Lib.hid (show Blk w1 w.heap.size 41 #[.int .u8 0, .int .i64 0, .int .u16 0, .bool false, .bool false, .int .i64 0, .int .u8 0, .int .u8 0, .int .u16 0, .bool false, .int .u64 0, .int .u64 0, .bool false, .int .u64 0, .int .u64 0, .slice none 0 0] by rw [hw1]; exact Blk.new _ _ _)
  have HKW := Lib.hid (show Below w.heap.size w w1 by rw [hw1]; exact (Below.refl _ _).alloc (Nat.le_refl _) _)
  have HS1 := Lib.hid (show w.heap.size ≤ w1.heap.size by rw [hw1]; simp)
  rw [← hw1]
  clear hw1
  obtain ⟨rb, hrb⟩ : ∃ rb, w.heap.size = rb := ⟨_, rfl⟩
  have HR1 : Hid (Blk w1 rb 41 #[.int .u8 0, .int .i64 0, .int .u16 0, .bool false, .bool false, .int .i64 0, .int .u8 0, .int .u8 0, .int .u16 0, .bool false, .int .u64 0, .int .u64 0, .bool false, .int .u64 0, .int .u64 0, .slice none 0 0]) := Lib.hid (by rw [← hrb]; exact HR0.out)
  rw [hrb]
  have HRBW := Lib.hid (show w.heap.size ≤ rb by omega)
  have HK1 := Lib.hid (Kept.refl (fun _ => False) w1)
  clear HR0 hrb
  have HB1 := Lib.hid (HBS.out.onB HKW.out (Nat.le_refl _))
  have hbb : bb < w1.heap.size := Nat.lt_of_lt_of_le hbb0 HS1.out
  have C0 := Lib.hid (show w1.cell? ⟨bb, o + 0, none⟩ = some (.int .u8 v0) by
    have h := (HKW.out.cell (p := ⟨bb, o + 0, none⟩) hbb0).trans (HBAT.out 0 (by omega))
    rw [fld_one b 0 (by omega), Hv0.out] at h; exact h)
  have C1 := Lib.hid (show w1.cell? ⟨bb, o + 1, none⟩ = some (.int .u8 v1) by
    have h := (HKW.out.cell (p := ⟨bb, o + 1, none⟩) hbb0).trans (HBAT.out 1 (by omega))
    rw [fld_one b 1 (by omega), Hv1.out] at h; exact h)
  have C8 := Lib.hid (show w1.cell? ⟨bb, o + 8, none⟩ = some (.int .u8 v8) by
    have h := (HKW.out.cell (p := ⟨bb, o + 8, none⟩) hbb0).trans (HBAT.out 8 (by omega))
    rw [fld_one b 8 (by omega), Hv8.out] at h; exact h)
  have C9 := Lib.hid (show w1.cell? ⟨bb, o + 9, none⟩ = some (.int .u8 v9) by
    have h := (HKW.out.cell (p := ⟨bb, o + 9, none⟩) hbb0).trans (HBAT.out 9 (by omega))
    rw [fld_one b 9 (by omega), Hv9.out] at h; exact h)
  have c0 := C0.out
  rw [Nat.add_zero] at c0
  have HBF : Hid (badForm b ↔ (v0 / 16 ≠ 4 ∨ z < 20 ∨ 32768 ≤ v6 ∨ v2 < (z : Int))) := Lib.hid (by unfold badForm; rw [Hv0.out, HZ.out, Hv6.out, Hv2.out])
  go_upto_region 4 with fail
  rw [← HZZ.out]
  by_cases k1 : ¬ v0 / 16 = 4
  · have HPE := Lib.hid (show perr b = 21 by unfold perr; rw [if_neg HL.out, if_pos (HBF.out.2 (by omega))])
    have HKy := Lib.hid (show Kept (fun i => i = rb) w1 w1 from HK1.out.mono (fun _ _ h => h.elim))
    have HRz := Lib.hid (HR1.out)
    go_wp2_with (show wpList _ _ _ ((⟨none, .store 41 (.tmp 2) _, _, _, _, none⟩ : Oper) :: _) _ _; refine wpList_store_mid rfl 41 (.tmp 2) _ rfl rb 0 #[.int .u8 0, .int .i64 0, .int .u16 0, .bool false, .bool false, .int .i64 0, .int .u8 0, .int .u8 0, .int .u16 0, .bool false, .int .u64 0, .int .u64 0, .bool false, .int .u64 0, .int .u64 0, .slice none 0 0] rfl rfl (HRz.out.there rfl) (by kernel_rfl) (by simp [Value.oneCell']) ?_)
    generalize hwz : (World.setCells _ _ _ _) = wz
    have HKz := Lib.hid (show Kept (fun i => i = rb) w1 wz by rw [← hwz]; exact Kept.setCells (S := fun i => i = rb) rfl _ _ (Kept.refl _ _))
    have HRzz := Lib.hid (show Blk wz rb 41 #[.int .u8 0, .int .i64 0, .int .u16 0, .bool false, .bool false, .int .i64 0, .int .u8 0, .int .u8 0, .int .u16 0, .bool false, .int .u64 0, .int .u64 0, .bool false, .int .u64 0, .int .u64 0, .slice none 0 0] by rw [← hwz]; exact HRz.out.setAll #[.int .u8 0, .int .i64 0, .int .u16 0, .bool false, .bool false, .int .i64 0, .int .u8 0, .int .u8 0, .int .u16 0, .bool false, .int .u64 0, .int .u64 0, .bool false, .int .u64 0, .int .u64 0, .slice none 0 0] rfl)
    clear hwz
    refine bodyPost_ret (results_blk_tmp2 (P := Try.prog) (show Try.f11.results = _ from rfl) _ _ rb 41 #[.int .u8 0, .int .i64 0, .int .u16 0, .bool false, .bool false, .int .i64 0, .int .u8 0, .int .u8 0, .int .u16 0, .bool false, .int .u64 0, .int .u64 0, .bool false, .int .u64 0, .int .u64 0, .slice none 0 0] _ rfl HRzz.out Try.underlying41 rfl (by kernel_rfl)) rfl ⟨HKW.out.trans ((HKy.out.trans HKz.out).below HS1.out (fun i e => by have := HRBW.out; omega)), .inl ⟨?_, ?_⟩⟩
    · rw [HPE.out]; decide
    · rw [HPE.out]; rfl
  have k1 : v0 / 16 = 4 := by omega
  by_cases k2 : z < 20
  · have HPE := Lib.hid (show perr b = 21 by unfold perr; rw [if_neg HL.out, if_pos (HBF.out.2 (by omega))])
    have HKy := Lib.hid (show Kept (fun i => i = rb) w1 w1 from HK1.out.mono (fun _ _ h => h.elim))
    have HRz := Lib.hid (HR1.out)
    go_wp2_with (show wpList _ _ _ ((⟨none, .store 41 (.tmp 2) _, _, _, _, none⟩ : Oper) :: _) _ _; refine wpList_store_mid rfl 41 (.tmp 2) _ rfl rb 0 #[.int .u8 0, .int .i64 0, .int .u16 0, .bool false, .bool false, .int .i64 0, .int .u8 0, .int .u8 0, .int .u16 0, .bool false, .int .u64 0, .int .u64 0, .bool false, .int .u64 0, .int .u64 0, .slice none 0 0] rfl rfl (HRz.out.there rfl) (by kernel_rfl) (by simp [Value.oneCell']) ?_)
    generalize hwz : (World.setCells _ _ _ _) = wz
    have HKz := Lib.hid (show Kept (fun i => i = rb) w1 wz by rw [← hwz]; exact Kept.setCells (S := fun i => i = rb) rfl _ _ (Kept.refl _ _))
    have HRzz := Lib.hid (show Blk wz rb 41 #[.int .u8 0, .int .i64 0, .int .u16 0, .bool false, .bool false, .int .i64 0, .int .u8 0, .int .u8 0, .int .u16 0, .bool false, .int .u64 0, .int .u64 0, .bool false, .int .u64 0, .int .u64 0, .slice none 0 0] by rw [← hwz]; exact HRz.out.setAll #[.int .u8 0, .int .i64 0, .int .u16 0, .bool false, .bool false, .int .i64 0, .int .u8 0, .int .u8 0, .int .u16 0, .bool false, .int .u64 0, .int .u64 0, .bool false, .int .u64 0, .int .u64 0, .slice none 0 0] rfl)
    clear hwz
    refine bodyPost_ret (results_blk_tmp2 (P := Try.prog) (show Try.f11.results = _ from rfl) _ _ rb 41 #[.int .u8 0, .int .i64 0, .int .u16 0, .bool false, .bool false, .int .i64 0, .int .u8 0, .int .u8 0, .int .u16 0, .bool false, .int .u64 0, .int .u64 0, .bool false, .int .u64 0, .int .u64 0, .slice none 0 0] _ rfl HRzz.out Try.underlying41 rfl (by kernel_rfl)) rfl ⟨HKW.out.trans ((HKy.out.trans HKz.out).below HS1.out (fun i e => by have := HRBW.out; omega)), .inl ⟨?_, ?_⟩⟩
    · rw [HPE.out]; decide
    · rw [HPE.out]; rfl
  have k2' : 20 ≤ z := by omega
  go_wp2_with fail
  refine (refGet_any (some ⟨bb, o, none⟩) c 6 2 b v6 w1 (by omega) HCL.out (by omega) (by omega) Hv6.out HB1.out).mono ?_
  rintro e w' ⟨rfl, rfl⟩
  go_upto_region 7 with fail
  refine wp_region_kept 31 [(4, fun v u => v = .int .u64 v2), (7, fun v u => v = .int .u64 v4), (27, fun v u => v = .int .u64 v10), (30, fun v u => FreshP w1.heap.size 41 #[.int .u8 0, .int .i64 0, .int .u16 0, .bool false, .bool false, .int .i64 0, .int .u8 0, .int .u8 0, .int .u16 0, .bool false, .int .u64 0, .int .u64 0, .bool false, .int .u64 0, .int .u64 0, .slice none 0 0] u v)] ?st ?ne rfl (by kernel_rfl) (by kernel_rfl) ?_
  case st =>
    intro p hp
    simp only [List.mem_cons, List.not_mem_nil, or_false] at hp
    rcases hp with rfl | rfl | rfl | rfl
    · intro v u u' h hk; exact h
    · intro v u u' h hk; exact h
    · intro v u u' h hk; exact h
    · rintro v u u' ⟨g, rfl, h1, h2⟩ hk; exact ⟨g, rfl, h1.kept hk (fun h => h), h2⟩
  case ne =>
    intro p hp
    simp only [List.mem_cons, List.not_mem_nil, or_false] at hp
    rcases hp with rfl | rfl | rfl | rfl
    · exact ⟨_, _, Kept.refl _ _, rfl⟩
    · exact ⟨_, _, Kept.refl _ _, rfl⟩
    · exact ⟨_, _, Kept.refl _ _, rfl⟩
    · exact ⟨_, _, (Kept.refl _ _).alloc _, ⟨_, rfl, Blk.new _ _ _, Nat.le_refl _⟩⟩
  simp only [List.take_succ_cons, List.take_zero, List.drop_succ_cons, List.drop_zero]
  intro G pick hR hp1 hp2
  have p1 : ∀ u, (pick u).cell? ⟨bb, o + 1, none⟩ = some (.int .u8 v1) := fun u => ((hp1 u).cell hbb (fun h => h) _).trans C1.out
  have p8 : ∀ u, (pick u).cell? ⟨bb, o + 8, none⟩ = some (.int .u8 v8) := fun u => ((hp1 u).cell hbb (fun h => h) _).trans C8.out
  have p9 : ∀ u, (pick u).cell? ⟨bb, o + 9, none⟩ = some (.int .u8 v9) := fun u => ((hp1 u).cell hbb (fun h => h) _).trans C9.out
  repeat (first | (refine wpR_det hp2 rfl ((hR.rel _).trans rfl) rfl ?_; intro K hK; go_big_quiet_op; go_big_quiet_on) | (refine wpR_ptr hp2 rfl ((hR.rel _).trans rfl) rfl rfl ?_; intro K hK; go_big_quiet_op; go_big_quiet_on) | (refine wpR_skip pick rfl ?_; intro K hK; go_big_quiet_op; go_big_quiet_on))
  refine wpR_rel pick rfl ((hR.rel _).trans rfl) ((hR.turns _).trans rfl) ?_ ?_
  · intro u hu
    have hk := hR.since hu.1
    have hks := hk.size
    have hz := refGet_any (some ⟨bb, o, none⟩) c 2 2 b v2 u (by omega) HCL.out (by omega) (by omega) Hv2.out (HB1.out.on hk (fun _ _ h => h))
    unfold relAt
    go_simp
    refine hz.mono ?_
    rintro e w' ⟨rfl, rfl⟩
    exact ⟨_, rfl, hR.into0 (Kept.refl _ _), hR.put 0 rfl rfl rfl⟩
  intro v hv
  obtain ⟨u, _, hu⟩ := hv
  obtain rfl := hR.get 0 rfl hu
  clear hu
  intro K hK
  go_big_quiet_op
  go_big_quiet_on
  repeat (first | (refine wpR_det hp2 rfl ((hR.rel _).trans rfl) rfl ?_; intro K hK; go_big_quiet_op; go_big_quiet_on) | (refine wpR_ptr hp2 rfl ((hR.rel _).trans rfl) rfl rfl ?_; intro K hK; go_big_quiet_op; go_big_quiet_on) | (refine wpR_skip pick rfl ?_; intro K hK; go_big_quiet_op; go_big_quiet_on))
  refine wpR_rel pick rfl ((hR.rel _).trans rfl) ((hR.turns _).trans rfl) ?_ ?_
  · intro u hu
    have hk := hR.since hu.1
    have hks := hk.size
    have hz := refGet_any (some ⟨bb, o, none⟩) c 4 2 b v4 u (by omega) HCL.out (by omega) (by omega) Hv4.out (HB1.out.on hk (fun _ _ h => h))
    unfold relAt
    go_simp
    refine hz.mono ?_
    rintro e w' ⟨rfl, rfl⟩
    exact ⟨_, rfl, hR.into0 (Kept.refl _ _), hR.put 1 rfl rfl rfl⟩
  intro v hv
  obtain ⟨u, _, hu⟩ := hv
  obtain rfl := hR.get 1 rfl hu
  clear hu
  intro K hK
  go_big_quiet_op
  go_big_quiet_on
  repeat (first | (refine wpR_det hp2 rfl ((hR.rel _).trans rfl) rfl ?_; intro K hK; go_big_quiet_op; go_big_quiet_on) | (refine wpR_ptr hp2 rfl ((hR.rel _).trans rfl) rfl rfl ?_; intro K hK; go_big_quiet_op; go_big_quiet_on) | (refine wpR_skip pick rfl ?_; intro K hK; go_big_quiet_op; go_big_quiet_on))
  refine wpR_rel pick rfl ((hR.rel _).trans rfl) ((hR.turns _).trans rfl) ?_ ?_
  · intro u hu
    have hk := hR.since hu.1
    have hks := hk.size
    have hz := refGet_any (some ⟨bb, o, none⟩) c 10 2 b v10 u (by omega) HCL.out (by omega) (by omega) Hv10.out (HB1.out.on hk (fun _ _ h => h))
    unfold relAt
    go_simp
    refine hz.mono ?_
    rintro e w' ⟨rfl, rfl⟩
    exact ⟨_, rfl, hR.into0 (Kept.refl _ _), hR.put 2 rfl rfl rfl⟩
  intro v hv
  obtain ⟨u, _, hu⟩ := hv
  obtain rfl := hR.get 2 rfl hu
  clear hu
  intro K hK
  go_big_quiet_op
  go_big_quiet_on
  repeat (first | (refine wpR_det hp2 rfl ((hR.rel _).trans rfl) rfl ?_; intro K hK; go_big_quiet_op; go_big_quiet_on) | (refine wpR_ptr hp2 rfl ((hR.rel _).trans rfl) rfl rfl ?_; intro K hK; go_big_quiet_op; go_big_quiet_on) | (refine wpR_skip pick rfl ?_; intro K hK; go_big_quiet_op; go_big_quiet_on))
  refine wpR_rel pick rfl ((hR.rel _).trans rfl) ((hR.turns _).trans rfl) ?_ ?_
  · intro u hu
    have hk := hR.since hu.1
    have hks := hk.size
    unfold relAt
    go_simp
    exact ⟨hR.into0 ((Kept.refl _ _).alloc _), hR.put 3 rfl rfl ⟨u.heap.size, rfl, Blk.new _ _ _, hks⟩⟩
  intro v hv
  obtain ⟨u, _, hu⟩ := hv
  obtain ⟨ht, rfl, -, -⟩ := hR.get 3 rfl hu
  clear hu
  intro K hK
  go_big_quiet_op
  go_big_quiet_on
  repeat (first | (refine wpR_det hp2 rfl ((hR.rel _).trans rfl) rfl ?_; intro K hK; go_big_quiet_op; go_big_quiet_on) | (refine wpR_ptr hp2 rfl ((hR.rel _).trans rfl) rfl rfl ?_; intro K hK; go_big_quiet_op; go_big_quiet_on) | (refine wpR_skip pick rfl ?_; intro K hK; go_big_quiet_op; go_big_quiet_on))
  refine wpR_nil ?_
  intro w2 hk2 hF hM
  have HFR := Lib.hid ((hR.get 3 rfl (hF _ _ (Got.upd_self _ _ _))))
  have HK2 := Lib.hid hk2
  clear hF hM hk2 hp1 hp2 hR p1 p8 p9
  obtain ⟨g', he, hgb, hge⟩ := HFR.out
  obtain rfl : ht = g' := by injection he with he; injection he with he; injection he
  have HHF := Lib.hid hgb
  have HTW := Lib.hid hge
  clear hgb hge he HFR
  have st1 : (v6 / 16384 % 2 == 1) = decide (v6 / 16384 % 2 = 1) := rfl
  go_upto_region 8 with (show wpList _ _ _ ((⟨none, .store 41 (.tmp 7) _, _, _, _, none⟩ : Oper) :: _) _ _; refine wpList_store_mid rfl 41 (.tmp 7) _ rfl ht 0 #[.int .u8 v1, .int .i64 v2, .int .u16 v4, .bool (decide (v6 / 16384 % 2 = 1)), .bool (decide (v6 / 8192 % 2 = 1)), .int .i64 (v6 % 8192), .int .u8 v8, .int .u8 v9, .int .u16 v10, .bool false, .int .u64 0, .int .u64 0, .bool false, .int .u64 0, .int .u64 0, .slice none 0 0] rfl rfl (HHF.out.there rfl) (by kernel_rfl) (by simp [Value.oneCell']) ?_)
  generalize hw7 : (World.setCells _ _ _ _) = w7
  have HH7 := Lib.hid (show Blk w7 ht 41 #[.int .u8 v1, .int .i64 v2, .int .u16 v4, .bool (decide (v6 / 16384 % 2 = 1)), .bool (decide (v6 / 8192 % 2 = 1)), .int .i64 (v6 % 8192), .int .u8 v8, .int .u8 v9, .int .u16 v10, .bool false, .int .u64 0, .int .u64 0, .bool false, .int .u64 0, .int .u64 0, .slice none 0 0] by rw [← hw7]; exact HHF.out.setAll #[.int .u8 v1, .int .i64 v2, .int .u16 v4, .bool (decide (v6 / 16384 % 2 = 1)), .bool (decide (v6 / 8192 % 2 = 1)), .int .i64 (v6 % 8192), .int .u8 v8, .int .u8 v9, .int .u16 v10, .bool false, .int .u64 0, .int .u64 0, .bool false, .int .u64 0, .int .u64 0, .slice none 0 0] rfl)
  have HKs := Lib.hid (show Kept (fun i => i = ht) w2 w7 by rw [← hw7]; exact Kept.setCells (S := fun i => i = ht) rfl _ _ (Kept.refl _ _))
  have HK7 := Lib.hid (HK2.out.then HKs.out (fun i hi e => by have := HTW.out; omega))
  clear hw7 HKs
  have HB7 := Lib.hid (HB1.out.on HK7.out (fun _ _ h => h))
  have cB := HH7.out.cell
  have fB := HH7.out.frozen
  have lB := HH7.out.lt
  go_wp2_with fail
  refine (refGet_any (some ⟨bb, o, none⟩) c 12 4 b v12 w7 (by omega) HCL.out (by omega) (by omega) Hv12.out HB7.out).mono ?_
  rintro e w' ⟨rfl, rfl⟩
  go_upto_region 9 with fail
  generalize hw8 : World.setCell _ _ _ = w8
  have HH8 := Lib.hid (show Blk w8 ht 41 #[.int .u8 v1, .int .i64 v2, .int .u16 v4, .bool (decide (v6 / 16384 % 2 = 1)), .bool (decide (v6 / 8192 % 2 = 1)), .int .i64 (v6 % 8192), .int .u8 v8, .int .u8 v9, .int .u16 v10, .bool false, .int .u64 0, .int .u64 v12, .bool false, .int .u64 0, .int .u64 0, .slice none 0 0] by rw [← hw8]; exact ((HH7.out.set_ 9 _).set_ 10 _).set_to rfl)
  have HKs := Lib.hid (show Kept (fun i => i = ht) w7 w8 by rw [← hw8]; repeat (first | exact Kept.refl _ _ | refine Kept.setIn (S := fun i => i = ht) rfl ?_))
  have HK8 := Lib.hid (HK7.out.then HKs.out (fun i hi e => by have := HTW.out; omega))
  clear hw8 HKs cB fB lB
  have cB := HH8.out.cell
  have fB := HH8.out.frozen
  have lB := HH8.out.lt
  have HB8 := Lib.hid (HB1.out.on HK8.out (fun _ _ h => h))
  have HR8 := Lib.hid (HR1.out.kept HK8.out (fun h => h))
  go_wp2_with fail
  refine (refGet_any (some ⟨bb, o, none⟩) c 16 4 b v16 w8 (by omega) HCL.out (by omega) (by omega) Hv16.out HB8.out).mono ?_
  rintro e w' ⟨rfl, rfl⟩
  go_upto_region 10 with fail
  generalize hw9 : World.setCell _ _ _ = w9
  have HH9 := Lib.hid (show Blk w9 ht 41 #[.int .u8 v1, .int .i64 v2, .int .u16 v4, .bool (decide (v6 / 16384 % 2 = 1)), .bool (decide (v6 / 8192 % 2 = 1)), .int .i64 (v6 % 8192), .int .u8 v8, .int .u8 v9, .int .u16 v10, .bool false, .int .u64 0, .int .u64 v12, .bool false, .int .u64 0, .int .u64 v16, .slice none 0 0] by rw [← hw9]; exact ((HH8.out.set_ 12 _).set_ 13 _).set_to rfl)
  have HKs := Lib.hid (show Kept (fun i => i = ht) w8 w9 by rw [← hw9]; repeat (first | exact Kept.refl _ _ | refine Kept.setIn (S := fun i => i = ht) rfl ?_))
  have HK9 := Lib.hid (HK8.out.then HKs.out (fun i hi e => by have := HTW.out; omega))
  clear hw9 HKs cB fB lB
  have cB := HH9.out.cell
  have fB := HH9.out.frozen
  have lB := HH9.out.lt
  have HB9 := Lib.hid (HB1.out.on HK9.out (fun _ _ h => h))
  have HR9 := Lib.hid (HR1.out.kept HK9.out (fun h => h))
  by_cases k3 : 32768 ≤ v6
  · have HPE := Lib.hid (show perr b = 21 by unfold perr; rw [if_neg HL.out, if_pos (HBF.out.2 (by omega))])
    have HKy := Lib.hid (show Kept (fun i => i = rb) w1 w9 from HK9.out.mono (fun _ _ h => h.elim))
    have HRz := Lib.hid (HR9.out)
    go_wp2_with (show wpList _ _ _ ((⟨none, .store 41 (.tmp 2) _, _, _, _, none⟩ : Oper) :: _) _ _; refine wpList_store_mid rfl 41 (.tmp 2) _ rfl rb 0 #[.int .u8 0, .int .i64 0, .int .u16 0, .bool false, .bool false, .int .i64 0, .int .u8 0, .int .u8 0, .int .u16 0, .bool false, .int .u64 0, .int .u64 0, .bool false, .int .u64 0, .int .u64 0, .slice none 0 0] rfl rfl (HRz.out.there rfl) (by kernel_rfl) (by simp [Value.oneCell']) ?_)
    generalize hwz : (World.setCells _ _ _ _) = wz
    have HKz := Lib.hid (show Kept (fun i => i = rb) w9 wz by rw [← hwz]; exact Kept.setCells (S := fun i => i = rb) rfl _ _ (Kept.refl _ _))
    have HRzz := Lib.hid (show Blk wz rb 41 #[.int .u8 0, .int .i64 0, .int .u16 0, .bool false, .bool false, .int .i64 0, .int .u8 0, .int .u8 0, .int .u16 0, .bool false, .int .u64 0, .int .u64 0, .bool false, .int .u64 0, .int .u64 0, .slice none 0 0] by rw [← hwz]; exact HRz.out.setAll #[.int .u8 0, .int .i64 0, .int .u16 0, .bool false, .bool false, .int .i64 0, .int .u8 0, .int .u8 0, .int .u16 0, .bool false, .int .u64 0, .int .u64 0, .bool false, .int .u64 0, .int .u64 0, .slice none 0 0] rfl)
    clear hwz
    refine bodyPost_ret (results_blk_tmp2 (P := Try.prog) (show Try.f11.results = _ from rfl) _ _ rb 41 #[.int .u8 0, .int .i64 0, .int .u16 0, .bool false, .bool false, .int .i64 0, .int .u8 0, .int .u8 0, .int .u16 0, .bool false, .int .u64 0, .int .u64 0, .bool false, .int .u64 0, .int .u64 0, .slice none 0 0] _ rfl HRzz.out Try.underlying41 rfl (by kernel_rfl)) rfl ⟨HKW.out.trans ((HKy.out.trans HKz.out).below HS1.out (fun i e => by have := HRBW.out; omega)), .inl ⟨?_, ?_⟩⟩
    · rw [HPE.out]; decide
    · rw [HPE.out]; rfl
  by_cases k4 : v2 < (z : Int)
  · have HPE := Lib.hid (show perr b = 21 by unfold perr; rw [if_neg HL.out, if_pos (HBF.out.2 (by omega))])
    have HKy := Lib.hid (show Kept (fun i => i = rb) w1 w9 from HK9.out.mono (fun _ _ h => h.elim))
    have HRz := Lib.hid (HR9.out)
    go_wp2_with (show wpList _ _ _ ((⟨none, .store 41 (.tmp 2) _, _, _, _, none⟩ : Oper) :: _) _ _; refine wpList_store_mid rfl 41 (.tmp 2) _ rfl rb 0 #[.int .u8 0, .int .i64 0, .int .u16 0, .bool false, .bool false, .int .i64 0, .int .u8 0, .int .u8 0, .int .u16 0, .bool false, .int .u64 0, .int .u64 0, .bool false, .int .u64 0, .int .u64 0, .slice none 0 0] rfl rfl (HRz.out.there rfl) (by kernel_rfl) (by simp [Value.oneCell']) ?_)
    generalize hwz : (World.setCells _ _ _ _) = wz
    have HKz := Lib.hid (show Kept (fun i => i = rb) w9 wz by rw [← hwz]; exact Kept.setCells (S := fun i => i = rb) rfl _ _ (Kept.refl _ _))
    have HRzz := Lib.hid (show Blk wz rb 41 #[.int .u8 0, .int .i64 0, .int .u16 0, .bool false, .bool false, .int .i64 0, .int .u8 0, .int .u8 0, .int .u16 0, .bool false, .int .u64 0, .int .u64 0, .bool false, .int .u64 0, .int .u64 0, .slice none 0 0] by rw [← hwz]; exact HRz.out.setAll #[.int .u8 0, .int .i64 0, .int .u16 0, .bool false, .bool false, .int .i64 0, .int .u8 0, .int .u8 0, .int .u16 0, .bool false, .int .u64 0, .int .u64 0, .bool false, .int .u64 0, .int .u64 0, .slice none 0 0] rfl)
    clear hwz
    refine bodyPost_ret (results_blk_tmp2 (P := Try.prog) (show Try.f11.results = _ from rfl) _ _ rb 41 #[.int .u8 0, .int .i64 0, .int .u16 0, .bool false, .bool false, .int .i64 0, .int .u8 0, .int .u8 0, .int .u16 0, .bool false, .int .u64 0, .int .u64 0, .bool false, .int .u64 0, .int .u64 0, .slice none 0 0] _ rfl HRzz.out Try.underlying41 rfl (by kernel_rfl)) rfl ⟨HKW.out.trans ((HKy.out.trans HKz.out).below HS1.out (fun i e => by have := HRBW.out; omega)), .inl ⟨?_, ?_⟩⟩
    · rw [HPE.out]; decide
    · rw [HPE.out]; rfl
  have HNB := Lib.hid (show ¬ badForm b from fun h => by have := HBF.out.1 h; omega)
  by_cases k5 : (b.length : Int) < v2
  · have HPE := Lib.hid (show perr b = 20 by unfold perr; rw [if_neg HL.out, if_neg HNB.out, Hv2.out, if_pos k5])
    have HKy := Lib.hid (show Kept (fun i => i = rb) w1 w9 from HK9.out.mono (fun _ _ h => h.elim))
    have HRz := Lib.hid (HR9.out)
    go_wp2_with (show wpList _ _ _ ((⟨none, .store 41 (.tmp 2) _, _, _, _, none⟩ : Oper) :: _) _ _; refine wpList_store_mid rfl 41 (.tmp 2) _ rfl rb 0 #[.int .u8 0, .int .i64 0, .int .u16 0, .bool false, .bool false, .int .i64 0, .int .u8 0, .int .u8 0, .int .u16 0, .bool false, .int .u64 0, .int .u64 0, .bool false, .int .u64 0, .int .u64 0, .slice none 0 0] rfl rfl (HRz.out.there rfl) (by kernel_rfl) (by simp [Value.oneCell']) ?_)
    generalize hwz : (World.setCells _ _ _ _) = wz
    have HKz := Lib.hid (show Kept (fun i => i = rb) w9 wz by rw [← hwz]; exact Kept.setCells (S := fun i => i = rb) rfl _ _ (Kept.refl _ _))
    have HRzz := Lib.hid (show Blk wz rb 41 #[.int .u8 0, .int .i64 0, .int .u16 0, .bool false, .bool false, .int .i64 0, .int .u8 0, .int .u8 0, .int .u16 0, .bool false, .int .u64 0, .int .u64 0, .bool false, .int .u64 0, .int .u64 0, .slice none 0 0] by rw [← hwz]; exact HRz.out.setAll #[.int .u8 0, .int .i64 0, .int .u16 0, .bool false, .bool false, .int .i64 0, .int .u8 0, .int .u8 0, .int .u16 0, .bool false, .int .u64 0, .int .u64 0, .bool false, .int .u64 0, .int .u64 0, .slice none 0 0] rfl)
    clear hwz
    refine bodyPost_ret (results_blk_tmp2 (P := Try.prog) (show Try.f11.results = _ from rfl) _ _ rb 41 #[.int .u8 0, .int .i64 0, .int .u16 0, .bool false, .bool false, .int .i64 0, .int .u8 0, .int .u8 0, .int .u16 0, .bool false, .int .u64 0, .int .u64 0, .bool false, .int .u64 0, .int .u64 0, .slice none 0 0] _ rfl HRzz.out Try.underlying41 rfl (by kernel_rfl)) rfl ⟨HKW.out.trans ((HKy.out.trans HKz.out).below HS1.out (fun i e => by have := HRBW.out; omega)), .inl ⟨?_, ?_⟩⟩
    · rw [HPE.out]; decide
    · rw [HPE.out]; rfl
  have k6 : ¬ (b.length : Int) < (z : Int) := by omega
  have HZL := Lib.hid (show (b.take z).length = z by rw [List.length_take]; omega)
  go_wp2_with fail
  refine (refOf_len c w9.heap.size (some ⟨bb, o, none⟩) (b.take z) z HZL.out (by omega) w9 (by omega) (HB9.out.take_ z)).mono ?_
  rintro e w' ⟨rfl, rfl⟩
  have hnr := norm_range (total true (b.take z))
  obtain ⟨ck, hck⟩ : ∃ ck, 65535 - norm (total true (b.take z)) = ck := ⟨_, rfl⟩
  rw [hck]
  have ck0 : 0 ≤ ck := by omega
  have ck1 : ck ≤ 65535 := by omega
  have HCK := Lib.hid hck
  clear hck hnr
  by_cases ks : ¬ ck = 0
  · have HPE := Lib.hid (show perr b = 22 by unfold perr; rw [if_neg HL.out, if_neg HNB.out, Hv2.out, if_neg (by omega), HZ.out, HCK.out, if_pos ks])
    have HKy := Lib.hid (show Kept (fun i => i = rb) w1 w9 from HK9.out.mono (fun _ _ h => h.elim))
    have HRz := Lib.hid (HR9.out)
    go_wp2_with (show wpList _ _ _ ((⟨none, .store 41 (.tmp 2) _, _, _, _, none⟩ : Oper) :: _) _ _; refine wpList_store_mid rfl 41 (.tmp 2) _ rfl rb 0 #[.int .u8 0, .int .i64 0, .int .u16 0, .bool false, .bool false, .int .i64 0, .int .u8 0, .int .u8 0, .int .u16 0, .bool false, .int .u64 0, .int .u64 0, .bool false, .int .u64 0, .int .u64 0, .slice none 0 0] rfl rfl (HRz.out.there rfl) (by kernel_rfl) (by simp [Value.oneCell']) ?_)
    generalize hwz : (World.setCells _ _ _ _) = wz
    have HKz := Lib.hid (show Kept (fun i => i = rb) w9 wz by rw [← hwz]; exact Kept.setCells (S := fun i => i = rb) rfl _ _ (Kept.refl _ _))
    have HRzz := Lib.hid (show Blk wz rb 41 #[.int .u8 0, .int .i64 0, .int .u16 0, .bool false, .bool false, .int .i64 0, .int .u8 0, .int .u8 0, .int .u16 0, .bool false, .int .u64 0, .int .u64 0, .bool false, .int .u64 0, .int .u64 0, .slice none 0 0] by rw [← hwz]; exact HRz.out.setAll #[.int .u8 0, .int .i64 0, .int .u16 0, .bool false, .bool false, .int .i64 0, .int .u8 0, .int .u8 0, .int .u16 0, .bool false, .int .u64 0, .int .u64 0, .bool false, .int .u64 0, .int .u64 0, .slice none 0 0] rfl)
    clear hwz
    refine bodyPost_ret (results_blk_tmp2 (P := Try.prog) (show Try.f11.results = _ from rfl) _ _ rb 41 #[.int .u8 0, .int .i64 0, .int .u16 0, .bool false, .bool false, .int .i64 0, .int .u8 0, .int .u8 0, .int .u16 0, .bool false, .int .u64 0, .int .u64 0, .bool false, .int .u64 0, .int .u64 0, .slice none 0 0] _ rfl HRzz.out Try.underlying41 rfl (by kernel_rfl)) rfl ⟨HKW.out.trans ((HKy.out.trans HKz.out).below HS1.out (fun i e => by have := HRBW.out; omega)), .inl ⟨?_, ?_⟩⟩
    · rw [HPE.out]; decide
    · rw [HPE.out]; rfl
  have ks : ck = 0 := Decidable.not_not.1 ks
  subst ks
  have HPE := Lib.hid (show perr b = 0 by unfold perr; rw [if_neg HL.out, if_neg HNB.out, Hv2.out, if_neg (by omega), HZ.out, HCK.out, if_neg (by decide)])
  have HO := Lib.hid (show ((b.drop 20).take (z - 20)).length = z - 20 by rw [List.length_take, List.length_drop]; omega)
  have HRB1 := Lib.hid HR1.out.lt
  by_cases hc20 : 20 < c
  · have j0 : (20 : Int) < (c : Int) := by omega
    have HYO := Lib.hid (show BS w9 w9.heap.size (some ⟨bb, o + 20, none⟩) ((b.drop 20).take (z - 20)) from (HB9.out.drop_ 20).take_ _)
    go_upto_region 17 with (at_builtin; refine wpList_append_row rfl (.tmp 89) (.tmp 92) 22 rfl w9.heap.size 5 (.int .u8 0) 1 Try.underlying22 h5 rfl _ [] rfl (some ⟨bb, o + 20, none⟩) (z - 20) (c - 20) (bcs ((b.drop 20).take (z - 20))) rfl ?a0 ?a1 ?a2 (bcs_one _) ?a3 ?a4 ?a5 ?_)
    case a0 => rw [bcs_length, HO.out]
    case a1 => exact Row.of_blk (cs := #[]) (Blk.new_ rfl _ _) (Nat.le_refl _) (by simp) rfl
    case a2 => exact (HYO.out.alloc (Nat.le_refl _) _).src
    case a3 => rw [bcs_length, HO.out]; unfold maxLen; simp; omega
    case a4 => rw [bcs_length, HO.out]; simp; omega
    case a5 => simp
    intro vo wp hrow hgr _
    have HKp := Lib.hid (show Kept (fun _ => False) w9 wp from ((Kept.refl _ _).alloc _).then (kept_grown (S := fun i => w9.heap.size ≤ i) hgr (fun i e _ => by simp [Value.ownBlock] at e; omega)) (fun i hi h => by omega))
    have HRO := Lib.hid hrow
    obtain ⟨NA, nc, hve, -, -⟩ := hrow.shape
    try simp only [List.nil_append] at hve
    rw [bcs_length, HO.out] at hve
    subst hve
    clear hrow hgr cB fB lB
    have HHp := Lib.hid (HH9.out.kept HKp.out (fun h => h))
    have HKpp := Lib.hid (HK9.out.trans HKp.out)
    have HGQ := Lib.hid HH9.out.lt
    have cB := HHp.out.cell
    have fB := HHp.out.frozen
    have lB := HHp.out.lt
    go_upto_region 17 with fail
    generalize hwq : World.setCell _ _ _ = wq
    have HHq := Lib.hid (show Blk wq ht 41 #[.int .u8 v1, .int .i64 v2, .int .u16 v4, .bool (decide (v6 / 16384 % 2 = 1)), .bool (decide (v6 / 8192 % 2 = 1)), .int .i64 (v6 % 8192), .int .u8 v8, .int .u8 v9, .int .u16 v10, .bool false, .int .u64 0, .int .u64 v12, .bool false, .int .u64 0, .int .u64 v16, .slice NA (z - 20) nc] by rw [← hwq]; exact HHp.out.set_to rfl)
    have HKs := Lib.hid (show Kept (fun i => i = ht) wp wq by rw [← hwq]; exact Kept.setIn (S := fun i => i = ht) rfl (Kept.refl _ _))
    have HKq := Lib.hid (HKpp.out.then HKs.out (fun i hi e => by have := HTW.out; omega))
    have HNQ := Lib.hid (show Row wq w1.heap.size 5 (.slice NA (z - 20) nc) (bcs ((b.drop 20).take (z - 20))) from ((show Row wp w9.heap.size 5 (.slice NA (z - 20) nc) (bcs ((b.drop 20).take (z - 20))) from HRO.out).kept HKs.out (fun g hg e => by have := (HRO.out.lt g hg).1; have := HGQ.out; omega)).more HK9.out.size)
    have HBq := Lib.hid (HB1.out.on HKq.out (fun _ _ h => h))
    clear hwq HKs cB fB lB
    obtain ⟨v2n, hv2n⟩ : ∃ v2n : Nat, v2 = (v2n : Int) := ⟨v2.toNat, by omega⟩
    have q1 : z ≤ v2n := by omega
    have q2 : v2n ≤ b.length := by omega
    obtain ⟨X, hX⟩ : ∃ X, (b.drop z).take (v2n - z) = X := ⟨_, rfl⟩
    have HXL := Lib.hid (show X.length = v2n - z by rw [← hX, List.length_take, List.length_drop]; omega)
    have HX := Lib.hid hX
    clear hX
    subst hv2n
    by_cases hcz : z < c
    · have HYB := Lib.hid (show BS wq wq.heap.size (some ⟨bb, o + z, none⟩) X from by rw [← HX.out]; exact (HBq.out.drop_ z).take_ _)
      have j1 : (z : Int) < (c : Int) := by omega
      refine wp_region_kept 8 [(1, fun v u => FreshS w1.heap.size u v), (7, fun v u => Row u w1.heap.size 5 v (bcs X))] ?st ?ne rfl (by kernel_rfl) (by kernel_rfl) ?_
      case st =>
        intro p hp
        simp only [List.mem_cons, List.not_mem_nil, or_false] at hp
        rcases hp with rfl | rfl
        · rintro v u u' ⟨g, rfl, h1, h2⟩ hk; exact ⟨g, rfl, h1.kept hk (fun h => h), h2⟩
        · intro v u u' h hk; exact h.kept hk (fun _ _ h => h)
      case ne =>
        intro p hp
        simp only [List.mem_cons, List.not_mem_nil, or_false] at hp
        rcases hp with rfl | rfl
        · exact ⟨_, _, (Kept.refl _ _).alloc _, ⟨_, rfl, Blk.new _ _ _, HKq.out.size⟩⟩
        · exact ⟨_, _, (Kept.refl _ _).alloc (.cells (bcs X).toArray 5), Row.of_blk (Blk.new _ _ _) (HKq.out.size) (by have := HXL.out; simp [bcs_length]; unfold maxLen; omega) (by simp)⟩
      simp only [List.take_succ_cons, List.take_zero, List.drop_succ_cons, List.drop_zero]
      intro G pick hR hp1 hp2
      have p0 : ∀ u, (pick u).cell? ⟨ht, 0, none⟩ = some (.int .u8 v1) := fun u => ((hp1 u).cell HHq.out.lt (fun h => h) _).trans (HHq.out.cell 0)
      have p1 : ∀ u, (pick u).cell? ⟨ht, 1, none⟩ = some (.int .i64 (v2n : Int)) := fun u => ((hp1 u).cell HHq.out.lt (fun h => h) _).trans (HHq.out.cell 1)
      have p2 : ∀ u, (pick u).cell? ⟨ht, 2, none⟩ = some (.int .u16 v4) := fun u => ((hp1 u).cell HHq.out.lt (fun h => h) _).trans (HHq.out.cell 2)
      have p3 : ∀ u, (pick u).cell? ⟨ht, 3, none⟩ = some (.bool (decide (v6 / 16384 % 2 = 1))) := fun u => ((hp1 u).cell HHq.out.lt (fun h => h) _).trans (HHq.out.cell 3)
      have p4 : ∀ u, (pick u).cell? ⟨ht, 4, none⟩ = some (.bool (decide (v6 / 8192 % 2 = 1))) := fun u => ((hp1 u).cell HHq.out.lt (fun h => h) _).trans (HHq.out.cell 4)
      have p5 : ∀ u, (pick u).cell? ⟨ht, 5, none⟩ = some (.int .i64 (v6 % 8192)) := fun u => ((hp1 u).cell HHq.out.lt (fun h => h) _).trans (HHq.out.cell 5)
      have p6 : ∀ u, (pick u).cell? ⟨ht, 6, none⟩ = some (.int .u8 v8) := fun u => ((hp1 u).cell HHq.out.lt (fun h => h) _).trans (HHq.out.cell 6)
      have p7 : ∀ u, (pick u).cell? ⟨ht, 7, none⟩ = some (.int .u8 v9) := fun u => ((hp1 u).cell HHq.out.lt (fun h => h) _).trans (HHq.out.cell 7)
      have p8 : ∀ u, (pick u).cell? ⟨ht, 8, none⟩ = some (.int .u16 v10) := fun u => ((hp1 u).cell HHq.out.lt (fun h => h) _).trans (HHq.out.cell 8)
      have p9 : ∀ u, (pick u).cell? ⟨ht, 9, none⟩ = some (.bool false) := fun u => ((hp1 u).cell HHq.out.lt (fun h => h) _).trans (HHq.out.cell 9)
      have p10 : ∀ u, (pick u).cell? ⟨ht, 10, none⟩ = some (.int .u64 0) := fun u => ((hp1 u).cell HHq.out.lt (fun h => h) _).trans (HHq.out.cell 10)
      have p11 : ∀ u, (pick u).cell? ⟨ht, 11, none⟩ = some (.int .u64 v12) := fun u => ((hp1 u).cell HHq.out.lt (fun h => h) _).trans (HHq.out.cell 11)
      have p12 : ∀ u, (pick u).cell? ⟨ht, 12, none⟩ = some (.bool false) := fun u => ((hp1 u).cell HHq.out.lt (fun h => h) _).trans (HHq.out.cell 12)
      have p13 : ∀ u, (pick u).cell? ⟨ht, 13, none⟩ = some (.int .u64 0) := fun u => ((hp1 u).cell HHq.out.lt (fun h => h) _).trans (HHq.out.cell 13)
      have p14 : ∀ u, (pick u).cell? ⟨ht, 14, none⟩ = some (.int .u64 v16) := fun u => ((hp1 u).cell HHq.out.lt (fun h => h) _).trans (HHq.out.cell 14)
      have p15 : ∀ u, (pick u).cell? ⟨ht, 15, none⟩ = some (.slice NA (z - 20) nc) := fun u => ((hp1 u).cell HHq.out.lt (fun h => h) _).trans (HHq.out.cell 15)
      repeat (first | (refine wpR_det hp2 rfl ((hR.rel _).trans rfl) rfl ?_; intro K hK; go_big_quiet_op; go_big_quiet_on) | (refine wpR_ptr hp2 rfl ((hR.rel _).trans rfl) rfl rfl ?_; intro K hK; go_big_quiet_op; go_big_quiet_on) | (refine wpR_skip pick rfl ?_; intro K hK; go_big_quiet_op; go_big_quiet_on))
      refine wpR_rel pick rfl ((hR.rel _).trans rfl) ((hR.turns _).trans rfl) ?_ ?_
      · intro u hu
        have hk := hR.since hu.1
        have hks := hk.size
        unfold relAt
        go_simp
        exact ⟨hR.into0 ((Kept.refl _ _).alloc _), hR.put 0 rfl rfl ⟨u.heap.size, rfl, Blk.new _ _ _, Nat.le_trans HKq.out.size hks⟩⟩
      intro v hv
      obtain ⟨u, _, hu⟩ := hv
      obtain ⟨ge, rfl, -, -⟩ := hR.get 0 rfl hu
      clear hu
      intro K hK
      go_big_quiet_op
      go_big_quiet_on
      repeat (first | (refine wpR_det hp2 rfl ((hR.rel _).trans rfl) rfl ?_; intro K hK; go_big_quiet_op; go_big_quiet_on) | (refine wpR_ptr hp2 rfl ((hR.rel _).trans rfl) rfl rfl ?_; intro K hK; go_big_quiet_op; go_big_quiet_on) | (refine wpR_skip pick rfl ?_; intro K hK; go_big_quiet_op; go_big_quiet_on))
      refine wpR_rel pick rfl ((hR.rel _).trans rfl) ((hR.turns _).trans rfl) ?_ ?_
      · intro u hu
        have hk := hR.since hu.1
        have hks := hk.size
        obtain ⟨g', e, hgb, hge⟩ := (hR.get 0 rfl (hu.2 _ _ (Got.upd_self _ _ _) (by kernel_rfl)))
        obtain rfl : ge = g' := by injection e with e; injection e with e; injection e
        refine relAt_append_emptyB (.tmp 96) (.tmp 101) rfl w1.heap.size ge rfl (some ⟨bb, o + z, none⟩) (v2n - z) (c - z) X rfl HXL.out.symm hgb hge (((HYB.out).on hk (fun _ _ h => h)).src) (by rw [HXL.out]; omega) (Nat.le_trans HKq.out.size hks) ?_
        intro v' w' hr hb'
        exact ⟨hR.intoB hb', hR.put 1 rfl rfl hr⟩
      intro v hv
      obtain ⟨u, _, hu⟩ := hv
      obtain hT7 := hR.get 1 rfl hu
      clear hu
      obtain ⟨XA, xc, hve, -, -⟩ := hT7.shape
      rw [bcs_length, HXL.out] at hve
      subst hve
      clear hT7
      intro K hK
      go_big_quiet_op
      go_big_quiet_on
      repeat (first | (refine wpR_det hp2 rfl ((hR.rel _).trans rfl) rfl ?_; intro K hK; go_big_quiet_op; go_big_quiet_on) | (refine wpR_ptr hp2 rfl ((hR.rel _).trans rfl) rfl rfl ?_; intro K hK; go_big_quiet_op; go_big_quiet_on) | (refine wpR_skip pick rfl ?_; intro K hK; go_big_quiet_op; go_big_quiet_on))
      refine wpR_nil ?_
      intro wr hk2 hF hM
      have HV := Lib.hid ((hR.get 1 rfl (hF _ _ (Got.upd_self _ _ _))))
      have HKr := Lib.hid (HKq.out.trans hk2)
      have HRr := Lib.hid (HR1.out.kept HKr.out (fun h => h))
      have HOr := Lib.hid (HNQ.out.kept hk2 (fun _ _ h => h))
      clear hF hM hk2 hp1 hp2 hR p0 p1 p2 p3 p4 p5 p6 p7 p8 p9 p10 p11 p12 p13 p14 p15
      go_wp2_with (show wpList _ _ _ ((⟨none, .store 41 (.tmp 2) _, _, _, _, none⟩ : Oper) :: _) _ _; refine wpList_store_mid rfl 41 (.tmp 2) _ rfl rb 0 #[.int .u8 v1, .int .i64 (v2n : Int), .int .u16 v4, .bool (decide (v6 / 16384 % 2 = 1)), .bool (decide (v6 / 8192 % 2 = 1)), .int .i64 (v6 % 8192), .int .u8 v8, .int .u8 v9, .int .u16 v10, .bool false, .int .u64 0, .int .u64 v12, .bool false, .int .u64 0, .int .u64 v16, .slice NA (z - 20) nc] rfl rfl (HRr.out.there rfl) (by kernel_rfl) (by simp [Value.oneCell']) ?_)
      generalize hwz : (World.setCells _ _ _ _) = wz
      have HKz := Lib.hid (show Kept (fun i => i = rb) wr wz by rw [← hwz]; exact Kept.setCells (S := fun i => i = rb) rfl _ _ (Kept.refl _ _))
      have HRzz := Lib.hid (show Blk wz rb 41 #[.int .u8 v1, .int .i64 (v2n : Int), .int .u16 v4, .bool (decide (v6 / 16384 % 2 = 1)), .bool (decide (v6 / 8192 % 2 = 1)), .int .i64 (v6 % 8192), .int .u8 v8, .int .u8 v9, .int .u16 v10, .bool false, .int .u64 0, .int .u64 v12, .bool false, .int .u64 0, .int .u64 v16, .slice NA (z - 20) nc] by rw [← hwz]; exact HRr.out.setAll #[.int .u8 v1, .int .i64 (v2n : Int), .int .u16 v4, .bool (decide (v6 / 16384 % 2 = 1)), .bool (decide (v6 / 8192 % 2 = 1)), .int .i64 (v6 % 8192), .int .u8 v8, .int .u8 v9, .int .u16 v10, .bool false, .int .u64 0, .int .u64 v12, .bool false, .int .u64 0, .int .u64 v16, .slice NA (z - 20) nc] rfl)
      have HOZ := Lib.hid (show Row wz w.heap.size 5 (.slice NA (z - 20) nc) (bcs ((b.drop 20).take (z - 20))) from (HOr.out.kept HKz.out (fun g hg e => by have := (HOr.out.lt g hg).1; have := HRB1.out; omega)).more HS1.out)
      have HVZ := Lib.hid (show Row wz w.heap.size 5 (.slice XA (v2n - z) xc) (bcs X) from (HV.out.kept HKz.out (fun g hg e => by have := (HV.out.lt g hg).1; have := HRB1.out; omega)).more HS1.out)
      clear hwz
      refine bodyPost_ret (results_blk_tmp2 (P := Try.prog) (show Try.f11.results = _ from rfl) _ _ rb 41 #[.int .u8 v1, .int .i64 (v2n : Int), .int .u16 v4, .bool (decide (v6 / 16384 % 2 = 1)), .bool (decide (v6 / 8192 % 2 = 1)), .int .i64 (v6 % 8192), .int .u8 v8, .int .u8 v9, .int .u16 v10, .bool false, .int .u64 0, .int .u64 v12, .bool false, .int .u64 0, .int .u64 v16, .slice NA (z - 20) nc] _ rfl HRzz.out Try.underlying41 rfl (by kernel_rfl)) rfl ⟨HKW.out.trans (((HKr.out.mono (T := fun i => i = rb) (fun _ _ h => h.elim)).trans HKz.out).below HS1.out (fun i e => by have := HRBW.out; omega)), .inr ⟨HPE.out, .slice NA (z - 20) nc, .slice XA (v2n - z) xc, ?_, ?_, ?_⟩⟩
      · unfold phd Hd.cells
        simp only []
        rw [Hv1.out, Hv2.out, Hv4.out, Hv6.out, Hv8.out, Hv9.out, Hv10.out, Hv12.out, Hv16.out]
        rfl
      · show Row wz w.heap.size 5 _ (bcs ((b.drop 20).take (hsz b - 20)))
        rw [HZ.out]; exact HOZ.out
      · unfold pld
        rw [HZ.out, Hv2.out]
        show Row wz w.heap.size 5 _ (bcs ((b.drop z).take (v2n - z)))
        rw [HX.out]; exact HVZ.out
    · have HYB := Lib.hid (show BS wq wq.heap.size (some ⟨bb, o, none⟩) X from .inl (by rw [← HX.out, List.drop_eq_nil_of_le (by omega)]; simp))
      have j1 : ¬ (z : Int) < (c : Int) := by omega
      have HCZ := Lib.hid (show c = z by omega)
      refine wp_region_kept 8 [(1, fun v u => FreshS w1.heap.size u v), (7, fun v u => Row u w1.heap.size 5 v (bcs X))] ?st ?ne rfl (by kernel_rfl) (by kernel_rfl) ?_
      case st =>
        intro p hp
        simp only [List.mem_cons, List.not_mem_nil, or_false] at hp
        rcases hp with rfl | rfl
        · rintro v u u' ⟨g, rfl, h1, h2⟩ hk; exact ⟨g, rfl, h1.kept hk (fun h => h), h2⟩
        · intro v u u' h hk; exact h.kept hk (fun _ _ h => h)
      case ne =>
        intro p hp
        simp only [List.mem_cons, List.not_mem_nil, or_false] at hp
        rcases hp with rfl | rfl
        · exact ⟨_, _, (Kept.refl _ _).alloc _, ⟨_, rfl, Blk.new _ _ _, HKq.out.size⟩⟩
        · exact ⟨_, _, (Kept.refl _ _).alloc (.cells (bcs X).toArray 5), Row.of_blk (Blk.new _ _ _) (HKq.out.size) (by have := HXL.out; simp [bcs_length]; unfold maxLen; omega) (by simp)⟩
      simp only [List.take_succ_cons, List.take_zero, List.drop_succ_cons, List.drop_zero]
      intro G pick hR hp1 hp2
      have p0 : ∀ u, (pick u).cell? ⟨ht, 0, none⟩ = some (.int .u8 v1) := fun u => ((hp1 u).cell HHq.out.lt (fun h => h) _).trans (HHq.out.cell 0)
      have p1 : ∀ u, (pick u).cell? ⟨ht, 1, none⟩ = some (.int .i64 (v2n : Int)) := fun u => ((hp1 u).cell HHq.out.lt (fun h => h) _).trans (HHq.out.cell 1)
      have p2 : ∀ u, (pick u).cell? ⟨ht, 2, none⟩ = some (.int .u16 v4) := fun u => ((hp1 u).cell HHq.out.lt (fun h => h) _).trans (HHq.out.cell 2)
      have p3 : ∀ u, (pick u).cell? ⟨ht, 3, none⟩ = some (.bool (decide (v6 / 16384 % 2 = 1))) := fun u => ((hp1 u).cell HHq.out.lt (fun h => h) _).trans (HHq.out.cell 3)
      have p4 : ∀ u, (pick u).cell? ⟨ht, 4, none⟩ = some (.bool (decide (v6 / 8192 % 2 = 1))) := fun u => ((hp1 u).cell HHq.out.lt (fun h => h) _).trans (HHq.out.cell 4)
      have p5 : ∀ u, (pick u).cell? ⟨ht, 5, none⟩ = some (.int .i64 (v6 % 8192)) := fun u => ((hp1 u).cell HHq.out.lt (fun h => h) _).trans (HHq.out.cell 5)
      have p6 : ∀ u, (pick u).cell? ⟨ht, 6, none⟩ = some (.int .u8 v8) := fun u => ((hp1 u).cell HHq.out.lt (fun h => h) _).trans (HHq.out.cell 6)
      have p7 : ∀ u, (pick u).cell? ⟨ht, 7, none⟩ = some (.int .u8 v9) := fun u => ((hp1 u).cell HHq.out.lt (fun h => h) _).trans (HHq.out.cell 7)
      have p8 : ∀ u, (pick u).cell? ⟨ht, 8, none⟩ = some (.int .u16 v10) := fun u => ((hp1 u).cell HHq.out.lt (fun h => h) _).trans (HHq.out.cell 8)
      have p9 : ∀ u, (pick u).cell? ⟨ht, 9, none⟩ = some (.bool false) := fun u => ((hp1 u).cell HHq.out.lt (fun h => h) _).trans (HHq.out.cell 9)
      have p10 : ∀ u, (pick u).cell? ⟨ht, 10, none⟩ = some (.int .u64 0) := fun u => ((hp1 u).cell HHq.out.lt (fun h => h) _).trans (HHq.out.cell 10)
      have p11 : ∀ u, (pick u).cell? ⟨ht, 11, none⟩ = some (.int .u64 v12) := fun u => ((hp1 u).cell HHq.out.lt (fun h => h) _).trans (HHq.out.cell 11)
      have p12 : ∀ u, (pick u).cell? ⟨ht, 12, none⟩ = some (.bool false) := fun u => ((hp1 u).cell HHq.out.lt (fun h => h) _).trans (HHq.out.cell 12)
      have p13 : ∀ u, (pick u).cell? ⟨ht, 13, none⟩ = some (.int .u64 0) := fun u => ((hp1 u).cell HHq.out.lt (fun h => h) _).trans (HHq.out.cell 13)
      have p14 : ∀ u, (pick u).cell? ⟨ht, 14, none⟩ = some (.int .u64 v16) := fun u => ((hp1 u).cell HHq.out.lt (fun h => h) _).trans (HHq.out.cell 14)
      have p15 : ∀ u, (pick u).cell? ⟨ht, 15, none⟩ = some (.slice NA (z - 20) nc) := fun u => ((hp1 u).cell HHq.out.lt (fun h => h) _).trans (HHq.out.cell 15)
      repeat (first | (refine wpR_det hp2 rfl ((hR.rel _).trans rfl) rfl ?_; intro K hK; go_big_quiet_op; go_big_quiet_on) | (refine wpR_ptr hp2 rfl ((hR.rel _).trans rfl) rfl rfl ?_; intro K hK; go_big_quiet_op; go_big_quiet_on) | (refine wpR_skip pick rfl ?_; intro K hK; go_big_quiet_op; go_big_quiet_on))
      refine wpR_rel pick rfl ((hR.rel _).trans rfl) ((hR.turns _).trans rfl) ?_ ?_
      · intro u hu
        have hk := hR.since hu.1
        have hks := hk.size
        unfold relAt
        go_simp
        exact ⟨hR.into0 ((Kept.refl _ _).alloc _), hR.put 0 rfl rfl ⟨u.heap.size, rfl, Blk.new _ _ _, Nat.le_trans HKq.out.size hks⟩⟩
      intro v hv
      obtain ⟨u, _, hu⟩ := hv
      obtain ⟨ge, rfl, -, -⟩ := hR.get 0 rfl hu
      clear hu
      intro K hK
      go_big_quiet_op
      go_big_quiet_on
      repeat (first | (refine wpR_det hp2 rfl ((hR.rel _).trans rfl) rfl ?_; intro K hK; go_big_quiet_op; go_big_quiet_on) | (refine wpR_ptr hp2 rfl ((hR.rel _).trans rfl) rfl rfl ?_; intro K hK; go_big_quiet_op; go_big_quiet_on) | (refine wpR_skip pick rfl ?_; intro K hK; go_big_quiet_op; go_big_quiet_on))
      refine wpR_rel pick rfl ((hR.rel _).trans rfl) ((hR.turns _).trans rfl) ?_ ?_
      · intro u hu
        have hk := hR.since hu.1
        have hks := hk.size
        obtain ⟨g', e, hgb, hge⟩ := (hR.get 0 rfl (hu.2 _ _ (Got.upd_self _ _ _) (by kernel_rfl)))
        obtain rfl : ge = g' := by injection e with e; injection e with e; injection e
        refine relAt_append_emptyB (.tmp 96) (.tmp 101) rfl w1.heap.size ge rfl (some ⟨bb, o, none⟩) (v2n - z) (c - z) X (by first | rfl | (show Value.slice (if c = z then _ else _) _ _ = _; rw [if_pos HCZ.out])) HXL.out.symm hgb hge (((HYB.out).on hk (fun _ _ h => h)).src) (by rw [HXL.out]; omega) (Nat.le_trans HKq.out.size hks) ?_
        intro v' w' hr hb'
        exact ⟨hR.intoB hb', hR.put 1 rfl rfl hr⟩
      intro v hv
      obtain ⟨u, _, hu⟩ := hv
      obtain hT7 := hR.get 1 rfl hu
      clear hu
      obtain ⟨XA, xc, hve, -, -⟩ := hT7.shape
      rw [bcs_length, HXL.out] at hve
      subst hve
      clear hT7
      intro K hK
      go_big_quiet_op
      go_big_quiet_on
      repeat (first | (refine wpR_det hp2 rfl ((hR.rel _).trans rfl) rfl ?_; intro K hK; go_big_quiet_op; go_big_quiet_on) | (refine wpR_ptr hp2 rfl ((hR.rel _).trans rfl) rfl rfl ?_; intro K hK; go_big_quiet_op; go_big_quiet_on) | (refine wpR_skip pick rfl ?_; intro K hK; go_big_quiet_op; go_big_quiet_on))
      refine wpR_nil ?_
      intro wr hk2 hF hM
      have HV := Lib.hid ((hR.get 1 rfl (hF _ _ (Got.upd_self _ _ _))))
      have HKr := Lib.hid (HKq.out.trans hk2)
      have HRr := Lib.hid (HR1.out.kept HKr.out (fun h => h))
      have HOr := Lib.hid (HNQ.out.kept hk2 (fun _ _ h => h))
      clear hF hM hk2 hp1 hp2 hR p0 p1 p2 p3 p4 p5 p6 p7 p8 p9 p10 p11 p12 p13 p14 p15
      go_wp2_with (show wpList _ _ _ ((⟨none, .store 41 (.tmp 2) _, _, _, _, none⟩ : Oper) :: _) _ _; refine wpList_store_mid rfl 41 (.tmp 2) _ rfl rb 0 #[.int .u8 v1, .int .i64 (v2n : Int), .int .u16 v4, .bool (decide (v6 / 16384 % 2 = 1)), .bool (decide (v6 / 8192 % 2 = 1)), .int .i64 (v6 % 8192), .int .u8 v8, .int .u8 v9, .int .u16 v10, .bool false, .int .u64 0, .int .u64 v12, .bool false, .int .u64 0, .int .u64 v16, .slice NA (z - 20) nc] rfl rfl (HRr.out.there rfl) (by kernel_rfl) (by simp [Value.oneCell']) ?_)
      generalize hwz : (World.setCells _ _ _ _) = wz
      have HKz := Lib.hid (show Kept (fun i => i = rb) wr wz by rw [← hwz]; exact Kept.setCells (S := fun i => i = rb) rfl _ _ (Kept.refl _ _))
      have HRzz := Lib.hid (show Blk wz rb 41 #[.int .u8 v1, .int .i64 (v2n : Int), .int .u16 v4, .bool (decide (v6 / 16384 % 2 = 1)), .bool (decide (v6 / 8192 % 2 = 1)), .int .i64 (v6 % 8192), .int .u8 v8, .int .u8 v9, .int .u16 v10, .bool false, .int .u64 0, .int .u64 v12, .bool false, .int .u64 0, .int .u64 v16, .slice NA (z - 20) nc] by rw [← hwz]; exact HRr.out.setAll #[.int .u8 v1, .int .i64 (v2n : Int), .int .u16 v4, .bool (decide (v6 / 16384 % 2 = 1)), .bool (decide (v6 / 8192 % 2 = 1)), .int .i64 (v6 % 8192), .int .u8 v8, .int .u8 v9, .int .u16 v10, .bool false, .int .u64 0, .int .u64 v12, .bool false, .int .u64 0, .int .u64 v16, .slice NA (z - 20) nc] rfl)
      have HOZ := Lib.hid (show Row wz w.heap.size 5 (.slice NA (z - 20) nc) (bcs ((b.drop 20).take (z - 20))) from (HOr.out.kept HKz.out (fun g hg e => by have := (HOr.out.lt g hg).1; have := HRB1.out; omega)).more HS1.out)
      have HVZ := Lib.hid (show Row wz w.heap.size 5 (.slice XA (v2n - z) xc) (bcs X) from (HV.out.kept HKz.out (fun g hg e => by have := (HV.out.lt g hg).1; have := HRB1.out; omega)).more HS1.out)
      clear hwz
      refine bodyPost_ret (results_blk_tmp2 (P := Try.prog) (show Try.f11.results = _ from rfl) _ _ rb 41 #[.int .u8 v1, .int .i64 (v2n : Int), .int .u16 v4, .bool (decide (v6 / 16384 % 2 = 1)), .bool (decide (v6 / 8192 % 2 = 1)), .int .i64 (v6 % 8192), .int .u8 v8, .int .u8 v9, .int .u16 v10, .bool false, .int .u64 0, .int .u64 v12, .bool false, .int .u64 0, .int .u64 v16, .slice NA (z - 20) nc] _ rfl HRzz.out Try.underlying41 rfl (by kernel_rfl)) rfl ⟨HKW.out.trans (((HKr.out.mono (T := fun i => i = rb) (fun _ _ h => h.elim)).trans HKz.out).below HS1.out (fun i e => by have := HRBW.out; omega)), .inr ⟨HPE.out, .slice NA (z - 20) nc, .slice XA (v2n - z) xc, ?_, ?_, ?_⟩⟩
      · unfold phd Hd.cells
        simp only []
        rw [Hv1.out, Hv2.out, Hv4.out, Hv6.out, Hv8.out, Hv9.out, Hv10.out, Hv12.out, Hv16.out]
        rfl
      · show Row wz w.heap.size 5 _ (bcs ((b.drop 20).take (hsz b - 20)))
        rw [HZ.out]; exact HOZ.out
      · unfold pld
        rw [HZ.out, Hv2.out]
        show Row wz w.heap.size 5 _ (bcs ((b.drop z).take (v2n - z)))
        rw [HX.out]; exact HVZ.out
  · have HCEQ := Lib.hid (show c = 20 by omega)
    have HYO := Lib.hid (show BS w9 w9.heap.size (some ⟨bb, o, none⟩) ((b.drop 20).take (z - 20)) from .inl (by rw [List.drop_eq_nil_of_le (by omega)]; simp))
    go_upto_region 17 with (at_builtin; refine wpList_append_row rfl (.tmp 89) (.tmp 92) 22 rfl w9.heap.size 5 (.int .u8 0) 1 Try.underlying22 h5 rfl _ [] rfl (some ⟨bb, o, none⟩) (z - 20) (c - 20) (bcs ((b.drop 20).take (z - 20))) rfl ?a0 ?a1 ?a2 (bcs_one _) ?a3 ?a4 ?a5 ?_)
    case a0 => rw [bcs_length, HO.out]
    case a1 => exact Row.of_blk (cs := #[]) (Blk.new_ rfl _ _) (Nat.le_refl _) (by simp) rfl
    case a2 => exact (HYO.out.alloc (Nat.le_refl _) _).src
    case a3 => rw [bcs_length, HO.out]; unfold maxLen; simp; omega
    case a4 => rw [bcs_length, HO.out]; simp; omega
    case a5 => simp
    intro vo wp hrow hgr _
    have HKp := Lib.hid (show Kept (fun _ => False) w9 wp from ((Kept.refl _ _).alloc _).then (kept_grown (S := fun i => w9.heap.size ≤ i) hgr (fun i e _ => by simp [Value.ownBlock] at e; omega)) (fun i hi h => by omega))
    have HRO := Lib.hid hrow
    obtain ⟨NA, nc, hve, -, -⟩ := hrow.shape
    try simp only [List.nil_append] at hve
    rw [bcs_length, HO.out] at hve
    subst hve
    clear hrow hgr cB fB lB
    have HHp := Lib.hid (HH9.out.kept HKp.out (fun h => h))
    have HKpp := Lib.hid (HK9.out.trans HKp.out)
    have HGQ := Lib.hid HH9.out.lt
    have cB := HHp.out.cell
    have fB := HHp.out.frozen
    have lB := HHp.out.lt
    go_upto_region 17 with fail
    generalize hwq : World.setCell _ _ _ = wq
    have HHq := Lib.hid (show Blk wq ht 41 #[.int .u8 v1, .int .i64 v2, .int .u16 v4, .bool (decide (v6 / 16384 % 2 = 1)), .bool (decide (v6 / 8192 % 2 = 1)), .int .i64 (v6 % 8192), .int .u8 v8, .int .u8 v9, .int .u16 v10, .bool false, .int .u64 0, .int .u64 v12, .bool false, .int .u64 0, .int .u64 v16, .slice NA (z - 20) nc] by rw [← hwq]; exact HHp.out.set_to rfl)
    have HKs := Lib.hid (show Kept (fun i => i = ht) wp wq by rw [← hwq]; exact Kept.setIn (S := fun i => i = ht) rfl (Kept.refl _ _))
    have HKq := Lib.hid (HKpp.out.then HKs.out (fun i hi e => by have := HTW.out; omega))
    have HNQ := Lib.hid (show Row wq w1.heap.size 5 (.slice NA (z - 20) nc) (bcs ((b.drop 20).take (z - 20))) from ((show Row wp w9.heap.size 5 (.slice NA (z - 20) nc) (bcs ((b.drop 20).take (z - 20))) from HRO.out).kept HKs.out (fun g hg e => by have := (HRO.out.lt g hg).1; have := HGQ.out; omega)).more HK9.out.size)
    have HBq := Lib.hid (HB1.out.on HKq.out (fun _ _ h => h))
    clear hwq HKs cB fB lB
    obtain ⟨v2n, hv2n⟩ : ∃ v2n : Nat, v2 = (v2n : Int) := ⟨v2.toNat, by omega⟩
    have q1 : z ≤ v2n := by omega
    have q2 : v2n ≤ b.length := by omega
    obtain ⟨X, hX⟩ : ∃ X, (b.drop z).take (v2n - z) = X := ⟨_, rfl⟩
    have HXL := Lib.hid (show X.length = v2n - z by rw [← hX, List.length_take, List.length_drop]; omega)
    have HX := Lib.hid hX
    clear hX
    subst hv2n
    by_cases hcz : z < c
    · exact absurd hcz (by omega)
    · have HYB := Lib.hid (show BS wq wq.heap.size (some ⟨bb, o, none⟩) X from .inl (by rw [← HX.out, List.drop_eq_nil_of_le (by omega)]; simp))
      have j1 : ¬ (z : Int) < (c : Int) := by omega
      have HCZ := Lib.hid (show c = z by omega)
      refine wp_region_kept 8 [(1, fun v u => FreshS w1.heap.size u v), (7, fun v u => Row u w1.heap.size 5 v (bcs X))] ?st ?ne rfl (by kernel_rfl) (by kernel_rfl) ?_
      case st =>
        intro p hp
        simp only [List.mem_cons, List.not_mem_nil, or_false] at hp
        rcases hp with rfl | rfl
        · rintro v u u' ⟨g, rfl, h1, h2⟩ hk; exact ⟨g, rfl, h1.kept hk (fun h => h), h2⟩
        · intro v u u' h hk; exact h.kept hk (fun _ _ h => h)
      case ne =>
        intro p hp
        simp only [List.mem_cons, List.not_mem_nil, or_false] at hp
        rcases hp with rfl | rfl
        · exact ⟨_, _, (Kept.refl _ _).alloc _, ⟨_, rfl, Blk.new _ _ _, HKq.out.size⟩⟩
        · exact ⟨_, _, (Kept.refl _ _).alloc (.cells (bcs X).toArray 5), Row.of_blk (Blk.new _ _ _) (HKq.out.size) (by have := HXL.out; simp [bcs_length]; unfold maxLen; omega) (by simp)⟩
      simp only [List.take_succ_cons, List.take_zero, List.drop_succ_cons, List.drop_zero]
      intro G pick hR hp1 hp2
      have p0 : ∀ u, (pick u).cell? ⟨ht, 0, none⟩ = some (.int .u8 v1) := fun u => ((hp1 u).cell HHq.out.lt (fun h => h) _).trans (HHq.out.cell 0)
      have p1 : ∀ u, (pick u).cell? ⟨ht, 1, none⟩ = some (.int .i64 (v2n : Int)) := fun u => ((hp1 u).cell HHq.out.lt (fun h => h) _).trans (HHq.out.cell 1)
      have p2 : ∀ u, (pick u).cell? ⟨ht, 2, none⟩ = some (.int .u16 v4) := fun u => ((hp1 u).cell HHq.out.lt (fun h => h) _).trans (HHq.out.cell 2)
      have p3 : ∀ u, (pick u).cell? ⟨ht, 3, none⟩ = some (.bool (decide (v6 / 16384 % 2 = 1))) := fun u => ((hp1 u).cell HHq.out.lt (fun h => h) _).trans (HHq.out.cell 3)
      have p4 : ∀ u, (pick u).cell? ⟨ht, 4, none⟩ = some (.bool (decide (v6 / 8192 % 2 = 1))) := fun u => ((hp1 u).cell HHq.out.lt (fun h => h) _).trans (HHq.out.cell 4)
      have p5 : ∀ u, (pick u).cell? ⟨ht, 5, none⟩ = some (.int .i64 (v6 % 8192)) := fun u => ((hp1 u).cell HHq.out.lt (fun h => h) _).trans (HHq.out.cell 5)
      have p6 : ∀ u, (pick u).cell? ⟨ht, 6, none⟩ = some (.int .u8 v8) := fun u => ((hp1 u).cell HHq.out.lt (fun h => h) _).trans (HHq.out.cell 6)
      have p7 : ∀ u, (pick u).cell? ⟨ht, 7, none⟩ = some (.int .u8 v9) := fun u => ((hp1 u).cell HHq.out.lt (fun h => h) _).trans (HHq.out.cell 7)
      have p8 : ∀ u, (pick u).cell? ⟨ht, 8, none⟩ = some (.int .u16 v10) := fun u => ((hp1 u).cell HHq.out.lt (fun h => h) _).trans (HHq.out.cell 8)
      have p9 : ∀ u, (pick u).cell? ⟨ht, 9, none⟩ = some (.bool false) := fun u => ((hp1 u).cell HHq.out.lt (fun h => h) _).trans (HHq.out.cell 9)
      have p10 : ∀ u, (pick u).cell? ⟨ht, 10, none⟩ = some (.int .u64 0) := fun u => ((hp1 u).cell HHq.out.lt (fun h => h) _).trans (HHq.out.cell 10)
      have p11 : ∀ u, (pick u).cell? ⟨ht, 11, none⟩ = some (.int .u64 v12) := fun u => ((hp1 u).cell HHq.out.lt (fun h => h) _).trans (HHq.out.cell 11)
      have p12 : ∀ u, (pick u).cell? ⟨ht, 12, none⟩ = some (.bool false) := fun u => ((hp1 u).cell HHq.out.lt (fun h => h) _).trans (HHq.out.cell 12)
      have p13 : ∀ u, (pick u).cell? ⟨ht, 13, none⟩ = some (.int .u64 0) := fun u => ((hp1 u).cell HHq.out.lt (fun h => h) _).trans (HHq.out.cell 13)
      have p14 : ∀ u, (pick u).cell? ⟨ht, 14, none⟩ = some (.int .u64 v16) := fun u => ((hp1 u).cell HHq.out.lt (fun h => h) _).trans (HHq.out.cell 14)
      have p15 : ∀ u, (pick u).cell? ⟨ht, 15, none⟩ = some (.slice NA (z - 20) nc) := fun u => ((hp1 u).cell HHq.out.lt (fun h => h) _).trans (HHq.out.cell 15)
      repeat (first | (refine wpR_det hp2 rfl ((hR.rel _).trans rfl) rfl ?_; intro K hK; go_big_quiet_op; go_big_quiet_on) | (refine wpR_ptr hp2 rfl ((hR.rel _).trans rfl) rfl rfl ?_; intro K hK; go_big_quiet_op; go_big_quiet_on) | (refine wpR_skip pick rfl ?_; intro K hK; go_big_quiet_op; go_big_quiet_on))
      refine wpR_rel pick rfl ((hR.rel _).trans rfl) ((hR.turns _).trans rfl) ?_ ?_
      · intro u hu
        have hk := hR.since hu.1
        have hks := hk.size
        unfold relAt
        go_simp
        exact ⟨hR.into0 ((Kept.refl _ _).alloc _), hR.put 0 rfl rfl ⟨u.heap.size, rfl, Blk.new _ _ _, Nat.le_trans HKq.out.size hks⟩⟩
      intro v hv
      obtain ⟨u, _, hu⟩ := hv
      obtain ⟨ge, rfl, -, -⟩ := hR.get 0 rfl hu
      clear hu
      intro K hK
      go_big_quiet_op
      go_big_quiet_on
      repeat (first | (refine wpR_det hp2 rfl ((hR.rel _).trans rfl) rfl ?_; intro K hK; go_big_quiet_op; go_big_quiet_on) | (refine wpR_ptr hp2 rfl ((hR.rel _).trans rfl) rfl rfl ?_; intro K hK; go_big_quiet_op; go_big_quiet_on) | (refine wpR_skip pick rfl ?_; intro K hK; go_big_quiet_op; go_big_quiet_on))
      refine wpR_rel pick rfl ((hR.rel _).trans rfl) ((hR.turns _).trans rfl) ?_ ?_
      · intro u hu
        have hk := hR.since hu.1
        have hks := hk.size
        obtain ⟨g', e, hgb, hge⟩ := (hR.get 0 rfl (hu.2 _ _ (Got.upd_self _ _ _) (by kernel_rfl)))
        obtain rfl : ge = g' := by injection e with e; injection e with e; injection e
        refine relAt_append_emptyB (.tmp 96) (.tmp 101) rfl w1.heap.size ge rfl (some ⟨bb, o, none⟩) (v2n - z) (c - z) X (by first | rfl | (show Value.slice (if c = z then _ else _) _ _ = _; rw [if_pos HCZ.out])) HXL.out.symm hgb hge (((HYB.out).on hk (fun _ _ h => h)).src) (by rw [HXL.out]; omega) (Nat.le_trans HKq.out.size hks) ?_
        intro v' w' hr hb'
        exact ⟨hR.intoB hb', hR.put 1 rfl rfl hr⟩
      intro v hv
      obtain ⟨u, _, hu⟩ := hv
      obtain hT7 := hR.get 1 rfl hu
      clear hu
      obtain ⟨XA, xc, hve, -, -⟩ := hT7.shape
      rw [bcs_length, HXL.out] at hve
      subst hve
      clear hT7
      intro K hK
      go_big_quiet_op
      go_big_quiet_on
      repeat (first | (refine wpR_det hp2 rfl ((hR.rel _).trans rfl) rfl ?_; intro K hK; go_big_quiet_op; go_big_quiet_on) | (refine wpR_ptr hp2 rfl ((hR.rel _).trans rfl) rfl rfl ?_; intro K hK; go_big_quiet_op; go_big_quiet_on) | (refine wpR_skip pick rfl ?_; intro K hK; go_big_quiet_op; go_big_quiet_on))
      refine wpR_nil ?_
      intro wr hk2 hF hM
      have HV := Lib.hid ((hR.get 1 rfl (hF _ _ (Got.upd_self _ _ _))))
      have HKr := Lib.hid (HKq.out.trans hk2)
      have HRr := Lib.hid (HR1.out.kept HKr.out (fun h => h))
      have HOr := Lib.hid (HNQ.out.kept hk2 (fun _ _ h => h))
      clear hF hM hk2 hp1 hp2 hR p0 p1 p2 p3 p4 p5 p6 p7 p8 p9 p10 p11 p12 p13 p14 p15
      go_wp2_with (show wpList _ _ _ ((⟨none, .store 41 (.tmp 2) _, _, _, _, none⟩ : Oper) :: _) _ _; refine wpList_store_mid rfl 41 (.tmp 2) _ rfl rb 0 #[.int .u8 v1, .int .i64 (v2n : Int), .int .u16 v4, .bool (decide (v6 / 16384 % 2 = 1)), .bool (decide (v6 / 8192 % 2 = 1)), .int .i64 (v6 % 8192), .int .u8 v8, .int .u8 v9, .int .u16 v10, .bool false, .int .u64 0, .int .u64 v12, .bool false, .int .u64 0, .int .u64 v16, .slice NA (z - 20) nc] rfl rfl (HRr.out.there rfl) (by kernel_rfl) (by simp [Value.oneCell']) ?_)
      generalize hwz : (World.setCells _ _ _ _) = wz
      have HKz := Lib.hid (show Kept (fun i => i = rb) wr wz by rw [← hwz]; exact Kept.setCells (S := fun i => i = rb) rfl _ _ (Kept.refl _ _))
      have HRzz := Lib.hid (show Blk wz rb 41 #[.int .u8 v1, .int .i64 (v2n : Int), .int .u16 v4, .bool (decide (v6 / 16384 % 2 = 1)), .bool (decide (v6 / 8192 % 2 = 1)), .int .i64 (v6 % 8192), .int .u8 v8, .int .u8 v9, .int .u16 v10, .bool false, .int .u64 0, .int .u64 v12, .bool false, .int .u64 0, .int .u64 v16, .slice NA (z - 20) nc] by rw [← hwz]; exact HRr.out.setAll #[.int .u8 v1, .int .i64 (v2n : Int), .int .u16 v4, .bool (decide (v6 / 16384 % 2 = 1)), .bool (decide (v6 / 8192 % 2 = 1)), .int .i64 (v6 % 8192), .int .u8 v8, .int .u8 v9, .int .u16 v10, .bool false, .int .u64 0, .int .u64 v12, .bool false, .int .u64 0, .int .u64 v16, .slice NA (z - 20) nc] rfl)
      have HOZ := Lib.hid (show Row wz w.heap.size 5 (.slice NA (z - 20) nc) (bcs ((b.drop 20).take (z - 20))) from (HOr.out.kept HKz.out (fun g hg e => by have := (HOr.out.lt g hg).1; have := HRB1.out; omega)).more HS1.out)
      have HVZ := Lib.hid (show Row wz w.heap.size 5 (.slice XA (v2n - z) xc) (bcs X) from (HV.out.kept HKz.out (fun g hg e => by have := (HV.out.lt g hg).1; have := HRB1.out; omega)).more HS1.out)
      clear hwz
      refine bodyPost_ret (results_blk_tmp2 (P := Try.prog) (show Try.f11.results = _ from rfl) _ _ rb 41 #[.int .u8 v1, .int .i64 (v2n : Int), .int .u16 v4, .bool (decide (v6 / 16384 % 2 = 1)), .bool (decide (v6 / 8192 % 2 = 1)), .int .i64 (v6 % 8192), .int .u8 v8, .int .u8 v9, .int .u16 v10, .bool false, .int .u64 0, .int .u64 v12, .bool false, .int .u64 0, .int .u64 v16, .slice NA (z - 20) nc] _ rfl HRzz.out Try.underlying41 rfl (by kernel_rfl)) rfl ⟨HKW.out.trans (((HKr.out.mono (T := fun i => i = rb) (fun _ _ h => h.elim)).trans HKz.out).below HS1.out (fun i e => by have := HRBW.out; omega)), .inr ⟨HPE.out, .slice NA (z - 20) nc, .slice XA (v2n - z) xc, ?_, ?_, ?_⟩⟩
      · unfold phd Hd.cells
        simp only []
        rw [Hv1.out, Hv2.out, Hv4.out, Hv6.out, Hv8.out, Hv9.out, Hv10.out, Hv12.out, Hv16.out]
        rfl
      · show Row wz w.heap.size 5 _ (bcs ((b.drop 20).take (hsz b - 20)))
        rw [HZ.out]; exact HOZ.out
      · unfold pld
        rw [HZ.out, Hv2.out]
        show Row wz w.heap.size 5 _ (bcs ((b.drop z).take (v2n - z)))
        rw [HX.out]; exact HVZ.out
end Go.Proofs.Ytidooohgbiiikaa
