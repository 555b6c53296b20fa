/- frag.Split, walked. -/
import Derived.Test.YtidooohgbiiikaaJd
namespace Go.Proofs.Ytidooohgbiiikaa
open Go.RowKit
set_option linter.unusedVariables false
set_option maxRecDepth 100000 in
set_option maxHeartbeats 16000000 in
theorem split_any (A : Option Addr) (c : Nat) (b : List UInt8) (most : Int) (w : World) (hl : b.length ≤ 50000) (hc : b.length ≤ c ∧ c ≤ maxLen) (m0 : -9223372036854775808 ≤ most) (m1 : most ≤ 9223372036854775807) (hB : BS w w.heap.size A b) :
    Calls Try.prog 7 #[.slice A b.length c, .int .i64 most] w (SplitP b most w) := by
  have HBS := Lib.hid hB
  have h22 := Try.info22r
  have hc1 := hc.1
  have hcm := hc.2
  unfold maxLen at hcm
  clear hB
  go_enter Try.func7, Try.ntmps7
  go_wp2_with fail
  refine (parse_any A c b w (by omega) hc HBS.out).mono ?_
  rintro e w2 ⟨hb2, ⟨hpe, rfl⟩ | ⟨hpe, v, x, rfl, hv, hx⟩⟩
  · have HPE := Lib.hid hpe
    have HW2 := Lib.hid hb2
    clear hpe hb2
    obtain ⟨pe, hpe⟩ : ∃ pe, perr b = pe := ⟨_, rfl⟩
    rw [hpe]
    have hpe0 : ¬ pe = 0 := by rw [← hpe]; exact HPE.out
    have hpeb : (pe == 0) = false := by simpa using hpe0
    have HPV := Lib.hid hpe
    clear hpe
    go_upto_region 2 with (show wpList _ _ _ ((⟨none, .store 47 (.tmp 6) _, _, _, _, none⟩ : Oper) :: _) _ _; refine wpList_store_mid rfl 47 (.tmp 6) _ rfl w2.heap.size 0 #[.int .u8 0, .int .i64 0, .int .u16 0, .bool false, .bool false, .int .i64 0, .int .u8 0, .int .u8 0, .int .u16 0, .bool false, .int .u64 0, .int .u64 0, .bool false, .int .u64 0, .int .u64 0, .slice none 0 0] rfl rfl ((Blk.new w2 47 #[.int .u8 0, .int .i64 0, .int .u16 0, .bool false, .bool false, .int .i64 0, .int .u8 0, .int .u8 0, .int .u16 0, .bool false, .int .u64 0, .int .u64 0, .bool false, .int .u64 0, .int .u64 0, .slice none 0 0]).there rfl) (by kernel_rfl) (by simp [Value.oneCell']) ?_)
    generalize hw3 : (World.setCells _ _ _ _) = w3
    have HKA := Lib.hid (show Kept (fun i => i = w2.heap.size) (w2.alloc (.cells #[.int .u8 0, .int .i64 0, .int .u16 0, .bool false, .bool false, .int .i64 0, .int .u8 0, .int .u8 0, .int .u16 0, .bool false, .int .u64 0, .int .u64 0, .bool false, .int .u64 0, .int .u64 0, .slice none 0 0] 47)) w3 by rw [← hw3]; exact Kept.setCells (S := fun i => i = w2.heap.size) rfl _ _ (Kept.refl _ _))
    have HW3 := Lib.hid (show Below w.heap.size w w3 from HW2.out.trans ((show Kept (fun _ => False) w2 w3 from ((Kept.refl _ _).alloc _).then HKA.out (fun i hi e => by omega)).below HW2.out.size (fun _ h => h.elim)))
    clear hw3 HKA
    go_wp2_with fail
    go_ret2
    exact ⟨HW3.out, _, by rw [splitR_err b most HPE.out, HPV.out]; rfl, by rw [splitR_err b most HPE.out]; exact FragsV.nil _ _⟩
  · have hpk := pk_of hpe
    have hwf := hpk.wf
    have hsz' := hpk.size
    have hxl0 := hpk.load
    have HPE := Lib.hid hpe
    have HK2 := Lib.hid hb2
    obtain ⟨ln, hln⟩ : ∃ ln : Nat, fld b 2 2 = (ln : Int) := ⟨(fld b 2 2).toNat, by have := hpk.hl; omega⟩
    obtain ⟨z, hz⟩ : ∃ z, hsz b = z := ⟨_, rfl⟩
    have z0 := hpk.h20
    have z1 := hpk.hl
    have z2 := hpk.lb
    have z60 := hsz_le b
    have HLN := Lib.hid hln
    have HZ := Lib.hid hz
    rw [hz] at z0 z1 hsz' hxl0 z60
    rw [hln] at z1 z2 hxl0
    have z1' : z ≤ ln := by omega
    have z2' : ln ≤ b.length := by omega
    obtain ⟨X, hX⟩ : ∃ X, pld b = X := ⟨_, rfl⟩
    rw [hX] at hx hxl0
    have HX := Lib.hid hX
    obtain ⟨m, hm⟩ : ∃ m, X.length = m := ⟨_, rfl⟩
    have hmz : m + z = ln := by rw [← hm, hxl0]; show ln - z + z = ln; omega
    obtain ⟨hd, hhd⟩ : ∃ hd, phd b = hd := ⟨_, rfl⟩
    have hlen : hd.len = (ln : Int) := by rw [← hhd]; exact hln
    have HHD := Lib.hid hhd
    rw [hhd] at hv hwf hsz' ⊢
    clear hpe hb2 hpk hX hhd hxl0
    obtain ⟨tos, len, id, stay, more, off, ttl, pr, sm, src, dst, os⟩ := hd
    obtain ⟨t0, t1, i0, i1, o0, o1, x0, x1, p0, p1, q0, q1, s0, s1, d0, d1, n0, n1, n40, n4⟩ := hwf
    simp only at hlen hv t0 t1 i0 i1 o0 o1 x0 x1 p0 p1 q0 q1 s0 s1 d0 d1 n40 n4
    subst hlen
    clear n0 n1
    have hoff : off ≤ 8191 := by
      have : (phd b).off ≤ 8191 := by show fld b 6 2 % 8192 ≤ 8191; omega
      rw [HHD.out] at this; exact this
    obtain ⟨OA, oc, hve, hoc1, hoc2⟩ := hv.shape
    obtain ⟨XA, xc, hxe, hxc1, hxc2⟩ := hx.shape
    obtain ⟨n, hn⟩ : ∃ n, os.length = n := ⟨_, rfl⟩
    have hsz2 : 20 + n = z := by rw [← hn]; exact hsz'
    rw [bcs_length, hn] at hve hoc1
    rw [bcs_length, hm] at hxe hxc1
    rw [hn] at n40 n4
    subst hve hxe
    have HN := Lib.hid hn
    have HM := Lib.hid hm
    have HOB2 := Lib.hid hv.byt
    have HXB2 := Lib.hid hx.byt
    simp only [Hd.cells]
    subst hsz2
    clear hv hx hsz' hz hln hn hm
    go_upto_region 2 with (show wpList _ _ _ ((⟨none, .store 47 (.tmp 6) _, _, _, _, none⟩ : Oper) :: _) _ _; refine wpList_store_mid rfl 47 (.tmp 6) _ rfl w2.heap.size 0 #[.int .u8 tos, .int .i64 (ln : Int), .int .u16 id, .bool stay, .bool more, .int .i64 off, .int .u8 ttl, .int .u8 pr, .int .u16 sm, .bool false, .int .u64 0, .int .u64 src, .bool false, .int .u64 0, .int .u64 dst, .slice OA n oc] rfl rfl ((Blk.new w2 47 #[.int .u8 0, .int .i64 0, .int .u16 0, .bool false, .bool false, .int .i64 0, .int .u8 0, .int .u8 0, .int .u16 0, .bool false, .int .u64 0, .int .u64 0, .bool false, .int .u64 0, .int .u64 0, .slice none 0 0]).there rfl) (by kernel_rfl) (by simp [Value.oneCell']) ?_)
    generalize hw3 : (World.setCells _ _ _ _) = w5
    have HH0 := Lib.hid (show Blk w5 w2.heap.size 47 #[.int .u8 tos, .int .i64 (ln : Int), .int .u16 id, .bool stay, .bool more, .int .i64 off, .int .u8 ttl, .int .u8 pr, .int .u16 sm, .bool false, .int .u64 0, .int .u64 src, .bool false, .int .u64 0, .int .u64 dst, .slice OA n oc] by rw [← hw3]; exact (Blk.new w2 47 #[.int .u8 0, .int .i64 0, .int .u16 0, .bool false, .bool false, .int .i64 0, .int .u8 0, .int .u8 0, .int .u16 0, .bool false, .int .u64 0, .int .u64 0, .bool false, .int .u64 0, .int .u64 0, .slice none 0 0]).setAll #[.int .u8 tos, .int .i64 (ln : Int), .int .u16 id, .bool stay, .bool more, .int .i64 off, .int .u8 ttl, .int .u8 pr, .int .u16 sm, .bool false, .int .u64 0, .int .u64 src, .bool false, .int .u64 0, .int .u64 dst, .slice OA n oc] rfl)
    have HKA := Lib.hid (show Kept (fun i => i = w2.heap.size) (w2.alloc (.cells #[.int .u8 0, .int .i64 0, .int .u16 0, .bool false, .bool false, .int .i64 0, .int .u8 0, .int .u8 0, .int .u16 0, .bool false, .int .u64 0, .int .u64 0, .bool false, .int .u64 0, .int .u64 0, .slice none 0 0] 47)) w5 by rw [← hw3]; exact Kept.setCells (S := fun i => i = w2.heap.size) rfl _ _ (Kept.refl _ _))
    have HKB := Lib.hid (show Kept (fun _ => False) w2 w5 from ((Kept.refl _ _).alloc _).then HKA.out (fun i hi e => by omega))
    have HW5 := Lib.hid (show Below w.heap.size w w5 from HK2.out.trans (HKB.out.below HK2.out.size (fun _ h => h.elim)))
    have HS5 := Lib.hid (show w.heap.size ≤ w5.heap.size from HW5.out.size)
    have HOB := Lib.hid (HOB2.out.on0 HKB.out)
    have HXB := Lib.hid (HXB2.out.on0 HKB.out)
    have HB5 := Lib.hid (HBS.out.onB HW5.out (Nat.le_refl _))
    clear hw3 HKA
    obtain ⟨ht, hht⟩ : ∃ ht, w2.heap.size = ht := ⟨_, rfl⟩
    rw [hht] at HH0 ⊢
    have HH := HH0
    clear hht HH0
    have cB := HH.out.cell
    have lB := HH.out.lt
    have XLN : X.length = m := HM.out
    have HXL := Lib.hid XLN
    clear XLN
    by_cases hA : (ln : Int) ≤ most
    · go_wp2_with fail
      have HTL := Lib.hid (show (b.take ln).length = ln by rw [List.length_take]; omega)
      refine (slClone_len A c (b.take ln) ln HTL.out w5 (by omega) (HB5.out.take_ ln)).mono ?_
      rintro e w6 ⟨v6, rfl, hr6, hb6⟩
      have HR6 := Lib.hid hr6.byt
      have HW6 := Lib.hid (HW5.out.trans (hb6.mono HS5.out))
      obtain ⟨NA, nc, hne, -, -⟩ := hr6.shape
      rw [bcs_length, HTL.out] at hne
      subst hne
      clear hr6 hb6
      go_wp2_with fail
      go_ret2
      have hsp := splitR_whole b most HPE.out (by rw [HLN.out]; exact hA)
      rw [HLN.out, show ((ln : Int)).toNat = ln from rfl] at hsp
      exact ⟨HW6.out.alloc HW6.out.size _, _, by rw [hsp]; rfl, by rw [hsp]; exact FragsV.one HR6.out HW6.out.size⟩
    cases stay with
    | true =>
      go_wp2_with fail
      go_ret2
      have hsp := splitR_stay b most HPE.out (by rw [HLN.out]; omega) (by rw [HHD.out])
      exact ⟨HW5.out, _, by rw [hsp]; rfl, by rw [hsp]; exact FragsV.nil _ _⟩
    | false =>
    by_cases hB : most < 20 + (n : Int) + 8
    · go_wp2_with (show wpList _ _ _ ((⟨_, .load 47 (.tmp 6), _, _, _, none⟩ : Oper) :: _) _ _; refine wpList_load_mid rfl 47 (.tmp 6) rfl ht 0 rfl [.int .u8 tos, .int .i64 (ln : Int), .int .u16 id, .bool false, .bool more, .int .i64 off, .int .u8 ttl, .int .u8 pr, .int .u16 sm, .bool false, .int .u64 0, .int .u64 src, .bool false, .int .u64 0, .int .u64 dst, .slice OA n oc] _ HH.out.range' Try.underlying47 rfl (by kernel_rfl) ?_)
      refine (size_any tos (ln : Int) id false more off ttl pr sm src dst OA n oc n40 w5).mono ?_
      rintro e w6 ⟨rfl, hb6⟩
      have HW6 := Lib.hid (HW5.out.trans (hb6.mono HS5.out))
      clear hb6 cB lB
      go_wp2_with fail
      go_ret2
      have hsp := splitR_short b most HPE.out (by rw [HLN.out]; omega) (by rw [HHD.out]; simp) (by rw [HZ.out]; omega)
      exact ⟨HW6.out, _, by rw [hsp]; rfl, by rw [hsp]; exact FragsV.nil _ _⟩
    go_wp2_with (show wpList _ _ _ ((⟨_, .load 47 (.tmp 6), _, _, _, none⟩ : Oper) :: _) _ _; refine wpList_load_mid rfl 47 (.tmp 6) rfl ht 0 rfl [.int .u8 tos, .int .i64 (ln : Int), .int .u16 id, .bool false, .bool more, .int .i64 off, .int .u8 ttl, .int .u8 pr, .int .u16 sm, .bool false, .int .u64 0, .int .u64 src, .bool false, .int .u64 0, .int .u64 dst, .slice OA n oc] _ HH.out.range' Try.underlying47 rfl (by kernel_rfl) ?_)
    refine (size_any tos (ln : Int) id false more off ttl pr sm src dst OA n oc n40 w5).mono ?_
    rintro e w6 ⟨rfl, hb6⟩
    have HK6 := Lib.hid (Kept.ofB (S := fun _ => False) hb6)
    have HH6 := Lib.hid (HH.out.kept HK6.out (fun h => h))
    clear hb6 cB lB
    have cB := HH6.out.cell
    have lB := HH6.out.lt
    go_wp2_with (show wpList _ _ _ ((⟨_, .load 47 (.tmp 6), _, _, _, none⟩ : Oper) :: _) _ _; refine wpList_load_mid rfl 47 (.tmp 6) rfl ht 0 rfl [.int .u8 tos, .int .i64 (ln : Int), .int .u16 id, .bool false, .bool more, .int .i64 off, .int .u8 ttl, .int .u8 pr, .int .u16 sm, .bool false, .int .u64 0, .int .u64 src, .bool false, .int .u64 0, .int .u64 dst, .slice OA n oc] _ HH6.out.range' Try.underlying47 rfl (by kernel_rfl) ?_)
    refine (size_any tos (ln : Int) id false more off ttl pr sm src dst OA n oc n40 w6).mono ?_
    rintro e w7 ⟨rfl, hb7⟩
    have HK7 := Lib.hid (HK6.out.trans (Kept.ofB (S := fun _ => False) hb7))
    have HH7 := Lib.hid (HH.out.kept HK7.out (fun h => h))
    have HW7 := Lib.hid (HW5.out.trans (HK7.out.below HS5.out (fun _ h => h.elim)))
    have HS7 := Lib.hid (show w.heap.size ≤ w7.heap.size from HW7.out.size)
    have HOB7 := Lib.hid (HOB.out.on0 HK7.out)
    have HXY7 := Lib.hid (HXB.out.on0 HK7.out)
    have HXB7 := Lib.hid (show BS w7 w7.heap.size XA X from (HXY7.out).bs_of)
    clear hb7 cB lB
    obtain ⟨R, hR⟩ : ∃ R, room most (20 + n) = R := ⟨_, rfl⟩
    have hrr := room_of most (20 + n) (by omega)
    rw [hR] at hrr
    obtain ⟨rm1, rm2, rm3, rm4⟩ := hrr
    have HRM := Lib.hid (show room most (hsz b) = R by rw [HZ.out, hR])
    clear hR
    have hmm : m ≤ 60000 := by omega
    go_upto_region 11 with fail
    rw [show (most - (20 + (n : Int))) / 8 * 8 = (R : Int) by rw [rm1]; omega]
    clear rm1
    go_wp2_with fail
    go_loopw [10, 11] (fun l i wr => ∃ k : Nat, k ≤ cnt m R ∧ i = .int .i64 ((k * R : Nat) : Int) ∧ Hid (Recs wr w7.heap.size l (pieces (⟨tos, (ln : Int), id, false, more, off, ttl, pr, sm, src, dst, os⟩ : Hd) X R k)) ∧ Hid (Kept (fun _ => False) w7 wr) ∧ Hid (∀ j, j < k → fits (⟨tos, (ln : Int), id, false, more, off, ttl, pr, sm, src, dst, os⟩ : Hd) R j)) (fun _ i _ => m - (intOf i).toNat)
    case atStart => exact ⟨0, Nat.zero_le _, by simp, Lib.hid (Recs.nil _ _), Lib.hid (Kept.refl _ _), Lib.hid (fun j hj => by omega)⟩
    case round =>
      obtain ⟨k, hk, rfl, HR, HKr, HFT⟩ := hrel
      obtain ⟨a, ha⟩ : ∃ a, k * R = a := ⟨_, rfl⟩
      have hka := cnt_lt m R k (by omega)
      have hat := cnt_at m R k (by omega) hk
      have hkm := cnt_le m R (by omega)
      rw [ha] at hka hat ⊢
      have HA := Lib.hid ha
      clear ha
      obtain ⟨LA, lc, hle, -, -⟩ := HR.out.shape
      rw [pieces_len] at hle
      subst hle
      have HHr := Lib.hid (HH7.out.kept HKr.out (fun h => h))
      by_cases ham : a < m
      · have am1 : (a : Int) < (m : Int) := by omega
        have HKCN := Lib.hid (show k < cnt m R from hka.2 ham)
        obtain ⟨xb, xo, hxb, rfl, _⟩ := HXB7.out.at (k := 0) (by rw [HXL.out]; omega)
        have HXS := Lib.hid (show BS w7 w7.heap.size (some ⟨xb, xo, none⟩) X from HXB7.out)
        clear hka hat
        cases more with
        | true =>
          by_cases hlt : a + R < m
          · have HA1 := Lib.hid (show ((true || decide ((k + 1) * R < m)) : Bool) = true from rfl)
            have j1 : (a : Int) + (R : Int) < (m : Int) := by omega
            have jm : True := trivial
            have cB := HHr.out.cell
            have lB := HHr.out.lt
            go_upto_region 16 with fail
            try rw [jm]
            clear jm
            go_upto_region 17 with (first | (show wpList _ _ _ ((⟨_, .load 47 (.tmp 6), _, _, _, none⟩ : Oper) :: _) _ _; refine wpList_load_mid rfl 47 (.tmp 6) rfl ht 0 rfl [.int .u8 tos, .int .i64 (ln : Int), .int .u16 id, .bool false, .bool true, .int .i64 off, .int .u8 ttl, .int .u8 pr, .int .u16 sm, .bool false, .int .u64 0, .int .u64 src, .bool false, .int .u64 0, .int .u64 dst, .slice OA n oc] _ HHr.out.range' Try.underlying47 rfl (by kernel_rfl) ?_) | (show wpList _ _ _ ((⟨_, .load 47 (.tmp 6), _, _, _, none⟩ : Oper) :: _) _ _; refine wpList_load_mid rfl 47 (.tmp 6) rfl ht 0 rfl [.int .u8 tos, .int .i64 (ln : Int), .int .u16 id, .bool false, .bool true, .int .i64 off, .int .u8 ttl, .int .u8 pr, .int .u16 sm, .bool false, .int .u64 0, .int .u64 src, .bool false, .int .u64 0, .int .u64 dst, .slice OA n oc] _ (HHr.out.alloc _).range' Try.underlying47 rfl (by kernel_rfl) ?_) | (show wpList _ _ _ ((⟨none, .store 47 (.tmp 13) _, _, _, _, none⟩ : Oper) :: _) _ _; refine wpList_store_mid rfl 47 (.tmp 13) _ rfl wr.heap.size 0 #[.int .u8 tos, .int .i64 (ln : Int), .int .u16 id, .bool false, .bool true, .int .i64 off, .int .u8 ttl, .int .u8 pr, .int .u16 sm, .bool false, .int .u64 0, .int .u64 src, .bool false, .int .u64 0, .int .u64 dst, .slice OA n oc] rfl rfl ((Blk.new wr 47 #[.int .u8 0, .int .i64 0, .int .u16 0, .bool false, .bool false, .int .i64 0, .int .u8 0, .int .u8 0, .int .u16 0, .bool false, .int .u64 0, .int .u64 0, .bool false, .int .u64 0, .int .u64 0, .slice none 0 0]).there rfl) (by kernel_rfl) (by simp [Value.oneCell']) ?_))
            generalize hw8 : (World.setCells _ _ _ _) = w8
            have HP8 := Lib.hid (show Blk w8 wr.heap.size 47 #[.int .u8 tos, .int .i64 (ln : Int), .int .u16 id, .bool false, .bool true, .int .i64 off, .int .u8 ttl, .int .u8 pr, .int .u16 sm, .bool false, .int .u64 0, .int .u64 src, .bool false, .int .u64 0, .int .u64 dst, .slice OA n oc] by rw [← hw8]; exact (Blk.new wr 47 #[.int .u8 0, .int .i64 0, .int .u16 0, .bool false, .bool false, .int .i64 0, .int .u8 0, .int .u8 0, .int .u16 0, .bool false, .int .u64 0, .int .u64 0, .bool false, .int .u64 0, .int .u64 0, .slice none 0 0]).setAll #[.int .u8 tos, .int .i64 (ln : Int), .int .u16 id, .bool false, .bool true, .int .i64 off, .int .u8 ttl, .int .u8 pr, .int .u16 sm, .bool false, .int .u64 0, .int .u64 src, .bool false, .int .u64 0, .int .u64 dst, .slice OA n oc] rfl)
            have HKA := Lib.hid (show Kept (fun i => i = wr.heap.size) (wr.alloc (.cells #[.int .u8 0, .int .i64 0, .int .u16 0, .bool false, .bool false, .int .i64 0, .int .u8 0, .int .u8 0, .int .u16 0, .bool false, .int .u64 0, .int .u64 0, .bool false, .int .u64 0, .int .u64 0, .slice none 0 0] 47)) w8 by rw [← hw8]; exact Kept.setCells (S := fun i => i = wr.heap.size) rfl _ _ (Kept.refl _ _))
            have HKB := Lib.hid (show Kept (fun _ => False) wr w8 from ((Kept.refl _ _).alloc _).then HKA.out (fun i hi e => by omega))
            have HK8 := Lib.hid (HKr.out.trans HKB.out)
            have HH8 := Lib.hid (HHr.out.kept HKB.out (fun h => h))
            have HPT := Lib.hid (show w7.heap.size ≤ wr.heap.size from HKr.out.size)
            have HHT := Lib.hid (HHr.out.lt)
            clear hw8 HKA cB lB
            obtain ⟨pt, hpt⟩ : ∃ pt, wr.heap.size = pt := ⟨_, rfl⟩
            rw [hpt] at HP8 HPT HHT ⊢
            have HPTE := Lib.hid hpt
            clear hpt
            have cP := HP8.out.cell
            have fP := HP8.out.frozen
            have lP := HP8.out.lt
            have cB := HH8.out.cell
            have lB := HH8.out.lt
            have nPB : ¬ ht = pt := by have := HHT.out; omega
            go_upto_region 19 with fail
            generalize hw9 : World.setCell _ _ _ = w9
            have HP9 := Lib.hid (show Blk w9 pt 47 #[.int .u8 tos, .int .i64 (ln : Int), .int .u16 id, .bool false, .bool true, .int .i64 (off + (a : Int) / 8), .int .u8 ttl, .int .u8 pr, .int .u16 sm, .bool false, .int .u64 0, .int .u64 src, .bool false, .int .u64 0, .int .u64 dst, .slice OA n oc] by rw [← hw9]; exact (HP8.out.set_ 5 _).set_to rfl)
            have HKs := Lib.hid (show Kept (fun i => i = pt) w8 w9 by rw [← hw9]; repeat (first | exact Kept.refl _ _ | refine Kept.setIn (S := fun i => i = pt) rfl ?_))
            have HKC := Lib.hid (show Kept (fun _ => False) wr w9 from HKB.out.then HKs.out (fun i hi e => by have := HPTE.out; omega))
            have HK9 := Lib.hid (HKr.out.trans HKC.out)
            have HRr0 := Lib.hid (HR.out.kept HKC.out)
            have HH9 := Lib.hid (HHr.out.kept HKC.out (fun h => h))
            have HOB9 := Lib.hid (HOB7.out.on0 HK9.out)
            clear hw9 HKs HKC cP fP lP cB lB
            have HKC := Lib.hid (show k < cnt m R from HKCN.out)
            obtain ⟨Y, hY⟩ : ∃ Y, (X.drop a).take R = Y := ⟨_, rfl⟩
            obtain ⟨ym, hym⟩ : ∃ ym, (a + R) - a = ym := ⟨_, rfl⟩
            have HYL := Lib.hid (show Y.length = ym by rw [← hY, List.length_take, List.length_drop, HXL.out]; omega)
            have ym1 : ym ≤ 60000 := by omega
            have HYB := Lib.hid (show BS w9 w9.heap.size (some ⟨xb, xo + a, none⟩) Y from by rw [← hY]; exact ((HXS.out.on HK9.out (fun _ _ h => h)).drop_ a).take_ R)
            obtain ⟨PK, hPK⟩ : ∃ PK, (⟨tos, (ln : Int), id, false, true, (off + (a : Int) / 8), ttl, pr, sm, src, dst, os⟩ : Hd).pkt Y = PK := ⟨_, rfl⟩
            have HPK := Lib.hid hPK
            have HPL := Lib.hid (show PK.length ≤ 100000 by rw [← hPK, Hd.pkt_len, HYL.out]; show 20 + os.length + ym ≤ 100000; rw [HN.out]; omega)
            have HPC := Lib.hid (show piece (⟨tos, (ln : Int), id, false, true, off, ttl, pr, sm, src, dst, os⟩ : Hd) X R k = PK by
              unfold piece pieceH
              rw [HA.out, hY, ← hPK, HXL.out, HA1.out, show ((a / 8 : Nat) : Int) = (a : Int) / 8 by omega])
            have HYM := Lib.hid hym
            clear hPK hY
            by_cases hf : off + (a : Int) / 8 ≤ 8191
            · have HF2 := Lib.hid (show fits (⟨tos, (ln : Int), id, false, true, off, ttl, pr, sm, src, dst, os⟩ : Hd) R k by unfold fits; rw [HA.out]; show off + ((a / 8 : Nat) : Int) ≤ 8191; omega)
              refine wp_region_kept 11 [(0, fun v u => v = .agg #[.int .u8 tos, .int .i64 (ln : Int), .int .u16 id, .bool false, .bool true, .int .i64 (off + (a : Int) / 8), .int .u8 ttl, .int .u8 pr, .int .u16 sm, .bool false, .int .u64 0, .int .u64 src, .bool false, .int .u64 0, .int .u64 dst, .slice OA n oc]), (5, fun v u => TupRow w7.heap.size PK u v)] ?st ?ne rfl (by kernel_rfl) (by kernel_rfl) ?_
              case st =>
                intro p hp
                simp only [List.mem_cons, List.not_mem_nil, or_false] at hp
                rcases hp with rfl | rfl
                · intro v u u' h hk; exact h
                · rintro v u u' ⟨pv, rfl, h⟩ hk; exact ⟨pv, rfl, h.kept hk (fun _ _ h => h)⟩
              case ne =>
                intro p hp
                simp only [List.mem_cons, List.not_mem_nil, or_false] at hp
                rcases hp with rfl | rfl
                · exact ⟨_, _, Kept.refl _ _, rfl⟩
                · exact ⟨_, _, (Kept.refl _ _).alloc (.cells (bcs PK).toArray 5), ⟨_, rfl, Row.of_blk (Blk.new _ _ _) (HK9.out.size) (by simp [bcs_length]; unfold maxLen; have := HPL.out; omega) (by simp)⟩⟩
              simp only [List.take_succ_cons, List.take_zero, List.drop_succ_cons, List.drop_zero]
              intro G pick hR hp1 hp2
              have r0 : ∀ u, (pick u).cell? ⟨pt, 0, none⟩ = some (.int .u8 tos) := fun u => ((hp1 u).cell HP9.out.lt (fun h => h) _).trans (HP9.out.cell 0)
              have r1 : ∀ u, (pick u).cell? ⟨pt, 1, none⟩ = some (.int .i64 (ln : Int)) := fun u => ((hp1 u).cell HP9.out.lt (fun h => h) _).trans (HP9.out.cell 1)
              have r2 : ∀ u, (pick u).cell? ⟨pt, 2, none⟩ = some (.int .u16 id) := fun u => ((hp1 u).cell HP9.out.lt (fun h => h) _).trans (HP9.out.cell 2)
              have r3 : ∀ u, (pick u).cell? ⟨pt, 3, none⟩ = some (.bool false) := fun u => ((hp1 u).cell HP9.out.lt (fun h => h) _).trans (HP9.out.cell 3)
              have r4 : ∀ u, (pick u).cell? ⟨pt, 4, none⟩ = some (.bool true) := fun u => ((hp1 u).cell HP9.out.lt (fun h => h) _).trans (HP9.out.cell 4)
              have r5 : ∀ u, (pick u).cell? ⟨pt, 5, none⟩ = some (.int .i64 (off + (a : Int) / 8)) := fun u => ((hp1 u).cell HP9.out.lt (fun h => h) _).trans (HP9.out.cell 5)
              have r6 : ∀ u, (pick u).cell? ⟨pt, 6, none⟩ = some (.int .u8 ttl) := fun u => ((hp1 u).cell HP9.out.lt (fun h => h) _).trans (HP9.out.cell 6)
              have r7 : ∀ u, (pick u).cell? ⟨pt, 7, none⟩ = some (.int .u8 pr) := fun u => ((hp1 u).cell HP9.out.lt (fun h => h) _).trans (HP9.out.cell 7)
              have r8 : ∀ u, (pick u).cell? ⟨pt, 8, none⟩ = some (.int .u16 sm) := fun u => ((hp1 u).cell HP9.out.lt (fun h => h) _).trans (HP9.out.cell 8)
              have r9 : ∀ u, (pick u).cell? ⟨pt, 9, none⟩ = some (.bool false) := fun u => ((hp1 u).cell HP9.out.lt (fun h => h) _).trans (HP9.out.cell 9)
              have r10 : ∀ u, (pick u).cell? ⟨pt, 10, none⟩ = some (.int .u64 0) := fun u => ((hp1 u).cell HP9.out.lt (fun h => h) _).trans (HP9.out.cell 10)
              have r11 : ∀ u, (pick u).cell? ⟨pt, 11, none⟩ = some (.int .u64 src) := fun u => ((hp1 u).cell HP9.out.lt (fun h => h) _).trans (HP9.out.cell 11)
              have r12 : ∀ u, (pick u).cell? ⟨pt, 12, none⟩ = some (.bool false) := fun u => ((hp1 u).cell HP9.out.lt (fun h => h) _).trans (HP9.out.cell 12)
              have r13 : ∀ u, (pick u).cell? ⟨pt, 13, none⟩ = some (.int .u64 0) := fun u => ((hp1 u).cell HP9.out.lt (fun h => h) _).trans (HP9.out.cell 13)
              have r14 : ∀ u, (pick u).cell? ⟨pt, 14, none⟩ = some (.int .u64 dst) := fun u => ((hp1 u).cell HP9.out.lt (fun h => h) _).trans (HP9.out.cell 14)
              have r15 : ∀ u, (pick u).cell? ⟨pt, 15, none⟩ = some (.slice OA n oc) := fun u => ((hp1 u).cell HP9.out.lt (fun h => h) _).trans (HP9.out.cell 15)
              repeat (first | (refine wpR_det hp2 rfl ((hR.rel _).trans rfl) rfl ?_; intro K hK; go_big_quiet_op; go_big_quiet_on) | (refine wpR_ptr hp2 rfl ((hR.rel _).trans rfl) rfl rfl ?_; intro K hK; go_big_quiet_op; go_big_quiet_on) | (refine wpR_skip pick rfl ?_; intro K hK; go_big_quiet_op; go_big_quiet_on))
              refine wpR_rel pick rfl ((hR.rel _).trans rfl) ((hR.turns _).trans rfl) ?_ ?_
              · intro u hu
                have hk := hR.since hu.1
                have hks := hk.size
                exact relAt_load_mid 47 (.tmp 13) rfl pt 0 rfl [.int .u8 tos, .int .i64 (ln : Int), .int .u16 id, .bool false, .bool true, .int .i64 (off + (a : Int) / 8), .int .u8 ttl, .int .u8 pr, .int .u16 sm, .bool false, .int .u64 0, .int .u64 src, .bool false, .int .u64 0, .int .u64 dst, .slice OA n oc] _ (((HP9.out).kept hk (fun h => h)).range') Try.underlying47 rfl (by kernel_rfl) ⟨hR.into0 (Kept.refl _ _), hR.put 0 rfl rfl rfl⟩
              intro v hv
              obtain ⟨u, _, hu⟩ := hv
              obtain rfl := hR.get 0 rfl hu
              clear hu
              intro K hK
              go_big_quiet_op
              go_big_quiet_on
              repeat (first | (refine wpR_det hp2 rfl ((hR.rel _).trans rfl) rfl ?_; intro K hK; go_big_quiet_op; go_big_quiet_on) | (refine wpR_ptr hp2 rfl ((hR.rel _).trans rfl) rfl rfl ?_; intro K hK; go_big_quiet_op; go_big_quiet_on) | (refine wpR_skip pick rfl ?_; intro K hK; go_big_quiet_op; go_big_quiet_on))
              refine wpR_rel pick rfl ((hR.rel _).trans rfl) ((hR.turns _).trans rfl) ?_ ?_
              · intro u hu
                have hk := hR.since hu.1
                have hks := hk.size
                have hz := packet_yes tos (ln : Int) id false true (off + (a : Int) / 8) ttl pr sm src dst OA n oc os HN.out n40 n4 t0 t1 i0 i1 (by omega) x0 x1 p0 p1 s0 s1 d0 d1 Y (some ⟨xb, xo + a, none⟩) ym (xc - a) HYL.out (by omega) (by omega) u ((HOB9.out.on0 hk).bs_of) ((HYB.out).on hk (fun _ _ h => h))
                unfold relAt
                go_simp
                refine hz.mono ?_
                rintro e w' ⟨v, rfl, hT, hb'⟩
                exact ⟨_, rfl, hR.intoB hb', hR.put 1 rfl rfl ⟨v, rfl, by rw [← HPK.out]; exact hT.more (Nat.le_trans HK9.out.size hks)⟩⟩
              intro v hv
              obtain ⟨u, _, hu⟩ := hv
              obtain ⟨pv, rfl, hT5⟩ := hR.get 1 rfl hu
              clear hu
              obtain ⟨PA, pc, hpv, -, -⟩ := hT5.shape
              rw [bcs_length] at hpv
              subst hpv
              clear hT5
              intro K hK
              go_big_quiet_op
              go_big_quiet_on
              repeat (first | (refine wpR_det hp2 rfl ((hR.rel _).trans rfl) rfl ?_; intro K hK; go_big_quiet_op; go_big_quiet_on) | (refine wpR_ptr hp2 rfl ((hR.rel _).trans rfl) rfl rfl ?_; intro K hK; go_big_quiet_op; go_big_quiet_on) | (refine wpR_skip pick rfl ?_; intro K hK; go_big_quiet_op; go_big_quiet_on))
              refine wpR_nil ?_
              intro w10 hk2 hF hM
              have HV0 := Lib.hid ((hR.get 1 rfl (hF _ _ (Got.upd_self _ _ _))))
              have HK10 := Lib.hid (HK9.out.trans hk2)
              have HRr := Lib.hid (HRr0.out.kept hk2)
              clear hF hM hk2 hp1 hp2 hR r0 r1 r2 r3 r4 r5 r6 r7 r8 r9 r10 r11 r12 r13 r14 r15
              as_aux_lemma =>
              have HPR := Lib.hid (show Row w10 w7.heap.size 5 (.slice PA PK.length pc) (bcs PK) by
                obtain ⟨pv, e, h⟩ := HV0.out
                injection e with e
                have : pv = .slice PA PK.length pc := by
                  have := congrArg (fun a => a[0]!) e
                  simpa using this.symm
                rw [this] at h; exact h)
              obtain ⟨vs, hvr, hvl, hve⟩ := HRr.out
              have HVR := Lib.hid hvr
              have HVL := Lib.hid hvl
              have HVE := Lib.hid hve
              clear hvr hvl hve HV0
              have hkl : (pieces (⟨tos, (ln : Int), id, false, true, off, ttl, pr, sm, src, dst, os⟩ : Hd) X R k).length = k := pieces_len _ _ _ _
              have HKL := Lib.hid (show vs.length = k by rw [HVL.out]; exact hkl)
              clear hkl
              go_wp2_with (at_builtin; refine wpList_append_row rfl (.tmp 89) (.tmp 91) 24 rfl w7.heap.size 22 (.slice none 0 0) 24 Try.underlying24 h22 rfl _ vs rfl (some ⟨w10.heap.size, 0, none⟩) 1 1 [.slice PA PK.length pc] rfl rfl (HVR.out.alloc _) (Src.new _ _ _ rfl) (by intro u hu; simp at hu; subst hu; rfl) (by rw [HKL.out]; unfold maxLen; simp; omega) (by rw [HKL.out]; simp; omega) (by rw [World.size_alloc]; have := HK10.out.size; omega) ?_)
              intro v2 w11 hrow hgr _
              have HK11 := Lib.hid (show Kept (fun _ => False) w7 w11 from (HK10.out.alloc _).then (kept_grown (S := fun i => w7.heap.size ≤ i) hgr (fun i e _ => (HVR.out.lt i e).1)) (fun i hi h => by omega))
              have HR2 := Lib.hid (show Recs w11 w7.heap.size v2 (pieces (⟨tos, (ln : Int), id, false, true, off, ttl, pr, sm, src, dst, os⟩ : Hd) X R (k + 1)) from by
                have h := Recs.snoc HVR.out HVL.out HVE.out HPR.out hrow hgr
                rw [pieces_succ, HPC.out]
                exact h)
              obtain ⟨VA2, vc2, hve2, -, -⟩ := HR2.out.shape
              rw [pieces_len] at hve2
              subst hve2
              clear hrow hgr
              as_aux_lemma =>
              go_wp2_with fail
              go_roundw
              case rel => exact ⟨k + 1, by have := HKC.out; omega, congrArg (Value.int .i64) (by have := HA.out; rw [Nat.add_mul]; omega), HR2, HK11, Lib.hid (fun j hj => by
                rcases Nat.lt_or_ge j k with h | h
                · exact HFT.out j h
                · obtain rfl : j = k := by omega
                  exact HF2.out)⟩
              case measure => simp [intOf]; omega
            · have HNF := Lib.hid (show ¬ fits (⟨tos, (ln : Int), id, false, true, off, ttl, pr, sm, src, dst, os⟩ : Hd) R k from fun hh => by unfold fits at hh; rw [HA.out] at hh; have hh2 : off + ((a / 8 : Nat) : Int) ≤ 8191 := hh; omega)
              refine wp_region_kept 11 [(0, fun v u => v = .agg #[.int .u8 tos, .int .i64 (ln : Int), .int .u16 id, .bool false, .bool true, .int .i64 (off + (a : Int) / 8), .int .u8 ttl, .int .u8 pr, .int .u16 sm, .bool false, .int .u64 0, .int .u64 src, .bool false, .int .u64 0, .int .u64 dst, .slice OA n oc]), (5, fun v u => v = .tuple #[.slice none 0 0, .int .i64 1])] ?st ?ne rfl (by kernel_rfl) (by kernel_rfl) ?_
              case st =>
                intro p hp
                simp only [List.mem_cons, List.not_mem_nil, or_false] at hp
                rcases hp with rfl | rfl
                · intro v u u' h hk; exact h
                · intro v u u' h hk; exact h
              case ne =>
                intro p hp
                simp only [List.mem_cons, List.not_mem_nil, or_false] at hp
                rcases hp with rfl | rfl
                · exact ⟨_, _, Kept.refl _ _, rfl⟩
                · exact ⟨_, _, Kept.refl _ _, rfl⟩
              simp only [List.take_succ_cons, List.take_zero, List.drop_succ_cons, List.drop_zero]
              intro G pick hR hp1 hp2
              have r0 : ∀ u, (pick u).cell? ⟨pt, 0, none⟩ = some (.int .u8 tos) := fun u => ((hp1 u).cell HP9.out.lt (fun h => h) _).trans (HP9.out.cell 0)
              have r1 : ∀ u, (pick u).cell? ⟨pt, 1, none⟩ = some (.int .i64 (ln : Int)) := fun u => ((hp1 u).cell HP9.out.lt (fun h => h) _).trans (HP9.out.cell 1)
              have r2 : ∀ u, (pick u).cell? ⟨pt, 2, none⟩ = some (.int .u16 id) := fun u => ((hp1 u).cell HP9.out.lt (fun h => h) _).trans (HP9.out.cell 2)
              have r3 : ∀ u, (pick u).cell? ⟨pt, 3, none⟩ = some (.bool false) := fun u => ((hp1 u).cell HP9.out.lt (fun h => h) _).trans (HP9.out.cell 3)
              have r4 : ∀ u, (pick u).cell? ⟨pt, 4, none⟩ = some (.bool true) := fun u => ((hp1 u).cell HP9.out.lt (fun h => h) _).trans (HP9.out.cell 4)
              have r5 : ∀ u, (pick u).cell? ⟨pt, 5, none⟩ = some (.int .i64 (off + (a : Int) / 8)) := fun u => ((hp1 u).cell HP9.out.lt (fun h => h) _).trans (HP9.out.cell 5)
              have r6 : ∀ u, (pick u).cell? ⟨pt, 6, none⟩ = some (.int .u8 ttl) := fun u => ((hp1 u).cell HP9.out.lt (fun h => h) _).trans (HP9.out.cell 6)
              have r7 : ∀ u, (pick u).cell? ⟨pt, 7, none⟩ = some (.int .u8 pr) := fun u => ((hp1 u).cell HP9.out.lt (fun h => h) _).trans (HP9.out.cell 7)
              have r8 : ∀ u, (pick u).cell? ⟨pt, 8, none⟩ = some (.int .u16 sm) := fun u => ((hp1 u).cell HP9.out.lt (fun h => h) _).trans (HP9.out.cell 8)
              have r9 : ∀ u, (pick u).cell? ⟨pt, 9, none⟩ = some (.bool false) := fun u => ((hp1 u).cell HP9.out.lt (fun h => h) _).trans (HP9.out.cell 9)
              have r10 : ∀ u, (pick u).cell? ⟨pt, 10, none⟩ = some (.int .u64 0) := fun u => ((hp1 u).cell HP9.out.lt (fun h => h) _).trans (HP9.out.cell 10)
              have r11 : ∀ u, (pick u).cell? ⟨pt, 11, none⟩ = some (.int .u64 src) := fun u => ((hp1 u).cell HP9.out.lt (fun h => h) _).trans (HP9.out.cell 11)
              have r12 : ∀ u, (pick u).cell? ⟨pt, 12, none⟩ = some (.bool false) := fun u => ((hp1 u).cell HP9.out.lt (fun h => h) _).trans (HP9.out.cell 12)
              have r13 : ∀ u, (pick u).cell? ⟨pt, 13, none⟩ = some (.int .u64 0) := fun u => ((hp1 u).cell HP9.out.lt (fun h => h) _).trans (HP9.out.cell 13)
              have r14 : ∀ u, (pick u).cell? ⟨pt, 14, none⟩ = some (.int .u64 dst) := fun u => ((hp1 u).cell HP9.out.lt (fun h => h) _).trans (HP9.out.cell 14)
              have r15 : ∀ u, (pick u).cell? ⟨pt, 15, none⟩ = some (.slice OA n oc) := fun u => ((hp1 u).cell HP9.out.lt (fun h => h) _).trans (HP9.out.cell 15)
              repeat (first | (refine wpR_det hp2 rfl ((hR.rel _).trans rfl) rfl ?_; intro K hK; go_big_quiet_op; go_big_quiet_on) | (refine wpR_ptr hp2 rfl ((hR.rel _).trans rfl) rfl rfl ?_; intro K hK; go_big_quiet_op; go_big_quiet_on) | (refine wpR_skip pick rfl ?_; intro K hK; go_big_quiet_op; go_big_quiet_on))
              refine wpR_rel pick rfl ((hR.rel _).trans rfl) ((hR.turns _).trans rfl) ?_ ?_
              · intro u hu
                have hk := hR.since hu.1
                have hks := hk.size
                exact relAt_load_mid 47 (.tmp 13) rfl pt 0 rfl [.int .u8 tos, .int .i64 (ln : Int), .int .u16 id, .bool false, .bool true, .int .i64 (off + (a : Int) / 8), .int .u8 ttl, .int .u8 pr, .int .u16 sm, .bool false, .int .u64 0, .int .u64 src, .bool false, .int .u64 0, .int .u64 dst, .slice OA n oc] _ (((HP9.out).kept hk (fun h => h)).range') Try.underlying47 rfl (by kernel_rfl) ⟨hR.into0 (Kept.refl _ _), hR.put 0 rfl rfl rfl⟩
              intro v hv
              obtain ⟨u, _, hu⟩ := hv
              obtain rfl := hR.get 0 rfl hu
              clear hu
              intro K hK
              go_big_quiet_op
              go_big_quiet_on
              repeat (first | (refine wpR_det hp2 rfl ((hR.rel _).trans rfl) rfl ?_; intro K hK; go_big_quiet_op; go_big_quiet_on) | (refine wpR_ptr hp2 rfl ((hR.rel _).trans rfl) rfl rfl ?_; intro K hK; go_big_quiet_op; go_big_quiet_on) | (refine wpR_skip pick rfl ?_; intro K hK; go_big_quiet_op; go_big_quiet_on))
              refine wpR_rel pick rfl ((hR.rel _).trans rfl) ((hR.turns _).trans rfl) ?_ ?_
              · intro u hu
                have hk := hR.since hu.1
                have hks := hk.size
                have hz := packet_no tos (ln : Int) id false true (off + (a : Int) / 8) ttl pr sm src dst OA n oc os HN.out n40 n4 t0 t1 i0 i1 (by omega) x0 x1 p0 p1 s0 s1 d0 d1 Y (some ⟨xb, xo + a, none⟩) ym (xc - a) HYL.out (by omega) (by omega) u ((HOB9.out.on0 hk).bs_of) ((HYB.out).on hk (fun _ _ h => h))
                unfold relAt
                go_simp
                refine hz.mono ?_
                rintro e w' ⟨rfl, hb'⟩
                exact ⟨_, rfl, hR.intoB hb', hR.put 1 rfl rfl rfl⟩
              intro v hv
              obtain ⟨u, _, hu⟩ := hv
              obtain rfl := hR.get 1 rfl hu
              clear hu
              intro K hK
              go_big_quiet_op
              go_big_quiet_on
              repeat (first | (refine wpR_det hp2 rfl ((hR.rel _).trans rfl) rfl ?_; intro K hK; go_big_quiet_op; go_big_quiet_on) | (refine wpR_ptr hp2 rfl ((hR.rel _).trans rfl) rfl rfl ?_; intro K hK; go_big_quiet_op; go_big_quiet_on) | (refine wpR_skip pick rfl ?_; intro K hK; go_big_quiet_op; go_big_quiet_on))
              refine wpR_nil ?_
              intro w10 hk2 hF hM
              have HK10 := Lib.hid (HK9.out.trans hk2)
              clear hF hM hk2 hp1 hp2 hR r0 r1 r2 r3 r4 r5 r6 r7 r8 r9 r10 r11 r12 r13 r14 r15
              as_aux_lemma =>
              go_wp2_with fail
              go_ret2
              have hsp := splitR_far b most HPE.out (by rw [HLN.out]; omega) (by rw [HHD.out]; simp) (by rw [HZ.out]; omega) _ X R HHD.out HX.out HRM.out k (by rw [HXL.out]; exact HKC.out) HNF.out
              exact ⟨HW7.out.trans (HK10.out.below HS7.out (fun _ h => h.elim)), _, by rw [hsp]; rfl, by rw [hsp]; exact FragsV.nil _ _⟩
          · have HA1 := Lib.hid (show ((true || decide ((k + 1) * R < m)) : Bool) = true from rfl)
            have j1 : ¬ (a : Int) + (R : Int) < (m : Int) := by omega
            have jm : (if (m : Int) < (a : Int) + (R : Int) then (m : Int) else (a : Int) + (R : Int)) = (m : Int) := by split <;> omega
            have cB := HHr.out.cell
            have lB := HHr.out.lt
            go_upto_region 16 with fail
            try rw [jm]
            clear jm
            go_upto_region 17 with (first | (show wpList _ _ _ ((⟨_, .load 47 (.tmp 6), _, _, _, none⟩ : Oper) :: _) _ _; refine wpList_load_mid rfl 47 (.tmp 6) rfl ht 0 rfl [.int .u8 tos, .int .i64 (ln : Int), .int .u16 id, .bool false, .bool true, .int .i64 off, .int .u8 ttl, .int .u8 pr, .int .u16 sm, .bool false, .int .u64 0, .int .u64 src, .bool false, .int .u64 0, .int .u64 dst, .slice OA n oc] _ HHr.out.range' Try.underlying47 rfl (by kernel_rfl) ?_) | (show wpList _ _ _ ((⟨_, .load 47 (.tmp 6), _, _, _, none⟩ : Oper) :: _) _ _; refine wpList_load_mid rfl 47 (.tmp 6) rfl ht 0 rfl [.int .u8 tos, .int .i64 (ln : Int), .int .u16 id, .bool false, .bool true, .int .i64 off, .int .u8 ttl, .int .u8 pr, .int .u16 sm, .bool false, .int .u64 0, .int .u64 src, .bool false, .int .u64 0, .int .u64 dst, .slice OA n oc] _ (HHr.out.alloc _).range' Try.underlying47 rfl (by kernel_rfl) ?_) | (show wpList _ _ _ ((⟨none, .store 47 (.tmp 13) _, _, _, _, none⟩ : Oper) :: _) _ _; refine wpList_store_mid rfl 47 (.tmp 13) _ rfl wr.heap.size 0 #[.int .u8 tos, .int .i64 (ln : Int), .int .u16 id, .bool false, .bool true, .int .i64 off, .int .u8 ttl, .int .u8 pr, .int .u16 sm, .bool false, .int .u64 0, .int .u64 src, .bool false, .int .u64 0, .int .u64 dst, .slice OA n oc] rfl rfl ((Blk.new wr 47 #[.int .u8 0, .int .i64 0, .int .u16 0, .bool false, .bool false, .int .i64 0, .int .u8 0, .int .u8 0, .int .u16 0, .bool false, .int .u64 0, .int .u64 0, .bool false, .int .u64 0, .int .u64 0, .slice none 0 0]).there rfl) (by kernel_rfl) (by simp [Value.oneCell']) ?_))
            generalize hw8 : (World.setCells _ _ _ _) = w8
            have HP8 := Lib.hid (show Blk w8 wr.heap.size 47 #[.int .u8 tos, .int .i64 (ln : Int), .int .u16 id, .bool false, .bool true, .int .i64 off, .int .u8 ttl, .int .u8 pr, .int .u16 sm, .bool false, .int .u64 0, .int .u64 src, .bool false, .int .u64 0, .int .u64 dst, .slice OA n oc] by rw [← hw8]; exact (Blk.new wr 47 #[.int .u8 0, .int .i64 0, .int .u16 0, .bool false, .bool false, .int .i64 0, .int .u8 0, .int .u8 0, .int .u16 0, .bool false, .int .u64 0, .int .u64 0, .bool false, .int .u64 0, .int .u64 0, .slice none 0 0]).setAll #[.int .u8 tos, .int .i64 (ln : Int), .int .u16 id, .bool false, .bool true, .int .i64 off, .int .u8 ttl, .int .u8 pr, .int .u16 sm, .bool false, .int .u64 0, .int .u64 src, .bool false, .int .u64 0, .int .u64 dst, .slice OA n oc] rfl)
            have HKA := Lib.hid (show Kept (fun i => i = wr.heap.size) (wr.alloc (.cells #[.int .u8 0, .int .i64 0, .int .u16 0, .bool false, .bool false, .int .i64 0, .int .u8 0, .int .u8 0, .int .u16 0, .bool false, .int .u64 0, .int .u64 0, .bool false, .int .u64 0, .int .u64 0, .slice none 0 0] 47)) w8 by rw [← hw8]; exact Kept.setCells (S := fun i => i = wr.heap.size) rfl _ _ (Kept.refl _ _))
            have HKB := Lib.hid (show Kept (fun _ => False) wr w8 from ((Kept.refl _ _).alloc _).then HKA.out (fun i hi e => by omega))
            have HK8 := Lib.hid (HKr.out.trans HKB.out)
            have HH8 := Lib.hid (HHr.out.kept HKB.out (fun h => h))
            have HPT := Lib.hid (show w7.heap.size ≤ wr.heap.size from HKr.out.size)
            have HHT := Lib.hid (HHr.out.lt)
            clear hw8 HKA cB lB
            obtain ⟨pt, hpt⟩ : ∃ pt, wr.heap.size = pt := ⟨_, rfl⟩
            rw [hpt] at HP8 HPT HHT ⊢
            have HPTE := Lib.hid hpt
            clear hpt
            have cP := HP8.out.cell
            have fP := HP8.out.frozen
            have lP := HP8.out.lt
            have cB := HH8.out.cell
            have lB := HH8.out.lt
            have nPB : ¬ ht = pt := by have := HHT.out; omega
            go_upto_region 19 with fail
            generalize hw9 : World.setCell _ _ _ = w9
            have HP9 := Lib.hid (show Blk w9 pt 47 #[.int .u8 tos, .int .i64 (ln : Int), .int .u16 id, .bool false, .bool true, .int .i64 (off + (a : Int) / 8), .int .u8 ttl, .int .u8 pr, .int .u16 sm, .bool false, .int .u64 0, .int .u64 src, .bool false, .int .u64 0, .int .u64 dst, .slice OA n oc] by rw [← hw9]; exact (HP8.out.set_ 5 _).set_to rfl)
            have HKs := Lib.hid (show Kept (fun i => i = pt) w8 w9 by rw [← hw9]; repeat (first | exact Kept.refl _ _ | refine Kept.setIn (S := fun i => i = pt) rfl ?_))
            have HKC := Lib.hid (show Kept (fun _ => False) wr w9 from HKB.out.then HKs.out (fun i hi e => by have := HPTE.out; omega))
            have HK9 := Lib.hid (HKr.out.trans HKC.out)
            have HRr0 := Lib.hid (HR.out.kept HKC.out)
            have HH9 := Lib.hid (HHr.out.kept HKC.out (fun h => h))
            have HOB9 := Lib.hid (HOB7.out.on0 HK9.out)
            clear hw9 HKs HKC cP fP lP cB lB
            have HKC := Lib.hid (show k < cnt m R from HKCN.out)
            obtain ⟨Y, hY⟩ : ∃ Y, (X.drop a).take R = Y := ⟨_, rfl⟩
            obtain ⟨ym, hym⟩ : ∃ ym, m - a = ym := ⟨_, rfl⟩
            have HYL := Lib.hid (show Y.length = ym by rw [← hY, List.length_take, List.length_drop, HXL.out]; omega)
            have ym1 : ym ≤ 60000 := by omega
            have HYB := Lib.hid (show BS w9 w9.heap.size (some ⟨xb, xo + a, none⟩) Y from by rw [← hY]; exact ((HXS.out.on HK9.out (fun _ _ h => h)).drop_ a).take_ R)
            obtain ⟨PK, hPK⟩ : ∃ PK, (⟨tos, (ln : Int), id, false, true, (off + (a : Int) / 8), ttl, pr, sm, src, dst, os⟩ : Hd).pkt Y = PK := ⟨_, rfl⟩
            have HPK := Lib.hid hPK
            have HPL := Lib.hid (show PK.length ≤ 100000 by rw [← hPK, Hd.pkt_len, HYL.out]; show 20 + os.length + ym ≤ 100000; rw [HN.out]; omega)
            have HPC := Lib.hid (show piece (⟨tos, (ln : Int), id, false, true, off, ttl, pr, sm, src, dst, os⟩ : Hd) X R k = PK by
              unfold piece pieceH
              rw [HA.out, hY, ← hPK, HXL.out, HA1.out, show ((a / 8 : Nat) : Int) = (a : Int) / 8 by omega])
            have HYM := Lib.hid hym
            clear hPK hY
            by_cases hf : off + (a : Int) / 8 ≤ 8191
            · have HF2 := Lib.hid (show fits (⟨tos, (ln : Int), id, false, true, off, ttl, pr, sm, src, dst, os⟩ : Hd) R k by unfold fits; rw [HA.out]; show off + ((a / 8 : Nat) : Int) ≤ 8191; omega)
              refine wp_region_kept 11 [(0, fun v u => v = .agg #[.int .u8 tos, .int .i64 (ln : Int), .int .u16 id, .bool false, .bool true, .int .i64 (off + (a : Int) / 8), .int .u8 ttl, .int .u8 pr, .int .u16 sm, .bool false, .int .u64 0, .int .u64 src, .bool false, .int .u64 0, .int .u64 dst, .slice OA n oc]), (5, fun v u => TupRow w7.heap.size PK u v)] ?st ?ne rfl (by kernel_rfl) (by kernel_rfl) ?_
              case st =>
                intro p hp
                simp only [List.mem_cons, List.not_mem_nil, or_false] at hp
                rcases hp with rfl | rfl
                · intro v u u' h hk; exact h
                · rintro v u u' ⟨pv, rfl, h⟩ hk; exact ⟨pv, rfl, h.kept hk (fun _ _ h => h)⟩
              case ne =>
                intro p hp
                simp only [List.mem_cons, List.not_mem_nil, or_false] at hp
                rcases hp with rfl | rfl
                · exact ⟨_, _, Kept.refl _ _, rfl⟩
                · exact ⟨_, _, (Kept.refl _ _).alloc (.cells (bcs PK).toArray 5), ⟨_, rfl, Row.of_blk (Blk.new _ _ _) (HK9.out.size) (by simp [bcs_length]; unfold maxLen; have := HPL.out; omega) (by simp)⟩⟩
              simp only [List.take_succ_cons, List.take_zero, List.drop_succ_cons, List.drop_zero]
              intro G pick hR hp1 hp2
              have r0 : ∀ u, (pick u).cell? ⟨pt, 0, none⟩ = some (.int .u8 tos) := fun u => ((hp1 u).cell HP9.out.lt (fun h => h) _).trans (HP9.out.cell 0)
              have r1 : ∀ u, (pick u).cell? ⟨pt, 1, none⟩ = some (.int .i64 (ln : Int)) := fun u => ((hp1 u).cell HP9.out.lt (fun h => h) _).trans (HP9.out.cell 1)
              have r2 : ∀ u, (pick u).cell? ⟨pt, 2, none⟩ = some (.int .u16 id) := fun u => ((hp1 u).cell HP9.out.lt (fun h => h) _).trans (HP9.out.cell 2)
              have r3 : ∀ u, (pick u).cell? ⟨pt, 3, none⟩ = some (.bool false) := fun u => ((hp1 u).cell HP9.out.lt (fun h => h) _).trans (HP9.out.cell 3)
              have r4 : ∀ u, (pick u).cell? ⟨pt, 4, none⟩ = some (.bool true) := fun u => ((hp1 u).cell HP9.out.lt (fun h => h) _).trans (HP9.out.cell 4)
              have r5 : ∀ u, (pick u).cell? ⟨pt, 5, none⟩ = some (.int .i64 (off + (a : Int) / 8)) := fun u => ((hp1 u).cell HP9.out.lt (fun h => h) _).trans (HP9.out.cell 5)
              have r6 : ∀ u, (pick u).cell? ⟨pt, 6, none⟩ = some (.int .u8 ttl) := fun u => ((hp1 u).cell HP9.out.lt (fun h => h) _).trans (HP9.out.cell 6)
              have r7 : ∀ u, (pick u).cell? ⟨pt, 7, none⟩ = some (.int .u8 pr) := fun u => ((hp1 u).cell HP9.out.lt (fun h => h) _).trans (HP9.out.cell 7)
              have r8 : ∀ u, (pick u).cell? ⟨pt, 8, none⟩ = some (.int .u16 sm) := fun u => ((hp1 u).cell HP9.out.lt (fun h => h) _).trans (HP9.out.cell 8)
              have r9 : ∀ u, (pick u).cell? ⟨pt, 9, none⟩ = some (.bool false) := fun u => ((hp1 u).cell HP9.out.lt (fun h => h) _).trans (HP9.out.cell 9)
              have r10 : ∀ u, (pick u).cell? ⟨pt, 10, none⟩ = some (.int .u64 0) := fun u => ((hp1 u).cell HP9.out.lt (fun h => h) _).trans (HP9.out.cell 10)
              have r11 : ∀ u, (pick u).cell? ⟨pt, 11, none⟩ = some (.int .u64 src) := fun u => ((hp1 u).cell HP9.out.lt (fun h => h) _).trans (HP9.out.cell 11)
              have r12 : ∀ u, (pick u).cell? ⟨pt, 12, none⟩ = some (.bool false) := fun u => ((hp1 u).cell HP9.out.lt (fun h => h) _).trans (HP9.out.cell 12)
              have r13 : ∀ u, (pick u).cell? ⟨pt, 13, none⟩ = some (.int .u64 0) := fun u => ((hp1 u).cell HP9.out.lt (fun h => h) _).trans (HP9.out.cell 13)
              have r14 : ∀ u, (pick u).cell? ⟨pt, 14, none⟩ = some (.int .u64 dst) := fun u => ((hp1 u).cell HP9.out.lt (fun h => h) _).trans (HP9.out.cell 14)
              have r15 : ∀ u, (pick u).cell? ⟨pt, 15, none⟩ = some (.slice OA n oc) := fun u => ((hp1 u).cell HP9.out.lt (fun h => h) _).trans (HP9.out.cell 15)
              repeat (first | (refine wpR_det hp2 rfl ((hR.rel _).trans rfl) rfl ?_; intro K hK; go_big_quiet_op; go_big_quiet_on) | (refine wpR_ptr hp2 rfl ((hR.rel _).trans rfl) rfl rfl ?_; intro K hK; go_big_quiet_op; go_big_quiet_on) | (refine wpR_skip pick rfl ?_; intro K hK; go_big_quiet_op; go_big_quiet_on))
              refine wpR_rel pick rfl ((hR.rel _).trans rfl) ((hR.turns _).trans rfl) ?_ ?_
              · intro u hu
                have hk := hR.since hu.1
                have hks := hk.size
                exact relAt_load_mid 47 (.tmp 13) rfl pt 0 rfl [.int .u8 tos, .int .i64 (ln : Int), .int .u16 id, .bool false, .bool true, .int .i64 (off + (a : Int) / 8), .int .u8 ttl, .int .u8 pr, .int .u16 sm, .bool false, .int .u64 0, .int .u64 src, .bool false, .int .u64 0, .int .u64 dst, .slice OA n oc] _ (((HP9.out).kept hk (fun h => h)).range') Try.underlying47 rfl (by kernel_rfl) ⟨hR.into0 (Kept.refl _ _), hR.put 0 rfl rfl rfl⟩
              intro v hv
              obtain ⟨u, _, hu⟩ := hv
              obtain rfl := hR.get 0 rfl hu
              clear hu
              intro K hK
              go_big_quiet_op
              go_big_quiet_on
              repeat (first | (refine wpR_det hp2 rfl ((hR.rel _).trans rfl) rfl ?_; intro K hK; go_big_quiet_op; go_big_quiet_on) | (refine wpR_ptr hp2 rfl ((hR.rel _).trans rfl) rfl rfl ?_; intro K hK; go_big_quiet_op; go_big_quiet_on) | (refine wpR_skip pick rfl ?_; intro K hK; go_big_quiet_op; go_big_quiet_on))
              refine wpR_rel pick rfl ((hR.rel _).trans rfl) ((hR.turns _).trans rfl) ?_ ?_
              · intro u hu
                have hk := hR.since hu.1
                have hks := hk.size
                have hz := packet_yes tos (ln : Int) id false true (off + (a : Int) / 8) ttl pr sm src dst OA n oc os HN.out n40 n4 t0 t1 i0 i1 (by omega) x0 x1 p0 p1 s0 s1 d0 d1 Y (some ⟨xb, xo + a, none⟩) ym (xc - a) HYL.out (by omega) (by omega) u ((HOB9.out.on0 hk).bs_of) ((HYB.out).on hk (fun _ _ h => h))
                unfold relAt
                go_simp
                refine hz.mono ?_
                rintro e w' ⟨v, rfl, hT, hb'⟩
                exact ⟨_, rfl, hR.intoB hb', hR.put 1 rfl rfl ⟨v, rfl, by rw [← HPK.out]; exact hT.more (Nat.le_trans HK9.out.size hks)⟩⟩
              intro v hv
              obtain ⟨u, _, hu⟩ := hv
              obtain ⟨pv, rfl, hT5⟩ := hR.get 1 rfl hu
              clear hu
              obtain ⟨PA, pc, hpv, -, -⟩ := hT5.shape
              rw [bcs_length] at hpv
              subst hpv
              clear hT5
              intro K hK
              go_big_quiet_op
              go_big_quiet_on
              repeat (first | (refine wpR_det hp2 rfl ((hR.rel _).trans rfl) rfl ?_; intro K hK; go_big_quiet_op; go_big_quiet_on) | (refine wpR_ptr hp2 rfl ((hR.rel _).trans rfl) rfl rfl ?_; intro K hK; go_big_quiet_op; go_big_quiet_on) | (refine wpR_skip pick rfl ?_; intro K hK; go_big_quiet_op; go_big_quiet_on))
              refine wpR_nil ?_
              intro w10 hk2 hF hM
              have HV0 := Lib.hid ((hR.get 1 rfl (hF _ _ (Got.upd_self _ _ _))))
              have HK10 := Lib.hid (HK9.out.trans hk2)
              have HRr := Lib.hid (HRr0.out.kept hk2)
              clear hF hM hk2 hp1 hp2 hR r0 r1 r2 r3 r4 r5 r6 r7 r8 r9 r10 r11 r12 r13 r14 r15
              as_aux_lemma =>
              have HPR := Lib.hid (show Row w10 w7.heap.size 5 (.slice PA PK.length pc) (bcs PK) by
                obtain ⟨pv, e, h⟩ := HV0.out
                injection e with e
                have : pv = .slice PA PK.length pc := by
                  have := congrArg (fun a => a[0]!) e
                  simpa using this.symm
                rw [this] at h; exact h)
              obtain ⟨vs, hvr, hvl, hve⟩ := HRr.out
              have HVR := Lib.hid hvr
              have HVL := Lib.hid hvl
              have HVE := Lib.hid hve
              clear hvr hvl hve HV0
              have hkl : (pieces (⟨tos, (ln : Int), id, false, true, off, ttl, pr, sm, src, dst, os⟩ : Hd) X R k).length = k := pieces_len _ _ _ _
              have HKL := Lib.hid (show vs.length = k by rw [HVL.out]; exact hkl)
              clear hkl
              go_wp2_with (at_builtin; refine wpList_append_row rfl (.tmp 89) (.tmp 91) 24 rfl w7.heap.size 22 (.slice none 0 0) 24 Try.underlying24 h22 rfl _ vs rfl (some ⟨w10.heap.size, 0, none⟩) 1 1 [.slice PA PK.length pc] rfl rfl (HVR.out.alloc _) (Src.new _ _ _ rfl) (by intro u hu; simp at hu; subst hu; rfl) (by rw [HKL.out]; unfold maxLen; simp; omega) (by rw [HKL.out]; simp; omega) (by rw [World.size_alloc]; have := HK10.out.size; omega) ?_)
              intro v2 w11 hrow hgr _
              have HK11 := Lib.hid (show Kept (fun _ => False) w7 w11 from (HK10.out.alloc _).then (kept_grown (S := fun i => w7.heap.size ≤ i) hgr (fun i e _ => (HVR.out.lt i e).1)) (fun i hi h => by omega))
              have HR2 := Lib.hid (show Recs w11 w7.heap.size v2 (pieces (⟨tos, (ln : Int), id, false, true, off, ttl, pr, sm, src, dst, os⟩ : Hd) X R (k + 1)) from by
                have h := Recs.snoc HVR.out HVL.out HVE.out HPR.out hrow hgr
                rw [pieces_succ, HPC.out]
                exact h)
              obtain ⟨VA2, vc2, hve2, -, -⟩ := HR2.out.shape
              rw [pieces_len] at hve2
              subst hve2
              clear hrow hgr
              as_aux_lemma =>
              go_wp2_with fail
              go_roundw
              case rel => exact ⟨k + 1, by have := HKC.out; omega, congrArg (Value.int .i64) (by have := HA.out; rw [Nat.add_mul]; omega), HR2, HK11, Lib.hid (fun j hj => by
                rcases Nat.lt_or_ge j k with h | h
                · exact HFT.out j h
                · obtain rfl : j = k := by omega
                  exact HF2.out)⟩
              case measure => simp [intOf]; omega
            · have HNF := Lib.hid (show ¬ fits (⟨tos, (ln : Int), id, false, true, off, ttl, pr, sm, src, dst, os⟩ : Hd) R k from fun hh => by unfold fits at hh; rw [HA.out] at hh; have hh2 : off + ((a / 8 : Nat) : Int) ≤ 8191 := hh; omega)
              refine wp_region_kept 11 [(0, fun v u => v = .agg #[.int .u8 tos, .int .i64 (ln : Int), .int .u16 id, .bool false, .bool true, .int .i64 (off + (a : Int) / 8), .int .u8 ttl, .int .u8 pr, .int .u16 sm, .bool false, .int .u64 0, .int .u64 src, .bool false, .int .u64 0, .int .u64 dst, .slice OA n oc]), (5, fun v u => v = .tuple #[.slice none 0 0, .int .i64 1])] ?st ?ne rfl (by kernel_rfl) (by kernel_rfl) ?_
              case st =>
                intro p hp
                simp only [List.mem_cons, List.not_mem_nil, or_false] at hp
                rcases hp with rfl | rfl
                · intro v u u' h hk; exact h
                · intro v u u' h hk; exact h
              case ne =>
                intro p hp
                simp only [List.mem_cons, List.not_mem_nil, or_false] at hp
                rcases hp with rfl | rfl
                · exact ⟨_, _, Kept.refl _ _, rfl⟩
                · exact ⟨_, _, Kept.refl _ _, rfl⟩
              simp only [List.take_succ_cons, List.take_zero, List.drop_succ_cons, List.drop_zero]
              intro G pick hR hp1 hp2
              have r0 : ∀ u, (pick u).cell? ⟨pt, 0, none⟩ = some (.int .u8 tos) := fun u => ((hp1 u).cell HP9.out.lt (fun h => h) _).trans (HP9.out.cell 0)
              have r1 : ∀ u, (pick u).cell? ⟨pt, 1, none⟩ = some (.int .i64 (ln : Int)) := fun u => ((hp1 u).cell HP9.out.lt (fun h => h) _).trans (HP9.out.cell 1)
              have r2 : ∀ u, (pick u).cell? ⟨pt, 2, none⟩ = some (.int .u16 id) := fun u => ((hp1 u).cell HP9.out.lt (fun h => h) _).trans (HP9.out.cell 2)
              have r3 : ∀ u, (pick u).cell? ⟨pt, 3, none⟩ = some (.bool false) := fun u => ((hp1 u).cell HP9.out.lt (fun h => h) _).trans (HP9.out.cell 3)
              have r4 : ∀ u, (pick u).cell? ⟨pt, 4, none⟩ = some (.bool true) := fun u => ((hp1 u).cell HP9.out.lt (fun h => h) _).trans (HP9.out.cell 4)
              have r5 : ∀ u, (pick u).cell? ⟨pt, 5, none⟩ = some (.int .i64 (off + (a : Int) / 8)) := fun u => ((hp1 u).cell HP9.out.lt (fun h => h) _).trans (HP9.out.cell 5)
              have r6 : ∀ u, (pick u).cell? ⟨pt, 6, none⟩ = some (.int .u8 ttl) := fun u => ((hp1 u).cell HP9.out.lt (fun h => h) _).trans (HP9.out.cell 6)
              have r7 : ∀ u, (pick u).cell? ⟨pt, 7, none⟩ = some (.int .u8 pr) := fun u => ((hp1 u).cell HP9.out.lt (fun h => h) _).trans (HP9.out.cell 7)
              have r8 : ∀ u, (pick u).cell? ⟨pt, 8, none⟩ = some (.int .u16 sm) := fun u => ((hp1 u).cell HP9.out.lt (fun h => h) _).trans (HP9.out.cell 8)
              have r9 : ∀ u, (pick u).cell? ⟨pt, 9, none⟩ = some (.bool false) := fun u => ((hp1 u).cell HP9.out.lt (fun h => h) _).trans (HP9.out.cell 9)
              have r10 : ∀ u, (pick u).cell? ⟨pt, 10, none⟩ = some (.int .u64 0) := fun u => ((hp1 u).cell HP9.out.lt (fun h => h) _).trans (HP9.out.cell 10)
              have r11 : ∀ u, (pick u).cell? ⟨pt, 11, none⟩ = some (.int .u64 src) := fun u => ((hp1 u).cell HP9.out.lt (fun h => h) _).trans (HP9.out.cell 11)
              have r12 : ∀ u, (pick u).cell? ⟨pt, 12, none⟩ = some (.bool false) := fun u => ((hp1 u).cell HP9.out.lt (fun h => h) _).trans (HP9.out.cell 12)
              have r13 : ∀ u, (pick u).cell? ⟨pt, 13, none⟩ = some (.int .u64 0) := fun u => ((hp1 u).cell HP9.out.lt (fun h => h) _).trans (HP9.out.cell 13)
              have r14 : ∀ u, (pick u).cell? ⟨pt, 14, none⟩ = some (.int .u64 dst) := fun u => ((hp1 u).cell HP9.out.lt (fun h => h) _).trans (HP9.out.cell 14)
              have r15 : ∀ u, (pick u).cell? ⟨pt, 15, none⟩ = some (.slice OA n oc) := fun u => ((hp1 u).cell HP9.out.lt (fun h => h) _).trans (HP9.out.cell 15)
              repeat (first | (refine wpR_det hp2 rfl ((hR.rel _).trans rfl) rfl ?_; intro K hK; go_big_quiet_op; go_big_quiet_on) | (refine wpR_ptr hp2 rfl ((hR.rel _).trans rfl) rfl rfl ?_; intro K hK; go_big_quiet_op; go_big_quiet_on) | (refine wpR_skip pick rfl ?_; intro K hK; go_big_quiet_op; go_big_quiet_on))
              refine wpR_rel pick rfl ((hR.rel _).trans rfl) ((hR.turns _).trans rfl) ?_ ?_
              · intro u hu
                have hk := hR.since hu.1
                have hks := hk.size
                exact relAt_load_mid 47 (.tmp 13) rfl pt 0 rfl [.int .u8 tos, .int .i64 (ln : Int), .int .u16 id, .bool false, .bool true, .int .i64 (off + (a : Int) / 8), .int .u8 ttl, .int .u8 pr, .int .u16 sm, .bool false, .int .u64 0, .int .u64 src, .bool false, .int .u64 0, .int .u64 dst, .slice OA n oc] _ (((HP9.out).kept hk (fun h => h)).range') Try.underlying47 rfl (by kernel_rfl) ⟨hR.into0 (Kept.refl _ _), hR.put 0 rfl rfl rfl⟩
              intro v hv
              obtain ⟨u, _, hu⟩ := hv
              obtain rfl := hR.get 0 rfl hu
              clear hu
              intro K hK
              go_big_quiet_op
              go_big_quiet_on
              repeat (first | (refine wpR_det hp2 rfl ((hR.rel _).trans rfl) rfl ?_; intro K hK; go_big_quiet_op; go_big_quiet_on) | (refine wpR_ptr hp2 rfl ((hR.rel _).trans rfl) rfl rfl ?_; intro K hK; go_big_quiet_op; go_big_quiet_on) | (refine wpR_skip pick rfl ?_; intro K hK; go_big_quiet_op; go_big_quiet_on))
              refine wpR_rel pick rfl ((hR.rel _).trans rfl) ((hR.turns _).trans rfl) ?_ ?_
              · intro u hu
                have hk := hR.since hu.1
                have hks := hk.size
                have hz := packet_no tos (ln : Int) id false true (off + (a : Int) / 8) ttl pr sm src dst OA n oc os HN.out n40 n4 t0 t1 i0 i1 (by omega) x0 x1 p0 p1 s0 s1 d0 d1 Y (some ⟨xb, xo + a, none⟩) ym (xc - a) HYL.out (by omega) (by omega) u ((HOB9.out.on0 hk).bs_of) ((HYB.out).on hk (fun _ _ h => h))
                unfold relAt
                go_simp
                refine hz.mono ?_
                rintro e w' ⟨rfl, hb'⟩
                exact ⟨_, rfl, hR.intoB hb', hR.put 1 rfl rfl rfl⟩
              intro v hv
              obtain ⟨u, _, hu⟩ := hv
              obtain rfl := hR.get 1 rfl hu
              clear hu
              intro K hK
              go_big_quiet_op
              go_big_quiet_on
              repeat (first | (refine wpR_det hp2 rfl ((hR.rel _).trans rfl) rfl ?_; intro K hK; go_big_quiet_op; go_big_quiet_on) | (refine wpR_ptr hp2 rfl ((hR.rel _).trans rfl) rfl rfl ?_; intro K hK; go_big_quiet_op; go_big_quiet_on) | (refine wpR_skip pick rfl ?_; intro K hK; go_big_quiet_op; go_big_quiet_on))
              refine wpR_nil ?_
              intro w10 hk2 hF hM
              have HK10 := Lib.hid (HK9.out.trans hk2)
              clear hF hM hk2 hp1 hp2 hR r0 r1 r2 r3 r4 r5 r6 r7 r8 r9 r10 r11 r12 r13 r14 r15
              as_aux_lemma =>
              go_wp2_with fail
              go_ret2
              have hsp := splitR_far b most HPE.out (by rw [HLN.out]; omega) (by rw [HHD.out]; simp) (by rw [HZ.out]; omega) _ X R HHD.out HX.out HRM.out k (by rw [HXL.out]; exact HKC.out) HNF.out
              exact ⟨HW7.out.trans (HK10.out.below HS7.out (fun _ h => h.elim)), _, by rw [hsp]; rfl, by rw [hsp]; exact FragsV.nil _ _⟩
        | false =>
          by_cases hlt : a + R < m
          · have HA1 := Lib.hid (show ((false || decide ((k + 1) * R < m)) : Bool) = true by
              have : (k + 1) * R = a + R := by rw [Nat.add_mul, HA.out]; omega
              rw [this, decide_eq_true hlt]; rfl)
            have j1 : (a : Int) + (R : Int) < (m : Int) := by omega
            have jm : True := trivial
            have cB := HHr.out.cell
            have lB := HHr.out.lt
            go_upto_region 16 with fail
            try rw [jm]
            clear jm
            go_upto_region 17 with (first | (show wpList _ _ _ ((⟨_, .load 47 (.tmp 6), _, _, _, none⟩ : Oper) :: _) _ _; refine wpList_load_mid rfl 47 (.tmp 6) rfl ht 0 rfl [.int .u8 tos, .int .i64 (ln : Int), .int .u16 id, .bool false, .bool false, .int .i64 off, .int .u8 ttl, .int .u8 pr, .int .u16 sm, .bool false, .int .u64 0, .int .u64 src, .bool false, .int .u64 0, .int .u64 dst, .slice OA n oc] _ HHr.out.range' Try.underlying47 rfl (by kernel_rfl) ?_) | (show wpList _ _ _ ((⟨_, .load 47 (.tmp 6), _, _, _, none⟩ : Oper) :: _) _ _; refine wpList_load_mid rfl 47 (.tmp 6) rfl ht 0 rfl [.int .u8 tos, .int .i64 (ln : Int), .int .u16 id, .bool false, .bool false, .int .i64 off, .int .u8 ttl, .int .u8 pr, .int .u16 sm, .bool false, .int .u64 0, .int .u64 src, .bool false, .int .u64 0, .int .u64 dst, .slice OA n oc] _ (HHr.out.alloc _).range' Try.underlying47 rfl (by kernel_rfl) ?_) | (show wpList _ _ _ ((⟨none, .store 47 (.tmp 13) _, _, _, _, none⟩ : Oper) :: _) _ _; refine wpList_store_mid rfl 47 (.tmp 13) _ rfl wr.heap.size 0 #[.int .u8 tos, .int .i64 (ln : Int), .int .u16 id, .bool false, .bool false, .int .i64 off, .int .u8 ttl, .int .u8 pr, .int .u16 sm, .bool false, .int .u64 0, .int .u64 src, .bool false, .int .u64 0, .int .u64 dst, .slice OA n oc] rfl rfl ((Blk.new wr 47 #[.int .u8 0, .int .i64 0, .int .u16 0, .bool false, .bool false, .int .i64 0, .int .u8 0, .int .u8 0, .int .u16 0, .bool false, .int .u64 0, .int .u64 0, .bool false, .int .u64 0, .int .u64 0, .slice none 0 0]).there rfl) (by kernel_rfl) (by simp [Value.oneCell']) ?_))
            generalize hw8 : (World.setCells _ _ _ _) = w8
            have HP8 := Lib.hid (show Blk w8 wr.heap.size 47 #[.int .u8 tos, .int .i64 (ln : Int), .int .u16 id, .bool false, .bool false, .int .i64 off, .int .u8 ttl, .int .u8 pr, .int .u16 sm, .bool false, .int .u64 0, .int .u64 src, .bool false, .int .u64 0, .int .u64 dst, .slice OA n oc] by rw [← hw8]; exact (Blk.new wr 47 #[.int .u8 0, .int .i64 0, .int .u16 0, .bool false, .bool false, .int .i64 0, .int .u8 0, .int .u8 0, .int .u16 0, .bool false, .int .u64 0, .int .u64 0, .bool false, .int .u64 0, .int .u64 0, .slice none 0 0]).setAll #[.int .u8 tos, .int .i64 (ln : Int), .int .u16 id, .bool false, .bool false, .int .i64 off, .int .u8 ttl, .int .u8 pr, .int .u16 sm, .bool false, .int .u64 0, .int .u64 src, .bool false, .int .u64 0, .int .u64 dst, .slice OA n oc] rfl)
            have HKA := Lib.hid (show Kept (fun i => i = wr.heap.size) (wr.alloc (.cells #[.int .u8 0, .int .i64 0, .int .u16 0, .bool false, .bool false, .int .i64 0, .int .u8 0, .int .u8 0, .int .u16 0, .bool false, .int .u64 0, .int .u64 0, .bool false, .int .u64 0, .int .u64 0, .slice none 0 0] 47)) w8 by rw [← hw8]; exact Kept.setCells (S := fun i => i = wr.heap.size) rfl _ _ (Kept.refl _ _))
            have HKB := Lib.hid (show Kept (fun _ => False) wr w8 from ((Kept.refl _ _).alloc _).then HKA.out (fun i hi e => by omega))
            have HK8 := Lib.hid (HKr.out.trans HKB.out)
            have HH8 := Lib.hid (HHr.out.kept HKB.out (fun h => h))
            have HPT := Lib.hid (show w7.heap.size ≤ wr.heap.size from HKr.out.size)
            have HHT := Lib.hid (HHr.out.lt)
            clear hw8 HKA cB lB
            obtain ⟨pt, hpt⟩ : ∃ pt, wr.heap.size = pt := ⟨_, rfl⟩
            rw [hpt] at HP8 HPT HHT ⊢
            have HPTE := Lib.hid hpt
            clear hpt
            have cP := HP8.out.cell
            have fP := HP8.out.frozen
            have lP := HP8.out.lt
            have cB := HH8.out.cell
            have lB := HH8.out.lt
            have nPB : ¬ ht = pt := by have := HHT.out; omega
            go_upto_region 19 with fail
            generalize hw9 : World.setCell _ _ _ = w9
            have HP9 := Lib.hid (show Blk w9 pt 47 #[.int .u8 tos, .int .i64 (ln : Int), .int .u16 id, .bool false, .bool true, .int .i64 (off + (a : Int) / 8), .int .u8 ttl, .int .u8 pr, .int .u16 sm, .bool false, .int .u64 0, .int .u64 src, .bool false, .int .u64 0, .int .u64 dst, .slice OA n oc] by rw [← hw9]; exact (HP8.out.set_ 5 _).set_to rfl)
            have HKs := Lib.hid (show Kept (fun i => i = pt) w8 w9 by rw [← hw9]; repeat (first | exact Kept.refl _ _ | refine Kept.setIn (S := fun i => i = pt) rfl ?_))
            have HKC := Lib.hid (show Kept (fun _ => False) wr w9 from HKB.out.then HKs.out (fun i hi e => by have := HPTE.out; omega))
            have HK9 := Lib.hid (HKr.out.trans HKC.out)
            have HRr0 := Lib.hid (HR.out.kept HKC.out)
            have HH9 := Lib.hid (HHr.out.kept HKC.out (fun h => h))
            have HOB9 := Lib.hid (HOB7.out.on0 HK9.out)
            clear hw9 HKs HKC cP fP lP cB lB
            have HKC := Lib.hid (show k < cnt m R from HKCN.out)
            obtain ⟨Y, hY⟩ : ∃ Y, (X.drop a).take R = Y := ⟨_, rfl⟩
            obtain ⟨ym, hym⟩ : ∃ ym, (a + R) - a = ym := ⟨_, rfl⟩
            have HYL := Lib.hid (show Y.length = ym by rw [← hY, List.length_take, List.length_drop, HXL.out]; omega)
            have ym1 : ym ≤ 60000 := by omega
            have HYB := Lib.hid (show BS w9 w9.heap.size (some ⟨xb, xo + a, none⟩) Y from by rw [← hY]; exact ((HXS.out.on HK9.out (fun _ _ h => h)).drop_ a).take_ R)
            obtain ⟨PK, hPK⟩ : ∃ PK, (⟨tos, (ln : Int), id, false, true, (off + (a : Int) / 8), ttl, pr, sm, src, dst, os⟩ : Hd).pkt Y = PK := ⟨_, rfl⟩
            have HPK := Lib.hid hPK
            have HPL := Lib.hid (show PK.length ≤ 100000 by rw [← hPK, Hd.pkt_len, HYL.out]; show 20 + os.length + ym ≤ 100000; rw [HN.out]; omega)
            have HPC := Lib.hid (show piece (⟨tos, (ln : Int), id, false, false, off, ttl, pr, sm, src, dst, os⟩ : Hd) X R k = PK by
              unfold piece pieceH
              rw [HA.out, hY, ← hPK, HXL.out, HA1.out, show ((a / 8 : Nat) : Int) = (a : Int) / 8 by omega])
            have HYM := Lib.hid hym
            clear hPK hY
            by_cases hf : off + (a : Int) / 8 ≤ 8191
            · have HF2 := Lib.hid (show fits (⟨tos, (ln : Int), id, false, false, off, ttl, pr, sm, src, dst, os⟩ : Hd) R k by unfold fits; rw [HA.out]; show off + ((a / 8 : Nat) : Int) ≤ 8191; omega)
              refine wp_region_kept 11 [(0, fun v u => v = .agg #[.int .u8 tos, .int .i64 (ln : Int), .int .u16 id, .bool false, .bool true, .int .i64 (off + (a : Int) / 8), .int .u8 ttl, .int .u8 pr, .int .u16 sm, .bool false, .int .u64 0, .int .u64 src, .bool false, .int .u64 0, .int .u64 dst, .slice OA n oc]), (5, fun v u => TupRow w7.heap.size PK u v)] ?st ?ne rfl (by kernel_rfl) (by kernel_rfl) ?_
              case st =>
                intro p hp
                simp only [List.mem_cons, List.not_mem_nil, or_false] at hp
                rcases hp with rfl | rfl
                · intro v u u' h hk; exact h
                · rintro v u u' ⟨pv, rfl, h⟩ hk; exact ⟨pv, rfl, h.kept hk (fun _ _ h => h)⟩
              case ne =>
                intro p hp
                simp only [List.mem_cons, List.not_mem_nil, or_false] at hp
                rcases hp with rfl | rfl
                · exact ⟨_, _, Kept.refl _ _, rfl⟩
                · exact ⟨_, _, (Kept.refl _ _).alloc (.cells (bcs PK).toArray 5), ⟨_, rfl, Row.of_blk (Blk.new _ _ _) (HK9.out.size) (by simp [bcs_length]; unfold maxLen; have := HPL.out; omega) (by simp)⟩⟩
              simp only [List.take_succ_cons, List.take_zero, List.drop_succ_cons, List.drop_zero]
              intro G pick hR hp1 hp2
              have r0 : ∀ u, (pick u).cell? ⟨pt, 0, none⟩ = some (.int .u8 tos) := fun u => ((hp1 u).cell HP9.out.lt (fun h => h) _).trans (HP9.out.cell 0)
              have r1 : ∀ u, (pick u).cell? ⟨pt, 1, none⟩ = some (.int .i64 (ln : Int)) := fun u => ((hp1 u).cell HP9.out.lt (fun h => h) _).trans (HP9.out.cell 1)
              have r2 : ∀ u, (pick u).cell? ⟨pt, 2, none⟩ = some (.int .u16 id) := fun u => ((hp1 u).cell HP9.out.lt (fun h => h) _).trans (HP9.out.cell 2)
              have r3 : ∀ u, (pick u).cell? ⟨pt, 3, none⟩ = some (.bool false) := fun u => ((hp1 u).cell HP9.out.lt (fun h => h) _).trans (HP9.out.cell 3)
              have r4 : ∀ u, (pick u).cell? ⟨pt, 4, none⟩ = some (.bool true) := fun u => ((hp1 u).cell HP9.out.lt (fun h => h) _).trans (HP9.out.cell 4)
              have r5 : ∀ u, (pick u).cell? ⟨pt, 5, none⟩ = some (.int .i64 (off + (a : Int) / 8)) := fun u => ((hp1 u).cell HP9.out.lt (fun h => h) _).trans (HP9.out.cell 5)
              have r6 : ∀ u, (pick u).cell? ⟨pt, 6, none⟩ = some (.int .u8 ttl) := fun u => ((hp1 u).cell HP9.out.lt (fun h => h) _).trans (HP9.out.cell 6)
              have r7 : ∀ u, (pick u).cell? ⟨pt, 7, none⟩ = some (.int .u8 pr) := fun u => ((hp1 u).cell HP9.out.lt (fun h => h) _).trans (HP9.out.cell 7)
              have r8 : ∀ u, (pick u).cell? ⟨pt, 8, none⟩ = some (.int .u16 sm) := fun u => ((hp1 u).cell HP9.out.lt (fun h => h) _).trans (HP9.out.cell 8)
              have r9 : ∀ u, (pick u).cell? ⟨pt, 9, none⟩ = some (.bool false) := fun u => ((hp1 u).cell HP9.out.lt (fun h => h) _).trans (HP9.out.cell 9)
              have r10 : ∀ u, (pick u).cell? ⟨pt, 10, none⟩ = some (.int .u64 0) := fun u => ((hp1 u).cell HP9.out.lt (fun h => h) _).trans (HP9.out.cell 10)
              have r11 : ∀ u, (pick u).cell? ⟨pt, 11, none⟩ = some (.int .u64 src) := fun u => ((hp1 u).cell HP9.out.lt (fun h => h) _).trans (HP9.out.cell 11)
              have r12 : ∀ u, (pick u).cell? ⟨pt, 12, none⟩ = some (.bool false) := fun u => ((hp1 u).cell HP9.out.lt (fun h => h) _).trans (HP9.out.cell 12)
              have r13 : ∀ u, (pick u).cell? ⟨pt, 13, none⟩ = some (.int .u64 0) := fun u => ((hp1 u).cell HP9.out.lt (fun h => h) _).trans (HP9.out.cell 13)
              have r14 : ∀ u, (pick u).cell? ⟨pt, 14, none⟩ = some (.int .u64 dst) := fun u => ((hp1 u).cell HP9.out.lt (fun h => h) _).trans (HP9.out.cell 14)
              have r15 : ∀ u, (pick u).cell? ⟨pt, 15, none⟩ = some (.slice OA n oc) := fun u => ((hp1 u).cell HP9.out.lt (fun h => h) _).trans (HP9.out.cell 15)
              repeat (first | (refine wpR_det hp2 rfl ((hR.rel _).trans rfl) rfl ?_; intro K hK; go_big_quiet_op; go_big_quiet_on) | (refine wpR_ptr hp2 rfl ((hR.rel _).trans rfl) rfl rfl ?_; intro K hK; go_big_quiet_op; go_big_quiet_on) | (refine wpR_skip pick rfl ?_; intro K hK; go_big_quiet_op; go_big_quiet_on))
              refine wpR_rel pick rfl ((hR.rel _).trans rfl) ((hR.turns _).trans rfl) ?_ ?_
              · intro u hu
                have hk := hR.since hu.1
                have hks := hk.size
                exact relAt_load_mid 47 (.tmp 13) rfl pt 0 rfl [.int .u8 tos, .int .i64 (ln : Int), .int .u16 id, .bool false, .bool true, .int .i64 (off + (a : Int) / 8), .int .u8 ttl, .int .u8 pr, .int .u16 sm, .bool false, .int .u64 0, .int .u64 src, .bool false, .int .u64 0, .int .u64 dst, .slice OA n oc] _ (((HP9.out).kept hk (fun h => h)).range') Try.underlying47 rfl (by kernel_rfl) ⟨hR.into0 (Kept.refl _ _), hR.put 0 rfl rfl rfl⟩
              intro v hv
              obtain ⟨u, _, hu⟩ := hv
              obtain rfl := hR.get 0 rfl hu
              clear hu
              intro K hK
              go_big_quiet_op
              go_big_quiet_on
              repeat (first | (refine wpR_det hp2 rfl ((hR.rel _).trans rfl) rfl ?_; intro K hK; go_big_quiet_op; go_big_quiet_on) | (refine wpR_ptr hp2 rfl ((hR.rel _).trans rfl) rfl rfl ?_; intro K hK; go_big_quiet_op; go_big_quiet_on) | (refine wpR_skip pick rfl ?_; intro K hK; go_big_quiet_op; go_big_quiet_on))
              refine wpR_rel pick rfl ((hR.rel _).trans rfl) ((hR.turns _).trans rfl) ?_ ?_
              · intro u hu
                have hk := hR.since hu.1
                have hks := hk.size
                have hz := packet_yes tos (ln : Int) id false true (off + (a : Int) / 8) ttl pr sm src dst OA n oc os HN.out n40 n4 t0 t1 i0 i1 (by omega) x0 x1 p0 p1 s0 s1 d0 d1 Y (some ⟨xb, xo + a, none⟩) ym (xc - a) HYL.out (by omega) (by omega) u ((HOB9.out.on0 hk).bs_of) ((HYB.out).on hk (fun _ _ h => h))
                unfold relAt
                go_simp
                refine hz.mono ?_
                rintro e w' ⟨v, rfl, hT, hb'⟩
                exact ⟨_, rfl, hR.intoB hb', hR.put 1 rfl rfl ⟨v, rfl, by rw [← HPK.out]; exact hT.more (Nat.le_trans HK9.out.size hks)⟩⟩
              intro v hv
              obtain ⟨u, _, hu⟩ := hv
              obtain ⟨pv, rfl, hT5⟩ := hR.get 1 rfl hu
              clear hu
              obtain ⟨PA, pc, hpv, -, -⟩ := hT5.shape
              rw [bcs_length] at hpv
              subst hpv
              clear hT5
              intro K hK
              go_big_quiet_op
              go_big_quiet_on
              repeat (first | (refine wpR_det hp2 rfl ((hR.rel _).trans rfl) rfl ?_; intro K hK; go_big_quiet_op; go_big_quiet_on) | (refine wpR_ptr hp2 rfl ((hR.rel _).trans rfl) rfl rfl ?_; intro K hK; go_big_quiet_op; go_big_quiet_on) | (refine wpR_skip pick rfl ?_; intro K hK; go_big_quiet_op; go_big_quiet_on))
              refine wpR_nil ?_
              intro w10 hk2 hF hM
              have HV0 := Lib.hid ((hR.get 1 rfl (hF _ _ (Got.upd_self _ _ _))))
              have HK10 := Lib.hid (HK9.out.trans hk2)
              have HRr := Lib.hid (HRr0.out.kept hk2)
              clear hF hM hk2 hp1 hp2 hR r0 r1 r2 r3 r4 r5 r6 r7 r8 r9 r10 r11 r12 r13 r14 r15
              as_aux_lemma =>
              have HPR := Lib.hid (show Row w10 w7.heap.size 5 (.slice PA PK.length pc) (bcs PK) by
                obtain ⟨pv, e, h⟩ := HV0.out
                injection e with e
                have : pv = .slice PA PK.length pc := by
                  have := congrArg (fun a => a[0]!) e
                  simpa using this.symm
                rw [this] at h; exact h)
              obtain ⟨vs, hvr, hvl, hve⟩ := HRr.out
              have HVR := Lib.hid hvr
              have HVL := Lib.hid hvl
              have HVE := Lib.hid hve
              clear hvr hvl hve HV0
              have hkl : (pieces (⟨tos, (ln : Int), id, false, false, off, ttl, pr, sm, src, dst, os⟩ : Hd) X R k).length = k := pieces_len _ _ _ _
              have HKL := Lib.hid (show vs.length = k by rw [HVL.out]; exact hkl)
              clear hkl
              go_wp2_with (at_builtin; refine wpList_append_row rfl (.tmp 89) (.tmp 91) 24 rfl w7.heap.size 22 (.slice none 0 0) 24 Try.underlying24 h22 rfl _ vs rfl (some ⟨w10.heap.size, 0, none⟩) 1 1 [.slice PA PK.length pc] rfl rfl (HVR.out.alloc _) (Src.new _ _ _ rfl) (by intro u hu; simp at hu; subst hu; rfl) (by rw [HKL.out]; unfold maxLen; simp; omega) (by rw [HKL.out]; simp; omega) (by rw [World.size_alloc]; have := HK10.out.size; omega) ?_)
              intro v2 w11 hrow hgr _
              have HK11 := Lib.hid (show Kept (fun _ => False) w7 w11 from (HK10.out.alloc _).then (kept_grown (S := fun i => w7.heap.size ≤ i) hgr (fun i e _ => (HVR.out.lt i e).1)) (fun i hi h => by omega))
              have HR2 := Lib.hid (show Recs w11 w7.heap.size v2 (pieces (⟨tos, (ln : Int), id, false, false, off, ttl, pr, sm, src, dst, os⟩ : Hd) X R (k + 1)) from by
                have h := Recs.snoc HVR.out HVL.out HVE.out HPR.out hrow hgr
                rw [pieces_succ, HPC.out]
                exact h)
              obtain ⟨VA2, vc2, hve2, -, -⟩ := HR2.out.shape
              rw [pieces_len] at hve2
              subst hve2
              clear hrow hgr
              as_aux_lemma =>
              go_wp2_with fail
              go_roundw
              case rel => exact ⟨k + 1, by have := HKC.out; omega, congrArg (Value.int .i64) (by have := HA.out; rw [Nat.add_mul]; omega), HR2, HK11, Lib.hid (fun j hj => by
                rcases Nat.lt_or_ge j k with h | h
                · exact HFT.out j h
                · obtain rfl : j = k := by omega
                  exact HF2.out)⟩
              case measure => simp [intOf]; omega
            · have HNF := Lib.hid (show ¬ fits (⟨tos, (ln : Int), id, false, false, off, ttl, pr, sm, src, dst, os⟩ : Hd) R k from fun hh => by unfold fits at hh; rw [HA.out] at hh; have hh2 : off + ((a / 8 : Nat) : Int) ≤ 8191 := hh; omega)
              refine wp_region_kept 11 [(0, fun v u => v = .agg #[.int .u8 tos, .int .i64 (ln : Int), .int .u16 id, .bool false, .bool true, .int .i64 (off + (a : Int) / 8), .int .u8 ttl, .int .u8 pr, .int .u16 sm, .bool false, .int .u64 0, .int .u64 src, .bool false, .int .u64 0, .int .u64 dst, .slice OA n oc]), (5, fun v u => v = .tuple #[.slice none 0 0, .int .i64 1])] ?st ?ne rfl (by kernel_rfl) (by kernel_rfl) ?_
              case st =>
                intro p hp
                simp only [List.mem_cons, List.not_mem_nil, or_false] at hp
                rcases hp with rfl | rfl
                · intro v u u' h hk; exact h
                · intro v u u' h hk; exact h
              case ne =>
                intro p hp
                simp only [List.mem_cons, List.not_mem_nil, or_false] at hp
                rcases hp with rfl | rfl
                · exact ⟨_, _, Kept.refl _ _, rfl⟩
                · exact ⟨_, _, Kept.refl _ _, rfl⟩
              simp only [List.take_succ_cons, List.take_zero, List.drop_succ_cons, List.drop_zero]
              intro G pick hR hp1 hp2
              have r0 : ∀ u, (pick u).cell? ⟨pt, 0, none⟩ = some (.int .u8 tos) := fun u => ((hp1 u).cell HP9.out.lt (fun h => h) _).trans (HP9.out.cell 0)
              have r1 : ∀ u, (pick u).cell? ⟨pt, 1, none⟩ = some (.int .i64 (ln : Int)) := fun u => ((hp1 u).cell HP9.out.lt (fun h => h) _).trans (HP9.out.cell 1)
              have r2 : ∀ u, (pick u).cell? ⟨pt, 2, none⟩ = some (.int .u16 id) := fun u => ((hp1 u).cell HP9.out.lt (fun h => h) _).trans (HP9.out.cell 2)
              have r3 : ∀ u, (pick u).cell? ⟨pt, 3, none⟩ = some (.bool false) := fun u => ((hp1 u).cell HP9.out.lt (fun h => h) _).trans (HP9.out.cell 3)
              have r4 : ∀ u, (pick u).cell? ⟨pt, 4, none⟩ = some (.bool true) := fun u => ((hp1 u).cell HP9.out.lt (fun h => h) _).trans (HP9.out.cell 4)
              have r5 : ∀ u, (pick u).cell? ⟨pt, 5, none⟩ = some (.int .i64 (off + (a : Int) / 8)) := fun u => ((hp1 u).cell HP9.out.lt (fun h => h) _).trans (HP9.out.cell 5)
              have r6 : ∀ u, (pick u).cell? ⟨pt, 6, none⟩ = some (.int .u8 ttl) := fun u => ((hp1 u).cell HP9.out.lt (fun h => h) _).trans (HP9.out.cell 6)
              have r7 : ∀ u, (pick u).cell? ⟨pt, 7, none⟩ = some (.int .u8 pr) := fun u => ((hp1 u).cell HP9.out.lt (fun h => h) _).trans (HP9.out.cell 7)
              have r8 : ∀ u, (pick u).cell? ⟨pt, 8, none⟩ = some (.int .u16 sm) := fun u => ((hp1 u).cell HP9.out.lt (fun h => h) _).trans (HP9.out.cell 8)
              have r9 : ∀ u, (pick u).cell? ⟨pt, 9, none⟩ = some (.bool false) := fun u => ((hp1 u).cell HP9.out.lt (fun h => h) _).trans (HP9.out.cell 9)
              have r10 : ∀ u, (pick u).cell? ⟨pt, 10, none⟩ = some (.int .u64 0) := fun u => ((hp1 u).cell HP9.out.lt (fun h => h) _).trans (HP9.out.cell 10)
              have r11 : ∀ u, (pick u).cell? ⟨pt, 11, none⟩ = some (.int .u64 src) := fun u => ((hp1 u).cell HP9.out.lt (fun h => h) _).trans (HP9.out.cell 11)
              have r12 : ∀ u, (pick u).cell? ⟨pt, 12, none⟩ = some (.bool false) := fun u => ((hp1 u).cell HP9.out.lt (fun h => h) _).trans (HP9.out.cell 12)
              have r13 : ∀ u, (pick u).cell? ⟨pt, 13, none⟩ = some (.int .u64 0) := fun u => ((hp1 u).cell HP9.out.lt (fun h => h) _).trans (HP9.out.cell 13)
              have r14 : ∀ u, (pick u).cell? ⟨pt, 14, none⟩ = some (.int .u64 dst) := fun u => ((hp1 u).cell HP9.out.lt (fun h => h) _).trans (HP9.out.cell 14)
              have r15 : ∀ u, (pick u).cell? ⟨pt, 15, none⟩ = some (.slice OA n oc) := fun u => ((hp1 u).cell HP9.out.lt (fun h => h) _).trans (HP9.out.cell 15)
              repeat (first | (refine wpR_det hp2 rfl ((hR.rel _).trans rfl) rfl ?_; intro K hK; go_big_quiet_op; go_big_quiet_on) | (refine wpR_ptr hp2 rfl ((hR.rel _).trans rfl) rfl rfl ?_; intro K hK; go_big_quiet_op; go_big_quiet_on) | (refine wpR_skip pick rfl ?_; intro K hK; go_big_quiet_op; go_big_quiet_on))
              refine wpR_rel pick rfl ((hR.rel _).trans rfl) ((hR.turns _).trans rfl) ?_ ?_
              · intro u hu
                have hk := hR.since hu.1
                have hks := hk.size
                exact relAt_load_mid 47 (.tmp 13) rfl pt 0 rfl [.int .u8 tos, .int .i64 (ln : Int), .int .u16 id, .bool false, .bool true, .int .i64 (off + (a : Int) / 8), .int .u8 ttl, .int .u8 pr, .int .u16 sm, .bool false, .int .u64 0, .int .u64 src, .bool false, .int .u64 0, .int .u64 dst, .slice OA n oc] _ (((HP9.out).kept hk (fun h => h)).range') Try.underlying47 rfl (by kernel_rfl) ⟨hR.into0 (Kept.refl _ _), hR.put 0 rfl rfl rfl⟩
              intro v hv
              obtain ⟨u, _, hu⟩ := hv
              obtain rfl := hR.get 0 rfl hu
              clear hu
              intro K hK
              go_big_quiet_op
              go_big_quiet_on
              repeat (first | (refine wpR_det hp2 rfl ((hR.rel _).trans rfl) rfl ?_; intro K hK; go_big_quiet_op; go_big_quiet_on) | (refine wpR_ptr hp2 rfl ((hR.rel _).trans rfl) rfl rfl ?_; intro K hK; go_big_quiet_op; go_big_quiet_on) | (refine wpR_skip pick rfl ?_; intro K hK; go_big_quiet_op; go_big_quiet_on))
              refine wpR_rel pick rfl ((hR.rel _).trans rfl) ((hR.turns _).trans rfl) ?_ ?_
              · intro u hu
                have hk := hR.since hu.1
                have hks := hk.size
                have hz := packet_no tos (ln : Int) id false true (off + (a : Int) / 8) ttl pr sm src dst OA n oc os HN.out n40 n4 t0 t1 i0 i1 (by omega) x0 x1 p0 p1 s0 s1 d0 d1 Y (some ⟨xb, xo + a, none⟩) ym (xc - a) HYL.out (by omega) (by omega) u ((HOB9.out.on0 hk).bs_of) ((HYB.out).on hk (fun _ _ h => h))
                unfold relAt
                go_simp
                refine hz.mono ?_
                rintro e w' ⟨rfl, hb'⟩
                exact ⟨_, rfl, hR.intoB hb', hR.put 1 rfl rfl rfl⟩
              intro v hv
              obtain ⟨u, _, hu⟩ := hv
              obtain rfl := hR.get 1 rfl hu
              clear hu
              intro K hK
              go_big_quiet_op
              go_big_quiet_on
              repeat (first | (refine wpR_det hp2 rfl ((hR.rel _).trans rfl) rfl ?_; intro K hK; go_big_quiet_op; go_big_quiet_on) | (refine wpR_ptr hp2 rfl ((hR.rel _).trans rfl) rfl rfl ?_; intro K hK; go_big_quiet_op; go_big_quiet_on) | (refine wpR_skip pick rfl ?_; intro K hK; go_big_quiet_op; go_big_quiet_on))
              refine wpR_nil ?_
              intro w10 hk2 hF hM
              have HK10 := Lib.hid (HK9.out.trans hk2)
              clear hF hM hk2 hp1 hp2 hR r0 r1 r2 r3 r4 r5 r6 r7 r8 r9 r10 r11 r12 r13 r14 r15
              as_aux_lemma =>
              go_wp2_with fail
              go_ret2
              have hsp := splitR_far b most HPE.out (by rw [HLN.out]; omega) (by rw [HHD.out]; simp) (by rw [HZ.out]; omega) _ X R HHD.out HX.out HRM.out k (by rw [HXL.out]; exact HKC.out) HNF.out
              exact ⟨HW7.out.trans (HK10.out.below HS7.out (fun _ h => h.elim)), _, by rw [hsp]; rfl, by rw [hsp]; exact FragsV.nil _ _⟩
          · have HA1 := Lib.hid (show ((false || decide ((k + 1) * R < m)) : Bool) = false by
              have : (k + 1) * R = a + R := by rw [Nat.add_mul, HA.out]; omega
              rw [this, decide_eq_false hlt]; rfl)
            have j1 : ¬ (a : Int) + (R : Int) < (m : Int) := by omega
            have jm : (if (m : Int) < (a : Int) + (R : Int) then (m : Int) else (a : Int) + (R : Int)) = (m : Int) := by split <;> omega
            have cB := HHr.out.cell
            have lB := HHr.out.lt
            go_upto_region 16 with fail
            try rw [jm]
            clear jm
            go_upto_region 17 with (first | (show wpList _ _ _ ((⟨_, .load 47 (.tmp 6), _, _, _, none⟩ : Oper) :: _) _ _; refine wpList_load_mid rfl 47 (.tmp 6) rfl ht 0 rfl [.int .u8 tos, .int .i64 (ln : Int), .int .u16 id, .bool false, .bool false, .int .i64 off, .int .u8 ttl, .int .u8 pr, .int .u16 sm, .bool false, .int .u64 0, .int .u64 src, .bool false, .int .u64 0, .int .u64 dst, .slice OA n oc] _ HHr.out.range' Try.underlying47 rfl (by kernel_rfl) ?_) | (show wpList _ _ _ ((⟨_, .load 47 (.tmp 6), _, _, _, none⟩ : Oper) :: _) _ _; refine wpList_load_mid rfl 47 (.tmp 6) rfl ht 0 rfl [.int .u8 tos, .int .i64 (ln : Int), .int .u16 id, .bool false, .bool false, .int .i64 off, .int .u8 ttl, .int .u8 pr, .int .u16 sm, .bool false, .int .u64 0, .int .u64 src, .bool false, .int .u64 0, .int .u64 dst, .slice OA n oc] _ (HHr.out.alloc _).range' Try.underlying47 rfl (by kernel_rfl) ?_) | (show wpList _ _ _ ((⟨none, .store 47 (.tmp 13) _, _, _, _, none⟩ : Oper) :: _) _ _; refine wpList_store_mid rfl 47 (.tmp 13) _ rfl wr.heap.size 0 #[.int .u8 tos, .int .i64 (ln : Int), .int .u16 id, .bool false, .bool false, .int .i64 off, .int .u8 ttl, .int .u8 pr, .int .u16 sm, .bool false, .int .u64 0, .int .u64 src, .bool false, .int .u64 0, .int .u64 dst, .slice OA n oc] rfl rfl ((Blk.new wr 47 #[.int .u8 0, .int .i64 0, .int .u16 0, .bool false, .bool false, .int .i64 0, .int .u8 0, .int .u8 0, .int .u16 0, .bool false, .int .u64 0, .int .u64 0, .bool false, .int .u64 0, .int .u64 0, .slice none 0 0]).there rfl) (by kernel_rfl) (by simp [Value.oneCell']) ?_))
            generalize hw8 : (World.setCells _ _ _ _) = w8
            have HP8 := Lib.hid (show Blk w8 wr.heap.size 47 #[.int .u8 tos, .int .i64 (ln : Int), .int .u16 id, .bool false, .bool false, .int .i64 off, .int .u8 ttl, .int .u8 pr, .int .u16 sm, .bool false, .int .u64 0, .int .u64 src, .bool false, .int .u64 0, .int .u64 dst, .slice OA n oc] by rw [← hw8]; exact (Blk.new wr 47 #[.int .u8 0, .int .i64 0, .int .u16 0, .bool false, .bool false, .int .i64 0, .int .u8 0, .int .u8 0, .int .u16 0, .bool false, .int .u64 0, .int .u64 0, .bool false, .int .u64 0, .int .u64 0, .slice none 0 0]).setAll #[.int .u8 tos, .int .i64 (ln : Int), .int .u16 id, .bool false, .bool false, .int .i64 off, .int .u8 ttl, .int .u8 pr, .int .u16 sm, .bool false, .int .u64 0, .int .u64 src, .bool false, .int .u64 0, .int .u64 dst, .slice OA n oc] rfl)
            have HKA := Lib.hid (show Kept (fun i => i = wr.heap.size) (wr.alloc (.cells #[.int .u8 0, .int .i64 0, .int .u16 0, .bool false, .bool false, .int .i64 0, .int .u8 0, .int .u8 0, .int .u16 0, .bool false, .int .u64 0, .int .u64 0, .bool false, .int .u64 0, .int .u64 0, .slice none 0 0] 47)) w8 by rw [← hw8]; exact Kept.setCells (S := fun i => i = wr.heap.size) rfl _ _ (Kept.refl _ _))
            have HKB := Lib.hid (show Kept (fun _ => False) wr w8 from ((Kept.refl _ _).alloc _).then HKA.out (fun i hi e => by omega))
            have HK8 := Lib.hid (HKr.out.trans HKB.out)
            have HH8 := Lib.hid (HHr.out.kept HKB.out (fun h => h))
            have HPT := Lib.hid (show w7.heap.size ≤ wr.heap.size from HKr.out.size)
            have HHT := Lib.hid (HHr.out.lt)
            clear hw8 HKA cB lB
            obtain ⟨pt, hpt⟩ : ∃ pt, wr.heap.size = pt := ⟨_, rfl⟩
            rw [hpt] at HP8 HPT HHT ⊢
            have HPTE := Lib.hid hpt
            clear hpt
            have cP := HP8.out.cell
            have fP := HP8.out.frozen
            have lP := HP8.out.lt
            have cB := HH8.out.cell
            have lB := HH8.out.lt
            have nPB : ¬ ht = pt := by have := HHT.out; omega
            go_upto_region 19 with fail
            generalize hw9 : World.setCell _ _ _ = w9
            have HP9 := Lib.hid (show Blk w9 pt 47 #[.int .u8 tos, .int .i64 (ln : Int), .int .u16 id, .bool false, .bool false, .int .i64 (off + (a : Int) / 8), .int .u8 ttl, .int .u8 pr, .int .u16 sm, .bool false, .int .u64 0, .int .u64 src, .bool false, .int .u64 0, .int .u64 dst, .slice OA n oc] by rw [← hw9]; exact (HP8.out.set_ 5 _).set_to rfl)
            have HKs := Lib.hid (show Kept (fun i => i = pt) w8 w9 by rw [← hw9]; repeat (first | exact Kept.refl _ _ | refine Kept.setIn (S := fun i => i = pt) rfl ?_))
            have HKC := Lib.hid (show Kept (fun _ => False) wr w9 from HKB.out.then HKs.out (fun i hi e => by have := HPTE.out; omega))
            have HK9 := Lib.hid (HKr.out.trans HKC.out)
            have HRr0 := Lib.hid (HR.out.kept HKC.out)
            have HH9 := Lib.hid (HHr.out.kept HKC.out (fun h => h))
            have HOB9 := Lib.hid (HOB7.out.on0 HK9.out)
            clear hw9 HKs HKC cP fP lP cB lB
            have HKC := Lib.hid (show k < cnt m R from HKCN.out)
            obtain ⟨Y, hY⟩ : ∃ Y, (X.drop a).take R = Y := ⟨_, rfl⟩
            obtain ⟨ym, hym⟩ : ∃ ym, m - a = ym := ⟨_, rfl⟩
            have HYL := Lib.hid (show Y.length = ym by rw [← hY, List.length_take, List.length_drop, HXL.out]; omega)
            have ym1 : ym ≤ 60000 := by omega
            have HYB := Lib.hid (show BS w9 w9.heap.size (some ⟨xb, xo + a, none⟩) Y from by rw [← hY]; exact ((HXS.out.on HK9.out (fun _ _ h => h)).drop_ a).take_ R)
            obtain ⟨PK, hPK⟩ : ∃ PK, (⟨tos, (ln : Int), id, false, false, (off + (a : Int) / 8), ttl, pr, sm, src, dst, os⟩ : Hd).pkt Y = PK := ⟨_, rfl⟩
            have HPK := Lib.hid hPK
            have HPL := Lib.hid (show PK.length ≤ 100000 by rw [← hPK, Hd.pkt_len, HYL.out]; show 20 + os.length + ym ≤ 100000; rw [HN.out]; omega)
            have HPC := Lib.hid (show piece (⟨tos, (ln : Int), id, false, false, off, ttl, pr, sm, src, dst, os⟩ : Hd) X R k = PK by
              unfold piece pieceH
              rw [HA.out, hY, ← hPK, HXL.out, HA1.out, show ((a / 8 : Nat) : Int) = (a : Int) / 8 by omega])
            have HYM := Lib.hid hym
            clear hPK hY
            by_cases hf : off + (a : Int) / 8 ≤ 8191
            · have HF2 := Lib.hid (show fits (⟨tos, (ln : Int), id, false, false, off, ttl, pr, sm, src, dst, os⟩ : Hd) R k by unfold fits; rw [HA.out]; show off + ((a / 8 : Nat) : Int) ≤ 8191; omega)
              refine wp_region_kept 11 [(0, fun v u => v = .agg #[.int .u8 tos, .int .i64 (ln : Int), .int .u16 id, .bool false, .bool false, .int .i64 (off + (a : Int) / 8), .int .u8 ttl, .int .u8 pr, .int .u16 sm, .bool false, .int .u64 0, .int .u64 src, .bool false, .int .u64 0, .int .u64 dst, .slice OA n oc]), (5, fun v u => TupRow w7.heap.size PK u v)] ?st ?ne rfl (by kernel_rfl) (by kernel_rfl) ?_
              case st =>
                intro p hp
                simp only [List.mem_cons, List.not_mem_nil, or_false] at hp
                rcases hp with rfl | rfl
                · intro v u u' h hk; exact h
                · rintro v u u' ⟨pv, rfl, h⟩ hk; exact ⟨pv, rfl, h.kept hk (fun _ _ h => h)⟩
              case ne =>
                intro p hp
                simp only [List.mem_cons, List.not_mem_nil, or_false] at hp
                rcases hp with rfl | rfl
                · exact ⟨_, _, Kept.refl _ _, rfl⟩
                · exact ⟨_, _, (Kept.refl _ _).alloc (.cells (bcs PK).toArray 5), ⟨_, rfl, Row.of_blk (Blk.new _ _ _) (HK9.out.size) (by simp [bcs_length]; unfold maxLen; have := HPL.out; omega) (by simp)⟩⟩
              simp only [List.take_succ_cons, List.take_zero, List.drop_succ_cons, List.drop_zero]
              intro G pick hR hp1 hp2
              have r0 : ∀ u, (pick u).cell? ⟨pt, 0, none⟩ = some (.int .u8 tos) := fun u => ((hp1 u).cell HP9.out.lt (fun h => h) _).trans (HP9.out.cell 0)
              have r1 : ∀ u, (pick u).cell? ⟨pt, 1, none⟩ = some (.int .i64 (ln : Int)) := fun u => ((hp1 u).cell HP9.out.lt (fun h => h) _).trans (HP9.out.cell 1)
              have r2 : ∀ u, (pick u).cell? ⟨pt, 2, none⟩ = some (.int .u16 id) := fun u => ((hp1 u).cell HP9.out.lt (fun h => h) _).trans (HP9.out.cell 2)
              have r3 : ∀ u, (pick u).cell? ⟨pt, 3, none⟩ = some (.bool false) := fun u => ((hp1 u).cell HP9.out.lt (fun h => h) _).trans (HP9.out.cell 3)
              have r4 : ∀ u, (pick u).cell? ⟨pt, 4, none⟩ = some (.bool false) := fun u => ((hp1 u).cell HP9.out.lt (fun h => h) _).trans (HP9.out.cell 4)
              have r5 : ∀ u, (pick u).cell? ⟨pt, 5, none⟩ = some (.int .i64 (off + (a : Int) / 8)) := fun u => ((hp1 u).cell HP9.out.lt (fun h => h) _).trans (HP9.out.cell 5)
              have r6 : ∀ u, (pick u).cell? ⟨pt, 6, none⟩ = some (.int .u8 ttl) := fun u => ((hp1 u).cell HP9.out.lt (fun h => h) _).trans (HP9.out.cell 6)
              have r7 : ∀ u, (pick u).cell? ⟨pt, 7, none⟩ = some (.int .u8 pr) := fun u => ((hp1 u).cell HP9.out.lt (fun h => h) _).trans (HP9.out.cell 7)
              have r8 : ∀ u, (pick u).cell? ⟨pt, 8, none⟩ = some (.int .u16 sm) := fun u => ((hp1 u).cell HP9.out.lt (fun h => h) _).trans (HP9.out.cell 8)
              have r9 : ∀ u, (pick u).cell? ⟨pt, 9, none⟩ = some (.bool false) := fun u => ((hp1 u).cell HP9.out.lt (fun h => h) _).trans (HP9.out.cell 9)
              have r10 : ∀ u, (pick u).cell? ⟨pt, 10, none⟩ = some (.int .u64 0) := fun u => ((hp1 u).cell HP9.out.lt (fun h => h) _).trans (HP9.out.cell 10)
              have r11 : ∀ u, (pick u).cell? ⟨pt, 11, none⟩ = some (.int .u64 src) := fun u => ((hp1 u).cell HP9.out.lt (fun h => h) _).trans (HP9.out.cell 11)
              have r12 : ∀ u, (pick u).cell? ⟨pt, 12, none⟩ = some (.bool false) := fun u => ((hp1 u).cell HP9.out.lt (fun h => h) _).trans (HP9.out.cell 12)
              have r13 : ∀ u, (pick u).cell? ⟨pt, 13, none⟩ = some (.int .u64 0) := fun u => ((hp1 u).cell HP9.out.lt (fun h => h) _).trans (HP9.out.cell 13)
              have r14 : ∀ u, (pick u).cell? ⟨pt, 14, none⟩ = some (.int .u64 dst) := fun u => ((hp1 u).cell HP9.out.lt (fun h => h) _).trans (HP9.out.cell 14)
              have r15 : ∀ u, (pick u).cell? ⟨pt, 15, none⟩ = some (.slice OA n oc) := fun u => ((hp1 u).cell HP9.out.lt (fun h => h) _).trans (HP9.out.cell 15)
              repeat (first | (refine wpR_det hp2 rfl ((hR.rel _).trans rfl) rfl ?_; intro K hK; go_big_quiet_op; go_big_quiet_on) | (refine wpR_ptr hp2 rfl ((hR.rel _).trans rfl) rfl rfl ?_; intro K hK; go_big_quiet_op; go_big_quiet_on) | (refine wpR_skip pick rfl ?_; intro K hK; go_big_quiet_op; go_big_quiet_on))
              refine wpR_rel pick rfl ((hR.rel _).trans rfl) ((hR.turns _).trans rfl) ?_ ?_
              · intro u hu
                have hk := hR.since hu.1
                have hks := hk.size
                exact relAt_load_mid 47 (.tmp 13) rfl pt 0 rfl [.int .u8 tos, .int .i64 (ln : Int), .int .u16 id, .bool false, .bool false, .int .i64 (off + (a : Int) / 8), .int .u8 ttl, .int .u8 pr, .int .u16 sm, .bool false, .int .u64 0, .int .u64 src, .bool false, .int .u64 0, .int .u64 dst, .slice OA n oc] _ (((HP9.out).kept hk (fun h => h)).range') Try.underlying47 rfl (by kernel_rfl) ⟨hR.into0 (Kept.refl _ _), hR.put 0 rfl rfl rfl⟩
              intro v hv
              obtain ⟨u, _, hu⟩ := hv
              obtain rfl := hR.get 0 rfl hu
              clear hu
              intro K hK
              go_big_quiet_op
              go_big_quiet_on
              repeat (first | (refine wpR_det hp2 rfl ((hR.rel _).trans rfl) rfl ?_; intro K hK; go_big_quiet_op; go_big_quiet_on) | (refine wpR_ptr hp2 rfl ((hR.rel _).trans rfl) rfl rfl ?_; intro K hK; go_big_quiet_op; go_big_quiet_on) | (refine wpR_skip pick rfl ?_; intro K hK; go_big_quiet_op; go_big_quiet_on))
              refine wpR_rel pick rfl ((hR.rel _).trans rfl) ((hR.turns _).trans rfl) ?_ ?_
              · intro u hu
                have hk := hR.since hu.1
                have hks := hk.size
                have hz := packet_yes tos (ln : Int) id false false (off + (a : Int) / 8) ttl pr sm src dst OA n oc os HN.out n40 n4 t0 t1 i0 i1 (by omega) x0 x1 p0 p1 s0 s1 d0 d1 Y (some ⟨xb, xo + a, none⟩) ym (xc - a) HYL.out (by omega) (by omega) u ((HOB9.out.on0 hk).bs_of) ((HYB.out).on hk (fun _ _ h => h))
                unfold relAt
                go_simp
                refine hz.mono ?_
                rintro e w' ⟨v, rfl, hT, hb'⟩
                exact ⟨_, rfl, hR.intoB hb', hR.put 1 rfl rfl ⟨v, rfl, by rw [← HPK.out]; exact hT.more (Nat.le_trans HK9.out.size hks)⟩⟩
              intro v hv
              obtain ⟨u, _, hu⟩ := hv
              obtain ⟨pv, rfl, hT5⟩ := hR.get 1 rfl hu
              clear hu
              obtain ⟨PA, pc, hpv, -, -⟩ := hT5.shape
              rw [bcs_length] at hpv
              subst hpv
              clear hT5
              intro K hK
              go_big_quiet_op
              go_big_quiet_on
              repeat (first | (refine wpR_det hp2 rfl ((hR.rel _).trans rfl) rfl ?_; intro K hK; go_big_quiet_op; go_big_quiet_on) | (refine wpR_ptr hp2 rfl ((hR.rel _).trans rfl) rfl rfl ?_; intro K hK; go_big_quiet_op; go_big_quiet_on) | (refine wpR_skip pick rfl ?_; intro K hK; go_big_quiet_op; go_big_quiet_on))
              refine wpR_nil ?_
              intro w10 hk2 hF hM
              have HV0 := Lib.hid ((hR.get 1 rfl (hF _ _ (Got.upd_self _ _ _))))
              have HK10 := Lib.hid (HK9.out.trans hk2)
              have HRr := Lib.hid (HRr0.out.kept hk2)
              clear hF hM hk2 hp1 hp2 hR r0 r1 r2 r3 r4 r5 r6 r7 r8 r9 r10 r11 r12 r13 r14 r15
              as_aux_lemma =>
              have HPR := Lib.hid (show Row w10 w7.heap.size 5 (.slice PA PK.length pc) (bcs PK) by
                obtain ⟨pv, e, h⟩ := HV0.out
                injection e with e
                have : pv = .slice PA PK.length pc := by
                  have := congrArg (fun a => a[0]!) e
                  simpa using this.symm
                rw [this] at h; exact h)
              obtain ⟨vs, hvr, hvl, hve⟩ := HRr.out
              have HVR := Lib.hid hvr
              have HVL := Lib.hid hvl
              have HVE := Lib.hid hve
              clear hvr hvl hve HV0
              have hkl : (pieces (⟨tos, (ln : Int), id, false, false, off, ttl, pr, sm, src, dst, os⟩ : Hd) X R k).length = k := pieces_len _ _ _ _
              have HKL := Lib.hid (show vs.length = k by rw [HVL.out]; exact hkl)
              clear hkl
              go_wp2_with (at_builtin; refine wpList_append_row rfl (.tmp 89) (.tmp 91) 24 rfl w7.heap.size 22 (.slice none 0 0) 24 Try.underlying24 h22 rfl _ vs rfl (some ⟨w10.heap.size, 0, none⟩) 1 1 [.slice PA PK.length pc] rfl rfl (HVR.out.alloc _) (Src.new _ _ _ rfl) (by intro u hu; simp at hu; subst hu; rfl) (by rw [HKL.out]; unfold maxLen; simp; omega) (by rw [HKL.out]; simp; omega) (by rw [World.size_alloc]; have := HK10.out.size; omega) ?_)
              intro v2 w11 hrow hgr _
              have HK11 := Lib.hid (show Kept (fun _ => False) w7 w11 from (HK10.out.alloc _).then (kept_grown (S := fun i => w7.heap.size ≤ i) hgr (fun i e _ => (HVR.out.lt i e).1)) (fun i hi h => by omega))
              have HR2 := Lib.hid (show Recs w11 w7.heap.size v2 (pieces (⟨tos, (ln : Int), id, false, false, off, ttl, pr, sm, src, dst, os⟩ : Hd) X R (k + 1)) from by
                have h := Recs.snoc HVR.out HVL.out HVE.out HPR.out hrow hgr
                rw [pieces_succ, HPC.out]
                exact h)
              obtain ⟨VA2, vc2, hve2, -, -⟩ := HR2.out.shape
              rw [pieces_len] at hve2
              subst hve2
              clear hrow hgr
              as_aux_lemma =>
              go_wp2_with fail
              go_roundw
              case rel => exact ⟨k + 1, by have := HKC.out; omega, congrArg (Value.int .i64) (by have := HA.out; rw [Nat.add_mul]; omega), HR2, HK11, Lib.hid (fun j hj => by
                rcases Nat.lt_or_ge j k with h | h
                · exact HFT.out j h
                · obtain rfl : j = k := by omega
                  exact HF2.out)⟩
              case measure => simp [intOf]; omega
            · have HNF := Lib.hid (show ¬ fits (⟨tos, (ln : Int), id, false, false, off, ttl, pr, sm, src, dst, os⟩ : Hd) R k from fun hh => by unfold fits at hh; rw [HA.out] at hh; have hh2 : off + ((a / 8 : Nat) : Int) ≤ 8191 := hh; omega)
              refine wp_region_kept 11 [(0, fun v u => v = .agg #[.int .u8 tos, .int .i64 (ln : Int), .int .u16 id, .bool false, .bool false, .int .i64 (off + (a : Int) / 8), .int .u8 ttl, .int .u8 pr, .int .u16 sm, .bool false, .int .u64 0, .int .u64 src, .bool false, .int .u64 0, .int .u64 dst, .slice OA n oc]), (5, fun v u => v = .tuple #[.slice none 0 0, .int .i64 1])] ?st ?ne rfl (by kernel_rfl) (by kernel_rfl) ?_
              case st =>
                intro p hp
                simp only [List.mem_cons, List.not_mem_nil, or_false] at hp
                rcases hp with rfl | rfl
                · intro v u u' h hk; exact h
                · intro v u u' h hk; exact h
              case ne =>
                intro p hp
                simp only [List.mem_cons, List.not_mem_nil, or_false] at hp
                rcases hp with rfl | rfl
                · exact ⟨_, _, Kept.refl _ _, rfl⟩
                · exact ⟨_, _, Kept.refl _ _, rfl⟩
              simp only [List.take_succ_cons, List.take_zero, List.drop_succ_cons, List.drop_zero]
              intro G pick hR hp1 hp2
              have r0 : ∀ u, (pick u).cell? ⟨pt, 0, none⟩ = some (.int .u8 tos) := fun u => ((hp1 u).cell HP9.out.lt (fun h => h) _).trans (HP9.out.cell 0)
              have r1 : ∀ u, (pick u).cell? ⟨pt, 1, none⟩ = some (.int .i64 (ln : Int)) := fun u => ((hp1 u).cell HP9.out.lt (fun h => h) _).trans (HP9.out.cell 1)
              have r2 : ∀ u, (pick u).cell? ⟨pt, 2, none⟩ = some (.int .u16 id) := fun u => ((hp1 u).cell HP9.out.lt (fun h => h) _).trans (HP9.out.cell 2)
              have r3 : ∀ u, (pick u).cell? ⟨pt, 3, none⟩ = some (.bool false) := fun u => ((hp1 u).cell HP9.out.lt (fun h => h) _).trans (HP9.out.cell 3)
              have r4 : ∀ u, (pick u).cell? ⟨pt, 4, none⟩ = some (.bool false) := fun u => ((hp1 u).cell HP9.out.lt (fun h => h) _).trans (HP9.out.cell 4)
              have r5 : ∀ u, (pick u).cell? ⟨pt, 5, none⟩ = some (.int .i64 (off + (a : Int) / 8)) := fun u => ((hp1 u).cell HP9.out.lt (fun h => h) _).trans (HP9.out.cell 5)
              have r6 : ∀ u, (pick u).cell? ⟨pt, 6, none⟩ = some (.int .u8 ttl) := fun u => ((hp1 u).cell HP9.out.lt (fun h => h) _).trans (HP9.out.cell 6)
              have r7 : ∀ u, (pick u).cell? ⟨pt, 7, none⟩ = some (.int .u8 pr) := fun u => ((hp1 u).cell HP9.out.lt (fun h => h) _).trans (HP9.out.cell 7)
              have r8 : ∀ u, (pick u).cell? ⟨pt, 8, none⟩ = some (.int .u16 sm) := fun u => ((hp1 u).cell HP9.out.lt (fun h => h) _).trans (HP9.out.cell 8)
              have r9 : ∀ u, (pick u).cell? ⟨pt, 9, none⟩ = some (.bool false) := fun u => ((hp1 u).cell HP9.out.lt (fun h => h) _).trans (HP9.out.cell 9)
              have r10 : ∀ u, (pick u).cell? ⟨pt, 10, none⟩ = some (.int .u64 0) := fun u => ((hp1 u).cell HP9.out.lt (fun h => h) _).trans (HP9.out.cell 10)
              have r11 : ∀ u, (pick u).cell? ⟨pt, 11, none⟩ = some (.int .u64 src) := fun u => ((hp1 u).cell HP9.out.lt (fun h => h) _).trans (HP9.out.cell 11)
              have r12 : ∀ u, (pick u).cell? ⟨pt, 12, none⟩ = some (.bool false) := fun u => ((hp1 u).cell HP9.out.lt (fun h => h) _).trans (HP9.out.cell 12)
              have r13 : ∀ u, (pick u).cell? ⟨pt, 13, none⟩ = some (.int .u64 0) := fun u => ((hp1 u).cell HP9.out.lt (fun h => h) _).trans (HP9.out.cell 13)
              have r14 : ∀ u, (pick u).cell? ⟨pt, 14, none⟩ = some (.int .u64 dst) := fun u => ((hp1 u).cell HP9.out.lt (fun h => h) _).trans (HP9.out.cell 14)
              have r15 : ∀ u, (pick u).cell? ⟨pt, 15, none⟩ = some (.slice OA n oc) := fun u => ((hp1 u).cell HP9.out.lt (fun h => h) _).trans (HP9.out.cell 15)
              repeat (first | (refine wpR_det hp2 rfl ((hR.rel _).trans rfl) rfl ?_; intro K hK; go_big_quiet_op; go_big_quiet_on) | (refine wpR_ptr hp2 rfl ((hR.rel _).trans rfl) rfl rfl ?_; intro K hK; go_big_quiet_op; go_big_quiet_on) | (refine wpR_skip pick rfl ?_; intro K hK; go_big_quiet_op; go_big_quiet_on))
              refine wpR_rel pick rfl ((hR.rel _).trans rfl) ((hR.turns _).trans rfl) ?_ ?_
              · intro u hu
                have hk := hR.since hu.1
                have hks := hk.size
                exact relAt_load_mid 47 (.tmp 13) rfl pt 0 rfl [.int .u8 tos, .int .i64 (ln : Int), .int .u16 id, .bool false, .bool false, .int .i64 (off + (a : Int) / 8), .int .u8 ttl, .int .u8 pr, .int .u16 sm, .bool false, .int .u64 0, .int .u64 src, .bool false, .int .u64 0, .int .u64 dst, .slice OA n oc] _ (((HP9.out).kept hk (fun h => h)).range') Try.underlying47 rfl (by kernel_rfl) ⟨hR.into0 (Kept.refl _ _), hR.put 0 rfl rfl rfl⟩
              intro v hv
              obtain ⟨u, _, hu⟩ := hv
              obtain rfl := hR.get 0 rfl hu
              clear hu
              intro K hK
              go_big_quiet_op
              go_big_quiet_on
              repeat (first | (refine wpR_det hp2 rfl ((hR.rel _).trans rfl) rfl ?_; intro K hK; go_big_quiet_op; go_big_quiet_on) | (refine wpR_ptr hp2 rfl ((hR.rel _).trans rfl) rfl rfl ?_; intro K hK; go_big_quiet_op; go_big_quiet_on) | (refine wpR_skip pick rfl ?_; intro K hK; go_big_quiet_op; go_big_quiet_on))
              refine wpR_rel pick rfl ((hR.rel _).trans rfl) ((hR.turns _).trans rfl) ?_ ?_
              · intro u hu
                have hk := hR.since hu.1
                have hks := hk.size
                have hz := packet_no tos (ln : Int) id false false (off + (a : Int) / 8) ttl pr sm src dst OA n oc os HN.out n40 n4 t0 t1 i0 i1 (by omega) x0 x1 p0 p1 s0 s1 d0 d1 Y (some ⟨xb, xo + a, none⟩) ym (xc - a) HYL.out (by omega) (by omega) u ((HOB9.out.on0 hk).bs_of) ((HYB.out).on hk (fun _ _ h => h))
                unfold relAt
                go_simp
                refine hz.mono ?_
                rintro e w' ⟨rfl, hb'⟩
                exact ⟨_, rfl, hR.intoB hb', hR.put 1 rfl rfl rfl⟩
              intro v hv
              obtain ⟨u, _, hu⟩ := hv
              obtain rfl := hR.get 1 rfl hu
              clear hu
              intro K hK
              go_big_quiet_op
              go_big_quiet_on
              repeat (first | (refine wpR_det hp2 rfl ((hR.rel _).trans rfl) rfl ?_; intro K hK; go_big_quiet_op; go_big_quiet_on) | (refine wpR_ptr hp2 rfl ((hR.rel _).trans rfl) rfl rfl ?_; intro K hK; go_big_quiet_op; go_big_quiet_on) | (refine wpR_skip pick rfl ?_; intro K hK; go_big_quiet_op; go_big_quiet_on))
              refine wpR_nil ?_
              intro w10 hk2 hF hM
              have HK10 := Lib.hid (HK9.out.trans hk2)
              clear hF hM hk2 hp1 hp2 hR r0 r1 r2 r3 r4 r5 r6 r7 r8 r9 r10 r11 r12 r13 r14 r15
              as_aux_lemma =>
              go_wp2_with fail
              go_ret2
              have hsp := splitR_far b most HPE.out (by rw [HLN.out]; omega) (by rw [HHD.out]; simp) (by rw [HZ.out]; omega) _ X R HHD.out HX.out HRM.out k (by rw [HXL.out]; exact HKC.out) HNF.out
              exact ⟨HW7.out.trans (HK10.out.below HS7.out (fun _ h => h.elim)), _, by rw [hsp]; rfl, by rw [hsp]; exact FragsV.nil _ _⟩
      · have am1 : ¬ (a : Int) < (m : Int) := by omega
        have HKE := Lib.hid (hat ham)
        clear hka hat
        go_wp2_with fail
        go_ret2
        have hsp := splitR_all b most HPE.out (by rw [HLN.out]; omega) (by rw [HHD.out]; simp) (by rw [HZ.out]; omega) _ X R HHD.out HX.out HRM.out (fun j hj => HFT.out j (by have := HKE.out; rw [HXL.out] at hj; omega))
        rw [HXL.out, ← HKE.out] at hsp
        exact ⟨HW7.out.trans (HKr.out.below HS7.out (fun _ h => h.elim)), _, by rw [hsp]; rfl, by rw [hsp]; exact HR.out.frags HS7.out⟩
end Go.Proofs.Ytidooohgbiiikaa
