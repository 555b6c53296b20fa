/- ip4's Parse, walked. -/
import Derived.Test.YtdnbhmfofphblaaGreatDoorG
namespace Go.Proofs.YtdnbhmfofphblaaGreatDoor
set_option maxRecDepth 100000
open Go.RowKit
set_option linter.unusedVariables false
def ParseP (b : List UInt8) (w : World) (e : Ending) (w' : World) : Prop := Below w.heap.size w w' ∧
  ((perr b ≠ 0 ∧ e = .returned (.tuple #[.agg #[.int .u8 0, .int .i64 0, .int .u16 0, .bool false, .bool false, .int .i64 0, .int .u8 0, .int .u8 0, .int .u16 0, .bool false, .int .u64 0, .int .u64 0, .bool false, .int .u64 0, .int .u64 0, .slice none 0 0], .slice none 0 0, .int .i64 (perr b)])) ∨
   (perr b = 0 ∧ ∃ v x, e = .returned (.tuple #[.agg ((phd b).cells v), x, .int .i64 0]) ∧ Row w' w.heap.size 5 v (bcs (phd b).opts) ∧ Row w' w.heap.size 5 x (bcs (pld b))))
set_option maxRecDepth 100000 in
set_option maxHeartbeats 8000000 in
theorem parse_any (A : Option Addr) (c : Nat) (b : List UInt8) (w : World) (hl : b.length ≤ 100000) (hc : b.length ≤ c ∧ c ≤ maxLen) (hB : BS w w.heap.size A b) :
    Calls Tryz.prog 65 #[.slice A b.length c] w (ParseP b w) := by
  have HBS := Lib.hid hB
  clear hB
  go_enter Tryz.func65, Tryz.ntmps65
  go_upto_region 1 with fail
  obtain ⟨w1, hw1⟩ : ∃ w1 : World, w1 = w.alloc (.cells #[.int .u8 0, .int .i64 0, .int .u16 0, .bool false, .bool false, .int .i64 0, .int .u8 0, .int .u8 0, .int .u16 0, .bool false, .int .u64 0, .int .u64 0, .bool false, .int .u64 0, .int .u64 0, .slice none 0 0] 190) := ⟨_, rfl⟩
  have HR0 := Lib.hid (show Blk w1 w.heap.size 190 #[.int .u8 0, .int .i64 0, .int .u16 0, .bool false, .bool false, .int .i64 0, .int .u8 0, .int .u8 0, .int .u16 0, .bool false, .int .u64 0, .int .u64 0, .bool false, .int .u64 0, .int .u64 0, .slice none 0 0] by rw [hw1]; exact Blk.new _ _ _)
  have HKW := Lib.hid (show Below w.heap.size w w1 by rw [hw1]; exact (Below.refl _ _).alloc (Nat.le_refl _) _)
  have HS1 := Lib.hid (show w.heap.size ≤ w1.heap.size by rw [hw1]; simp)
  rw [← hw1]
  clear hw1
  obtain ⟨rb, hrb⟩ : ∃ rb, w.heap.size = rb := ⟨_, rfl⟩
  have HR1 : Hid (Blk w1 rb 190 #[.int .u8 0, .int .i64 0, .int .u16 0, .bool false, .bool false, .int .i64 0, .int .u8 0, .int .u8 0, .int .u16 0, .bool false, .int .u64 0, .int .u64 0, .bool false, .int .u64 0, .int .u64 0, .slice none 0 0]) := Lib.hid (by rw [← hrb]; exact HR0.out)
  rw [hrb]
  have HRBW := Lib.hid (show w.heap.size ≤ rb by omega)
  clear HR0 hrb
  have HB1 := Lib.hid (HBS.out.onB HKW.out (Nat.le_refl _))
  go_wp2_with fail
  refine (header_any A c b w1 hl hc HB1.out).mono ?_
  rintro e w2 ⟨hb2, ⟨hpe, rfl⟩ | ⟨hpe, v, rfl, hv⟩⟩
  · have HPE := Lib.hid hpe
    have HK2 := Lib.hid (Kept.ofB (S := fun _ => False) hb2)
    clear hpe hb2
    obtain ⟨pe, hpe⟩ : ∃ pe, perr b = pe := ⟨_, rfl⟩
    rw [hpe]
    have hpe0 : ¬ pe = 0 := by rw [← hpe]; exact HPE.out
    have hpeb : (pe == 0) = false := by simpa using hpe0
    have HPV := Lib.hid hpe
    clear hpe
    go_upto_region 2 with (show wpList _ _ _ ((⟨none, .store 190 (.tmp 5) _, _, _, _, none⟩ : Oper) :: _) _ _; refine wpList_store_mid rfl 190 (.tmp 5) _ rfl w2.heap.size 0 #[.int .u8 0, .int .i64 0, .int .u16 0, .bool false, .bool false, .int .i64 0, .int .u8 0, .int .u8 0, .int .u16 0, .bool false, .int .u64 0, .int .u64 0, .bool false, .int .u64 0, .int .u64 0, .slice none 0 0] rfl rfl ((Blk.new w2 190 #[.int .u8 0, .int .i64 0, .int .u16 0, .bool false, .bool false, .int .i64 0, .int .u8 0, .int .u8 0, .int .u16 0, .bool false, .int .u64 0, .int .u64 0, .bool false, .int .u64 0, .int .u64 0, .slice none 0 0]).there rfl) (by kernel_rfl) (by simp [Value.oneCell']) ?_)
    generalize hw3 : (World.setCells _ _ _ _) = w3
    have HKA := Lib.hid (show Kept (fun i => i = w2.heap.size) (w2.alloc (.cells #[.int .u8 0, .int .i64 0, .int .u16 0, .bool false, .bool false, .int .i64 0, .int .u8 0, .int .u8 0, .int .u16 0, .bool false, .int .u64 0, .int .u64 0, .bool false, .int .u64 0, .int .u64 0, .slice none 0 0] 190)) w3 by rw [← hw3]; exact Kept.setCells (S := fun i => i = w2.heap.size) rfl _ _ (Kept.refl _ _))
    have HK3 := Lib.hid (show Kept (fun _ => False) w1 w3 from (HK2.out.alloc _).then HKA.out (fun i hi e => by have := HK2.out.size; omega))
    have HR3 := Lib.hid (HR1.out.kept HK3.out (fun h => h))
    clear hw3 HKA
    go_wp2_with (show wpList _ _ _ ((⟨none, .store 190 (.tmp 2) _, _, _, _, none⟩ : Oper) :: _) _ _; refine wpList_store_mid rfl 190 (.tmp 2) _ rfl rb 0 #[.int .u8 0, .int .i64 0, .int .u16 0, .bool false, .bool false, .int .i64 0, .int .u8 0, .int .u8 0, .int .u16 0, .bool false, .int .u64 0, .int .u64 0, .bool false, .int .u64 0, .int .u64 0, .slice none 0 0] rfl rfl (HR3.out.there rfl) (by kernel_rfl) (by simp [Value.oneCell']) ?_)
    generalize hwz : (World.setCells _ _ _ _) = wz
    have HKz := Lib.hid (show Kept (fun i => i = rb) w3 wz by rw [← hwz]; exact Kept.setCells (S := fun i => i = rb) rfl _ _ (Kept.refl _ _))
    have HRzz := Lib.hid (show Blk wz rb 190 #[.int .u8 0, .int .i64 0, .int .u16 0, .bool false, .bool false, .int .i64 0, .int .u8 0, .int .u8 0, .int .u16 0, .bool false, .int .u64 0, .int .u64 0, .bool false, .int .u64 0, .int .u64 0, .slice none 0 0] by rw [← hwz]; exact HR3.out.setAll #[.int .u8 0, .int .i64 0, .int .u16 0, .bool false, .bool false, .int .i64 0, .int .u8 0, .int .u8 0, .int .u16 0, .bool false, .int .u64 0, .int .u64 0, .bool false, .int .u64 0, .int .u64 0, .slice none 0 0] rfl)
    clear hwz
    refine bodyPost_ret (results_blk_tmp2 (P := Tryz.prog) (show Tryz.f65.results = _ from rfl) _ _ rb 190 #[.int .u8 0, .int .i64 0, .int .u16 0, .bool false, .bool false, .int .i64 0, .int .u8 0, .int .u8 0, .int .u16 0, .bool false, .int .u64 0, .int .u64 0, .bool false, .int .u64 0, .int .u64 0, .slice none 0 0] _ rfl HRzz.out Tryz.underlying190 rfl (by kernel_rfl)) rfl ⟨HKW.out.trans (((HK3.out.mono (T := fun i => i = rb) (fun _ _ h => h.elim)).trans HKz.out).below HS1.out (fun i e => by have := HRBW.out; omega)), .inl ⟨HPE.out, ?_⟩⟩
    rw [HPV.out]
    rfl
  · have hpk := pk_of hpe
    have HPE := Lib.hid hpe
    have HK2 := Lib.hid (Kept.ofB (S := fun _ => False) hb2)
    obtain ⟨ln, hln⟩ : ∃ ln : Nat, fld b 2 2 = (ln : Int) := ⟨(fld b 2 2).toNat, by have := hpk.hl; omega⟩
    obtain ⟨z, hz⟩ : ∃ z, hsz b = z := ⟨_, rfl⟩
    have z0 := hpk.h20
    have z1 := hpk.hl
    have z2 := hpk.lb
    rw [hz] at z0 z1
    rw [hln] at z1 z2
    have z1' : z ≤ ln := by omega
    have z2' : ln ≤ b.length := by omega
    have HXE := Lib.hid (show pld b = (b.drop z).take (ln - z) by unfold pld; rw [hz, hln]; rfl)
    have hxl : ((b.drop z).take (ln - z)).length = ln - z := by rw [List.length_take, List.length_drop]; omega
    obtain ⟨X, hX⟩ : ∃ X, (b.drop z).take (ln - z) = X := ⟨_, rfl⟩
    rw [hX] at HXE hxl
    have HX := Lib.hid hX
    have HXL := Lib.hid hxl
    obtain ⟨hd, hhd⟩ : ∃ hd, phd b = hd := ⟨_, rfl⟩
    have hlen : hd.len = (ln : Int) := by rw [← hhd]; exact hln
    have HHD := Lib.hid hhd
    rw [hhd] at hv ⊢
    clear hpe hb2 hpk hX hxl hhd
    obtain ⟨tos, len, id, stay, more, off, ttl, pr, sm, src, dst, os⟩ := hd
    simp only at hlen hv
    subst hlen
    obtain ⟨OA, oc, hve, -, -⟩ := hv.shape
    obtain ⟨n, hn⟩ : ∃ n, os.length = n := ⟨_, rfl⟩
    rw [bcs_length, hn] at hve
    subst hve
    have HOB2 := Lib.hid hv
    have HZ := Lib.hid hz
    rw [hz]
    simp only [Hd.cells]
    clear hv hz hln hn
    go_upto_region 2 with (show wpList _ _ _ ((⟨none, .store 190 (.tmp 5) _, _, _, _, none⟩ : Oper) :: _) _ _; refine wpList_store_mid rfl 190 (.tmp 5) _ rfl w2.heap.size 0 #[.int .u8 tos, .int .i64 (ln : Int), .int .u16 id, .bool stay, .bool more, .int .i64 off, .int .u8 ttl, .int .u8 pr, .int .u16 sm, .bool false, .int .u64 0, .int .u64 src, .bool false, .int .u64 0, .int .u64 dst, .slice OA n oc] rfl rfl ((Blk.new w2 190 #[.int .u8 0, .int .i64 0, .int .u16 0, .bool false, .bool false, .int .i64 0, .int .u8 0, .int .u8 0, .int .u16 0, .bool false, .int .u64 0, .int .u64 0, .bool false, .int .u64 0, .int .u64 0, .slice none 0 0]).there rfl) (by kernel_rfl) (by simp [Value.oneCell']) ?_)
    generalize hw3 : (World.setCells _ _ _ _) = w5
    have HH0 := Lib.hid (show Blk w5 w2.heap.size 190 #[.int .u8 tos, .int .i64 (ln : Int), .int .u16 id, .bool stay, .bool more, .int .i64 off, .int .u8 ttl, .int .u8 pr, .int .u16 sm, .bool false, .int .u64 0, .int .u64 src, .bool false, .int .u64 0, .int .u64 dst, .slice OA n oc] by rw [← hw3]; exact (Blk.new w2 190 #[.int .u8 0, .int .i64 0, .int .u16 0, .bool false, .bool false, .int .i64 0, .int .u8 0, .int .u8 0, .int .u16 0, .bool false, .int .u64 0, .int .u64 0, .bool false, .int .u64 0, .int .u64 0, .slice none 0 0]).setAll #[.int .u8 tos, .int .i64 (ln : Int), .int .u16 id, .bool stay, .bool more, .int .i64 off, .int .u8 ttl, .int .u8 pr, .int .u16 sm, .bool false, .int .u64 0, .int .u64 src, .bool false, .int .u64 0, .int .u64 dst, .slice OA n oc] rfl)
    have HKA := Lib.hid (show Kept (fun i => i = w2.heap.size) (w2.alloc (.cells #[.int .u8 0, .int .i64 0, .int .u16 0, .bool false, .bool false, .int .i64 0, .int .u8 0, .int .u8 0, .int .u16 0, .bool false, .int .u64 0, .int .u64 0, .bool false, .int .u64 0, .int .u64 0, .slice none 0 0] 190)) w5 by rw [← hw3]; exact Kept.setCells (S := fun i => i = w2.heap.size) rfl _ _ (Kept.refl _ _))
    have HKB := Lib.hid (show Kept (fun _ => False) w2 w5 from ((Kept.refl _ _).alloc _).then HKA.out (fun i hi e => by omega))
    have HK5 := Lib.hid (HK2.out.trans HKB.out)
    have HOB := Lib.hid (HOB2.out.kept HKB.out (fun _ _ h => h))
    clear hw3 HKA
    obtain ⟨ht, hht⟩ : ∃ ht, w2.heap.size = ht := ⟨_, rfl⟩
    rw [hht] at HH0 ⊢
    have HH := HH0
    clear hht HH0
    have cB := HH.out.cell
    have lB := HH.out.lt
    go_upto_region 4 with fail
    have hcm := hc.2
    unfold maxLen at hcm
    have hc1 := hc.1
    have HBq := Lib.hid (HB1.out.on HK5.out (fun _ _ h => h))
    obtain ⟨bb, o, _, rfl, _⟩ := HBq.out.at (k := 0) (by omega)
    clear cB lB
    by_cases hcz : z < c
    · have HYB := Lib.hid (show BS w5 w5.heap.size (some ⟨bb, o + z, none⟩) X from by rw [← HX.out]; exact (HBq.out.drop_ z).take_ _)
      have j1 : (z : Int) < (c : Int) := by omega
      refine wp_region_kept 7 [(6, fun v u => Row u w5.heap.size 5 v (bcs X))] ?st ?ne rfl (by kernel_rfl) (by kernel_rfl) ?_
      case st =>
        intro p hp
        simp only [List.mem_cons, List.not_mem_nil, or_false] at hp
        subst hp
        · intro v u u' h hk; exact h.kept hk (fun _ _ h => h)
      case ne =>
        intro p hp
        simp only [List.mem_cons, List.not_mem_nil, or_false] at hp
        subst hp
        · exact ⟨_, _, (Kept.refl _ _).alloc (.cells (bcs X).toArray 5), Row.of_blk (Blk.new _ _ _) (Nat.le_refl _) (by have := HXL.out; simp [bcs_length]; unfold maxLen; omega) (by simp)⟩
      simp only [List.take_succ_cons, List.take_zero, List.drop_succ_cons, List.drop_zero]
      intro G pick hR hp1 hp2
      have p0 : ∀ u, (pick u).cell? ⟨ht, 0, none⟩ = some (.int .u8 tos) := fun u => ((hp1 u).cell HH.out.lt (fun h => h) _).trans (HH.out.cell 0)
      have p1 : ∀ u, (pick u).cell? ⟨ht, 1, none⟩ = some (.int .i64 (ln : Int)) := fun u => ((hp1 u).cell HH.out.lt (fun h => h) _).trans (HH.out.cell 1)
      have p2 : ∀ u, (pick u).cell? ⟨ht, 2, none⟩ = some (.int .u16 id) := fun u => ((hp1 u).cell HH.out.lt (fun h => h) _).trans (HH.out.cell 2)
      have p3 : ∀ u, (pick u).cell? ⟨ht, 3, none⟩ = some (.bool stay) := fun u => ((hp1 u).cell HH.out.lt (fun h => h) _).trans (HH.out.cell 3)
      have p4 : ∀ u, (pick u).cell? ⟨ht, 4, none⟩ = some (.bool more) := fun u => ((hp1 u).cell HH.out.lt (fun h => h) _).trans (HH.out.cell 4)
      have p5 : ∀ u, (pick u).cell? ⟨ht, 5, none⟩ = some (.int .i64 off) := fun u => ((hp1 u).cell HH.out.lt (fun h => h) _).trans (HH.out.cell 5)
      have p6 : ∀ u, (pick u).cell? ⟨ht, 6, none⟩ = some (.int .u8 ttl) := fun u => ((hp1 u).cell HH.out.lt (fun h => h) _).trans (HH.out.cell 6)
      have p7 : ∀ u, (pick u).cell? ⟨ht, 7, none⟩ = some (.int .u8 pr) := fun u => ((hp1 u).cell HH.out.lt (fun h => h) _).trans (HH.out.cell 7)
      have p8 : ∀ u, (pick u).cell? ⟨ht, 8, none⟩ = some (.int .u16 sm) := fun u => ((hp1 u).cell HH.out.lt (fun h => h) _).trans (HH.out.cell 8)
      have p9 : ∀ u, (pick u).cell? ⟨ht, 9, none⟩ = some (.bool false) := fun u => ((hp1 u).cell HH.out.lt (fun h => h) _).trans (HH.out.cell 9)
      have p10 : ∀ u, (pick u).cell? ⟨ht, 10, none⟩ = some (.int .u64 0) := fun u => ((hp1 u).cell HH.out.lt (fun h => h) _).trans (HH.out.cell 10)
      have p11 : ∀ u, (pick u).cell? ⟨ht, 11, none⟩ = some (.int .u64 src) := fun u => ((hp1 u).cell HH.out.lt (fun h => h) _).trans (HH.out.cell 11)
      have p12 : ∀ u, (pick u).cell? ⟨ht, 12, none⟩ = some (.bool false) := fun u => ((hp1 u).cell HH.out.lt (fun h => h) _).trans (HH.out.cell 12)
      have p13 : ∀ u, (pick u).cell? ⟨ht, 13, none⟩ = some (.int .u64 0) := fun u => ((hp1 u).cell HH.out.lt (fun h => h) _).trans (HH.out.cell 13)
      have p14 : ∀ u, (pick u).cell? ⟨ht, 14, none⟩ = some (.int .u64 dst) := fun u => ((hp1 u).cell HH.out.lt (fun h => h) _).trans (HH.out.cell 14)
      have p15 : ∀ u, (pick u).cell? ⟨ht, 15, none⟩ = some (.slice OA n oc) := fun u => ((hp1 u).cell HH.out.lt (fun h => h) _).trans (HH.out.cell 15)
      repeat (first | (refine wpR_det hp2 rfl ((hR.rel _).trans rfl) rfl ?_; intro K hK; go_big_quiet_op; go_big_quiet_on) | (refine wpR_ptr hp2 rfl ((hR.rel _).trans rfl) rfl rfl ?_; intro K hK; go_big_quiet_op; go_big_quiet_on) | (refine wpR_skip pick rfl ?_; intro K hK; go_big_quiet_op; go_big_quiet_on))
      refine wpR_rel pick rfl ((hR.rel _).trans rfl) ((hR.turns _).trans rfl) ?_ ?_
      · intro u hu
        have hk := hR.since hu.1
        have hks := hk.size
        have hz := clone_len (some ⟨bb, o + z, none⟩) (c - z) X (ln - z) HXL.out u (by omega) ((HYB.out).on hk (fun _ _ h => h))
        unfold relAt
        go_simp
        refine hz.mono ?_
        rintro e w' ⟨v, rfl, hT, hb'⟩
        exact ⟨_, rfl, hR.intoB hb', hR.put 0 rfl rfl (hT.more hks)⟩
      intro v hv
      obtain ⟨u, _, hu⟩ := hv
      obtain hT6 := hR.get 0 rfl hu
      clear hu
      obtain ⟨NA, nc, hve, -, -⟩ := hT6.shape
      rw [bcs_length, HXL.out] at hve
      subst hve
      clear hT6
      intro K hK
      go_big_quiet_op
      go_big_quiet_on
      repeat (first | (refine wpR_det hp2 rfl ((hR.rel _).trans rfl) rfl ?_; intro K hK; go_big_quiet_op; go_big_quiet_on) | (refine wpR_ptr hp2 rfl ((hR.rel _).trans rfl) rfl rfl ?_; intro K hK; go_big_quiet_op; go_big_quiet_on) | (refine wpR_skip pick rfl ?_; intro K hK; go_big_quiet_op; go_big_quiet_on))
      refine wpR_nil ?_
      intro w9 hk2 hF hM
      have HV := Lib.hid ((hR.get 0 rfl (hF _ _ (Got.upd_self _ _ _))))
      have HK9 := Lib.hid (HK5.out.trans hk2)
      have HH9 := Lib.hid (HH.out.kept hk2 (fun h => h))
      have HR9 := Lib.hid (HR1.out.kept HK9.out (fun h => h))
      have HO9 := Lib.hid (HOB.out.kept hk2 (fun _ _ h => h))
      have HRB1 := Lib.hid (HR1.out.lt)
      clear hF hM hk2 hp1 hp2 hR p0 p1 p2 p3 p4 p5 p6 p7 p8 p9 p10 p11 p12 p13 p14 p15
      go_wp2_with (show wpList _ _ _ ((⟨none, .store 190 (.tmp 2) _, _, _, _, none⟩ : Oper) :: _) _ _; refine wpList_store_mid rfl 190 (.tmp 2) _ rfl rb 0 #[.int .u8 tos, .int .i64 (ln : Int), .int .u16 id, .bool stay, .bool more, .int .i64 off, .int .u8 ttl, .int .u8 pr, .int .u16 sm, .bool false, .int .u64 0, .int .u64 src, .bool false, .int .u64 0, .int .u64 dst, .slice OA n oc] rfl rfl (HR9.out.there rfl) (by kernel_rfl) (by simp [Value.oneCell']) ?_)
      generalize hwz : (World.setCells _ _ _ _) = wz
      have HKz := Lib.hid (show Kept (fun i => i = rb) w9 wz by rw [← hwz]; exact Kept.setCells (S := fun i => i = rb) rfl _ _ (Kept.refl _ _))
      have HRzz := Lib.hid (show Blk wz rb 190 #[.int .u8 tos, .int .i64 (ln : Int), .int .u16 id, .bool stay, .bool more, .int .i64 off, .int .u8 ttl, .int .u8 pr, .int .u16 sm, .bool false, .int .u64 0, .int .u64 src, .bool false, .int .u64 0, .int .u64 dst, .slice OA n oc] by rw [← hwz]; exact HR9.out.setAll #[.int .u8 tos, .int .i64 (ln : Int), .int .u16 id, .bool stay, .bool more, .int .i64 off, .int .u8 ttl, .int .u8 pr, .int .u16 sm, .bool false, .int .u64 0, .int .u64 src, .bool false, .int .u64 0, .int .u64 dst, .slice OA n oc] rfl)
      have HOZ := Lib.hid (show Row wz w.heap.size 5 (.slice OA n oc) (bcs os) from (HO9.out.kept HKz.out (fun g hg e => by have := (HO9.out.lt g hg).1; have := HRB1.out; omega)).more HS1.out)
      have HVZ := Lib.hid (show Row wz w.heap.size 5 (.slice NA (ln - z) nc) (bcs X) from (HV.out.kept HKz.out (fun g hg e => by have := (HV.out.lt g hg).1; have := HRB1.out; have := HK5.out.size; omega)).more (Nat.le_trans HS1.out HK5.out.size))
      clear hwz
      refine bodyPost_ret (results_blk_tmp2 (P := Tryz.prog) (show Tryz.f65.results = _ from rfl) _ _ rb 190 #[.int .u8 tos, .int .i64 (ln : Int), .int .u16 id, .bool stay, .bool more, .int .i64 off, .int .u8 ttl, .int .u8 pr, .int .u16 sm, .bool false, .int .u64 0, .int .u64 src, .bool false, .int .u64 0, .int .u64 dst, .slice OA n oc] _ rfl HRzz.out Tryz.underlying190 rfl (by kernel_rfl)) rfl ⟨HKW.out.trans (((HK9.out.mono (T := fun i => i = rb) (fun _ _ h => h.elim)).trans HKz.out).below HS1.out (fun i e => by have := HRBW.out; omega)), .inr ⟨HPE.out, .slice OA n oc, .slice NA (ln - z) nc, ?_, ?_, ?_⟩⟩
      · rw [HHD.out]; rfl
      · rw [HHD.out]; exact HOZ.out
      · rw [HXE.out]; exact HVZ.out
    · have HYB := Lib.hid (show BS w5 w5.heap.size (some ⟨bb, o, none⟩) X from .inl (by rw [← HX.out, List.drop_eq_nil_of_le (by omega)]; simp))
      have j1 : ¬ (z : Int) < (c : Int) := by omega
      have HCZ := Lib.hid (show c = z by omega)
      refine wp_region_kept 7 [(6, fun v u => Row u w5.heap.size 5 v (bcs X))] ?st ?ne rfl (by kernel_rfl) (by kernel_rfl) ?_
      case st =>
        intro p hp
        simp only [List.mem_cons, List.not_mem_nil, or_false] at hp
        subst hp
        · intro v u u' h hk; exact h.kept hk (fun _ _ h => h)
      case ne =>
        intro p hp
        simp only [List.mem_cons, List.not_mem_nil, or_false] at hp
        subst hp
        · exact ⟨_, _, (Kept.refl _ _).alloc (.cells (bcs X).toArray 5), Row.of_blk (Blk.new _ _ _) (Nat.le_refl _) (by have := HXL.out; simp [bcs_length]; unfold maxLen; omega) (by simp)⟩
      simp only [List.take_succ_cons, List.take_zero, List.drop_succ_cons, List.drop_zero]
      intro G pick hR hp1 hp2
      have p0 : ∀ u, (pick u).cell? ⟨ht, 0, none⟩ = some (.int .u8 tos) := fun u => ((hp1 u).cell HH.out.lt (fun h => h) _).trans (HH.out.cell 0)
      have p1 : ∀ u, (pick u).cell? ⟨ht, 1, none⟩ = some (.int .i64 (ln : Int)) := fun u => ((hp1 u).cell HH.out.lt (fun h => h) _).trans (HH.out.cell 1)
      have p2 : ∀ u, (pick u).cell? ⟨ht, 2, none⟩ = some (.int .u16 id) := fun u => ((hp1 u).cell HH.out.lt (fun h => h) _).trans (HH.out.cell 2)
      have p3 : ∀ u, (pick u).cell? ⟨ht, 3, none⟩ = some (.bool stay) := fun u => ((hp1 u).cell HH.out.lt (fun h => h) _).trans (HH.out.cell 3)
      have p4 : ∀ u, (pick u).cell? ⟨ht, 4, none⟩ = some (.bool more) := fun u => ((hp1 u).cell HH.out.lt (fun h => h) _).trans (HH.out.cell 4)
      have p5 : ∀ u, (pick u).cell? ⟨ht, 5, none⟩ = some (.int .i64 off) := fun u => ((hp1 u).cell HH.out.lt (fun h => h) _).trans (HH.out.cell 5)
      have p6 : ∀ u, (pick u).cell? ⟨ht, 6, none⟩ = some (.int .u8 ttl) := fun u => ((hp1 u).cell HH.out.lt (fun h => h) _).trans (HH.out.cell 6)
      have p7 : ∀ u, (pick u).cell? ⟨ht, 7, none⟩ = some (.int .u8 pr) := fun u => ((hp1 u).cell HH.out.lt (fun h => h) _).trans (HH.out.cell 7)
      have p8 : ∀ u, (pick u).cell? ⟨ht, 8, none⟩ = some (.int .u16 sm) := fun u => ((hp1 u).cell HH.out.lt (fun h => h) _).trans (HH.out.cell 8)
      have p9 : ∀ u, (pick u).cell? ⟨ht, 9, none⟩ = some (.bool false) := fun u => ((hp1 u).cell HH.out.lt (fun h => h) _).trans (HH.out.cell 9)
      have p10 : ∀ u, (pick u).cell? ⟨ht, 10, none⟩ = some (.int .u64 0) := fun u => ((hp1 u).cell HH.out.lt (fun h => h) _).trans (HH.out.cell 10)
      have p11 : ∀ u, (pick u).cell? ⟨ht, 11, none⟩ = some (.int .u64 src) := fun u => ((hp1 u).cell HH.out.lt (fun h => h) _).trans (HH.out.cell 11)
      have p12 : ∀ u, (pick u).cell? ⟨ht, 12, none⟩ = some (.bool false) := fun u => ((hp1 u).cell HH.out.lt (fun h => h) _).trans (HH.out.cell 12)
      have p13 : ∀ u, (pick u).cell? ⟨ht, 13, none⟩ = some (.int .u64 0) := fun u => ((hp1 u).cell HH.out.lt (fun h => h) _).trans (HH.out.cell 13)
      have p14 : ∀ u, (pick u).cell? ⟨ht, 14, none⟩ = some (.int .u64 dst) := fun u => ((hp1 u).cell HH.out.lt (fun h => h) _).trans (HH.out.cell 14)
      have p15 : ∀ u, (pick u).cell? ⟨ht, 15, none⟩ = some (.slice OA n oc) := fun u => ((hp1 u).cell HH.out.lt (fun h => h) _).trans (HH.out.cell 15)
      repeat (first | (refine wpR_det hp2 rfl ((hR.rel _).trans rfl) rfl ?_; intro K hK; go_big_quiet_op; go_big_quiet_on) | (refine wpR_ptr hp2 rfl ((hR.rel _).trans rfl) rfl rfl ?_; intro K hK; go_big_quiet_op; go_big_quiet_on) | (refine wpR_skip pick rfl ?_; intro K hK; go_big_quiet_op; go_big_quiet_on))
      refine wpR_rel pick rfl ((hR.rel _).trans rfl) ((hR.turns _).trans rfl) ?_ ?_
      · intro u hu
        have hk := hR.since hu.1
        have hks := hk.size
        have hz := clone_len (some ⟨bb, o, none⟩) (c - z) X (ln - z) HXL.out u (by omega) ((HYB.out).on hk (fun _ _ h => h))
        unfold relAt
        go_simp
        rw [if_pos HCZ.out]
        refine hz.mono ?_
        rintro e w' ⟨v, rfl, hT, hb'⟩
        exact ⟨_, rfl, hR.intoB hb', hR.put 0 rfl rfl (hT.more hks)⟩
      intro v hv
      obtain ⟨u, _, hu⟩ := hv
      obtain hT6 := hR.get 0 rfl hu
      clear hu
      obtain ⟨NA, nc, hve, -, -⟩ := hT6.shape
      rw [bcs_length, HXL.out] at hve
      subst hve
      clear hT6
      intro K hK
      go_big_quiet_op
      go_big_quiet_on
      repeat (first | (refine wpR_det hp2 rfl ((hR.rel _).trans rfl) rfl ?_; intro K hK; go_big_quiet_op; go_big_quiet_on) | (refine wpR_ptr hp2 rfl ((hR.rel _).trans rfl) rfl rfl ?_; intro K hK; go_big_quiet_op; go_big_quiet_on) | (refine wpR_skip pick rfl ?_; intro K hK; go_big_quiet_op; go_big_quiet_on))
      refine wpR_nil ?_
      intro w9 hk2 hF hM
      have HV := Lib.hid ((hR.get 0 rfl (hF _ _ (Got.upd_self _ _ _))))
      have HK9 := Lib.hid (HK5.out.trans hk2)
      have HH9 := Lib.hid (HH.out.kept hk2 (fun h => h))
      have HR9 := Lib.hid (HR1.out.kept HK9.out (fun h => h))
      have HO9 := Lib.hid (HOB.out.kept hk2 (fun _ _ h => h))
      have HRB1 := Lib.hid (HR1.out.lt)
      clear hF hM hk2 hp1 hp2 hR p0 p1 p2 p3 p4 p5 p6 p7 p8 p9 p10 p11 p12 p13 p14 p15
      go_wp2_with (show wpList _ _ _ ((⟨none, .store 190 (.tmp 2) _, _, _, _, none⟩ : Oper) :: _) _ _; refine wpList_store_mid rfl 190 (.tmp 2) _ rfl rb 0 #[.int .u8 tos, .int .i64 (ln : Int), .int .u16 id, .bool stay, .bool more, .int .i64 off, .int .u8 ttl, .int .u8 pr, .int .u16 sm, .bool false, .int .u64 0, .int .u64 src, .bool false, .int .u64 0, .int .u64 dst, .slice OA n oc] rfl rfl (HR9.out.there rfl) (by kernel_rfl) (by simp [Value.oneCell']) ?_)
      generalize hwz : (World.setCells _ _ _ _) = wz
      have HKz := Lib.hid (show Kept (fun i => i = rb) w9 wz by rw [← hwz]; exact Kept.setCells (S := fun i => i = rb) rfl _ _ (Kept.refl _ _))
      have HRzz := Lib.hid (show Blk wz rb 190 #[.int .u8 tos, .int .i64 (ln : Int), .int .u16 id, .bool stay, .bool more, .int .i64 off, .int .u8 ttl, .int .u8 pr, .int .u16 sm, .bool false, .int .u64 0, .int .u64 src, .bool false, .int .u64 0, .int .u64 dst, .slice OA n oc] by rw [← hwz]; exact HR9.out.setAll #[.int .u8 tos, .int .i64 (ln : Int), .int .u16 id, .bool stay, .bool more, .int .i64 off, .int .u8 ttl, .int .u8 pr, .int .u16 sm, .bool false, .int .u64 0, .int .u64 src, .bool false, .int .u64 0, .int .u64 dst, .slice OA n oc] rfl)
      have HOZ := Lib.hid (show Row wz w.heap.size 5 (.slice OA n oc) (bcs os) from (HO9.out.kept HKz.out (fun g hg e => by have := (HO9.out.lt g hg).1; have := HRB1.out; omega)).more HS1.out)
      have HVZ := Lib.hid (show Row wz w.heap.size 5 (.slice NA (ln - z) nc) (bcs X) from (HV.out.kept HKz.out (fun g hg e => by have := (HV.out.lt g hg).1; have := HRB1.out; have := HK5.out.size; omega)).more (Nat.le_trans HS1.out HK5.out.size))
      clear hwz
      refine bodyPost_ret (results_blk_tmp2 (P := Tryz.prog) (show Tryz.f65.results = _ from rfl) _ _ rb 190 #[.int .u8 tos, .int .i64 (ln : Int), .int .u16 id, .bool stay, .bool more, .int .i64 off, .int .u8 ttl, .int .u8 pr, .int .u16 sm, .bool false, .int .u64 0, .int .u64 src, .bool false, .int .u64 0, .int .u64 dst, .slice OA n oc] _ rfl HRzz.out Tryz.underlying190 rfl (by kernel_rfl)) rfl ⟨HKW.out.trans (((HK9.out.mono (T := fun i => i = rb) (fun _ _ h => h.elim)).trans HKz.out).below HS1.out (fun i e => by have := HRBW.out; omega)), .inr ⟨HPE.out, .slice OA n oc, .slice NA (ln - z) nc, ?_, ?_, ?_⟩⟩
      · rw [HHD.out]; rfl
      · rw [HHD.out]; exact HOZ.out
      · rw [HXE.out]; exact HVZ.out
end Go.Proofs.YtdnbhmfofphblaaGreatDoor
