/- The law SmoothShares, walked. -/
import Derived.Test.YtfdlpgmoohlgeaaA
namespace Go.Proofs.Ytfdlpgmoohlgeaa
open Go.RowKit
set_option linter.unusedVariables false

theorem ES.keepAt {w w' : World} {B : Nat} {A : Option Addr} {sz : Nat} {L : List (List Value)} (h : ES w B A sz L) (hk : ∀ b o, A = some ⟨b, o, none⟩ → b < B → ∀ o', w'.cell? ⟨b, o', none⟩ = w.cell? ⟨b, o', none⟩) : ES w' B A sz L := by
  rcases h with h | ⟨b, off, hb, h1, h2⟩
  · exact .inl h
  · exact .inr ⟨b, off, hb, h1, h2.keep fun o => hk b off h1 hb o⟩
theorem tf_range (h : List Cd) (a k s : Nat) : 0 ≤ tf h a k s ∧ tf h a k s ≤ k := by
  induction k generalizing s with
  | zero => simp [tf]
  | succ k ih =>
    rw [tf]; unfold updF
    split
    · have := ih (slotAt h (a + k)); omega
    · have := ih s; omega
theorem make_told (W : World) : (Instr.makeSlice 37 (.int .i64 4096) (.int .i64 4096)).run Try.prog W = .ok (.slice (some ⟨W.heap.size, 0, none⟩) 4096 4096) (W.alloc (.cells (fv 4096 (fun _ => 0)) 3)) := by
  rw [← made_fv]
  exact run_make_row' 37 3 (.int .i64 0) 8 Try.underlying37 (by kernel_rfl) rfl .i64 .i64 4096 (by omega) (by omega) W
theorem slot_at (h : List Cd) (t : Nat) (x : Cd) (hx : h[stepB (baseS (stAt h t) h)]? = some x) : slotAt h t = x.slot.toNat := by
  unfold slotAt bAt xAt
  rw [List.getD_eq_getElem?_getD, hx]; rfl
set_option maxRecDepth 100000 in
set_option maxHeartbeats 2000000 in
theorem shares_any (A : Option Addr) (c : Nat) (l : List Cd) (a : Int) (w : World) (hl : l.length ≤ maxLen) (a0 : 0 ≤ a) (a1 : a ≤ 255) (hE : ES w w.heap.size A 4 (l.map Cd.cs)) :
    Calls Try.prog 3 #[.slice A l.length c, .int .u8 a] w fun e w' => e = .returned (.bool true) ∧ Below w.heap.size w w' := by
  have HE := Lib.hid hE
  have HRT := Lib.hid (rightL_any A c l w hl hE)
  have hmk := make_told
  unfold maxLen at hl
  clear hE
  go_enter Try.func3, Try.ntmps3
  go_wp2_with fail
  refine HRT.out.mono ?_
  rintro e w1 ⟨b, rfl, hb1, hgood⟩
  have hs1 := hb1.size
  have HB1 := Lib.hid hb1
  clear hb1 HRT
  cases b with
  | false =>
    clear hgood
    go_wp2_with fail
    refine (awake_any w1).mono ?_
    rintro e w2 ⟨rfl, hb2⟩
    have HB2 := Lib.hid hb2
    clear hb2
    go_wp2_with fail
    go_ret
    exact ⟨rfl, HB1.out.trans (HB2.out.mono hs1)⟩
  | true =>
    obtain ⟨hl30, hr, -⟩ := hgood rfl
    have HR := Lib.hid hr
    have HWT := Lib.hid (rf_weight hr)
    have HMEM := Lib.hid (rf_mem hr)
    have hws := wsum_range l HWT.out
    clear hgood hr
    go_wp2_with fail
    refine (toL_any A c l _ (by omega) ((HE.out.onB HB1.out (Nat.le_refl _)).alloc (Nat.le_refl _) _ |>.more (by simp))).mono ?_
    rintro e w2 ⟨XA, xc, rfl, hX, hXb, hb2⟩
    have hs2 : w1.heap.size + 1 ≤ w2.heap.size := by have := hb2.size; simpa using this
    have HX := Lib.hid hX
    have HXB := Lib.hid hXb
    have HS2 := Lib.hid (show SmS w1.heap.size w2.heap.size (stAt (heavy l) 0) w2 w2 from ⟨⟨_, (Blk.new w1 28 #[.slice none 0 0]).below hb2 (by simp), RowN.nil _ _ _ _⟩, Kept.refl _ _⟩)
    have HB2 := Lib.hid (HB1.out.trans (((Below.refl _ _).alloc (Nat.le_refl _) _ |>.trans (hb2.mono (by simp))).mono hs1))
    have HE2 := Lib.hid (HE.out.onB HB2.out (Nat.le_refl _))
    clear hX hXb hb2
    go_wp2_with fail
    go_loop [7, 8] (fun t i => ∃ k : Nat, k ≤ l.length ∧ i = .int .i64 (k : Int) ∧ t = .int .i64 (wsum (l.take k))) (fun _ i => l.length - (intOf i).toNat)
    case atStart => exact ⟨0, by omega, rfl, rfl⟩
    case round =>
      obtain ⟨k, hk, rfl, rfl⟩ := hrel
      by_cases hkl : k < l.length
      · obtain ⟨b, o, hb, rfl, hel⟩ := HE2.out.at (k := k) (by simpa using hkl)
        obtain ⟨-, -, c2, -⟩ := cd_cells hel hkl
        have hkI : (k : Int) < (l.length : Int) := by omega
        have HS := Lib.hid (wsum_snoc l k hkl)
        have hwk := HWT.out l[k] (List.getElem_mem hkl)
        have hwr := wsum_range (l.take k) (fun c hc => HWT.out c (List.mem_of_mem_take hc))
        rw [List.length_take] at hwr
        generalize l[k].weight = x at *
        clear hel
        go_wp2_with fail
        go_round
        case rel => exact ⟨k + 1, by omega, by go_num, by rw [HS.out]⟩
        case measure => simp [intOf]; omega
      · obtain rfl : k = l.length := by omega
        rw [List.take_length]
        have HCR := Lib.hid (stAt_credit (heavy l) (fun c hc => HWT.out c (heavy_pos l c hc).1) (by have := heavy_len l; omega))
        have HLN := Lib.hid (fun t => Nat.le_trans (stAt_len (heavy l) t) (heavy_len l))
        obtain ⟨W, hW⟩ : ∃ W : Nat, wsum l = (W : Int) := ⟨(wsum l).toNat, by omega⟩
        have HWN := Lib.hid (show (wsum l).toNat = W by omega)
        rw [hW] at hws ⊢
        have HWS := Lib.hid hW
        clear hW
        obtain ⟨an, rfl⟩ : ∃ an : Nat, a = (an : Int) := ⟨a.toNat, by omega⟩
        go_wp2_with fail
        go_loopw [9] (fun i wr => ∃ k : Nat, k ≤ an ∧ i = .int .i64 (k : Int) ∧ Hid (SmS w1.heap.size w2.heap.size (stAt (heavy l) k) w2 wr)) (fun i _ => an - (intOf i).toNat)
        case atStart => exact ⟨0, by omega, rfl, HS2⟩
        case round =>
          clear HS2
          obtain ⟨k, hk, rfl, HS⟩ := hrel
          have hsr := HS.out.kept.size
          by_cases hka : k < an
          · have hkI : (k : Int) < (an : Int) := by omega
            have HP := Lib.hid (HS.out.pick (l := l) (A := XA) (c := xc) (3100 * (k : Int)) hl30 (by have := HLN.out k; omega) HWT.out (HCR.out k) (by omega) (by omega) ((HX.out.keepAt (fun b o e hb o' => HS.out.kept.cell hb (by have := HXB.out b o e; simp at this; omega) o')).more hsr) hsr)
            go_wp2_with fail
            refine HP.out.mono ?_
            rintro e w3 ⟨hS3, hsz3, -, he⟩
            have HS3 := Lib.hid (show SmS w1.heap.size w2.heap.size (stAt (heavy l) (k + 1)) w2 w3 from hS3)
            clear hS3
            rcases he with ⟨-, rfl⟩ | ⟨-, x, -, rfl⟩
            all_goals
              go_wp2_with fail
              go_roundw
              case rel => exact ⟨k + 1, by omega, by go_num, HS3⟩
              case measure => simp [intOf]; omega
          · obtain rfl : k = an := by omega
            go_wp2_with fail
            obtain ⟨w4, hw4⟩ : ∃ w4 : World, w4 = wr.alloc (.cells (fv 4096 (fun _ => 0)) 3) := ⟨_, rfl⟩
            have HT4 := Lib.hid (show Blk w4 wr.heap.size 3 (fv 4096 (tf (heavy l) k 0)) by rw [hw4]; exact Blk.new _ _ _)
            have HS4 := Lib.hid (show SmS w1.heap.size w2.heap.size (stAt (heavy l) (k + 0)) w2 w4 by
              obtain ⟨⟨v, h1, h2⟩, h3⟩ := HS.out
              rw [hw4]
              exact ⟨⟨v, h1.alloc _, h2.alloc _⟩, h3.alloc _⟩)
            rw [← hw4]
            clear hw4 HS
            obtain ⟨tb, htb⟩ : ∃ tb, wr.heap.size = tb := ⟨_, rfl⟩
            rw [htb] at HT4 hsr ⊢
            clear htb
            go_loopw [11, 12, 13] (fun i _ _ wx => ∃ j : Nat, j ≤ W ∧ i = .int .i64 (j : Int) ∧ Hid (SmS w1.heap.size w2.heap.size (stAt (heavy l) (k + j)) w2 wx) ∧ Hid (Blk wx tb 3 (fv 4096 (tf (heavy l) k j)))) (fun i _ _ _ => W - (intOf i).toNat)
            case atStart => exact ⟨0, by omega, rfl, HS4, HT4⟩
            case round =>
              clear HS4 HT4
              obtain ⟨j, hj, rfl, HS, HT⟩ := hrel
              have hsx := HS.out.kept.size
              by_cases hjW : j < W
              · have hjI : (j : Int) < (W : Int) := by omega
                have hne : heavy l ≠ [] := fun e => by
                  have h1 := wsum_heavy l (fun c hc => (HWT.out c hc).1)
                  rw [e, HWS.out] at h1
                  have h2 : wsum [] = 0 := rfl
                  omega
                have HP := Lib.hid (HS.out.pick (l := l) (A := XA) (c := xc) (3100 * ((k + j : Nat) : Int)) hl30 (by have := HLN.out (k + j); omega) HWT.out (HCR.out (k + j)) (by omega) (by omega) ((HX.out.keepAt (fun b o e hb o' => HS.out.kept.cell hb (by have := HXB.out b o e; simp at this; omega) o')).more hsx) hsx)
                go_wp2_with fail
                refine HP.out.mono ?_
                rintro e w5 ⟨hS5, hsz5, hoth, he⟩
                rcases he with ⟨h0, -⟩ | ⟨-, x, hx, rfl⟩
                · exact absurd h0 hne
                have HS5 := Lib.hid (show SmS w1.heap.size w2.heap.size (stAt (heavy l) (k + j + 1)) w2 w5 from hS5)
                have HT5 := Lib.hid (hoth tb 3 _ HT.out (by omega) (by decide))
                have HSL := Lib.hid (slot_at (heavy l) (k + j) x hx)
                have hxm := HMEM.out x (heavy_pos l x (List.mem_of_getElem? hx)).1
                have HTF := Lib.hid (show tf (heavy l) k (j + 1) = updF (tf (heavy l) k j) (slotAt (heavy l) (k + j)) (tf (heavy l) k j (slotAt (heavy l) (k + j)) + 1) from rfl)
                rw [HSL.out] at HTF
                obtain ⟨xs, xb, xw, xl⟩ := x
                obtain ⟨m, rfl⟩ : ∃ m : Nat, xs = (m : Int) := ⟨xs.toNat, by simp at hxm; omega⟩
                simp only [Int.toNat_natCast] at HTF hxm
                have htr := tf_range (heavy l) k j m
                have hm : m < 4096 := by omega
                have c5 : w5.cell? ⟨tb, m, none⟩ = some (.int .i64 (tf (heavy l) k j m)) := by rw [HT5.out.cell, fv_at _ _ _ hm]
                have f5 := HT5.out.frozen m
                have l5 := HT5.out.lt
                have hmI : (m : Int) < 4096 := by omega
                have hm0 : (0 : Int) ≤ (m : Int) := by omega
                have hm1 : ¬ (4095 : Int) < (m : Int) := by omega
                have hm2 : ¬ (m : Int) < 0 := by omega
                generalize tf (heavy l) k j m = tv at *
                clear hS5 hoth hx HP hxm hne
                go_wp2_with fail
                go_roundw
                case rel =>
                  go_light
                  refine ⟨j + 1, by omega, by go_num, Lib.hid ?_, Lib.hid ?_⟩
                  · obtain ⟨⟨v, h1, h2⟩, h3⟩ := HS5.out
                    have hne1 : w1.heap.size ≠ tb := by omega
                    refine ⟨⟨v, ?_, ?_⟩, ?_⟩
                    · repeat (first | ((with_reducible apply Blk.far'); omega) | (with_reducible apply Blk.alloc))
                      exact h1
                    · have hr : v.ownBlock ≠ some tb := h2.ne HT5.out (by decide)
                      repeat (first | (refine RowN.far ?_ hr) | (refine RowN.alloc ?_ _))
                      exact h2
                    · repeat (first | ((with_reducible apply Kept.setIn); exact .inr (by omega)) | (with_reducible apply Kept.alloc))
                      exact h3
                  · rw [HTF.out, ← fv_set]
                    repeat (first | (with_reducible apply Blk.alloc) | (refine Blk.set_to ?_ rfl))
                    exact HT5.out
                case measure => simp [intOf]; omega
              · obtain rfl : j = W := by omega
                have HTA := Lib.hid (told_all l HR.out k)
                rw [HWN.out] at HTA
                go_wp2_with fail
                have HEX := Lib.hid (((HE.out.below HB2.out).keepAt (fun b o e hb o' => HS.out.kept.cell (by omega) (by omega) o')).more (B' := wr.heap.size) (by omega))
                have HBX := Lib.hid (HB2.out.trans (HS.out.kept.below (by omega) (fun i h => by omega)))
                obtain ⟨wx, rfl⟩ : ∃ wx : World, wx = wr := ⟨_, rfl⟩
                go_loopw [14] (fun i wy => ∃ n : Nat, n ≤ l.length ∧ i = .int .i64 (n : Int) ∧ Hid (Kept (fun _ => False) wx wy)) (fun i _ => l.length - (intOf i).toNat)
                case atStart => exact ⟨0, by omega, rfl, Lib.hid (Kept.refl _ _)⟩
                case round =>
                  obtain ⟨i, hi, rfl, HKY⟩ := hrel
                  have hsy := HKY.out.size
                  by_cases hil : i < l.length
                  · have hiI : (i : Int) < (l.length : Int) := by omega
                    have hi0 : (0 : Int) ≤ (i : Int) := by omega
                    obtain ⟨b, o, hb, rfl, hel⟩ := (HEX.out.on HKY.out (fun _ _ h => h)).at (k := i) (by simpa using hil)
                    obtain ⟨c0, -, c2, -⟩ := cd_cells hel hil
                    have hm := HMEM.out l[i] (List.getElem_mem hil)
                    have hta := HTA.out i hil
                    obtain ⟨m, hms⟩ : ∃ m : Nat, l[i].slot = (m : Int) := ⟨l[i].slot.toNat, by omega⟩
                    rw [hms] at c0 hm hta
                    rw [Int.toNat_natCast] at hta
                    have hm4 : m < 4096 := by omega
                    have ct : wr.cell? ⟨tb, m, none⟩ = some (.int .i64 l[i].weight) := by rw [(HT.out.kept HKY.out (fun h => h)).cell, fv_at _ _ _ hm4, hta]
                    have tlt := (HT.out.kept HKY.out (fun h => h)).lt
                    generalize l[i].weight = x at *
                    have hmI : (m : Int) < 4096 := by omega
                    have hm0 : (0 : Int) ≤ (m : Int) := by omega
                    have blt : b < wr.heap.size := by omega
                    clear hel hta hms hm
                    go_wp2_with fail
                    refine wp_region_kept 14 [] ?st ?ne rfl (by kernel_rfl) (by kernel_rfl) ?_
                    case st => intro p hp; cases hp
                    case ne => intro p hp; cases hp
                    simp only [List.take_succ_cons, List.take_zero, List.drop_succ_cons, List.drop_zero]
                    intro G pick hR hp1 hp2
                    have p1 : ∀ u, (pick u).cell? ⟨b, o + i * 4, none⟩ = some (.int .i64 (m : Int)) := fun u => ((hp1 u).cell blt (fun h => h) _).trans c0
                    have p2 : ∀ u, (pick u).cell? ⟨b, o + i * 4 + 2, none⟩ = some (.int .i64 x) := fun u => ((hp1 u).cell blt (fun h => h) _).trans c2
                    have p3 : ∀ u, (pick u).cell? ⟨tb, m, none⟩ = some (.int .i64 x) := fun u => ((hp1 u).cell tlt (fun h => h) _).trans ct
                    repeat (first | (refine wpR_det hp2 rfl ((hR.rel _).trans rfl) rfl ?_; intro K hK; go_big_quiet_op; go_big_quiet_on) | (refine wpR_ptr hp2 rfl ((hR.rel _).trans rfl) rfl rfl ?_; intro K hK; go_big_quiet_op; go_big_quiet_on) | (refine wpR_skip pick rfl ?_; intro K hK; go_big_quiet_op; go_big_quiet_on))
                    refine wpR_nil ?_
                    intro w6 hk2 hF hM
                    have HK6 := Lib.hid (HKY.out.trans hk2)
                    clear hF hM hk2 hp1 hp2 hR p1 p2 p3
                    go_wp2_with fail
                    go_roundw
                    case rel => exact ⟨i + 1, by omega, by go_num, HK6⟩
                    case measure => simp [intOf]; omega
                  · go_wp2_with fail
                    refine (awake_any _).mono ?_
                    rintro e w7 ⟨rfl, hb7⟩
                    have HB7 := Lib.hid hb7
                    clear hb7
                    go_wp2_with fail
                    go_ret
                    exact ⟨rfl, (HBX.out.trans (HKY.out.below (by omega) (fun _ h => h.elim))).trans (HB7.out.mono (by omega))⟩
end Go.Proofs.Ytfdlpgmoohlgeaa
