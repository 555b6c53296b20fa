/- The laws' own right and to: candidates that may be, turned to the program's. -/
import Derived.Test.YtpakfepjfcpjkaaSmPlain
import Derived.Test.YtpakfepjfcpjkaaCdRight
import Derived.Outline
import Derived.Deep.Light
import Derived.Deep.LoopGhost
namespace Go.Proofs.Ytpakfepjfcpjkaa
open Go.RowKit
set_option linter.unusedVariables false

theorem es_cands {w : World} {B : Nat} {A : Option Addr} {l : List Cd} (h : ES w B A 4 (l.map Cd.cs)) : Cands w B A l := by
  rcases h with h | ⟨b, off, hb, hA, hel⟩
  · exact .inl (by simpa using h)
  · exact .inr ⟨b, off, hb, hA, fun k hk => cd_cells hel hk⟩
theorem cells_el {w : World} {b off : Nat} {l : List Cd} (h : CellsAt w b off l) : ElAt w b off 4 (l.map Cd.cs) := by
  have hsz := sz_map Cd.cs_len l
  refine ⟨hsz, fun j u hu => ?_⟩
  obtain ⟨hj, _⟩ := List.getElem?_eq_some_iff.1 hu
  rw [flat_len hsz, List.length_map] at hj
  have hd : j / 4 < l.length := by omega
  have e := flat_get hsz (j / 4) (by simpa using hd) (j % 4) (by omega)
  rw [show j / 4 * 4 + j % 4 = j by omega, hu] at e
  simp only [List.getElem_map] at e
  obtain ⟨c0, c1, c2, c3⟩ := h (j / 4) hd
  have hm : j % 4 = 0 ∨ j % 4 = 1 ∨ j % 4 = 2 ∨ j % 4 = 3 := by omega
  rcases hm with hm | hm | hm | hm <;> rw [hm] at e <;> simp [Cd.cs] at e <;> subst e
  · rw [show off + j = off + j / 4 * 4 by omega]; exact c0
  · rw [show off + j = off + j / 4 * 4 + 1 by omega]; exact c1
  · rw [show off + j = off + j / 4 * 4 + 2 by omega]; exact c2
  · rw [show off + j = off + j / 4 * 4 + 3 by omega]; exact c3
def Dist (l : List Cd) : Prop := ∀ i k (hi : i < l.length) (hk : k < i), l[i].backend ≠ l[k].backend
def RightPost (l : List Cd) (w : World) (e : Ending) (w' : World) : Prop := ∃ b, e = .returned (.bool b) ∧ Below w.heap.size w w' ∧ (b = true → l.length ≤ 30 ∧ rightFrom (-1) l = true ∧ Dist l)
set_option maxRecDepth 100000 in
set_option maxHeartbeats 1000000 in
theorem rightL_any (A : Option Addr) (c : Nat) (l : List Cd) (w : World) (hl : l.length ≤ maxLen) (hE : ES w w.heap.size A 4 (l.map Cd.cs)) :
    Calls Try.prog 11 #[.slice A l.length c] w (RightPost l w) := by
  unfold maxLen at hl
  have HE := Lib.hid hE
  by_cases h30 : 30 < l.length
  · clear hE
    go_enter Try.func11, Try.ntmps11
    go_wp2_with fail
    go_ret
    exact ⟨false, rfl, Below.refl _ _, fun h => by cases h⟩
  · have HRR := Lib.hid (refRight_c _ A c l w (by omega) (es_cands hE))
    by_cases hr : rightFrom (-1) l = true
    · have HRF := Lib.hid hr
      rw [hr] at HRR
      clear hr hE
      go_enter Try.func11, Try.ntmps11
      go_wp2_with fail
      refine HRR.out.mono ?_
      rintro e w1 ⟨rfl, rfl⟩
      go_wp2_with fail
      go_loopw [3, 4] (fun i _ wr => ∃ n : Nat, n ≤ l.length ∧ i = .int .i64 (n : Int) ∧ Hid (∀ i k (hi : i < l.length) (hk : k < i), i < n → l[i].backend ≠ l[k].backend) ∧ Hid (Below w.heap.size w wr)) (fun i _ _ => l.length - (intOf i).toNat)
      case atStart => exact ⟨0, by omega, rfl, Lib.hid (fun i k _ _ h => by omega), Lib.hid (Below.refl _ _)⟩
      case round =>
        obtain ⟨n, hn, rfl, HP, HW⟩ := hrel
        by_cases hnl : n < l.length
        · have hnI : (n : Int) < (l.length : Int) := by omega
          have hn0 : (0 : Int) ≤ (n : Int) := by omega
          obtain ⟨b, o, hb, rfl, hel⟩ := HE.out.at (k := n) (by simpa using hnl)
          have HEL := Lib.hid hel
          clear hel
          go_wp2_with fail
          obtain ⟨wo, hwo⟩ : ∃ wo : World, wo = wr := ⟨_, rfl⟩
          subst hwo
          go_loopw [4] (fun i wr => ∃ k : Nat, k ≤ n ∧ i = .int .i64 (k : Int) ∧ Hid (∀ j (hj : j < n), j < k → l[n].backend ≠ l[j].backend) ∧ Hid (Below w.heap.size w wr)) (fun i _ => n - (intOf i).toNat)
          case atStart => exact ⟨0, by omega, rfl, Lib.hid (fun j _ h => by omega), HW⟩
          case round =>
            clear HW
            obtain ⟨k, hk, rfl, HQ, HW⟩ := hrel
            have hsw := HW.out.size
            by_cases hkn : k < n
            · have hkI : (k : Int) < (n : Int) := by omega
              have hkI2 : (k : Int) < (l.length : Int) := by omega
              have hk0 : (0 : Int) ≤ (k : Int) := by omega
              obtain ⟨-, c1, -, -⟩ := cd_cells (HEL.out.keep (fun o => HW.out.cell (p := ⟨b, o, none⟩) hb)) hnl
              obtain ⟨-, d1, -, -⟩ := cd_cells (HEL.out.keep (fun o => HW.out.cell (p := ⟨b, o, none⟩) hb)) (show k < l.length by omega)
              have HNX := Lib.hid (show l[n].backend ≠ l[k].backend → ∀ j (hj : j < n), j < k + 1 → l[n].backend ≠ l[j].backend from fun e j hj hjk => by
                rcases Nat.lt_succ_iff_lt_or_eq.1 hjk with h | rfl
                · exact HQ.out j hj h
                · exact e)
              generalize l[n].backend = x at *
              generalize l[k].backend = y at *
              have blt : b < wr.heap.size := by omega
              go_wp2_with fail
              by_cases e : x = y
              · subst e
                refine wp_region_kept 11 [] ?st ?ne rfl (by kernel_rfl) (by kernel_rfl) ?_
                case st => intro p hp; cases hp
                case ne => intro p hp; cases hp
                simp only [List.take_succ_cons, List.take_zero, List.drop_succ_cons, List.drop_zero]
                intro G pick hR hp1 hp2
                have p1 : ∀ u, (pick u).cell? ⟨b, o + n * 4 + 1, none⟩ = some (.int .i64 x) := fun u => ((hp1 u).cell blt (fun h => h) _).trans c1
                have p2 : ∀ u, (pick u).cell? ⟨b, o + k * 4 + 1, none⟩ = some (.int .i64 x) := fun u => ((hp1 u).cell blt (fun h => h) _).trans d1
                repeat (first | (refine wpR_det hp2 rfl ((hR.rel _).trans rfl) rfl ?_; intro K hK; go_big_quiet_op; go_big_quiet_on) | (refine wpR_ptr hp2 rfl ((hR.rel _).trans rfl) rfl rfl ?_; intro K hK; go_big_quiet_op; go_big_quiet_on) | (refine wpR_skip pick rfl ?_; intro K hK; go_big_quiet_op; go_big_quiet_on))
                refine wpR_nil ?_
                intro w3 hk2 hF hM
                have HB2 := Lib.hid (HW.out.trans (hk2.below hsw (fun _ h => h.elim)))
                clear hF hM hk2 hp1 hp2 hR p1 p2
                go_wp2_with fail
                go_ret
                exact ⟨false, rfl, HB2.out, fun h => by cases h⟩
              · have e' : (x == y) = false := by simp [e]
                have HN2 := Lib.hid (HNX.out e)
                clear e HNX
                refine wp_region_kept 11 [] ?st ?ne rfl (by kernel_rfl) (by kernel_rfl) ?_
                case st => intro p hp; cases hp
                case ne => intro p hp; cases hp
                simp only [List.take_succ_cons, List.take_zero, List.drop_succ_cons, List.drop_zero]
                intro G pick hR hp1 hp2
                have p1 : ∀ u, (pick u).cell? ⟨b, o + n * 4 + 1, none⟩ = some (.int .i64 x) := fun u => ((hp1 u).cell blt (fun h => h) _).trans c1
                have p2 : ∀ u, (pick u).cell? ⟨b, o + k * 4 + 1, none⟩ = some (.int .i64 y) := fun u => ((hp1 u).cell blt (fun h => h) _).trans d1
                repeat (first | (refine wpR_det hp2 rfl ((hR.rel _).trans rfl) rfl ?_; intro K hK; go_big_quiet_op; go_big_quiet_on) | (refine wpR_ptr hp2 rfl ((hR.rel _).trans rfl) rfl rfl ?_; intro K hK; go_big_quiet_op; go_big_quiet_on) | (refine wpR_skip pick rfl ?_; intro K hK; go_big_quiet_op; go_big_quiet_on))
                refine wpR_nil ?_
                intro w3 hk2 hF hM
                have HB2 := Lib.hid (HW.out.trans (hk2.below hsw (fun _ h => h.elim)))
                clear hF hM hk2 hp1 hp2 hR p1 p2
                go_wp2_with fail
                go_roundw
                case rel => exact ⟨k + 1, by omega, by go_num, HN2, HB2⟩
                case measure => simp [intOf]; omega
            · obtain rfl : k = n := by omega
              go_wp2_with fail
              go_roundw
              case rel => exact ⟨k + 1, by omega, by go_num, Lib.hid (fun i j hi hj hik => by
                rcases Nat.lt_succ_iff_lt_or_eq.1 hik with h | rfl
                · exact HP.out i j hi hj h
                · exact HQ.out j hj hj), HW⟩
              case measure => simp [intOf]; omega
        · go_wp2_with fail
          go_ret
          exact ⟨true, rfl, HW.out, fun _ => ⟨by omega, HRF.out, fun i k hi hk => HP.out i k hi hk (by omega)⟩⟩
    · have hr' : rightFrom (-1) l = false := by simpa using hr
      rw [hr'] at HRR
      clear hr hr' hE
      go_enter Try.func11, Try.ntmps11
      go_wp2_with fail
      refine HRR.out.mono ?_
      rintro e w1 ⟨rfl, rfl⟩
      go_wp2_with fail
      go_ret
      exact ⟨false, rfl, Below.refl _ _, fun h => by cases h⟩
/-- What to leaves. -/
def ToPost (l : List Cd) (w : World) (e : Ending) (w' : World) : Prop := ∃ A c, e = .returned (.slice A l.length c) ∧ ES w' w'.heap.size A 4 (l.map Cd.cs) ∧ (∀ b o, A = some ⟨b, o, none⟩ → w.heap.size ≤ b) ∧ Below w.heap.size w w'
theorem toL_any (A : Option Addr) (c : Nat) (l : List Cd) (w : World) (hl : l.length ≤ 70) (hE : ES w w.heap.size A 4 (l.map Cd.cs)) : Calls Try.prog 13 #[.slice A l.length c] w (ToPost l w) := by
  refine (to_c _ A c l w hl (Nat.le_refl _) (es_cands hE)).mono ?_
  rintro e w' ⟨hb, h⟩
  rcases h with ⟨rfl, rfl⟩ | ⟨hne, g, c', rfl, h1, h2, h3⟩
  · exact ⟨none, 0, rfl, .inl rfl, (fun b o e => by cases e), hb⟩
  · exact ⟨some ⟨g, 0, none⟩, c', rfl, .inr ⟨g, 0, h2, rfl, cells_el h3⟩, fun b o e => by cases e; exact h1, hb⟩
end Go.Proofs.Ytpakfepjfcpjkaa
