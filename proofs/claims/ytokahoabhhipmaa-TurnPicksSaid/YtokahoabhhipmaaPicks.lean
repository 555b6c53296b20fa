import Derived.Test.YtokahoabhhipmaaRefs
import Derived.Test.YtokahoabhhipmaaTo
import Derived.Test.YtokahoabhhipmaaAwake
import Derived.Deep.RegionHeld3
namespace Go.Proofs.Ytokahoabhhipmaa
open Go.RowKit

/-- A slice that holds lists of candidates. -/
def Lists (w : World) (B : Nat) (A : Option Addr) (L : List (List Cd)) : Prop :=
  L = [] ∨ ∃ b off, b < B ∧ A = some ⟨b, off, none⟩ ∧ ∀ i (h : i < L.length), L[i].length ≤ maxLen ∧ ∃ Ai ci, w.cell? ⟨b, off + i, none⟩ = some (.slice Ai L[i].length ci) ∧ Cands w B Ai L[i]

theorem Cands.keep {w w' : World} {B : Nat} {A : Option Addr} {l : List Cd} (h : Cands w B A l) (hk : ∀ b o, b < B → w'.cell? ⟨b, o, none⟩ = w.cell? ⟨b, o, none⟩) : Cands w' B A l := by
  rcases h with h | ⟨b, off, hb, h1, h2⟩
  · exact .inl h
  · exact .inr ⟨b, off, hb, h1, h2.keep fun o => hk b o hb⟩

theorem picks_end {w wr w2 w3 : World} {o o' : Obj} (hk : Kept (fun i => w.heap.size ≤ i) w wr) (h2 : Below (wr.alloc o).heap.size (wr.alloc o) w2) (h3 : Below (w2.alloc o').heap.size (w2.alloc o') w3) : Below w.heap.size w w3 := by
  have hs := hk.size
  have hs2 := h2.size
  simp only [World.size_alloc] at hs2
  have k2 := (hk.alloc o).then (Kept.of_below (S := fun i => w.heap.size ≤ i) h2 (fun i _ h => by simp only [World.size_alloc] at h; omega)) (fun i _ h => h)
  have k3 := (k2.alloc o').then (Kept.of_below (S := fun i => w.heap.size ≤ i) h3 (fun i _ h => by simp only [World.size_alloc] at h; omega)) (fun i _ h => h)
  exact k3.below (Nat.le_refl _) (fun i h => h)
theorem undrew' {w w' : World} (h : Below w.drew.heap.size w.drew w') : Below w.heap.size w w' := ⟨h.os, h.tape, h.output, h.size, h.block⟩
theorem right_nil (w : World) : Calls Try.prog 12 #[.slice none 0 0] w fun e w' => e = .returned (.bool true) ∧ w = w' := by
  go_enter Try.func12, Try.ntmps12
  go_wp2
  refine wp_loop_rounds 1 ?_; rw [rounds_succ]
  go_wp2
  go_ret
  exact ⟨rfl, rfl⟩

theorem pick_nil2 (tb : Nat) (w : World) :
    Calls Try.prog 9 #[.pointer (some ⟨tb, 0, none⟩), .slice none 0 0] w fun e w' => e = .returned (.tuple #[.agg #[.int .i64 0, .int .i64 0, .int .i64 0, .int .u32 0], .bool false]) ∧ Below w.heap.size w w' := by
  go_enter Try.func9, Try.ntmps9
  go_wp2
  exact bodyPost_ret (results_blk_tmp (P := Try.prog) Try.results9 _ _ w.heap.size 32 #[.int .i64 0, .int .i64 0, .int .i64 0, .int .u32 0] _ rfl (Blk.new _ _ _) Try.underlying32 rfl (by kernel_rfl)) rfl ⟨rfl, (Below.refl _ _).alloc (Nat.le_refl _) _⟩

theorem pick_no (b : Nat) (w : World) :
    Calls Try.prog 9 #[.pointer none, .slice (some ⟨b, 0, none⟩) 1 1] w fun e w' => e = .returned (.tuple #[.agg #[.int .i64 0, .int .i64 0, .int .i64 0, .int .u32 0], .bool false]) ∧ Below w.heap.size w w' := by
  go_enter Try.func9, Try.ntmps9
  go_wp2
  exact bodyPost_ret (results_blk_tmp (P := Try.prog) Try.results9 _ _ w.heap.size 32 #[.int .i64 0, .int .i64 0, .int .i64 0, .int .u32 0] _ rfl (Blk.new _ _ _) Try.underlying32 rfl (by kernel_rfl)) rfl ⟨rfl, (Below.refl _ _).alloc (Nat.le_refl _) _⟩

set_option maxRecDepth 100000 in
set_option maxHeartbeats 8000000 in
theorem turnPicks_any (b off cap : Nat) (L : List (List Cd)) (w : World) (hL : L.length ≤ maxLen) (hb : b < w.heap.size)
    (hc : ∀ i (h : i < L.length), L[i].length ≤ maxLen ∧ ∃ Ai ci, w.cell? ⟨b, off + i, none⟩ = some (.slice Ai L[i].length ci) ∧ Cands w w.heap.size Ai L[i]) :
    Calls Try.prog 5 #[.slice (some ⟨b, off, none⟩) L.length cap] w fun e w' => e = .returned (.bool true) ∧ Below w.heap.size w w' := by
  have HC := Lib.hid hc
  clear hc
  unfold maxLen at hL
  go_enter Try.func5, Try.ntmps5
  go_wp2_with fail
  refine (awake_any _).mono ?_
  rintro e w1 ⟨rfl, hb1⟩
  have hs1 := hb1.size
  have HB1 := Lib.hid hb1
  clear hb1
  go_wp2_with fail
  go_loopw [4, 5] (fun x i wr => ∃ k : Nat, ∃ n : Int, k ≤ L.length ∧ k ≤ 40 ∧ i = .int .i64 k ∧ x = .int .i64 n ∧ 0 ≤ n ∧ n ≤ 4096 ∧ Hid (Blk wr w1.heap.size 27 #[.int .i64 n]) ∧ Hid (Kept (fun i => w.heap.size ≤ i) w wr)) (fun _ i _ => 40 - (intOf i).toNat)
  case atStart => exact ⟨0, 0, by omega, by omega, rfl, rfl, by omega, by omega, Lib.hid (Blk.new _ _ _), Lib.hid ((Kept.of_below HB1.out (fun i _ h => h)).alloc _)⟩
  case round =>
    obtain ⟨k, n, hk, hk40, rfl, rfl, hn0, hn1, HT, HK⟩ := hrel
    by_cases hlt : k < L.length ∧ k < 40
    · obtain ⟨hlt, hlt40⟩ := hlt
      obtain ⟨hm, Ai, ci, hcell, hcands⟩ := HC.out k hlt
      generalize hl : L[k] = l at *
      have HLK := Lib.hid hl
      clear hl
      have hcell2 : wr.cell? ⟨b, off + k, none⟩ = some (.slice Ai l.length ci) := (HK.out.cell hb (by omega) _).trans hcell
      have hcands2 := hcands.keep (w' := wr) fun b o hbo => HK.out.cell hbo (by omega) o
      have HCA := Lib.hid hcands2
      have hswr := HK.out.size
      have htlt := HT.out.lt
      have hbwr : b < wr.heap.size := by omega
      have hkI : (k : Int) < (L.length : Int) := by omega
      clear hcands hcands2 hcell
      by_cases h70 : 70 < l.length
      · unfold maxLen at hm
        go_wp2_with fail
        refine (awake_any _).mono ?_
        rintro e w' ⟨rfl, hb'⟩
        go_wp2_with fail
        go_ret
        exact ⟨rfl, (HK.out.then (Kept.of_below (S := fun i => w.heap.size ≤ i) hb' (fun i _ h => by omega)) (fun i _ h => h)).below (Nat.le_refl _) (fun i h => h)⟩
      · have hl70 : l.length ≤ 70 := by omega
        have hd70 : decide ((70 : Int) < (l.length : Int)) = false := by simp; omega
        go_wp2_with fail
        refine (to_c w.heap.size Ai ci l _ hl70 hswr HCA.out).mono ?_
        rintro e w2 ⟨hb2, he⟩
        have hcell3 : w2.cell? ⟨b, off + k, none⟩ = some (.slice Ai l.length ci) := (hb2.cell (p := ⟨b, off + k, none⟩) hbwr).trans hcell2
        have hcands3 := HCA.out.keep (w' := w2) fun b o hbo => hb2.cell (p := ⟨b, o, none⟩) (by simp only []; omega)
        have HCA3 := Lib.hid hcands3
        have HT2 := Lib.hid (HT.out.below hb2 htlt)
        have HK2 := Lib.hid (HK.out.then (Kept.of_below (S := fun i => w.heap.size ≤ i) hb2 (fun i _ h => by omega)) (fun i _ h => h))
        have hs2 := hb2.size
        have hb3 : b < w2.heap.size := by omega
        clear hb2 hcands3 hcell2 HCA
        rcases he with ⟨h0, rfl⟩ | ⟨h0, g, c, rfl, hg1, hg2, hcs⟩
        · subst h0
          have hr : rightFrom (-1) ([] : List Cd) = true := rfl
          go_wp2_with fail
          go_region_held3 (fun w' => w'.cell? ⟨b, off + k, none⟩ = some (.slice Ai 0 ci))
            (first
              | go_keep)
            (first
              | (go_at_call 12; refine (right_nil _).mono ?_; rintro e w3 ⟨rfl, rfl⟩)
              | (go_at_call 6; refine (refRight_nil Ai ci _).mono ?_; rintro e w4 ⟨rfl, rfl⟩))
          go_wp2_with fail
          refine (refRight_nil Ai ci _).mono ?_
          rintro e w4 ⟨rfl, rfl⟩
          go_wp2_with fail
          refine (pick_nil2 _ _).mono ?_
          rintro e w4 ⟨rfl, hb4⟩
          replace hb4 := undrew' hb4
          have hs4 := hb4.size
          have hcell4 : w4.cell? ⟨b, off + k, none⟩ = some (.slice Ai 0 ci) := (hb4.cell (p := ⟨b, off + k, none⟩) (by show b < w2.heap.size; omega)).trans hcell3
          have hb4' : b < w4.heap.size := by omega
          have HT4 := Lib.hid (HT2.out.below (B := w2.heap.size) hb4 HT2.out.lt)
          have HK4 := Lib.hid (HK2.out.then (Kept.of_below (a := w2) (S := fun i => w.heap.size ≤ i) hb4 (fun i _ h => by have : w2.heap.size ≤ i := h; omega)) (fun i _ h => h))
          have ht4 := HT4.out.lt
          clear hb4
          go_wp2_with fail
          refine (refPick_nil Ai ci _ _).mono ?_
          rintro e w5 ⟨rfl, rfl⟩
          go_wp2_with fail
          go_quiet (fail)
          go_wp2_with fail
          refine (next_any _ n _ ?_).mono ?_
          · exact (HT4.out.alloc _).drewN _
          rintro e w5 ⟨rfl, rfl⟩
          go_wp2_with fail
          go_roundw
          case rel => exact ⟨k + 1, n, by omega, by omega, by go_num, rfl, hn0, hn1, Lib.hid ((HT4.out.alloc _).drewN _), Lib.hid ((HK4.out.alloc _).drewN _)⟩
          case measure => simp [intOf]; omega
        · have HCS := Lib.hid hcs
          have HN := Lib.hid h0
          have hl0 : 0 < l.length := List.length_pos_iff.2 h0
          clear hcs h0
          obtain ⟨rr, hrr⟩ : ∃ rr, rightFrom (-1) l = rr := ⟨_, rfl⟩
          have hRa : ∀ W, CellsAt W g 0 l → g < W.heap.size → Calls Try.prog 12 #[.slice (some ⟨g, 0, none⟩) l.length c] W fun e w' => e = .returned (.bool rr) ∧ Below W.heap.size W w' := fun W h1 h2 => by
            rw [← hrr]; exact right_any g 0 c l W hl70 h1 h2
          have hRb : ∀ W, Cands W w.heap.size Ai l → Calls Try.prog 6 #[.slice Ai l.length ci] W fun e w' => e = .returned (.bool rr) ∧ W = w' := fun W h1 => by
            rw [← hrr]; exact refRight_c _ Ai ci l W hl70 h1
          have HRa := Lib.hid hRa
          have HRb := Lib.hid hRb
          have HRR := Lib.hid hrr
          clear hRa hRb hrr
          have hw2 : w.heap.size ≤ w2.heap.size := by omega
          go_wp2_with fail
          go_region_held3 (fun w' => w'.cell? ⟨b, off + k, none⟩ = some (.slice Ai l.length ci))
            (first
              | go_keep
              | (rw [hb3'.cell (by first | (simp; done) | (simp; omega))]; assumption))
            (first
              | (go_at_call 12; refine (HRa.out _ (by exact HCS.out) (by exact hg2)).mono ?_; rintro e w3 ⟨rfl, hb3'⟩)
              | (go_at_call 6; refine (HRb.out _ (by exact HCA3.out.keep fun b o hbo => hb3'.cell (p := ⟨b, o, none⟩) (by show b < w2.heap.size; omega))).mono ?_; rintro e w4 ⟨rfl, rfl⟩))
          replace hb3' := undrew' hb3'
          have hs3 := hb3'.size
          have hcell4 : w3.cell? ⟨b, off + k, none⟩ = some (.slice Ai l.length ci) := (hb3'.cell (p := ⟨b, off + k, none⟩) (by show b < w2.heap.size; omega)).trans hcell3
          have hb4' : b < w3.heap.size := by omega
          have HT4 := Lib.hid (HT2.out.below (B := w2.heap.size) hb3' HT2.out.lt)
          have HK4 := Lib.hid (HK2.out.then (Kept.of_below (a := w2) (S := fun i => w.heap.size ≤ i) hb3' (fun i _ h => by have : w2.heap.size ≤ i := h; omega)) (fun i _ h => h))
          have ht4 := HT4.out.lt
          have HCA4 := Lib.hid (HCA3.out.keep (w' := w3) fun b o hbo => hb3'.cell (p := ⟨b, o, none⟩) (by show b < w2.heap.size; omega))
          have HCS4 := Lib.hid (HCS.out.keep (w' := w3) fun o => hb3'.cell (p := ⟨g, o, none⟩) (by show g < w2.heap.size; omega))
          clear hb3'
          cases rr with
          | false =>
            go_wp2_with fail
            refine (HRb.out _ HCA4.out).mono ?_
            rintro e w4 ⟨rfl, rfl⟩
            go_wp2_with fail
            go_roundw
            case rel => exact ⟨k + 1, n, by omega, by omega, by go_num, rfl, hn0, hn1, HT4, HK4⟩
            case measure => simp [intOf]; omega
          | true =>
            go_wp2_with fail
            refine (HRb.out _ HCA4.out).mono ?_
            rintro e w4 ⟨rfl, rfl⟩
            go_wp2_with fail
            refine (pick_any w1.heap.size g 0 c l n _ hl0 hl70 HCS4.out (fun c hc => by have := rf_mem HRR.out c hc; omega) (by omega) HT4.out).mono ?_
            rintro e w4 ⟨q, hq, hqe, rfl, hT5, hK5⟩
            have hs5 := hK5.size
            have hcell5 : w4.cell? ⟨b, off + k, none⟩ = some (.slice Ai l.length ci) := (hK5.cell hb4' (by omega) _).trans hcell4
            have hb5' : b < w4.heap.size := by omega
            have hg5 : g < w4.heap.size := by omega
            have HK5 := Lib.hid (HK4.out.then hK5 (fun i hi h => by omega))
            have hcs5 : CellsAt w4 g 0 l := HCS4.out.keep fun o => hK5.cell (by omega) (by omega) o
            have hca5 : Cands w4 w.heap.size Ai l := HCA4.out.keep fun b o hbo => hK5.cell (by omega) (by omega) o
            obtain ⟨c0, c1, c2, c3⟩ := hcs5 q hq
            simp only [Nat.zero_add] at c0 c1 c2 c3
            have hqs := rf_mem HRR.out l[q] (List.getElem_mem hq)
            have hq0 : 0 ≤ l[q].slot := by omega
            have hq1 : l[q].slot ≤ 4095 := by omega
            have hqI : (q : Int) < (l.length : Int) := by omega
            have ht5 := hT5.lt
            have HT5 := Lib.hid hT5
            have HQE := Lib.hid hqe
            have HCA5 := Lib.hid hca5
            clear hT5 hK5 hcs5 hca5 hqe hqs
            go_wp2_with fail
            have hP : ∀ W, Cands W w.heap.size Ai l → Calls Try.prog 13 #[.slice Ai l.length ci, .int .i64 n] W fun e w' => e = .returned (.int .i64 (q : Int)) ∧ W = w' := fun W h1 => by
              rcases h1 with h1 | ⟨b', off', _, rfl, h1⟩
              · exact absurd h1 HN.out
              · rw [HQE.out]; exact refPick_any b' off' ci l n W hl0 hl70 h1
            have HP := Lib.hid hP
            clear hP
            refine (HP.out _ (HCA5.out.keep fun b o hbo => World.cell?_alloc_lt _ _ _ (by show b < w4.heap.size; omega))).mono ?_
            rintro e w5 ⟨rfl, rfl⟩
            go_wp2_with fail
            go_quiet (fail)
            go_wp2_with fail
            refine (next_any _ (l[q].slot + 1) _ ?_).mono ?_
            · exact (HT5.out.alloc _).drewN _
            rintro e w5 ⟨rfl, rfl⟩
            go_wp2_with fail
            go_roundw
            case rel => exact ⟨k + 1, l[q].slot + 1, by omega, by omega, by go_num, rfl, by omega, by omega, Lib.hid ((HT5.out.alloc _).drewN _), Lib.hid ((HK5.out.alloc _).drewN _)⟩
            case measure => simp [intOf]; omega
    · have hc1 : k < L.length → ¬ k < 40 := fun h h' => hlt ⟨h, h'⟩
      have hswr := HK.out.size
      by_cases hkl : k < L.length
      · have hk4 : ¬ k < 40 := hc1 hkl
        clear hc1 hlt
        have hkI : (k : Int) < (L.length : Int) := by omega
        go_wp2_with fail
        refine (pick_no _ _).mono ?_
        rintro e w2 ⟨rfl, hb2⟩
        go_wp2_with fail
        refine (next_none _).mono ?_
        rintro e w3 ⟨rfl, rfl⟩
        go_wp2_with fail
        refine (awake_any _).mono ?_
        rintro e w3 ⟨rfl, hb3⟩
        go_wp2_with fail
        go_ret
        go_light
        exact ⟨rfl, picks_end HK.out hb2 hb3⟩
      · clear hc1 hlt
        have hkI : ¬ (k : Int) < (L.length : Int) := by omega
        go_wp2_with fail
        refine (pick_no _ _).mono ?_
        rintro e w2 ⟨rfl, hb2⟩
        go_wp2_with fail
        refine (next_none _).mono ?_
        rintro e w3 ⟨rfl, rfl⟩
        go_wp2_with fail
        refine (awake_any _).mono ?_
        rintro e w3 ⟨rfl, hb3⟩
        go_wp2_with fail
        go_ret
        go_light
        exact ⟨rfl, picks_end HK.out hb2 hb3⟩
set_option maxRecDepth 100000 in
set_option maxHeartbeats 4000000 in
theorem turnPicks_nil (A : Option Addr) (cap : Nat) (w : World) :
    Calls Try.prog 5 #[.slice A 0 cap] w fun e w' => e = .returned (.bool true) ∧ Below w.heap.size w w' := by
  go_enter Try.func5, Try.ntmps5
  go_wp2_with fail
  refine (awake_any _).mono ?_
  rintro e w1 ⟨rfl, hb1⟩
  have HK := Lib.hid ((Kept.of_below (S := fun i => w.heap.size ≤ i) hb1 (fun i _ h => h)).alloc (.cells #[.int .i64 0] 27))
  clear hb1
  go_wp2_with fail
  refine wp_loop_rounds 1 ?_; rw [rounds_succ]
  go_wp2_with fail
  refine (pick_no _ _).mono ?_
  rintro e w2 ⟨rfl, hb2⟩
  go_wp2_with fail
  refine (next_none _).mono ?_
  rintro e w3 ⟨rfl, rfl⟩
  go_wp2_with fail
  refine (awake_any _).mono ?_
  rintro e w3 ⟨rfl, hb3⟩
  go_wp2_with fail
  go_ret
  go_light
  exact ⟨rfl, picks_end HK.out hb2 hb3⟩

theorem turnPicks_l (A : Option Addr) (cap : Nat) (L : List (List Cd)) (w : World) (hL : L.length ≤ maxLen) (hc : Lists w w.heap.size A L) :
    Calls Try.prog 5 #[.slice A L.length cap] w fun e w' => e = .returned (.bool true) ∧ Below w.heap.size w w' := by
  rcases hc with rfl | ⟨b, off, hb, rfl, hc⟩
  · exact turnPicks_nil A cap w
  · exact turnPicks_any b off cap L w hL hb hc

end Go.Proofs.Ytokahoabhhipmaa
