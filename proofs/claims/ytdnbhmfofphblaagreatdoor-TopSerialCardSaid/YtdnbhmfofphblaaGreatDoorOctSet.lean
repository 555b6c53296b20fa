/- Contracts of octet.Set. -/
import Derived.Test.YtdnbhmfofphblaaGreatDoorRows
import Derived.Test.YtdnbhmfofphblaaGreatDoorBase
import Derived.Outline
import Derived.Deep.Light
import Derived.Deep.DeepCutAuto
import Derived.Deep.LoopGhost
import Derived.Test.YtdnbhmfofphblaaGreatDoorOctPut
namespace Go.Proofs.YtdnbhmfofphblaaGreatDoor
set_option maxRecDepth 100000
open Go.RowKit
set_option linter.unusedVariables false

theorem set_no (A : Option Addr) (cap n : Nat) (at_ M sz : Int) (w : World) (h : sz < 1 ∨ (1 ≤ sz ∧ 8 < sz) ∨ (1 ≤ sz ∧ sz ≤ 8 ∧ at_ < 0) ∨ (1 ≤ sz ∧ sz ≤ 8 ∧ 0 ≤ at_ ∧ (n : Int) < sz) ∨ (1 ≤ sz ∧ sz ≤ 8 ∧ 0 ≤ at_ ∧ sz ≤ (n : Int) ∧ (n : Int) - sz < at_)) (hn : n ≤ 1000000) :
    Calls Tryz.prog 176 #[.slice A n cap, .int .i64 at_, .int .u64 M, .int .i64 sz] w fun e w' => e = .returned (.tuple #[.slice none 0 0, .int .i64 20]) ∧ w = w' := by
  rcases h with h | ⟨h1, h2⟩ | ⟨h1, h2, h3⟩ | ⟨h1, h2, h3, h4⟩ | ⟨h1, h2, h3, h4, h5⟩
  all_goals
    go_enter Tryz.func176, Tryz.ntmps176
    go_wp2_with fail
    go_ret2
    exact ⟨rfl, rfl⟩

theorem set_ok (A : Option Addr) (cap at_ k : Nat) (l : List UInt8) (M : Int) (w : World) (hl : l.length ≤ 1000000) (hB : BS w w.heap.size A l) (m0 : 0 ≤ M) (m1 : M < 18446744073709551616) (k1 : 1 ≤ k) (k8 : k ≤ 8) (hat : at_ + k ≤ l.length) :
    Calls Tryz.prog 176 #[.slice A l.length cap, .int .i64 (at_ : Int), .int .u64 M, .int .i64 (k : Int)] w fun e w' => e = .returned (.tuple #[.slice (some ⟨w.heap.size, 0, none⟩) l.length l.length, .int .i64 0]) ∧ Own w' 5 w.heap.size l.length (fin l at_ k M) ∧ Below w.heap.size w w' := by
  have hmk := fun W => make_row1 l.length W (by omega)
  have hsz : (Tryz.prog.info? 5).map (·.size) = some 1 := by kernel_rfl
  have HB := Lib.hid hB
  clear hB
  have hne : ¬ l.length = at_ := by omega
  go_enter Tryz.func176, Tryz.ntmps176
  go_wp2_with (refine wpList_copy_splice rfl (.tmp 38) (.tmp 39) 44 44 rfl 5 Tryz.underlying44 hsz (some ⟨w.heap.size, 0, none⟩) A l.length l.length l.length cap rfl rfl w.heap.size 0 (bcs (List.replicate l.length 0)) 5 ?c1 (bcs l) ?c2 ?c3 ?c4 (bcs_one l) w.heap.size w ?c5 (Nat.le_refl _) ?_)
  case c1 => rw [madeCells_bytes]; exact Blk.new_ rfl _ _
  case c2 => rw [bcs_length]; exact (Nat.min_eq_left (by omega)).symm
  case c3 => exact fun hp => (HB.out.alloc (Nat.le_refl _) _).news hp
  case c4 => simp [bcs_length]
  case c5 => exact (Below.refl _ _).alloc (Nat.le_refl _) _
  intro w1 H1 hb1
  rw [splice_bytes, show List.take 0 (List.replicate l.length (0 : UInt8)) ++ (l ++ List.drop (0 + l.length) (List.replicate l.length 0)) = l by simp] at H1
  have hO : Own w1 5 w.heap.size l.length l := Own.of_blk H1.out (by unfold maxLen; omega)
  have hw1 := hO.lt
  have HO := Lib.hid hO
  have HB1 := Lib.hid hb1
  clear H1 hb1 hO
  go_wp2_with fail
  refine wp_region_kept 6 [(5, fun v u => ∃ g, v = .slice (some ⟨g, 0, none⟩) k k ∧ w.heap.size < g ∧ Own u 5 g k (digs k M))] ?st ?ne rfl (by kernel_rfl) (by kernel_rfl) ?_
  case st =>
    intro p hp
    simp at hp
    subst hp
    rintro v u u' ⟨g, rfl, hg, ho⟩ hk
    exact ⟨g, rfl, hg, ho.kept hk (fun h => h)⟩
  case ne =>
    intro p hp
    simp at hp
    subst hp
    have := (put_nil k M w1 m0 m1 k8)
    obtain ⟨e, u, rfl, hO, hb⟩ := calls_some this
    exact ⟨_, u, Kept.ofB hb, w1.heap.size, rfl, hw1, hO⟩
  simp only [List.take_succ_cons, List.take_zero, List.drop_succ_cons, List.drop_zero]
  intro G pick hR hp1 hp2
  repeat (refine wpR_det hp2 rfl ((hR.rel _).trans rfl) rfl ?_; intro K hK; go_big_quiet_op; go_big_quiet_on)
  refine wpR_rel pick rfl ((hR.rel _).trans rfl) ((hR.turns _).trans rfl) ?_ ?_
  · intro u hu
    have hk := hR.since hu.1
    have hs := hk.size
    unfold relAt
    go_simp
    refine (put_nil k M u m0 m1 k8).mono ?_
    rintro e w' ⟨rfl, hO, hb⟩
    exact ⟨_, rfl, hR.intoB hb, hR.said (Said.at_cons (fun _ => ⟨_, rfl, by omega, hO⟩) Said.at_nil)⟩
  · intro v hv
    obtain ⟨u, _, hu⟩ := hv
    obtain ⟨g, rfl, hg, _⟩ := hR.tell hu _ (List.mem_cons_self ..) rfl
    clear hu
    intro K hK
    go_big_quiet_op
    go_big_quiet_on
    refine wpR_nil ?_
    intro w2 hk2 hF hM
    obtain ⟨g', e, -, hO2⟩ := hR.tell (hF _ _ (Got.upd_self _ _ _)) _ (List.mem_cons_self ..) rfl
    obtain rfl : g = g' := by injection e with e; injection e with e; injection e
    have HO2 := Lib.hid hO2
    have HO1 := Lib.hid (HO.out.kept hk2 (fun h => h))
    have HB2 := Lib.hid (HB1.out.trans (hk2.below (Nat.le_of_lt hw1) (fun i h => h.elim)))
    clear hO2 hF hk2 e hM
    go_wp2_with (refine wpList_copy_splice rfl (.tmp 43) (.tmp 46) 44 44 rfl 5 Tryz.underlying44 hsz (some ⟨w.heap.size, at_, none⟩) (some ⟨g, 0, none⟩) (l.length - at_) (l.length - at_) k k rfl rfl w.heap.size at_ (bcs l) 5 ?d1 (bcs (digs k M)) ?d2 ?d3 ?d4 (bcs_one _) w.heap.size w ?d5 (Nat.le_refl _) ?_)
    case d1 => exact HO1.out.full
    case d2 => rw [bcs_length, digs_length]; exact (Nat.min_eq_left (by omega)).symm
    case d3 => exact fun hp j v hj => by simpa [Addr.add_lit] using HO2.out.bytes.news j v hj
    case d4 => simp [bcs_length, digs_length]; omega
    case d5 => exact HB2.out
    intro w3 H3 hb3
    rw [splice_bytes, digs_length] at H3
    have hO3 : Own w3 5 w.heap.size l.length (fin l at_ k M) := by
      have := Own.of_blk (l := fin l at_ k M) H3.out (by rw [fin_length _ _ _ _ hat]; unfold maxLen; omega)
      rwa [fin_length _ _ _ _ hat] at this
    have HO3 := Lib.hid hO3
    have HB3 := Lib.hid hb3
    clear H3 hb3 hO3
    go_wp2_with fail
    go_ret2
    exact ⟨rfl, HO3.out, HB3.out⟩

end Go.Proofs.YtdnbhmfofphblaaGreatDoor
