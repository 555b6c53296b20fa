/- A queue's Pop, First, Fix, Drop. -/
import Derived.Test.YtikakdcjbnbacaaF
namespace Go.Proofs.Ytikakdcjbnbacaa
open Go.RowKit
set_option linter.unusedVariables false
theorem bel1 {w : World} {o : Obj} : Below w.heap.size w (w.alloc o) := (Below.refl _ _).alloc (Nat.le_refl _) _
theorem qpop_none (w : World) : Calls Try.prog 14 #[.pointer none] w fun e w' => e = .returned (.tuple #[.agg #[.int .u64 0, .int .i64 0], .bool false]) ∧ Below w.heap.size w w' := by
  go_enter Try.func14, Try.ntmps14
  go_wp2_with fail
  refine (qlen_none _).mono ?_
  rintro e w1 ⟨rfl, rfl⟩
  go_wp2_with fail
  exact bodyPost_ret (results_blk_tmp (P := Try.prog) Try.results14 _ _ w.heap.size 42 #[.int .u64 0, .int .i64 0] _ rfl (Blk.new _ _ _) Try.underlying42 rfl (by kernel_rfl)) rfl ⟨rfl, bel1⟩
theorem qpop_empty (qb base : Nat) (v : Value) (w : World) (h : QuS qb base v [] w) : Calls Try.prog 14 #[.pointer (some ⟨qb, 0, none⟩)] w fun e w' => e = .returned (.tuple #[.agg #[.int .u64 0, .int .i64 0], .bool false]) ∧ Below w.heap.size w w' := by
  have HL := Lib.hid (fun u (hk : Kept (fun _ => False) w u) => qlen_any qb base v [] u (h.on0 hk))
  clear h
  go_enter Try.func14, Try.ntmps14
  go_wp2_with fail
  refine (HL.out _ ((Kept.refl _ _).alloc _)).mono ?_
  rintro e w1 ⟨rfl, rfl⟩
  go_wp2_with fail
  exact bodyPost_ret (results_blk_tmp (P := Try.prog) Try.results14 _ _ w.heap.size 42 #[.int .u64 0, .int .i64 0] _ rfl (Blk.new _ _ _) Try.underlying42 rfl (by kernel_rfl)) rfl ⟨rfl, bel1⟩
theorem qfirst_none (w : World) : Calls Try.prog 21 #[.pointer none] w fun e w' => e = .returned (.tuple #[.agg #[.int .u64 0, .int .i64 0], .bool false]) ∧ Below w.heap.size w w' := by
  go_enter Try.func21, Try.ntmps21
  go_wp2_with fail
  refine (qlen_none _).mono ?_
  rintro e w1 ⟨rfl, rfl⟩
  go_wp2_with fail
  exact bodyPost_ret (results_blk_tmp (P := Try.prog) Try.results21 _ _ w.heap.size 42 #[.int .u64 0, .int .i64 0] _ rfl (Blk.new _ _ _) Try.underlying42 rfl (by kernel_rfl)) rfl ⟨rfl, bel1⟩
theorem qfirst_empty (qb base : Nat) (v : Value) (w : World) (h : QuS qb base v [] w) : Calls Try.prog 21 #[.pointer (some ⟨qb, 0, none⟩)] w fun e w' => e = .returned (.tuple #[.agg #[.int .u64 0, .int .i64 0], .bool false]) ∧ Below w.heap.size w w' := by
  have HL := Lib.hid (fun u (hk : Kept (fun _ => False) w u) => qlen_any qb base v [] u (h.on0 hk))
  clear h
  go_enter Try.func21, Try.ntmps21
  go_wp2_with fail
  refine (HL.out _ ((Kept.refl _ _).alloc _)).mono ?_
  rintro e w1 ⟨rfl, rfl⟩
  go_wp2_with fail
  exact bodyPost_ret (results_blk_tmp (P := Try.prog) Try.results21 _ _ w.heap.size 42 #[.int .u64 0, .int .i64 0] _ rfl (Blk.new _ _ _) Try.underlying42 rfl (by kernel_rfl)) rfl ⟨rfl, bel1⟩
set_option maxHeartbeats 2000000 in
theorem qfirst_any (qb base : Nat) (v : Value) (H : List It) (x : It) (T : List It) (w : World) (hH : H = x :: T) (h : QuS qb base v H w) (hl : H.length ≤ 10000) :
    Calls Try.prog 21 #[.pointer (some ⟨qb, 0, none⟩)] w fun e w' => e = .returned (.tuple #[.agg #[.int .u64 x.w, .int .i64 x.id], .bool true]) ∧ Below w.heap.size w w' := by
  have HL := Lib.hid (fun u (hk : Kept (fun _ => False) w u) => qlen_any qb base v H u (h.on0 hk))
  have h0 : 0 < H.length := by rw [hH]; simp
  obtain ⟨g, c, hv, -, hgl, hel⟩ := h.row.at (i := 0) (by simpa using h0)
  obtain ⟨c0, c1⟩ := it_cells hel h0
  have hx : H[0] = x := by simp [hH]
  rw [hx] at c0 c1
  rw [List.length_map] at hv
  subst hv
  simp only [Nat.zero_mul, Nat.zero_add] at c0 c1
  have q0 := h.blk.cell
  have qlt := h.blk.lt
  have hHI : ((H.length : Int) == 0) = false := beq_eq_false_iff_ne.2 (by omega)
  have h0I : (0 : Int) < (H.length : Int) := by omega
  clear h hel hx hH
  go_enter Try.func21, Try.ntmps21
  go_wp2_with fail
  refine (HL.out _ ((Kept.refl _ _).alloc _)).mono ?_
  rintro e w1 ⟨rfl, rfl⟩
  go_wp2_with fail
  refine bodyPost_ret (results_blk_tmp (P := Try.prog) Try.results21 _ _ w.heap.size 42 #[.int .u64 x.w, .int .i64 x.id] _ rfl ?_ Try.underlying42 rfl (by kernel_rfl)) rfl ⟨rfl, ?_⟩
  · go_light
    exact Blk.new _ _ _
  · go_light
    exact bel1
set_option maxHeartbeats 4000000 in
theorem qpop_any (qb base : Nat) (v : Value) (H : List It) (n : Nat) (w : World) (h : QuS qb base v H w) (hn : H.length = n + 1) (hl : H.length ≤ 10000) (hb : base ≤ w.heap.size) :
    Calls Try.prog 14 #[.pointer (some ⟨qb, 0, none⟩)] w fun e w' => e = .returned (.tuple #[.agg #[.int .u64 (ix (popK H n) n).w, .int .i64 (ix (popK H n) n).id], .bool true]) ∧ QuP qb base v ((popK H n).take n) w w' := by
  have HL := Lib.hid (fun u (hk : Kept (fun _ => False) w u) => qlen_any qb base v H u (h.on0 hk))
  have HP := Lib.hid (fun u (hk : Kept (fun _ => False) w u) => hpop_any qb base v H n u (h.on0 hk) hn hl (Nat.le_trans hb hk.size))
  obtain ⟨x, hx⟩ : ∃ x, ix (popK H n) n = x := ⟨_, rfl⟩
  have qlt := h.blk.lt
  have HQ := Lib.hid h
  rw [hx] at HP ⊢
  have hHI : ((H.length : Int) == 0) = false := beq_eq_false_iff_ne.2 (by omega)
  have hta := run_ta (.agg #[.int .u64 x.w, .int .i64 x.id])
  unfold BI at HP
  clear h hx hn
  go_enter Try.func14, Try.ntmps14
  go_wp2_with fail
  refine (HL.out _ ((Kept.refl _ _).alloc _)).mono ?_
  rintro e w1 ⟨rfl, rfl⟩
  clear HL
  go_wp2_with fail
  refine (HP.out _ ((Kept.refl _ _).alloc _)).mono ?_
  rintro e w2 ⟨rfl, hP2⟩
  obtain ⟨v2, hQ2, hk2, hf2⟩ := hP2
  have hs2 : w.heap.size + 1 ≤ w2.heap.size := by have := hk2.size; simpa using this
  have HX2 := Lib.hid (show Blk w2 w.heap.size 42 #[.int .u64 0, .int .i64 0] from Blk.kept (Blk.new _ _ _) hk2 (fun hq => by have := (HQ.out.lt hq).2; omega))
  have HQ2 := Lib.hid hQ2
  have HK2 := Lib.hid (show Kept (QOwn qb v) w w2 from ((Kept.refl _ w).alloc _).trans hk2)
  have HF2 := Lib.hid (show ∀ g, v2.ownBlock = some g → v.ownBlock = some g ∨ w.heap.size ≤ g from fun g hg => (hf2 g hg).imp id (fun h => by simp at h; omega))
  have HNE := Lib.hid (show ¬ QOwn qb v2 w.heap.size from fun hq => by
    rcases hq with hq | hq
    · omega
    · rcases hf2 _ hq with h | h
      · have := (HQ.out.lt (.inr h)).2; omega
      · simp at h; omega)
  clear hQ2 hk2 hf2 HP
  have cx := HX2.out.cell
  have fx := HX2.out.frozen
  have lx := HX2.out.lt
  go_wp2_with fail
  have HKE := Lib.hid (fun (a b : Value) (o : Obj) => (kept2 (g := w.heap.size) (o := 0) (p := 1) w2 a b).alloc o)
  refine bodyPost_ret (results_blk_tmp (P := Try.prog) Try.results14 _ _ w.heap.size 42 #[.int .u64 x.w, .int .i64 x.id] _ rfl ?_ Try.underlying42 rfl (by kernel_rfl)) rfl ⟨rfl, v2, ?_, ?_, HF2.out⟩
  · exact ((HX2.out.set_ _ _).set_to rfl).alloc _
  · exact HQ2.out.on (HKE.out _ _ _) (fun i hi e => by subst e; exact HNE.out hi)
  · exact HK2.out.then (HKE.out _ _ _) (fun i hi e => by omega)
end Go.Proofs.Ytikakdcjbnbacaa
