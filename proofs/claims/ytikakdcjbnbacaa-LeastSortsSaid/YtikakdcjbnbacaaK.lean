/- The reference's First, Index, Cut, Push; the law's to. -/
import Derived.Test.YtikakdcjbnbacaaI
import Derived.Test.YtikakdcjbnbacaaRgLax
namespace Go.Proofs.Ytikakdcjbnbacaa
open Go.RowKit
set_option linter.unusedVariables false
theorem Try.infoRt : (Try.prog.info? 44).map (fun i => (i.zero, i.size, i.bytes)) = some (some (.agg #[.int .u64 0, .int .i64 0]), 2, 16) := by kernel_rfl
theorem bel_two (w : World) (o o' : Obj) : Below w.heap.size w ((w.alloc o).alloc o') := ((Below.refl _ _).alloc (Nat.le_refl _) _).alloc (by simp) _
theorem rowR_is (H : Nat) (w : World) (L : List (List Value)) (hL : ∀ x ∈ L, x.length = 2) (hH : H ≤ w.heap.size) (hm : L.length ≤ maxLen) : RowN (w.alloc (.cells L.flatten.toArray 44)) H 44 2 (.slice (some ⟨w.heap.size, 0, none⟩) L.length L.length) L :=
  RowN.of_blk (Blk.new _ _ _) hH hm hL (by simp) rfl
theorem rowZ_is (H : Nat) (w : World) (L : List (List Value)) (hL : ∀ x ∈ L, x.length = 2) (hH : H ≤ w.heap.size) (hm : L.length ≤ maxLen) : ∃ v u, Lax H 2 w u ∧ RowZ u H 44 2 v L := by
  by_cases h : L = []
  · exact ⟨_, w, Lax.refl _ _ _, .inl ⟨h, 0, rfl⟩⟩
  · exact ⟨_, _, (Lax.refl _ _ _).alloc _, .inr ⟨h, rowR_is H w L hL hH hm⟩⟩
theorem ES.take {w : World} {B : Nat} {A : Option Addr} {sz : Nat} {L : List (List Value)} (h : ES w B A sz L) (k : Nat) : ES w B A sz (L.take k) := by
  rcases h with rfl | ⟨b, off, hb, h1, h2⟩
  · exact .inl (by simp)
  · exact .inr ⟨b, off, hb, h1, h2.take k⟩
theorem to_any (xw xi : Int) (w : World) : Calls Try.prog 11 #[.agg #[.int .u64 xw, .int .i64 xi]] w fun e w' => e = .returned (.agg #[.int .u64 xw, .int .i64 xi]) ∧ Below w.heap.size w w' := by
  go_enter Try.func11, Try.ntmps11
  go_upto_region 1 with fail
  obtain ⟨w2, hw2⟩ : ∃ w2 : World, w2 = (w.alloc (.cells #[.int .u64 xw, .int .i64 xi] 44)).alloc (.cells #[.int .u64 0, .int .i64 0] 42) := ⟨_, rfl⟩
  have HX := Lib.hid (show Blk w2 w.heap.size 44 #[.int .u64 xw, .int .i64 xi] by rw [hw2]; exact (Blk.new _ _ _).alloc _)
  have HY := Lib.hid (show Blk w2 (w.heap.size + 1) 42 #[.int .u64 0, .int .i64 0] by rw [hw2]; exact Blk.new_ (by simp) _ _)
  have HB := Lib.hid (show Below w.heap.size w w2 by rw [hw2]; exact bel_two _ _ _)
  rw [← hw2]
  clear hw2
  have r0 := HX.out.cell 0
  have r1 := HX.out.cell 1
  simp at r0 r1
  have cy := HY.out.cell
  have fy := HY.out.frozen
  have ly := HY.out.lt
  go_wp2_with fail
  refine bodyPost_ret (results_blk1 (P := Try.prog) Try.results11 _ _ (w.heap.size + 1) 42 #[.int .u64 xw, .int .i64 xi] _ rfl ?_ Try.underlying42 rfl (by kernel_rfl)) rfl ⟨rfl, ?_⟩
  · go_light
    exact (HY.out.set_ _ _).set_to rfl
  · go_light
    exact (HB.out.setCell (Nat.le_succ _) _).setCell (Nat.le_succ _) _
theorem refFirst_any (a b : It) (w : World) : Calls Try.prog 23 #[.agg #[.int .u64 a.w, .int .i64 a.id], .agg #[.int .u64 b.w, .int .i64 b.id]] w fun e w' => e = .returned (.bool (ltB a b)) ∧ Below w.heap.size w w' := by
  have HB := Lib.hid (fun o o' => bel_two w o o')
  by_cases h : a.w = b.w
  · have h0 : (a.w == b.w) = true := by simpa using h
    have HL := Lib.hid (show ltB a b = decide (a.id < b.id) by unfold ltB ltI; exact decide_eq_decide.2 (by omega))
    clear h
    go_enter Try.func23, Try.ntmps23
    go_wp2_with fail
    go_ret
    exact ⟨ret_bool HL.out.symm, HB.out _ _⟩
  · have h0 : (a.w == b.w) = false := by simpa using h
    have HL := Lib.hid (show ltB a b = decide (a.w < b.w) by unfold ltB ltI; exact decide_eq_decide.2 (by omega))
    clear h
    go_enter Try.func23, Try.ntmps23
    go_wp2_with fail
    go_ret
    exact ⟨ret_bool HL.out.symm, HB.out _ _⟩
def IxPostR (l : List It) (id : Int) (w : World) (e : Ending) (w' : World) : Prop := ∃ z, e = .returned (.int .i64 z) ∧ IxP l id z ∧ w = w'
set_option maxHeartbeats 2000000 in
theorem refIndex_any (A : Option Addr) (c : Nat) (H : List It) (id : Int) (w : World) (hl : H.length ≤ 10000) (hE : ES w w.heap.size A 2 (H.map It.cs)) :
    Calls Try.prog 16 #[.slice A H.length c, .int .i64 id] w (IxPostR H id w) := by
  have HE := Lib.hid hE
  clear hE
  go_enter Try.func16, Try.ntmps16
  go_wp2_with fail
  go_loopw [5] (fun i wr => ∃ k : Nat, k ≤ H.length ∧ i = .int .i64 (k : Int) ∧ Hid (∀ i (hi : i < H.length), i < k → H[i].id ≠ id) ∧ w = wr) (fun i _ => H.length - (intOf i).toNat)
  case atStart => exact ⟨0, by omega, rfl, Lib.hid (fun i hi h => by omega), rfl⟩
  case round =>
    obtain ⟨k, hk, rfl, HI, rfl⟩ := hrel
    by_cases hkl : k < H.length
    · obtain ⟨b, o, hb, rfl, hel⟩ := HE.out.at (k := k) (by simpa using hkl)
      obtain ⟨c0, c1⟩ := it_cells hel hkl
      obtain ⟨x, hx⟩ : ∃ x, H[k] = x := ⟨_, rfl⟩
      rw [hx] at c0 c1
      have HX := Lib.hid hx
      have kI : (k : Int) < (H.length : Int) := by omega
      clear hel hx
      by_cases he : x.id = id
      · have heb : (x.id == id) = true := by simpa using he
        have HEE := Lib.hid he
        clear he
        go_wp2_with fail
        go_ret
        exact ⟨_, rfl, .inr ⟨k, hkl, rfl, by rw [HX.out]; exact HEE.out, HI.out⟩, rfl⟩
      · have heb : (x.id == id) = false := beq_eq_false_iff_ne.2 he
        have HEE := Lib.hid he
        clear he
        go_wp2_with fail
        go_roundw
        case rel => exact ⟨k + 1, by omega, by go_num, Lib.hid (fun i hi h => by
          by_cases e : i = k
          · subst e; rw [HX.out]; exact HEE.out
          · exact HI.out i hi (by omega)), trivial⟩
        case measure => simp [intOf]; omega
    · obtain rfl : k = H.length := by omega
      have hkn : ¬ (H.length : Int) < (H.length : Int) := by omega
      go_wp2_with fail
      go_ret
      exact ⟨_, rfl, .inl ⟨rfl, fun x hx => by obtain ⟨i, hi, rfl⟩ := List.mem_iff_getElem.1 hx; exact HI.out i hi hi⟩, rfl⟩
theorem its_one (l : List It) : ∀ u ∈ (l.map It.cs).flatten, u.oneCell' = true := by
  intro u hu
  obtain ⟨y, hy, hu⟩ := List.mem_flatten.1 hu
  obtain ⟨x, -, rfl⟩ := List.mem_map.1 hy
  exact it_one x u (by simpa using hu)
theorem ES.laxE {w w' : World} {H N : Nat} {A : Option Addr} {sz : Nat} {L : List (List Value)} (h : ES w H A sz L) (hk : Lax H N w w') : ES w' H A sz L := by
  rcases h with h | ⟨b, off, hb, h1, h2⟩
  · exact .inl h
  · exact .inr ⟨b, off, hb, h1, h2.1, fun j u hu => by
      have e := h2.2 j u hu
      rw [hk.cell (b := b) (World.block_lt_of_cell? w _ e) hb]
      exact e⟩
theorem es_slice {w : World} {B : Nat} {b o : Nat} {l : List It} {k : Nat} (h : ElAt w b o 2 (l.map It.cs)) (hb : b < B) (hk : k ≤ l.length) : ES w B (some ⟨b, o + k * 2, none⟩) 2 ((l.drop k).map It.cs) :=
  .inr ⟨b, o + k * 2, hb, rfl, by rw [List.map_drop]; exact h.drop k (by simpa using hk)⟩
/-- A list of its own is handed back. -/
def OwnP (l : List It) (w : World) (e : Ending) (w' : World) : Prop := ∃ A c, e = .returned (.slice A l.length c) ∧ RowN w' w.heap.size 44 2 (.slice A l.length c) (l.map It.cs) ∧ Below w.heap.size w w'
theorem take_drop_eraseI {α : Type} (l : List α) (i : Nat) : l.take i ++ l.drop (i + 1) = l.eraseIdx i := (List.eraseIdx_eq_take_drop_succ l i).symm
set_option maxHeartbeats 2000000 in
theorem refCut_any (A : Option Addr) (c : Nat) (l : List It) (i : Nat) (w : World) (hi : i < l.length) (hl : l.length ≤ 1000) (hc : l.length ≤ c) (hcm : c ≤ maxLen) (hE : ES w w.heap.size A 2 (l.map It.cs)) :
    Calls Try.prog 18 #[.slice A l.length c, .int .i64 (i : Int)] w (OwnP (l.eraseIdx i) w) := by
  obtain ⟨b, o, hb, rfl, hel⟩ := hE.at (k := i) (by simpa using hi)
  unfold maxLen at hcm
  have HE := Lib.hid hel
  have hinf := Try.infoRt
  clear hE hel
  have iI : (i : Int) < (l.length : Int) := by omega
  have i1I : (i : Int) + 1 ≤ (l.length : Int) := by omega
  have icI : (i : Int) ≤ (c : Int) := by omega
  have mcI : (l.length : Int) ≤ (c : Int) := by omega
  have hwr : IntKind.i64.wrap ((i : Int) + 1) = (i : Int) + 1 := IntWalk.i64_in _ (by omega)
  have h01 : 0 ≤ (i : Int) + 1 := by omega
  have htn : ((i : Int) + 1).toNat = i + 1 := by omega
  go_enter Try.func18, Try.ntmps18
  go_upto_region 1 with fail
  obtain ⟨H, hH0⟩ : ∃ H, w.heap.size = H := ⟨_, rfl⟩
  rw [hH0] at hb
  have hH : H ≤ w.heap.size := by omega
  have blt : b < w.heap.size := by omega
  refine wp_region_kept 9 [(0, fun v u => ∃ g, v = .slice (some ⟨g, 0, none⟩) 0 0 ∧ RowN u H 44 2 v []), (4, fun v u => RowN u H 44 2 v ((l.take i).map It.cs)), (8, fun v u => ∃ A' c', v = .slice A' (l.length - (i + 1)) c' ∧ ES u u.heap.size A' 2 ((l.drop (i + 1)).map It.cs))] ?st ?ne rfl (by kernel_rfl) (by kernel_rfl) ?_
  case st =>
    intro p hp
    simp only [List.mem_cons, List.not_mem_nil, or_false] at hp
    rcases hp with rfl | rfl | rfl
    · rintro v u u' ⟨g, rfl, h⟩ hk; exact ⟨g, rfl, h.kept hk (fun _ _ h => h)⟩
    · intro v u u' h hk; exact h.kept hk (fun _ _ h => h)
    · rintro v u u' ⟨A', c', rfl, h⟩ hk; exact ⟨A', c', rfl, h.on hk (fun _ _ h => h)⟩
  case ne =>
    intro p hp
    simp only [List.mem_cons, List.not_mem_nil, or_false] at hp
    rcases hp with rfl | rfl | rfl
    · exact ⟨_, _, (Kept.refl _ _).alloc _, _, rfl, RowN.lit _ _ hH⟩
    · exact ⟨_, _, (Kept.refl _ _).alloc _, rowR_is H w ((l.take i).map It.cs) (sz_map It.cs_len _) hH (by simp; unfold maxLen; omega)⟩
    · exact ⟨_, _, (Kept.refl _ _).alloc _, some ⟨w.heap.size, 0, none⟩, 0, rfl, .inr ⟨w.heap.size, 0, by simp, rfl, ElAt.of_blk (cs := ((l.drop (i + 1)).map It.cs).flatten.toArray) (t := 44) (Blk.new _ _ _) (sz_map It.cs_len _) (by simp)⟩⟩
  simp only [List.take_succ_cons, List.take_zero, List.drop_succ_cons, List.drop_zero]
  intro G pick hR hp1 hp2
  repeat (first | (refine wpR_det hp2 rfl ((hR.rel _).trans rfl) rfl ?_; intro K hK; go_big_quiet_op; go_big_quiet_on) | (refine wpR_ptr hp2 rfl ((hR.rel _).trans rfl) rfl rfl ?_; intro K hK; go_big_quiet_op; go_big_quiet_on) | (refine wpR_skip pick rfl ?_; intro K hK; go_big_quiet_op; go_big_quiet_on))
  refine wpR_rel pick rfl ((hR.rel _).trans rfl) ((hR.turns _).trans rfl) ?_ ?_
  · intro u hu
    have hk := hR.since hu.1
    have hks := hk.size
    unfold relAt
    go_simp
    exact ⟨hR.into0 ((Kept.refl _ _).alloc _), hR.put 0 rfl rfl ⟨_, rfl, RowN.lit _ _ (Nat.le_trans hH hks)⟩⟩
  intro v hv
  obtain ⟨u, _, hu⟩ := hv
  obtain ⟨g0, rfl, -⟩ := hR.get 0 rfl hu
  clear hu
  intro K hK
  go_big_quiet_op
  go_big_quiet_on
  repeat (first | (refine wpR_det hp2 rfl ((hR.rel _).trans rfl) rfl ?_; intro K hK; go_big_quiet_op; go_big_quiet_on) | (refine wpR_ptr hp2 rfl ((hR.rel _).trans rfl) rfl rfl ?_; intro K hK; go_big_quiet_op; go_big_quiet_on) | (refine wpR_skip pick rfl ?_; intro K hK; go_big_quiet_op; go_big_quiet_on))
  refine wpR_rel pick rfl ((hR.rel _).trans rfl) ((hR.turns _).trans rfl) ?_ ?_
  · intro u hu
    have hk := hR.since hu.1
    have hks := hk.size
    obtain ⟨g0', e, h0⟩ := (hR.get 0 rfl (hu.2 _ _ (Got.upd_self _ _ _) (by kernel_rfl)))
    injection e with e
    injection e with e
    injection e with e
    subst e
    refine relAt_append_emptyN (.tmp 5) (.tmp 8) 33 rfl H 44 (.agg #[.int .u64 0, .int .i64 0]) 2 16 Try.underlying33 hinf rfl (by omega) g0 rfl (some ⟨b, o, none⟩) i c ((l.take i).map It.cs) rfl ?me h0 (sz_map It.cs_len _) ?se ?le ?be ?he ?_
    case me => simp; omega
    case se => exact .inr ⟨_, rfl, fun j u hu => by rw [Addr.add_lit]; have := ((HE.out.take i).keep (w' := _) (fun o => hk.cell blt (fun h => h) o)).2 j u (by simpa [List.map_take] using hu); exact this⟩
    case le => simp; unfold maxLen; omega
    case be => simp; omega
    case he => omega
    intro v' w' h1 h2 _
    exact ⟨hR.intoB h2, hR.put 1 rfl rfl h1⟩
  intro v hv
  obtain ⟨u, _, hu⟩ := hv
  obtain hT4 := hR.get 1 rfl hu
  clear hu
  intro K hK
  go_big_quiet_op
  go_big_quiet_on
  repeat (first | (refine wpR_det hp2 rfl ((hR.rel _).trans rfl) rfl ?_; intro K hK; go_big_quiet_op; go_big_quiet_on) | (refine wpR_ptr hp2 rfl ((hR.rel _).trans rfl) rfl rfl ?_; intro K hK; go_big_quiet_op; go_big_quiet_on) | (refine wpR_skip pick rfl ?_; intro K hK; go_big_quiet_op; go_big_quiet_on))
  refine wpR_rel pick rfl ((hR.rel _).trans rfl) ((hR.turns _).trans rfl) ?_ ?_
  · intro u hu
    have hk := hR.since hu.1
    have hks := hk.size
    unfold relAt
    go_simp
    refine ⟨hR.into0 (Kept.refl _ _), hR.put 2 rfl rfl ⟨_, _, rfl, ?_⟩⟩
    have hel' := HE.out.keep (w' := u) (fun o => hk.cell blt (fun h => h) o)
    split
    · rw [show l.drop (i + 1) = [] from List.drop_eq_nil_of_le (by omega)]; exact .inl rfl
    · exact es_slice hel' (by omega) (by omega)
  intro v hv
  obtain ⟨u, _, hu⟩ := hv
  obtain ⟨A', c', rfl, -⟩ := hR.get 2 rfl hu
  clear hu
  intro K hK
  go_big_quiet_op
  go_big_quiet_on
  repeat (first | (refine wpR_det hp2 rfl ((hR.rel _).trans rfl) rfl ?_; intro K hK; go_big_quiet_op; go_big_quiet_on) | (refine wpR_ptr hp2 rfl ((hR.rel _).trans rfl) rfl rfl ?_; intro K hK; go_big_quiet_op; go_big_quiet_on) | (refine wpR_skip pick rfl ?_; intro K hK; go_big_quiet_op; go_big_quiet_on))
  refine wpR_nil ?_
  intro w3 hk2 hF hM
  have HV := Lib.hid ((hR.get 1 rfl (hF _ _ (Got.upd_old (Got.upd_self _ _ _) rfl))))
  have HS := Lib.hid ((hR.get 2 rfl (hF _ _ (Got.upd_self _ _ _))))
  have HB3 := Lib.hid (show Below H w w3 from hk2.below hH (fun _ h => h.elim))
  have hs3 := hk2.size
  obtain ⟨VA, vc, hve, -, -⟩ := HV.out.shape
  rw [List.length_map, List.length_take, Nat.min_eq_left (by omega)] at hve
  clear hF hM hk2 hp1 hp2 hR hwr htn
  subst hve
  obtain ⟨A'', c'', e, hS⟩ := HS.out
  injection e with e1 e2 e3
  subst e1
  have HSS := Lib.hid hS
  clear e2 e3 hS HS
  go_wp2_with (at_builtin; refine wpList_append_rowN rfl (.tmp 9) (.tmp 13) 33 rfl H 44 (.agg #[.int .u64 0, .int .i64 0]) 2 16 Try.underlying33 hinf rfl (by omega) _ ((l.take i).map It.cs) rfl A' (l.length - (i + 1)) c' ((l.drop (i + 1)).map It.cs) rfl ?a0 HV.out (sz_map It.cs_len _) HSS.out.src (its_one _) ?a3 ?a4 ?a5 ?_)
  case a0 => simp
  case a3 => simp; unfold maxLen; omega
  case a4 => simp; omega
  case a5 => omega
  intro v5 w5 hr5 hg5 _
  replace hr5 : RowN w5 H 44 2 v5 ((l.eraseIdx i).map It.cs) := by
    rw [← take_drop_eraseI, List.map_append, List.map_take, List.map_drop]; exact hr5
  have hs5 := hg5.size
  obtain ⟨UA, uc, hue, -, -⟩ := hr5.shape
  rw [List.length_map] at hue
  subst hue
  have HR5 := Lib.hid hr5
  have HB5 := Lib.hid (HB3.out.trans ((Kept.of_grown (S := fun j => (Value.slice VA i vc).ownBlock = some j) hg5 (fun j _ e => e.symm)).below (by omega) (fun j e => (HV.out.lt j e).1)))
  clear hr5 hg5 HB3 HSS
  go_wp2_with fail
  go_ret
  subst hH0
  exact ⟨_, _, rfl, HR5.out, HB5.out⟩
def insL (x : It) : List It → List It
  | [] => [x]
  | y :: l => if ltB x y then x :: y :: l else y :: insL x l
theorem insL_len (x : It) (l : List It) : (insL x l).length = l.length + 1 := by
  induction l with
  | nil => rfl
  | cons y l ih => unfold insL; split <;> simp [ih]
theorem insL_at (x : It) : ∀ (l : List It) (k : Nat), k ≤ l.length → (∀ i (hi : i < l.length), i < k → ltB x l[i] = false) → (∀ hk : k < l.length, ltB x l[k] = true) → l.take k ++ [x] ++ l.drop k = insL x l
  | [], k, hk, _, _ => by simp [insL]
  | y :: l, 0, _, _, h => by have := h (by simp); simp at this; simp [insL, this]
  | y :: l, k + 1, hk, h, h' => by
    have h0 := h 0 (by simp) (by omega)
    simp at h0
    have ih := insL_at x l k (by simpa using hk) (fun i hi hik => by have := h (i + 1) (by simp; omega) (by omega); simpa using this) (fun hk' => by have := h' (by simp; omega); simpa using this)
    unfold insL
    rw [if_neg (by rw [h0]; simp), ← ih]
    simp
set_option maxHeartbeats 4000000 in
theorem refPush_some (b o c : Nat) (l : List It) (xw xi : Int) (w : World) (hb : b < w.heap.size) (hl : l.length ≤ 1000) (hc : l.length ≤ c) (hcm : c ≤ maxLen) (hel : ElAt w b o 2 (l.map It.cs)) :
    Calls Try.prog 12 #[.slice (some ⟨b, o, none⟩) l.length c, .agg #[.int .u64 xw, .int .i64 xi]] w (OwnP (insL ⟨xw, xi⟩ l) w) := by
  have HE := Lib.hid hel
  have hinf := Try.infoRt
  unfold maxLen at hcm
  clear hel
  go_enter Try.func12, Try.ntmps12
  go_wp2_with fail
  obtain ⟨w1, hw1⟩ : ∃ w1 : World, w1 = w.alloc (.cells #[.int .u64 xw, .int .i64 xi] 44) := ⟨_, rfl⟩
  have HX1 := Lib.hid (show Blk w1 w.heap.size 44 #[.int .u64 xw, .int .i64 xi] by rw [hw1]; exact Blk.new _ _ _)
  have HB1 := Lib.hid (show Below w.heap.size w w1 by rw [hw1]; exact bel1)
  rw [← hw1]
  clear hw1
  go_loopw [5] (fun i wr => ∃ k : Nat, k ≤ l.length ∧ i = .int .i64 (k : Int) ∧ Hid (∀ i (hi : i < l.length), i < k → ltB ⟨xw, xi⟩ l[i] = false) ∧ Hid (Blk wr w.heap.size 44 #[.int .u64 xw, .int .i64 xi]) ∧ Hid (Below w.heap.size w wr)) (fun i _ => l.length - (intOf i).toNat)
  case atStart => exact ⟨0, by omega, rfl, Lib.hid (fun i hi h => by omega), HX1, HB1⟩
  case round =>
    obtain ⟨k, hk, rfl, HI, HX, HB⟩ := hrel
    have hsr := HB.out.size
    have xlt := HX.out.lt
    have kcI : (k : Int) ≤ (c : Int) := by omega
    have lcI : (l.length : Int) ≤ (c : Int) := by omega
    have klI : (k : Int) ≤ (l.length : Int) := by omega
    by_cases hkl : k < l.length
    · have HEL := Lib.hid (HE.out.keep (w' := wr) (fun o => HB.out.cell (p := ⟨b, o, none⟩) hb))
      obtain ⟨c0, c1⟩ := it_cells HEL.out hkl
      have x0 := HX.out.cell 0
      have x1 := HX.out.cell 1
      simp at x0 x1
      obtain ⟨y, hy⟩ : ∃ y, l[k] = y := ⟨_, rfl⟩
      rw [hy] at c0 c1
      have HY := Lib.hid hy
      have blt : b < wr.heap.size := by omega
      obtain ⟨yw, yi⟩ := y
      simp only at c0 c1
      have kI : (k : Int) < (l.length : Int) := by omega
      obtain ⟨q, hq⟩ : ∃ q, ltB ⟨xw, xi⟩ ⟨yw, yi⟩ = q := ⟨_, rfl⟩
      have HFI := Lib.hid (fun u => refFirst_any ⟨xw, xi⟩ ⟨yw, yi⟩ u)
      rw [hq] at HFI
      have HQ := Lib.hid hq
      clear hy hq
      go_upto_region 2 with fail
      refine wp_region_kept 13 [(10, fun v u => v = .bool q)] ?st ?ne rfl (by kernel_rfl) (by kernel_rfl) ?_
      case st =>
        intro p hp
        simp only [List.mem_cons, List.not_mem_nil, or_false] at hp
        subst hp
        · intro v u u' h hk; exact h
      case ne =>
        intro p hp
        simp only [List.mem_cons, List.not_mem_nil, or_false] at hp
        subst hp
        · exact ⟨_, _, Kept.refl _ _, rfl⟩
      simp only [List.take_succ_cons, List.take_zero, List.drop_succ_cons, List.drop_zero]
      intro G pick hR hp1 hp2
      have p0 : ∀ u, (pick u).cell? ⟨w.heap.size, 0, none⟩ = some (.int .u64 xw) := fun u => ((hp1 u).cell xlt (fun h => h) _).trans x0
      have p1 : ∀ u, (pick u).cell? ⟨w.heap.size, 1, none⟩ = some (.int .i64 xi) := fun u => ((hp1 u).cell xlt (fun h => h) _).trans x1
      have p2 : ∀ u, (pick u).cell? ⟨b, o + k * 2, none⟩ = some (.int .u64 yw) := fun u => ((hp1 u).cell blt (fun h => h) _).trans c0
      have p3 : ∀ u, (pick u).cell? ⟨b, o + k * 2 + 1, none⟩ = some (.int .i64 yi) := fun u => ((hp1 u).cell blt (fun h => h) _).trans c1
      repeat (first | (refine wpR_det hp2 rfl ((hR.rel _).trans rfl) rfl ?_; intro K hK; go_big_quiet_op; go_big_quiet_on) | (refine wpR_ptr hp2 rfl ((hR.rel _).trans rfl) rfl rfl ?_; intro K hK; go_big_quiet_op; go_big_quiet_on) | (refine wpR_skip pick rfl ?_; intro K hK; go_big_quiet_op; go_big_quiet_on))
      refine wpR_rel pick rfl ((hR.rel _).trans rfl) ((hR.turns _).trans rfl) ?_ ?_
      · intro u hu
        have hk := hR.since hu.1
        have hks := hk.size
        unfold relAt
        go_simp
        refine (HFI.out _).mono ?_
        rintro e w' ⟨rfl, hb⟩
        exact ⟨_, rfl, hR.intoB hb, hR.put 0 rfl rfl rfl⟩
      intro v hv
      obtain ⟨u, _, hu⟩ := hv
      obtain rfl := hR.get 0 rfl hu
      clear hu
      intro K hK
      go_big_quiet_op
      go_big_quiet_on
      repeat (first | (refine wpR_det hp2 rfl ((hR.rel _).trans rfl) rfl ?_; intro K hK; go_big_quiet_op; go_big_quiet_on) | (refine wpR_ptr hp2 rfl ((hR.rel _).trans rfl) rfl rfl ?_; intro K hK; go_big_quiet_op; go_big_quiet_on) | (refine wpR_skip pick rfl ?_; intro K hK; go_big_quiet_op; go_big_quiet_on))
      refine wpR_nil ?_
      intro w3 hk2 hF hM
      have HB3 := Lib.hid (show Below w.heap.size w w3 from HB.out.trans (hk2.below hsr (fun _ h => h.elim)))
      have HX3 := Lib.hid (HX.out.kept hk2 (fun h => h))
      have hs3 := HB3.out.size
      clear hF hM hk2 hp1 hp2 hR x0 x1 c0 c1 p0 p1 p2 p3 HEL HB HX HFI xlt blt
      cases q with
      | false =>
        go_wp2_with fail
        go_roundw
        case rel => exact ⟨k + 1, by omega, by go_num, Lib.hid (fun i hi h => by
          by_cases e : i = k
          · subst e; rw [HY.out]; exact HQ.out
          · exact HI.out i hi (by omega)), HX3, HB3⟩
        case measure => simp [intOf]; omega
      | true =>
        have HINS := Lib.hid (insL_at ⟨xw, xi⟩ l k hk HI.out (fun _ => by rw [HY.out]; exact HQ.out))
        clear HI HY HQ
        go_upto_region 4 with fail
        obtain ⟨H, hH0⟩ : ∃ H, w3.heap.size = H := ⟨_, rfl⟩
        have hH : H ≤ w3.heap.size := by omega
        have xlt := HX3.out.lt
        have xH : w.heap.size < H := by omega
        have y0 := HX3.out.cell 0
        have y1 := HX3.out.cell 1
        simp at y0 y1
        have blt : b < w3.heap.size := by omega
        have bH : b < H := by omega
        have HE3 := Lib.hid (HE.out.keep (w' := w3) (fun o => HB3.out.cell (p := ⟨b, o, none⟩) hb))
        refine wp_region_lax 11 H 2 [4, 7] [(0, fun v u => ∃ g, v = .slice (some ⟨g, 0, none⟩) 0 0), (4, fun v u => RowZ u H 44 2 v ((l.take k).map It.cs)), (6, fun v u => ∃ g, v = .slice (some ⟨g, 0, none⟩) 1 1 ∧ Blk u g 44 #[.int .u64 xw, .int .i64 xi]), (7, fun v u => RowN u H 44 2 v (((l.take k).map It.cs) ++ [It.cs ⟨xw, xi⟩])), (10, fun v u => ∃ A' c', v = .slice A' (l.length - k) c' ∧ ES u H A' 2 ((l.drop k).map It.cs))] ?st ?ne rfl (by kernel_rfl) (by kernel_rfl) (by kernel_rfl) ?_
        case st =>
          intro p hp
          simp only [List.mem_cons, List.not_mem_nil, or_false] at hp
          rcases hp with rfl | rfl | rfl | rfl | rfl
          · intro v u u' h _; exact h
          · intro v u u' h hk; exact h.kept hk
          · rintro v u u' ⟨g, rfl, h⟩ hk; exact ⟨g, rfl, h.lax hk (by simp)⟩
          · intro v u u' h hk; exact h.kept hk (fun _ _ h => h)
          · rintro v u u' ⟨A', c', rfl, h⟩ hk; exact ⟨A', c', rfl, h.laxE hk⟩
        case ne =>
          intro p hp
          simp only [List.mem_cons, List.not_mem_nil, or_false] at hp
          rcases hp with rfl | rfl | rfl | rfl | rfl
          · exact ⟨.slice (some ⟨0, 0, none⟩) 0 0, _, Lax.refl _ _ _, 0, rfl⟩
          · exact rowZ_is H w3 ((l.take k).map It.cs) (sz_map It.cs_len _) hH (by simp; unfold maxLen; omega)
          · exact ⟨_, _, (Lax.refl _ _ _).alloc _, _, rfl, Blk.new _ _ _⟩
          · exact ⟨_, _, (Lax.refl _ _ _).alloc _, rowR_is H w3 (((l.take k).map It.cs) ++ [It.cs ⟨xw, xi⟩]) (by intro y hy; rcases List.mem_append.1 hy with h | h; exact sz_map It.cs_len _ y h; obtain rfl : y = _ := (by simpa using h); rfl) hH (by simp; unfold maxLen; omega)⟩
          · exact ⟨_, w3, Lax.refl _ _ _, some ⟨b, o + k * 2, none⟩, 0, rfl, es_slice HE3.out bH (by omega)⟩
        simp only [List.take_succ_cons, List.take_zero, List.drop_succ_cons, List.drop_zero]
        intro G pick hR hp1 hp2
        have p0 : ∀ u, (pick u).cell? ⟨w.heap.size, 0, none⟩ = some (.int .u64 xw) := fun u => ((hp1 u).cell xlt xH _).trans y0
        have p1 : ∀ u, (pick u).cell? ⟨w.heap.size, 1, none⟩ = some (.int .i64 xi) := fun u => ((hp1 u).cell xlt xH _).trans y1
        repeat (first | (refine wpR_det hp2 rfl ((hR.rel _).trans rfl) rfl ?_; intro K hK; go_big_quiet_op; go_big_quiet_on) | (refine wpR_ptr hp2 rfl ((hR.rel _).trans rfl) rfl rfl ?_; intro K hK; go_big_quiet_op; go_big_quiet_on) | (refine wpR_skip pick rfl ?_; intro K hK; go_big_quiet_op; go_big_quiet_on))
        refine wpR_rel pick rfl ((hR.rel _).trans rfl) ((hR.turns _).trans rfl) ?_ ?_
        · intro u hu
          have hk := hR.since hu.1
          have hks := hk.size
          unfold relAt
          go_simp
          exact ⟨hR.into0 ((Kept.refl _ _).alloc _), hR.put 0 rfl rfl ⟨_, rfl⟩⟩
        intro v hv
        obtain ⟨u, _, hu⟩ := hv
        obtain ⟨g0, rfl⟩ := hR.get 0 rfl hu
        clear hu
        intro K hK
        go_big_quiet_op
        go_big_quiet_on
        repeat (first | (refine wpR_det hp2 rfl ((hR.rel _).trans rfl) rfl ?_; intro K hK; go_big_quiet_op; go_big_quiet_on) | (refine wpR_ptr hp2 rfl ((hR.rel _).trans rfl) rfl rfl ?_; intro K hK; go_big_quiet_op; go_big_quiet_on) | (refine wpR_skip pick rfl ?_; intro K hK; go_big_quiet_op; go_big_quiet_on))
        refine wpR_turn pick rfl ((hR.rel _).trans rfl) ((hR.turns _).trans rfl) ((hR.adds _).trans rfl) ?_ ?_
        · intro u hu hM
          have hk := hR.since hu.1
          have hks := hk.size
          refine relAt_append_zero (.tmp 21) (.tmp 24) 33 rfl H 44 (.agg #[.int .u64 0, .int .i64 0]) 2 16 Try.underlying33 hinf rfl (by omega) g0 rfl (some ⟨b, o, none⟩) k c ((l.take k).map It.cs) rfl ?me (sz_map It.cs_len _) ?se ?le ?be ?he ?_
          case me => simp; omega
          case se => exact .inr ⟨_, rfl, fun j u hu => by rw [Addr.add_lit]; have := ((HE3.out.take k).keep (w' := _) (fun o => hk.cell blt bH o)).2 j u (by simpa [List.map_take] using hu); exact this⟩
          case le => simp; unfold maxLen; omega
          case be => simp; omega
          case he => omega
          intro v' w' h1 h2
          exact ⟨hR.into (Lax.of_below h2), hR.put 1 rfl rfl h1⟩
        intro v hv
        obtain ⟨u, _, hu⟩ := hv
        obtain hT4 := hR.get 1 rfl hu
        clear hu
        intro K hK
        go_big_quiet_op
        go_big_quiet_on
        repeat (first | (refine wpR_det hp2 rfl ((hR.rel _).trans rfl) rfl ?_; intro K hK; go_big_quiet_op; go_big_quiet_on) | (refine wpR_ptr hp2 rfl ((hR.rel _).trans rfl) rfl rfl ?_; intro K hK; go_big_quiet_op; go_big_quiet_on) | (refine wpR_skip pick rfl ?_; intro K hK; go_big_quiet_op; go_big_quiet_on))
        refine wpR_rel pick rfl ((hR.rel _).trans rfl) ((hR.turns _).trans rfl) ?_ ?_
        · intro u hu
          have hk := hR.since hu.1
          have hks := hk.size
          unfold relAt
          go_simp
          exact ⟨hR.into0 ((Kept.refl _ _).alloc _), hR.put 2 rfl rfl ⟨_, rfl, Blk.new _ _ _⟩⟩
        intro v hv
        obtain ⟨u, _, hu⟩ := hv
        obtain ⟨g6, rfl, -⟩ := hR.get 2 rfl hu
        clear hu
        intro K hK
        go_big_quiet_op
        go_big_quiet_on
        repeat (first | (refine wpR_det hp2 rfl ((hR.rel _).trans rfl) rfl ?_; intro K hK; go_big_quiet_op; go_big_quiet_on) | (refine wpR_ptr hp2 rfl ((hR.rel _).trans rfl) rfl rfl ?_; intro K hK; go_big_quiet_op; go_big_quiet_on) | (refine wpR_skip pick rfl ?_; intro K hK; go_big_quiet_op; go_big_quiet_on))
        refine wpR_turn pick rfl ((hR.rel _).trans rfl) ((hR.turns _).trans rfl) ((hR.adds _).trans rfl) ?_ ?_
        · intro u hu hM
          have hk := hR.since hu.1
          have hks := hk.size
          have hz := hR.get 1 rfl hM
          obtain ⟨g6', e, h6⟩ := (hR.get 2 rfl (hu.2 _ _ (Got.upd_self _ _ _) (by kernel_rfl)))
          injection e with e
          injection e with e
          injection e with e
          subst e
          refine relAt_append_lax (.tmp 25) (.tmp 27) 33 rfl H 44 (.agg #[.int .u64 0, .int .i64 0]) 2 16 Try.underlying33 hinf rfl (by omega) _ ((l.take k).map It.cs) rfl (some ⟨g6, 0, none⟩) 1 1 [It.cs ⟨xw, xi⟩] rfl rfl hz (by simp [It.cs]) (by simp) (Src.blk h6 (by simp [It.cs])) (it_one _) ?lf ?bf ?hf ?_
          case lf => simp; unfold maxLen; omega
          case bf => simp; omega
          case hf => omega
          intro v' w' h1 h2
          exact ⟨hR.into h2, hR.put 3 rfl rfl h1⟩
        intro v hv
        obtain ⟨u, _, hu⟩ := hv
        obtain hT7 := hR.get 3 rfl hu
        clear hu
        intro K hK
        go_big_quiet_op
        go_big_quiet_on
        repeat (first | (refine wpR_det hp2 rfl ((hR.rel _).trans rfl) rfl ?_; intro K hK; go_big_quiet_op; go_big_quiet_on) | (refine wpR_ptr hp2 rfl ((hR.rel _).trans rfl) rfl rfl ?_; intro K hK; go_big_quiet_op; go_big_quiet_on) | (refine wpR_skip pick rfl ?_; intro K hK; go_big_quiet_op; go_big_quiet_on))
        refine wpR_rel pick rfl ((hR.rel _).trans rfl) ((hR.turns _).trans rfl) ?_ ?_
        · intro u hu
          have hk := hR.since hu.1
          have hks := hk.size
          unfold relAt
          go_simp
          refine ⟨hR.into0 (Kept.refl _ _), hR.put 4 rfl rfl ⟨_, _, rfl, ?_⟩⟩
          have hel' := HE3.out.keep (w' := u) (fun o => hk.cell blt bH o)
          split
          · rw [show l.drop k = [] from List.drop_eq_nil_of_le (by omega)]; exact .inl rfl
          · exact es_slice hel' bH (by omega)
        intro v hv
        obtain ⟨u, _, hu⟩ := hv
        obtain ⟨A', c', rfl, -⟩ := hR.get 4 rfl hu
        clear hu
        intro K hK
        go_big_quiet_op
        go_big_quiet_on
        repeat (first | (refine wpR_det hp2 rfl ((hR.rel _).trans rfl) rfl ?_; intro K hK; go_big_quiet_op; go_big_quiet_on) | (refine wpR_ptr hp2 rfl ((hR.rel _).trans rfl) rfl rfl ?_; intro K hK; go_big_quiet_op; go_big_quiet_on) | (refine wpR_skip pick rfl ?_; intro K hK; go_big_quiet_op; go_big_quiet_on))
        refine wpR_nil ?_
        intro w4 hk2 hF hM
        have HV := Lib.hid (hR.get 3 rfl hM)
        have HS := Lib.hid ((hR.get 4 rfl (hF _ _ (Got.upd_self _ _ _))))
        have HB4 := Lib.hid (HB3.out.trans ((hk2.below hH).mono (show w.heap.size ≤ H by omega)))
        have hs4 := hk2.size
        obtain ⟨VA, vc, hve, -, -⟩ := HV.out.shape
        rw [show (((l.take k).map It.cs) ++ [It.cs ⟨xw, xi⟩]).length = k + 1 by simp; omega] at hve
        clear hF hM hk2 hp1 hp2 hR p0 p1 y0 y1
        subst hve
        obtain ⟨A'', c'', e, hS⟩ := HS.out
        injection e with e1 e2 e3
        subst e1
        have HSS := Lib.hid hS
        clear e2 e3 hS HS
        go_wp2_with (at_builtin; refine wpList_append_rowN rfl (.tmp 28) (.tmp 31) 33 rfl H 44 (.agg #[.int .u64 0, .int .i64 0]) 2 16 Try.underlying33 hinf rfl (by omega) _ (((l.take k).map It.cs) ++ [It.cs ⟨xw, xi⟩]) rfl A' (l.length - k) c' ((l.drop k).map It.cs) rfl ?a0 HV.out (sz_map It.cs_len _) HSS.out.src (its_one _) ?a3 ?a4 ?a5 ?_)
        try case a0 => simp
        case a3 => try simp
                   unfold maxLen; omega
        case a4 => try simp
                   omega
        case a5 => omega
        intro v5 w5 hr5 hg5 _
        replace hr5 : RowN w5 H 44 2 v5 ((insL ⟨xw, xi⟩ l).map It.cs) := by
          rw [← HINS.out, List.map_append, List.map_append]; simpa using hr5
        obtain ⟨UA, uc, hue, -, -⟩ := hr5.shape
        rw [List.length_map] at hue
        subst hue
        have HR5 := Lib.hid (hr5.more (show w.heap.size ≤ H by omega))
        have HB5 := Lib.hid (HB4.out.trans ((Kept.of_grown (S := fun j => (Value.slice VA (k + 1) vc).ownBlock = some j) hg5 (fun j _ e => e.symm)).below (by omega) (fun j e => by have := (HV.out.lt j e).1; omega)))
        clear hr5 hg5 HSS
        go_wp2_with fail
        go_ret
        exact ⟨_, _, rfl, HR5.out, HB5.out⟩
    · have HINS := Lib.hid (insL_at ⟨xw, xi⟩ l k hk HI.out (fun h => absurd h hkl))
      have kI : ¬ (k : Int) < (l.length : Int) := by omega
      go_upto_region 2 with fail
      refine wp_region_kept 13 [] ?st ?ne rfl (by kernel_rfl) (by kernel_rfl) ?_
      case st => intro p hp; cases hp
      case ne => intro p hp; cases hp
      simp only [List.take_succ_cons, List.take_zero, List.drop_succ_cons, List.drop_zero]
      intro G pick hR hp1 hp2
      repeat (first | (refine wpR_det hp2 rfl ((hR.rel _).trans rfl) rfl ?_; intro K hK; go_big_quiet_op; go_big_quiet_on) | (refine wpR_ptr hp2 rfl ((hR.rel _).trans rfl) rfl rfl ?_; intro K hK; go_big_quiet_op; go_big_quiet_on) | (refine wpR_skip pick rfl ?_; intro K hK; go_big_quiet_op; go_big_quiet_on))
      refine wpR_nil ?_
      intro w3 hk2 hF hM
      have HB3 := Lib.hid (show Below w.heap.size w w3 from HB.out.trans (hk2.below hsr (fun _ h => h.elim)))
      have HX3 := Lib.hid (HX.out.kept hk2 (fun h => h))
      have hs3 := HB3.out.size
      clear hF hM hk2 hp1 hp2 hR HB HX HI xlt hsr
      go_upto_region 4 with fail
      obtain ⟨H, hH0⟩ : ∃ H, w3.heap.size = H := ⟨_, rfl⟩
      have hH : H ≤ w3.heap.size := by omega
      have xlt := HX3.out.lt
      have xH : w.heap.size < H := by omega
      have y0 := HX3.out.cell 0
      have y1 := HX3.out.cell 1
      simp at y0 y1
      have blt : b < w3.heap.size := by omega
      have bH : b < H := by omega
      have HE3 := Lib.hid (HE.out.keep (w' := w3) (fun o => HB3.out.cell (p := ⟨b, o, none⟩) hb))
      refine wp_region_lax 11 H 2 [4, 7] [(0, fun v u => ∃ g, v = .slice (some ⟨g, 0, none⟩) 0 0), (4, fun v u => RowZ u H 44 2 v ((l.take k).map It.cs)), (6, fun v u => ∃ g, v = .slice (some ⟨g, 0, none⟩) 1 1 ∧ Blk u g 44 #[.int .u64 xw, .int .i64 xi]), (7, fun v u => RowN u H 44 2 v (((l.take k).map It.cs) ++ [It.cs ⟨xw, xi⟩])), (10, fun v u => ∃ A' c', v = .slice A' (l.length - k) c' ∧ ES u H A' 2 ((l.drop k).map It.cs))] ?st ?ne rfl (by kernel_rfl) (by kernel_rfl) (by kernel_rfl) ?_
      case st =>
        intro p hp
        simp only [List.mem_cons, List.not_mem_nil, or_false] at hp
        rcases hp with rfl | rfl | rfl | rfl | rfl
        · intro v u u' h _; exact h
        · intro v u u' h hk; exact h.kept hk
        · rintro v u u' ⟨g, rfl, h⟩ hk; exact ⟨g, rfl, h.lax hk (by simp)⟩
        · intro v u u' h hk; exact h.kept hk (fun _ _ h => h)
        · rintro v u u' ⟨A', c', rfl, h⟩ hk; exact ⟨A', c', rfl, h.laxE hk⟩
      case ne =>
        intro p hp
        simp only [List.mem_cons, List.not_mem_nil, or_false] at hp
        rcases hp with rfl | rfl | rfl | rfl | rfl
        · exact ⟨.slice (some ⟨0, 0, none⟩) 0 0, _, Lax.refl _ _ _, 0, rfl⟩
        · exact rowZ_is H w3 ((l.take k).map It.cs) (sz_map It.cs_len _) hH (by simp; unfold maxLen; omega)
        · exact ⟨_, _, (Lax.refl _ _ _).alloc _, _, rfl, Blk.new _ _ _⟩
        · exact ⟨_, _, (Lax.refl _ _ _).alloc _, rowR_is H w3 (((l.take k).map It.cs) ++ [It.cs ⟨xw, xi⟩]) (by intro y hy; rcases List.mem_append.1 hy with h | h; exact sz_map It.cs_len _ y h; obtain rfl : y = _ := (by simpa using h); rfl) hH (by simp; unfold maxLen; omega)⟩
        · exact ⟨_, w3, Lax.refl _ _ _, some ⟨b, o + k * 2, none⟩, 0, rfl, es_slice HE3.out bH (by omega)⟩
      simp only [List.take_succ_cons, List.take_zero, List.drop_succ_cons, List.drop_zero]
      intro G pick hR hp1 hp2
      have p0 : ∀ u, (pick u).cell? ⟨w.heap.size, 0, none⟩ = some (.int .u64 xw) := fun u => ((hp1 u).cell xlt xH _).trans y0
      have p1 : ∀ u, (pick u).cell? ⟨w.heap.size, 1, none⟩ = some (.int .i64 xi) := fun u => ((hp1 u).cell xlt xH _).trans y1
      repeat (first | (refine wpR_det hp2 rfl ((hR.rel _).trans rfl) rfl ?_; intro K hK; go_big_quiet_op; go_big_quiet_on) | (refine wpR_ptr hp2 rfl ((hR.rel _).trans rfl) rfl rfl ?_; intro K hK; go_big_quiet_op; go_big_quiet_on) | (refine wpR_skip pick rfl ?_; intro K hK; go_big_quiet_op; go_big_quiet_on))
      refine wpR_rel pick rfl ((hR.rel _).trans rfl) ((hR.turns _).trans rfl) ?_ ?_
      · intro u hu
        have hk := hR.since hu.1
        have hks := hk.size
        unfold relAt
        go_simp
        exact ⟨hR.into0 ((Kept.refl _ _).alloc _), hR.put 0 rfl rfl ⟨_, rfl⟩⟩
      intro v hv
      obtain ⟨u, _, hu⟩ := hv
      obtain ⟨g0, rfl⟩ := hR.get 0 rfl hu
      clear hu
      intro K hK
      go_big_quiet_op
      go_big_quiet_on
      repeat (first | (refine wpR_det hp2 rfl ((hR.rel _).trans rfl) rfl ?_; intro K hK; go_big_quiet_op; go_big_quiet_on) | (refine wpR_ptr hp2 rfl ((hR.rel _).trans rfl) rfl rfl ?_; intro K hK; go_big_quiet_op; go_big_quiet_on) | (refine wpR_skip pick rfl ?_; intro K hK; go_big_quiet_op; go_big_quiet_on))
      refine wpR_turn pick rfl ((hR.rel _).trans rfl) ((hR.turns _).trans rfl) ((hR.adds _).trans rfl) ?_ ?_
      · intro u hu hM
        have hk := hR.since hu.1
        have hks := hk.size
        refine relAt_append_zero (.tmp 21) (.tmp 24) 33 rfl H 44 (.agg #[.int .u64 0, .int .i64 0]) 2 16 Try.underlying33 hinf rfl (by omega) g0 rfl (some ⟨b, o, none⟩) k c ((l.take k).map It.cs) rfl ?me (sz_map It.cs_len _) ?se ?le ?be ?he ?_
        case me => simp; omega
        case se => exact .inr ⟨_, rfl, fun j u hu => by rw [Addr.add_lit]; have := ((HE3.out.take k).keep (w' := _) (fun o => hk.cell blt bH o)).2 j u (by simpa [List.map_take] using hu); exact this⟩
        case le => simp; unfold maxLen; omega
        case be => simp; omega
        case he => omega
        intro v' w' h1 h2
        exact ⟨hR.into (Lax.of_below h2), hR.put 1 rfl rfl h1⟩
      intro v hv
      obtain ⟨u, _, hu⟩ := hv
      obtain hT4 := hR.get 1 rfl hu
      clear hu
      intro K hK
      go_big_quiet_op
      go_big_quiet_on
      repeat (first | (refine wpR_det hp2 rfl ((hR.rel _).trans rfl) rfl ?_; intro K hK; go_big_quiet_op; go_big_quiet_on) | (refine wpR_ptr hp2 rfl ((hR.rel _).trans rfl) rfl rfl ?_; intro K hK; go_big_quiet_op; go_big_quiet_on) | (refine wpR_skip pick rfl ?_; intro K hK; go_big_quiet_op; go_big_quiet_on))
      refine wpR_rel pick rfl ((hR.rel _).trans rfl) ((hR.turns _).trans rfl) ?_ ?_
      · intro u hu
        have hk := hR.since hu.1
        have hks := hk.size
        unfold relAt
        go_simp
        exact ⟨hR.into0 ((Kept.refl _ _).alloc _), hR.put 2 rfl rfl ⟨_, rfl, Blk.new _ _ _⟩⟩
      intro v hv
      obtain ⟨u, _, hu⟩ := hv
      obtain ⟨g6, rfl, -⟩ := hR.get 2 rfl hu
      clear hu
      intro K hK
      go_big_quiet_op
      go_big_quiet_on
      repeat (first | (refine wpR_det hp2 rfl ((hR.rel _).trans rfl) rfl ?_; intro K hK; go_big_quiet_op; go_big_quiet_on) | (refine wpR_ptr hp2 rfl ((hR.rel _).trans rfl) rfl rfl ?_; intro K hK; go_big_quiet_op; go_big_quiet_on) | (refine wpR_skip pick rfl ?_; intro K hK; go_big_quiet_op; go_big_quiet_on))
      refine wpR_turn pick rfl ((hR.rel _).trans rfl) ((hR.turns _).trans rfl) ((hR.adds _).trans rfl) ?_ ?_
      · intro u hu hM
        have hk := hR.since hu.1
        have hks := hk.size
        have hz := hR.get 1 rfl hM
        obtain ⟨g6', e, h6⟩ := (hR.get 2 rfl (hu.2 _ _ (Got.upd_self _ _ _) (by kernel_rfl)))
        injection e with e
        injection e with e
        injection e with e
        subst e
        refine relAt_append_lax (.tmp 25) (.tmp 27) 33 rfl H 44 (.agg #[.int .u64 0, .int .i64 0]) 2 16 Try.underlying33 hinf rfl (by omega) _ ((l.take k).map It.cs) rfl (some ⟨g6, 0, none⟩) 1 1 [It.cs ⟨xw, xi⟩] rfl rfl hz (by simp [It.cs]) (by simp) (Src.blk h6 (by simp [It.cs])) (it_one _) ?lf ?bf ?hf ?_
        case lf => simp; unfold maxLen; omega
        case bf => simp; omega
        case hf => omega
        intro v' w' h1 h2
        exact ⟨hR.into h2, hR.put 3 rfl rfl h1⟩
      intro v hv
      obtain ⟨u, _, hu⟩ := hv
      obtain hT7 := hR.get 3 rfl hu
      clear hu
      intro K hK
      go_big_quiet_op
      go_big_quiet_on
      repeat (first | (refine wpR_det hp2 rfl ((hR.rel _).trans rfl) rfl ?_; intro K hK; go_big_quiet_op; go_big_quiet_on) | (refine wpR_ptr hp2 rfl ((hR.rel _).trans rfl) rfl rfl ?_; intro K hK; go_big_quiet_op; go_big_quiet_on) | (refine wpR_skip pick rfl ?_; intro K hK; go_big_quiet_op; go_big_quiet_on))
      refine wpR_rel pick rfl ((hR.rel _).trans rfl) ((hR.turns _).trans rfl) ?_ ?_
      · intro u hu
        have hk := hR.since hu.1
        have hks := hk.size
        unfold relAt
        go_simp
        refine ⟨hR.into0 (Kept.refl _ _), hR.put 4 rfl rfl ⟨_, _, rfl, ?_⟩⟩
        have hel' := HE3.out.keep (w' := u) (fun o => hk.cell blt bH o)
        split
        · rw [show l.drop k = [] from List.drop_eq_nil_of_le (by omega)]; exact .inl rfl
        · exact es_slice hel' bH (by omega)
      intro v hv
      obtain ⟨u, _, hu⟩ := hv
      obtain ⟨A', c', rfl, -⟩ := hR.get 4 rfl hu
      clear hu
      intro K hK
      go_big_quiet_op
      go_big_quiet_on
      repeat (first | (refine wpR_det hp2 rfl ((hR.rel _).trans rfl) rfl ?_; intro K hK; go_big_quiet_op; go_big_quiet_on) | (refine wpR_ptr hp2 rfl ((hR.rel _).trans rfl) rfl rfl ?_; intro K hK; go_big_quiet_op; go_big_quiet_on) | (refine wpR_skip pick rfl ?_; intro K hK; go_big_quiet_op; go_big_quiet_on))
      refine wpR_nil ?_
      intro w4 hk2 hF hM
      have HV := Lib.hid (hR.get 3 rfl hM)
      have HS := Lib.hid ((hR.get 4 rfl (hF _ _ (Got.upd_self _ _ _))))
      have HB4 := Lib.hid (HB3.out.trans ((hk2.below hH).mono (show w.heap.size ≤ H by omega)))
      have hs4 := hk2.size
      obtain ⟨VA, vc, hve, -, -⟩ := HV.out.shape
      rw [show (((l.take k).map It.cs) ++ [It.cs ⟨xw, xi⟩]).length = k + 1 by simp; omega] at hve
      clear hF hM hk2 hp1 hp2 hR p0 p1 y0 y1
      subst hve
      obtain ⟨A'', c'', e, hS⟩ := HS.out
      injection e with e1 e2 e3
      subst e1
      have HSS := Lib.hid hS
      clear e2 e3 hS HS
      go_wp2_with (at_builtin; refine wpList_append_rowN rfl (.tmp 28) (.tmp 31) 33 rfl H 44 (.agg #[.int .u64 0, .int .i64 0]) 2 16 Try.underlying33 hinf rfl (by omega) _ (((l.take k).map It.cs) ++ [It.cs ⟨xw, xi⟩]) rfl A' (l.length - k) c' ((l.drop k).map It.cs) rfl ?a0 HV.out (sz_map It.cs_len _) HSS.out.src (its_one _) ?a3 ?a4 ?a5 ?_)
      try case a0 => simp
      case a3 => try simp
                 unfold maxLen; omega
      case a4 => try simp
                 omega
      case a5 => omega
      intro v5 w5 hr5 hg5 _
      replace hr5 : RowN w5 H 44 2 v5 ((insL ⟨xw, xi⟩ l).map It.cs) := by
        rw [← HINS.out, List.map_append, List.map_append]; simpa using hr5
      obtain ⟨UA, uc, hue, -, -⟩ := hr5.shape
      rw [List.length_map] at hue
      subst hue
      have HR5 := Lib.hid (hr5.more (show w.heap.size ≤ H by omega))
      have HB5 := Lib.hid (HB4.out.trans ((Kept.of_grown (S := fun j => (Value.slice VA (k + 1) vc).ownBlock = some j) hg5 (fun j _ e => e.symm)).below (by omega) (fun j e => by have := (HV.out.lt j e).1; omega)))
      clear hr5 hg5 HSS
      go_wp2_with fail
      go_ret
      exact ⟨_, _, rfl, HR5.out, HB5.out⟩
set_option maxHeartbeats 4000000 in
theorem refPush_nil (A : Option Addr) (c : Nat) (xw xi : Int) (w : World) (hcm : c ≤ maxLen) :
    Calls Try.prog 12 #[.slice A 0 c, .agg #[.int .u64 xw, .int .i64 xi]] w (OwnP (insL ⟨xw, xi⟩ []) w) := by
  have hinf := Try.infoRt
  unfold maxLen at hcm
  go_enter Try.func12, Try.ntmps12
  go_wp2_with fail
  obtain ⟨w1, hw1⟩ : ∃ w1 : World, w1 = w.alloc (.cells #[.int .u64 xw, .int .i64 xi] 44) := ⟨_, rfl⟩
  have HX1 := Lib.hid (show Blk w1 w.heap.size 44 #[.int .u64 xw, .int .i64 xi] by rw [hw1]; exact Blk.new _ _ _)
  have HB1 := Lib.hid (show Below w.heap.size w w1 by rw [hw1]; exact bel1)
  rw [← hw1]
  clear hw1
  go_loopw [5] (fun i wr => i = .int .i64 0 ∧ w1 = wr) (fun i _ => 0)
  case atStart => exact ⟨rfl, rfl⟩
  case round =>
    obtain ⟨rfl, rfl⟩ := hrel
    have hsr := HB1.out.size
    go_upto_region 2 with fail
    refine wp_region_kept 13 [] ?st ?ne rfl (by kernel_rfl) (by kernel_rfl) ?_
    case st => intro p hp; cases hp
    case ne => intro p hp; cases hp
    simp only [List.take_succ_cons, List.take_zero, List.drop_succ_cons, List.drop_zero]
    intro G pick hR hp1 hp2
    repeat (first | (refine wpR_det hp2 rfl ((hR.rel _).trans rfl) rfl ?_; intro K hK; go_big_quiet_op; go_big_quiet_on) | (refine wpR_ptr hp2 rfl ((hR.rel _).trans rfl) rfl rfl ?_; intro K hK; go_big_quiet_op; go_big_quiet_on) | (refine wpR_skip pick rfl ?_; intro K hK; go_big_quiet_op; go_big_quiet_on))
    refine wpR_nil ?_
    intro w3 hk2 hF hM
    have HB3 := Lib.hid (show Below w.heap.size w w3 from HB1.out.trans (hk2.below hsr (fun _ h => h.elim)))
    have HX3 := Lib.hid (HX1.out.kept hk2 (fun h => h))
    have hs3 := HB3.out.size
    clear hF hM hk2 hp1 hp2 hR hsr
    have c0 : (0 : Int) ≤ (c : Int) := by omega
    clear HX1 HB1
    go_upto_region 4 with fail
    obtain ⟨H, hH0⟩ : ∃ H, w3.heap.size = H := ⟨_, rfl⟩
    have hH : H ≤ w3.heap.size := by omega
    have xlt := HX3.out.lt
    have xH : w.heap.size < H := by omega
    have y0 := HX3.out.cell 0
    have y1 := HX3.out.cell 1
    simp at y0 y1
    refine wp_region_lax 11 H 2 [4, 7] [(0, fun v u => ∃ g, v = .slice (some ⟨g, 0, none⟩) 0 0), (4, fun v u => RowZ u H 44 2 v ((([] : List It).take 0).map It.cs)), (6, fun v u => ∃ g, v = .slice (some ⟨g, 0, none⟩) 1 1 ∧ Blk u g 44 #[.int .u64 xw, .int .i64 xi]), (7, fun v u => RowN u H 44 2 v (((([] : List It).take 0).map It.cs) ++ [It.cs ⟨xw, xi⟩])), (10, fun v u => ∃ A' c', v = .slice A' 0 c' ∧ ES u H A' 2 ((([] : List It).drop 0).map It.cs))] ?st ?ne rfl (by kernel_rfl) (by kernel_rfl) (by kernel_rfl) ?_
    case st =>
      intro p hp
      simp only [List.mem_cons, List.not_mem_nil, or_false] at hp
      rcases hp with rfl | rfl | rfl | rfl | rfl
      · intro v u u' h _; exact h
      · intro v u u' h hk; exact h.kept hk
      · rintro v u u' ⟨g, rfl, h⟩ hk; exact ⟨g, rfl, h.lax hk (by simp)⟩
      · intro v u u' h hk; exact h.kept hk (fun _ _ h => h)
      · rintro v u u' ⟨A', c', rfl, h⟩ hk; exact ⟨A', c', rfl, h.laxE hk⟩
    case ne =>
      intro p hp
      simp only [List.mem_cons, List.not_mem_nil, or_false] at hp
      rcases hp with rfl | rfl | rfl | rfl | rfl
      · exact ⟨.slice (some ⟨0, 0, none⟩) 0 0, _, Lax.refl _ _ _, 0, rfl⟩
      · exact rowZ_is H w3 ((([] : List It).take 0).map It.cs) (sz_map It.cs_len _) hH (by simp)
      · exact ⟨_, _, (Lax.refl _ _ _).alloc _, _, rfl, Blk.new _ _ _⟩
      · exact ⟨_, _, (Lax.refl _ _ _).alloc _, rowR_is H w3 (((([] : List It).take 0).map It.cs) ++ [It.cs ⟨xw, xi⟩]) (by intro y hy; rcases List.mem_append.1 hy with h | h; exact sz_map It.cs_len _ y h; obtain rfl : y = _ := (by simpa using h); rfl) hH (by simp; unfold maxLen; omega)⟩
      · exact ⟨_, w3, Lax.refl _ _ _, none, 0, rfl, .inl (by simp)⟩
    simp only [List.take_succ_cons, List.take_zero, List.drop_succ_cons, List.drop_zero]
    intro G pick hR hp1 hp2
    have p0 : ∀ u, (pick u).cell? ⟨w.heap.size, 0, none⟩ = some (.int .u64 xw) := fun u => ((hp1 u).cell xlt xH _).trans y0
    have p1 : ∀ u, (pick u).cell? ⟨w.heap.size, 1, none⟩ = some (.int .i64 xi) := fun u => ((hp1 u).cell xlt xH _).trans y1
    repeat (first | (refine wpR_det hp2 rfl ((hR.rel _).trans rfl) rfl ?_; intro K hK; go_big_quiet_op; go_big_quiet_on) | (refine wpR_ptr hp2 rfl ((hR.rel _).trans rfl) rfl rfl ?_; intro K hK; go_big_quiet_op; go_big_quiet_on) | (refine wpR_skip pick rfl ?_; intro K hK; go_big_quiet_op; go_big_quiet_on))
    refine wpR_rel pick rfl ((hR.rel _).trans rfl) ((hR.turns _).trans rfl) ?_ ?_
    · intro u hu
      have hk := hR.since hu.1
      have hks := hk.size
      unfold relAt
      go_simp
      exact ⟨hR.into0 ((Kept.refl _ _).alloc _), hR.put 0 rfl rfl ⟨_, rfl⟩⟩
    intro v hv
    obtain ⟨u, _, hu⟩ := hv
    obtain ⟨g0, rfl⟩ := hR.get 0 rfl hu
    clear hu
    intro K hK
    go_big_quiet_op
    go_big_quiet_on
    repeat (first | (refine wpR_det hp2 rfl ((hR.rel _).trans rfl) rfl ?_; intro K hK; go_big_quiet_op; go_big_quiet_on) | (refine wpR_ptr hp2 rfl ((hR.rel _).trans rfl) rfl rfl ?_; intro K hK; go_big_quiet_op; go_big_quiet_on) | (refine wpR_skip pick rfl ?_; intro K hK; go_big_quiet_op; go_big_quiet_on))
    refine wpR_turn pick rfl ((hR.rel _).trans rfl) ((hR.turns _).trans rfl) ((hR.adds _).trans rfl) ?_ ?_
    · intro u hu hM
      have hk := hR.since hu.1
      have hks := hk.size
      refine relAt_append_zero (.tmp 21) (.tmp 24) 33 rfl H 44 (.agg #[.int .u64 0, .int .i64 0]) 2 16 Try.underlying33 hinf rfl (by omega) g0 rfl A 0 c ((([] : List It).take 0).map It.cs) rfl ?me (sz_map It.cs_len _) ?se ?le ?be ?he ?_
      case me => simp
      case se => exact .inl (by simp)
      case le => simp
      case be => simp
      case he => omega
      intro v' w' h1 h2
      exact ⟨hR.into (Lax.of_below h2), hR.put 1 rfl rfl h1⟩
    intro v hv
    obtain ⟨u, _, hu⟩ := hv
    obtain hT4 := hR.get 1 rfl hu
    clear hu
    intro K hK
    go_big_quiet_op
    go_big_quiet_on
    repeat (first | (refine wpR_det hp2 rfl ((hR.rel _).trans rfl) rfl ?_; intro K hK; go_big_quiet_op; go_big_quiet_on) | (refine wpR_ptr hp2 rfl ((hR.rel _).trans rfl) rfl rfl ?_; intro K hK; go_big_quiet_op; go_big_quiet_on) | (refine wpR_skip pick rfl ?_; intro K hK; go_big_quiet_op; go_big_quiet_on))
    refine wpR_rel pick rfl ((hR.rel _).trans rfl) ((hR.turns _).trans rfl) ?_ ?_
    · intro u hu
      have hk := hR.since hu.1
      have hks := hk.size
      unfold relAt
      go_simp
      exact ⟨hR.into0 ((Kept.refl _ _).alloc _), hR.put 2 rfl rfl ⟨_, rfl, Blk.new _ _ _⟩⟩
    intro v hv
    obtain ⟨u, _, hu⟩ := hv
    obtain ⟨g6, rfl, -⟩ := hR.get 2 rfl hu
    clear hu
    intro K hK
    go_big_quiet_op
    go_big_quiet_on
    repeat (first | (refine wpR_det hp2 rfl ((hR.rel _).trans rfl) rfl ?_; intro K hK; go_big_quiet_op; go_big_quiet_on) | (refine wpR_ptr hp2 rfl ((hR.rel _).trans rfl) rfl rfl ?_; intro K hK; go_big_quiet_op; go_big_quiet_on) | (refine wpR_skip pick rfl ?_; intro K hK; go_big_quiet_op; go_big_quiet_on))
    refine wpR_turn pick rfl ((hR.rel _).trans rfl) ((hR.turns _).trans rfl) ((hR.adds _).trans rfl) ?_ ?_
    · intro u hu hM
      have hk := hR.since hu.1
      have hks := hk.size
      have hz := hR.get 1 rfl hM
      obtain ⟨g6', e, h6⟩ := (hR.get 2 rfl (hu.2 _ _ (Got.upd_self _ _ _) (by kernel_rfl)))
      injection e with e
      injection e with e
      injection e with e
      subst e
      refine relAt_append_lax (.tmp 25) (.tmp 27) 33 rfl H 44 (.agg #[.int .u64 0, .int .i64 0]) 2 16 Try.underlying33 hinf rfl (by omega) _ ((([] : List It).take 0).map It.cs) rfl (some ⟨g6, 0, none⟩) 1 1 [It.cs ⟨xw, xi⟩] rfl rfl hz (by simp [It.cs]) (by simp) (Src.blk h6 (by simp [It.cs])) (it_one _) ?lf ?bf ?hf ?_
      case lf => simp; decide
      case bf => simp
      case hf => omega
      intro v' w' h1 h2
      exact ⟨hR.into h2, hR.put 3 rfl rfl h1⟩
    intro v hv
    obtain ⟨u, _, hu⟩ := hv
    obtain hT7 := hR.get 3 rfl hu
    clear hu
    intro K hK
    go_big_quiet_op
    go_big_quiet_on
    repeat (first | (refine wpR_det hp2 rfl ((hR.rel _).trans rfl) rfl ?_; intro K hK; go_big_quiet_op; go_big_quiet_on) | (refine wpR_ptr hp2 rfl ((hR.rel _).trans rfl) rfl rfl ?_; intro K hK; go_big_quiet_op; go_big_quiet_on) | (refine wpR_skip pick rfl ?_; intro K hK; go_big_quiet_op; go_big_quiet_on))
    refine wpR_rel pick rfl ((hR.rel _).trans rfl) ((hR.turns _).trans rfl) ?_ ?_
    · intro u hu
      have hk := hR.since hu.1
      have hks := hk.size
      unfold relAt
      go_simp
      exact ⟨hR.into0 (Kept.refl _ _), hR.put 4 rfl rfl ⟨_, _, rfl, .inl (by simp)⟩⟩
    intro v hv
    obtain ⟨u, _, hu⟩ := hv
    obtain ⟨A', c', rfl, -⟩ := hR.get 4 rfl hu
    clear hu
    intro K hK
    go_big_quiet_op
    go_big_quiet_on
    repeat (first | (refine wpR_det hp2 rfl ((hR.rel _).trans rfl) rfl ?_; intro K hK; go_big_quiet_op; go_big_quiet_on) | (refine wpR_ptr hp2 rfl ((hR.rel _).trans rfl) rfl rfl ?_; intro K hK; go_big_quiet_op; go_big_quiet_on) | (refine wpR_skip pick rfl ?_; intro K hK; go_big_quiet_op; go_big_quiet_on))
    refine wpR_nil ?_
    intro w4 hk2 hF hM
    have HV := Lib.hid (hR.get 3 rfl hM)
    have HS := Lib.hid ((hR.get 4 rfl (hF _ _ (Got.upd_self _ _ _))))
    have HB4 := Lib.hid (HB3.out.trans ((hk2.below hH).mono (show w.heap.size ≤ H by omega)))
    have hs4 := hk2.size
    obtain ⟨VA, vc, hve, -, -⟩ := HV.out.shape
    simp only [List.map_nil, List.nil_append, List.length_cons, List.length_nil, Nat.zero_add] at hve
    clear hF hM hk2 hp1 hp2 hR p0 p1 y0 y1
    subst hve
    obtain ⟨A'', c'', e, hS⟩ := HS.out
    injection e with e1 e2 e3
    subst e1
    have HSS := Lib.hid hS
    clear e2 e3 hS HS
    go_wp2_with (at_builtin; refine wpList_append_rowN rfl (.tmp 28) (.tmp 31) 33 rfl H 44 (.agg #[.int .u64 0, .int .i64 0]) 2 16 Try.underlying33 hinf rfl (by omega) _ (((([] : List It).take 0).map It.cs) ++ [It.cs ⟨xw, xi⟩]) rfl A' 0 c' ((([] : List It).drop 0).map It.cs) rfl ?a0 HV.out (sz_map It.cs_len _) HSS.out.src (its_one _) ?a3 ?a4 ?a5 ?_)
    try case a0 => simp
    case a3 => try simp
               decide
    case a4 => try simp
               skip
    case a5 => omega
    intro v5 w5 hr5 hg5 _
    replace hr5 : RowN w5 H 44 2 v5 ((insL ⟨xw, xi⟩ ([] : List It)).map It.cs) := by
      simpa [insL] using hr5
    obtain ⟨UA, uc, hue, -, -⟩ := hr5.shape
    rw [List.length_map] at hue
    subst hue
    have HR5 := Lib.hid (hr5.more (show w.heap.size ≤ H by omega))
    have HB5 := Lib.hid (HB4.out.trans ((Kept.of_grown (S := fun j => (Value.slice VA (1) vc).ownBlock = some j) hg5 (fun j _ e => e.symm)).below (by omega) (fun j e => by have := (HV.out.lt j e).1; omega)))
    clear hr5 hg5 HSS
    go_wp2_with fail
    go_ret
    exact ⟨_, _, rfl, HR5.out, HB5.out⟩
theorem refPush_any (A : Option Addr) (c : Nat) (l : List It) (x : It) (w : World) (hl : l.length ≤ 1000) (hc : l.length ≤ c) (hcm : c ≤ maxLen) (hE : ES w w.heap.size A 2 (l.map It.cs)) :
    Calls Try.prog 12 #[.slice A l.length c, .agg #[.int .u64 x.w, .int .i64 x.id]] w (OwnP (insL x l) w) := by
  rcases hE with h | ⟨b, o, hb, rfl, hel⟩
  · obtain rfl : l = [] := by simpa using h
    exact refPush_nil A c x.w x.id w hcm
  · exact refPush_some b o c l x.w x.id w hb hl hc hcm hel
end Go.Proofs.Ytikakdcjbnbacaa
