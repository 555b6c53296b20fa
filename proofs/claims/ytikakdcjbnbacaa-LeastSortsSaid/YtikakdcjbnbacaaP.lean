/- drain and Sorted. -/
import Derived.Test.YtikakdcjbnbacaaM
namespace Go.Proofs.Ytikakdcjbnbacaa
open Go.RowKit
set_option linter.unusedVariables false
def hdI (R : List It) : It := R.headD ⟨0, 0⟩
def PopP (qb base : Nat) (q : Value) (R : List It) (w : World) (e : Ending) (w' : World) : Prop :=
  e = .returned (.tuple #[.agg #[.int .u64 (hdI R).w, .int .i64 (hdI R).id], .bool (!R.isEmpty)]) ∧ ∃ q' H', QuS qb base q' H' w' ∧ Twin H' R.tail ∧ Kept (QOwn qb q) w w' ∧ ∀ g, q'.ownBlock = some g → q.ownBlock = some g ∨ w.heap.size ≤ g
theorem qpop_two (qb base : Nat) (q : Value) (H R : List It) (w : World) (h : QuS qb base q H w) (tw : Twin H R) (hl : H.length ≤ 10000) (hb : base ≤ w.heap.size) :
    Calls Try.prog 14 #[.pointer (some ⟨qb, 0, none⟩)] w (PopP qb base q R w) := by
  cases R with
  | nil =>
    obtain rfl : H = [] := List.eq_nil_of_length_eq_zero tw.len.symm
    exact (qpop_empty qb base q w h).mono fun e w' ⟨he, hb'⟩ => ⟨he, q, [], h.onB hb', tw, Kept.of_below hb' (fun i hi hge => by omega), fun g hg => .inl hg⟩
  | cons x R =>
    have hlen := tw.len
    have hn : H.length = R.length + 1 := by simpa using hlen.symm
    have hp := tw.pop R.length hn
    refine (qpop_any qb base q H R.length w h hn hl hb).mono fun e w' ⟨he, q', h1, h2, h3⟩ => ⟨?_, q', _, h1, hp.2, h2, h3⟩
    rw [he, hp.1]; rfl
/-- What a round of drain stands on. -/
structure DrS (qb base xb : Nat) (q a : Value) (H K D : List It) (w : World) : Prop where
  qu : QuS qb base q H w
  tw : Twin H D.tail
  row : RowN w base 42 2 a (K.map It.cs)
  blk : Blk w xb 42 #[.int .u64 (hdI D).w, .int .i64 (hdI D).id]
  lo : base ≤ xb
  sx : a.ownBlock ≠ some xb
  sq : ∀ g, a.ownBlock = some g → ¬ QOwn qb q g
  xq : ¬ QOwn qb q xb
def SortP (base : Nat) (R : List It) (w : World) (e : Ending) (w' : World) : Prop := ∃ A c, e = .returned (.slice A R.length c) ∧ RowN w' base 42 2 (.slice A R.length c) (R.map It.cs) ∧ Below base w w'
theorem drS_next {qb base xb : Nat} {q a a5 q7 : Value} {H H7 K D : List It} {x : It} {wr w5 w6 w7 w8 : World} (h : DrS qb base xb q a H K (x :: D) wr) (hb : base ≤ wr.heap.size)
    (h5 : RowN w5 base 42 2 a5 ((K ++ [x]).map It.cs)) (hk5 : Kept (fun i => a.ownBlock = some i) wr w5) (ho : a5.ownBlock = a.ownBlock ∨ ∃ g, a5.ownBlock = some g ∧ wr.heap.size ≤ g)
    (hb6 : Below w5.heap.size w5 w6) (h56 : w5.heap.size < w6.heap.size) (hq7 : QuS qb base q7 H7 w7) (ht7 : Twin H7 D.tail) (hk7 : Kept (QOwn qb q) w6 w7) (hf7 : ∀ g, q7.ownBlock = some g → q.ownBlock = some g ∨ w6.heap.size ≤ g)
    (hk8 : Kept (· = w5.heap.size) w7 w8) (hx8 : Blk w8 w5.heap.size 42 #[.int .u64 (hdI D).w, .int .i64 (hdI D).id]) : DrS qb base w5.heap.size q7 a5 H7 (K ++ [x]) D w8 := by
  have hq5 := h.qu.on hk5 (fun i hi e => h.sq i e hi)
  have s5 := hk5.size
  have s7 := hk7.size
  have own : ∀ g, a5.ownBlock = some g → ¬ QOwn qb q g := fun g hg hq => by
    rcases ho with ho | ⟨g', ho, hlt⟩
    · exact h.sq g (ho.symm.trans hg) hq
    · obtain rfl : g' = g := by rw [ho] at hg; exact Option.some.inj hg
      have := (h.qu.lt hq).2; omega
  have q7lt : ∀ i, QOwn qb q7 i → i = qb ∨ q.ownBlock = some i ∨ w6.heap.size ≤ i := fun i hi => by
    rcases hi with rfl | hi
    · exact .inl rfl
    · rcases hf7 i hi with h | h
      · exact .inr (.inl h)
      · exact .inr (.inr h)
  have n7 : ∀ i, i < w6.heap.size → QOwn qb q7 i → QOwn qb q i := fun i hi h => by
    rcases q7lt i h with rfl | h | h
    · exact .inl rfl
    · exact .inr h
    · omega
  have nx : ¬ QOwn qb q w5.heap.size := fun hq => by have := (h.qu.lt hq).2; omega
  have r5 := h5.lt
  refine ⟨hq7.on hk8 (fun i hi e => by subst e; exact nx (n7 _ h56 hi)), ht7, ?_, hx8, by omega, fun e => by have := (r5 _ e).2; omega, fun g hg hq => own g hg (n7 g (by have := (r5 g hg).2; omega) hq), fun hq => nx (n7 _ h56 hq)⟩
  exact ((h5.belowAll hb6).kept hk7 (fun g hg => own g hg)).kept hk8 (fun g hg e => by have := (r5 g hg).2; omega)
def lenV : Value → Nat
  | .slice _ n _ => n
  | _ => 0
theorem ret_slice {A A' : Option Addr} {n n' c c' : Nat} (h1 : A = A') (h2 : n = n') (h3 : c = c') : Ending.returned (.slice A n c) = .returned (.slice A' n' c') := by rw [h1, h2, h3]
set_option maxHeartbeats 4000000 in
theorem drain_any (qb base : Nat) (q : Value) (H R : List It) (w : World) (h : QuS qb base q H w) (tw : Twin H R) (hl : H.length ≤ 1000) (hb : base ≤ w.heap.size) :
    Calls Try.prog 24 #[.func (.func 14) #[.pointer (some ⟨qb, 0, none⟩)] #[]] w (SortP base R w) := by
  have HP := Lib.hid (qpop_two qb base q H R w h tw (by omega) hb)
  have HQ := Lib.hid h
  have HL := Lib.hid (show R.length ≤ 1000 by have := tw.len; omega)
  have hinf := Try.infoIt
  clear h tw
  go_enter Try.func24, Try.ntmps24
  go_wp2_with fail
  refine HP.out.mono ?_
  rintro e w1 ⟨rfl, q1, H1, hq1, ht1, hk1, hf1⟩
  have HQ1 := Lib.hid hq1
  have HT1 := Lib.hid ht1
  have HK1 := Lib.hid hk1
  have HF1 := Lib.hid hf1
  have hs1 := hk1.size
  clear hq1 ht1 hk1 hf1 HP
  obtain ⟨b, hbv⟩ : ∃ b, (!R.isEmpty) = b := ⟨_, rfl⟩
  have HBV := Lib.hid hbv
  rw [hbv]
  clear hbv
  go_wp2_with fail
  obtain ⟨w2, hw2⟩ : ∃ w2 : World, w2 = w1.alloc (.cells #[.int .u64 (hdI R).w, .int .i64 (hdI R).id] 42) := ⟨_, rfl⟩
  have HD := Lib.hid (show DrS qb base w1.heap.size q1 (.slice none 0 0) H1 [] R w2 by
    rw [hw2]
    refine ⟨HQ1.out.onB bel1, HT1.out, RowN.nil _ _ _ _, Blk.new _ _ _, by omega, (fun e => by cases e), (fun g e => by cases e), fun hq => ?_⟩
    rcases hq with hq | hq
    · have := HQ.out.blk.lt; omega
    · have := (HQ1.out.lt (.inr hq)).2; omega)
  have HB2 := Lib.hid (show Below base w w2 by rw [hw2]; exact (HK1.out.below hb (fun i hi => (HQ.out.lt hi).1)).alloc (by omega) _)
  rw [← hw2]
  clear hw2
  obtain ⟨xb, hxb⟩ : ∃ xb, w1.heap.size = xb := ⟨_, rfl⟩
  rw [hxb] at HD ⊢
  clear hxb HQ1 HT1 HK1 HF1
  go_loopw [3, 4, 5] (fun av xp bv wr => ∃ (K D : List It) (qr : Value) (Hr : List It) (xr : Nat) (A : Option Addr) (c : Nat), av = .slice A K.length c ∧ xp = .pointer (some ⟨xr, 0, none⟩) ∧ bv = .bool (!D.isEmpty) ∧ Hid (K ++ D = R) ∧ D.length + K.length ≤ 1000 ∧ Hid (D.length + K.length = R.length) ∧ Hid (DrS qb base xr qr (.slice A K.length c) Hr K D wr) ∧ Hid (Below base w wr)) (fun av _ _ wr => R.length - lenV av)
  case atStart => exact ⟨[], R, _, _, _, _, _, rfl, rfl, by rw [HBV.out], Lib.hid rfl, by have := HL.out; simpa using this, Lib.hid (by simp), HD, HB2⟩
  case round =>
    clear HD HB2 HBV
    obtain ⟨K, D, qr, Hr, xr, A, c, rfl, rfl, rfl, HKD, hlen, HLE, HD, HB⟩ := hrel
    have hsr := HB.out.size
    cases D with
    | nil =>
      have HR := Lib.hid (show K = R by rw [← HKD.out, List.append_nil])
      clear HKD hlen HLE
      go_wp2_with fail
      go_ret
      exact ⟨A, c, ret_slice rfl (by rw [HR.out]) rfl, by rw [← HR.out]; exact HD.out.row, HB.out⟩
    | cons x D =>
      obtain ⟨xw, xi⟩ := x
      have hlen' : D.length + 1 + K.length ≤ 1000 := by simpa using hlen
      have x0 := HD.out.blk.cell 0
      have x1 := HD.out.blk.cell 1
      simp [hdI] at x0 x1
      have xlt := HD.out.blk.lt
      have hT := HD.out.tw.len
      simp at hT
      have HRT := Lib.hid hT
      clear hT
      have hbr : base ≤ wr.heap.size := by omega
      have HSX := Lib.hid HD.out.sx
      go_wp2_with (at_builtin; refine wpList_append_rowN rfl (.tmp 17) (.tmp 19) 35 rfl base 42 (.agg #[.int .u64 0, .int .i64 0]) 2 16 Try.underlying35 hinf rfl (by omega) _ (K.map It.cs) rfl (some ⟨wr.heap.size, 0, none⟩) 1 1 [It.cs ⟨xw, xi⟩] rfl rfl (HD.out.row.alloc _) (fun x hx => by rw [List.mem_singleton.1 hx]; rfl) (Src.new _ _ _ rfl) (by intro u hu; simp [It.cs] at hu; rcases hu with rfl | rfl <;> rfl) ?a3 ?a4 ?a5 ?_)
      case a3 => simp; unfold maxLen; omega
      case a4 => simp; omega
      case a5 => simp; omega
      intro v5 w5 hr5 hg5 ho5
      replace hr5 : RowN w5 base 42 2 v5 ((K ++ [(⟨xw, xi⟩ : It)]).map It.cs) := by rw [List.map_append]; exact hr5
      have hs5 : wr.heap.size + 1 ≤ w5.heap.size := by have := hg5.size; simpa using this
      have HK5 := Lib.hid (show Kept (fun i => (Value.slice A K.length c).ownBlock = some i) wr w5 from ((Kept.refl _ wr).alloc _).trans (Kept.of_grown (S := fun i => (Value.slice A K.length c).ownBlock = some i) hg5 (fun i _ e => e.symm)))
      have HO5 := Lib.hid (show v5.ownBlock = (Value.slice A K.length c).ownBlock ∨ ∃ g, v5.ownBlock = some g ∧ wr.heap.size ≤ g from by rcases ho5 with h | h; exact .inl h; exact .inr ⟨_, h, by simp⟩)
      obtain ⟨VA, vc, hve, -, -⟩ := hr5.shape
      rw [List.length_map, List.length_append] at hve
      subst hve
      have HR5 := Lib.hid hr5
      have HX5 := Lib.hid (show Blk w5 xr 42 #[.int .u64 xw, .int .i64 xi] from HD.out.blk.kept HK5.out (fun e => HSX.out e))
      have y0 := HX5.out.cell 0
      have y1 := HX5.out.cell 1
      simp at y0 y1
      have ylt := HX5.out.lt
      have HQ5 := Lib.hid (HD.out.qu.on HK5.out (fun i hi e => HD.out.sq i e hi))
      have HB5 := Lib.hid (HB.out.trans (HK5.out.below hbr (fun i hi => (HD.out.row.lt i hi).1)))
      clear hr5 hg5 ho5 x0 x1 xlt HSX
      go_upto_region 4 with fail
      obtain ⟨w6, hw6⟩ : ∃ w6 : World, w6 = w5.alloc (.cells #[.int .u64 xw, .int .i64 xi] 42) := ⟨_, rfl⟩
      have HX6 := Lib.hid (show Blk w6 w5.heap.size 42 #[.int .u64 xw, .int .i64 xi] by rw [hw6]; exact Blk.new _ _ _)
      have HB56 := Lib.hid (show Below w5.heap.size w5 w6 by rw [hw6]; exact bel1)
      have h56 : w5.heap.size < w6.heap.size := by rw [hw6]; simp
      have HB6 := Lib.hid (show Below base w w6 by rw [hw6]; exact HB5.out.alloc (by omega) _)
      rw [← hw6]
      clear hw6 y0 y1
      have HQ6 := Lib.hid (HQ5.out.onB HB56.out)
      have HP6 := Lib.hid (qpop_two qb base qr Hr D w6 HQ6.out HD.out.tw (by have := HRT.out; omega) (by omega))
      have HNX := Lib.hid (show ¬ QOwn qb qr w5.heap.size from fun hq => by have := (HD.out.qu.lt hq).2; omega)
      obtain ⟨nb, hnb⟩ : ∃ nb, w5.heap.size = nb := ⟨_, rfl⟩
      rw [hnb] at HX6 HNX ⊢
      have HNB := Lib.hid hnb
      clear hnb
      go_wp2_with fail
      refine HP6.out.mono ?_
      rintro e w7 ⟨rfl, q7, H7, hq7, ht7, hk7, hf7⟩
      have HQ7 := Lib.hid hq7
      have HT7 := Lib.hid ht7
      have HK7 := Lib.hid hk7
      have HF7 := Lib.hid hf7
      have hs7 := hk7.size
      have HX7 := Lib.hid (HX6.out.kept hk7 HNX.out)
      have HB7 := Lib.hid (HB6.out.trans (hk7.below (by omega) (fun i hi => (HD.out.qu.lt hi).1)))
      clear hq7 ht7 hk7 hf7 HP6 HX6
      obtain ⟨bb, hbb⟩ : ∃ bb, (!D.isEmpty) = bb := ⟨_, rfl⟩
      obtain ⟨y, hy⟩ : ∃ y, hdI D = y := ⟨_, rfl⟩
      have HBB := Lib.hid hbb
      have HY := Lib.hid hy
      rw [hbb, hy]
      clear hbb hy
      have cx := HX7.out.cell
      have fx := HX7.out.frozen
      have lx := HX7.out.lt
      go_wp2_with fail
      go_roundw
      case rel =>
        refine ⟨K ++ [⟨xw, xi⟩], D, q7, H7, nb, VA, vc, by simp, rfl, by rw [HBB.out], Lib.hid (by rw [← HKD.out]; simp), by simp; omega, Lib.hid (by have := HLE.out; simp at this ⊢; omega), Lib.hid ?_, Lib.hid ((HB7.out.setCell (p := ⟨nb, 0, none⟩) (by have := HB5.out.size; have := HNB.out; show base ≤ nb; omega) _).setCell (p := ⟨nb, 1, none⟩) (by have := HB5.out.size; have := HNB.out; show base ≤ nb; omega) _)⟩
        have hn := HNB.out
        subst hn
        rw [List.length_append]
        refine drS_next HD.out hbr HR5.out HK5.out HO5.out HB56.out h56 HQ7.out HT7.out HK7.out HF7.out (Kept.setIn (S := (· = w5.heap.size)) rfl (Kept.setIn (S := (· = w5.heap.size)) rfl (Kept.refl _ _))) ?_
        rw [HY.out]
        exact (HX7.out.set_ _ _).set_to rfl
      case measure => simp [lenV]; have := HLE.out; simp at this; omega
def srtL (l : List It) : List It := l.foldl (fun R x => insL x R) []
theorem srtL_snoc (l : List It) (x : It) : srtL (l ++ [x]) = insL x (srtL l) := by unfold srtL; rw [List.foldl_append]; rfl
theorem srtL_len (l : List It) : (srtL l).length = l.length := by
  have key : ∀ (l R : List It), (l.foldl (fun R x => insL x R) R).length = R.length + l.length := by
    intro l
    induction l with
    | nil => intro R; rfl
    | cons x l ih => intro R; rw [List.foldl_cons, ih, insL_len, List.length_cons]; omega
  exact (key l []).trans (Nat.zero_add _)
theorem twin_srt (H l : List It) (x : It) (h : Twin H (srtL l)) : Twin (upL (H ++ [x]) H.length) (srtL (l ++ [x])) := by rw [srtL_snoc]; exact h.push x
set_option maxHeartbeats 4000000 in
theorem sorted_any (A : Option Addr) (c : Nat) (l : List It) (w : World) (hl : l.length ≤ 1000) (hE : ES w w.heap.size A 2 (l.map It.cs)) :
    Calls Try.prog 13 #[.slice A l.length c] w (SortP w.heap.size (srtL l) w) := by
  have HE := Lib.hid hE
  have hinf := Try.infoIt
  clear hE
  go_enter Try.func13, Try.ntmps13
  go_wp2_with fail
  obtain ⟨w1, hw1⟩ : ∃ w1 : World, w1 = w.alloc (.cells #[.slice none 0 0] 38) := ⟨_, rfl⟩
  have HQ1 := Lib.hid (show QuS w.heap.size w.heap.size (.slice none 0 0) [] w1 by rw [hw1]; exact ⟨Blk.new _ _ _, RowN.nil _ _ _ _, Nat.le_refl _⟩)
  have HB1 := Lib.hid (show Below w.heap.size w w1 by rw [hw1]; exact bel1)
  rw [← hw1]
  clear hw1
  obtain ⟨qb, hqb⟩ : ∃ qb, w.heap.size = qb := ⟨_, rfl⟩
  rw [hqb] at HE HQ1 HB1 ⊢
  have HQB := Lib.hid hqb
  clear hqb
  go_loopw [9] (fun i wr => ∃ (k : Nat) (q : Value) (H : List It), k ≤ l.length ∧ i = .int .i64 (k : Int) ∧ Hid (H.length = k) ∧ Hid (QuS qb qb q H wr) ∧ Hid (Twin H (srtL (l.take k))) ∧ Hid (Below qb w wr)) (fun i _ => l.length - (intOf i).toNat)
  case atStart => exact ⟨0, _, [], by omega, rfl, Lib.hid rfl, HQ1, Lib.hid Twin.nil, HB1⟩
  case round =>
    clear HQ1 HB1
    obtain ⟨k, q, H, hk, rfl, HLN, HQ, HT, HB⟩ := hrel
    have hsr : qb ≤ wr.heap.size := by have := HB.out.size; have := HQB.out; omega
    by_cases hkl : k < l.length
    · have kI : (k : Int) < (l.length : Int) := by omega
      obtain ⟨b, o, hb, rfl, hel⟩ := HE.out.at (k := k) (by simpa using hkl)
      obtain ⟨c0, c1⟩ := it_cells (hel.keep (w' := wr) (fun o => HB.out.cell (p := ⟨b, o, none⟩) hb)) hkl
      have HTK := Lib.hid (List.take_succ_eq_append_getElem hkl)
      obtain ⟨x, hx⟩ : ∃ x, l[k] = x := ⟨_, rfl⟩
      rw [hx] at c0 c1 HTK
      have blt : b < wr.heap.size := by omega
      clear hel hx
      go_upto_region 6 with fail
      obtain ⟨w2, hw2⟩ : ∃ w2 : World, w2 = wr.alloc (.cells #[.int .u64 x.w, .int .i64 x.id] 42) := ⟨_, rfl⟩
      have HX2 := Lib.hid (show Blk w2 wr.heap.size 42 #[.int .u64 x.w, .int .i64 x.id] by rw [hw2]; exact Blk.new _ _ _)
      have HQ2 := Lib.hid (show QuS qb qb q H w2 by rw [hw2]; exact HQ.out.onB bel1)
      have HB2 := Lib.hid (show Below qb w w2 by rw [hw2]; exact HB.out.alloc hsr _)
      have hs2 : qb ≤ w2.heap.size := by rw [hw2]; simp; omega
      rw [← hw2]
      clear hw2 c0 c1
      have x0 := HX2.out.cell 0
      have x1 := HX2.out.cell 1
      simp at x0 x1
      have xlt := HX2.out.lt
      have HPU := Lib.hid (qpush_any qb qb q H x w2 HQ2.out (by have := HLN.out; omega) hs2)
      go_wp2_with fail
      refine HPU.out.mono ?_
      rintro e w3 ⟨rfl, q3, hq3, hk3, -⟩
      have HQ3 := Lib.hid hq3
      have HB3 := Lib.hid (HB2.out.trans (hk3.below hs2 (fun i hi => (HQ2.out.lt hi).1)))
      have HT3 := Lib.hid (twin_srt _ _ x HT.out)
      have HL3 := Lib.hid (show (upL (H ++ [x]) H.length).length = k + 1 by rw [(up_perm _ _).length_eq]; simp; exact HLN.out)
      clear hq3 hk3 HPU
      go_wp2_with fail
      go_roundw
      case rel => exact ⟨k + 1, q3, _, by omega, by go_num, HL3, HQ3, by rw [HTK.out]; exact HT3, HB3⟩
      case measure => simp [intOf]; omega
    · obtain rfl : k = l.length := by omega
      have hkI : ¬ (l.length : Int) < (l.length : Int) := by omega
      rw [List.take_length] at HT
      have HDR := Lib.hid (drain_any qb qb q H (srtL l) wr HQ.out HT.out (by have := HLN.out; omega) hsr)
      go_wp2_with fail
      refine HDR.out.mono ?_
      rintro e w3 ⟨SA, sc, rfl, hr3, hb3⟩
      have HR3 := Lib.hid hr3
      have HB3 := Lib.hid (HB.out.trans hb3)
      clear hr3 hb3 HDR
      go_wp2_with fail
      go_ret
      exact ⟨SA, sc, rfl, by rw [HQB.out]; exact HR3.out, by rw [HQB.out]; exact HB3.out⟩
end Go.Proofs.Ytikakdcjbnbacaa
