import Derived.Test.YtidooohgbiiikaaJG
import Derived.Test.YtidooohgbiiikaaRgLax
import Derived.Test.YtidooohgbiiikaaRowE
import Derived.Test.YtidooohgbiiikaaJC
import Derived.Test.YtidooohgbiiikaaJD
import Derived.Test.YtidooohgbiiikaaPlainC
/- Slices of slices that are cut and joined. -/
namespace Go.Proofs.Ytidooohgbiiikaa
open Go.RowKit
set_option linter.unusedVariables false
/-- A slice of bytes as the one cell of an element. -/
def RB (w : World) (x : List Value) (b : List UInt8) : Prop := ∃ A c, x = [.slice A b.length c] ∧ b.length ≤ c ∧ c ≤ maxLen ∧ BS w w.heap.size A b
theorem RB.onB {w w' : World} {x : List Value} {b : List UInt8} (h : RB w x b) (hb : Below w.heap.size w w') : RB w' x b := by
  obtain ⟨A, c, h1, h2, h3, h4⟩ := h
  exact ⟨A, c, h1, h2, h3, h4.onB hb (Nat.le_refl _)⟩
theorem RB.one {w : World} {x : List Value} {b : List UInt8} (h : RB w x b) : ∀ u ∈ x, u.oneCell' = true := by
  obtain ⟨A, c, rfl, -⟩ := h
  intro u hu
  rw [List.mem_singleton.1 hu]; rfl
theorem RB.len {w : World} {x : List Value} {b : List UInt8} (h : RB w x b) : x.length = 1 := by
  obtain ⟨A, c, rfl, -⟩ := h; rfl
theorem F2.of_at {α β : Type} {R : α → β → Prop} : ∀ {xs : List α} {bs : List β}, xs.length = bs.length → (∀ k (h : k < xs.length) (h' : k < bs.length), R xs[k] bs[k]) → F2 R xs bs
  | [], [], _, _ => .nil
  | [], _ :: _, h, _ => by simp at h
  | _ :: _, [], h, _ => by simp at h
  | x :: xs, b :: bs, h, hR => .cons (hR 0 (by simp) (by simp)) (F2.of_at (by simpa using h) fun k h1 h2 => by have := hR (k + 1) (by simp; omega) (by simp; omega); simpa using this)
theorem F2.onesB {w : World} {L : List (List Value)} {ls : List (List UInt8)} (h : F2 (RB w) L ls) (D : List (List Value)) (hD : ∀ x ∈ D, x ∈ L) : (∀ x ∈ D, x.length = 1) ∧ ∀ u ∈ D.flatten, u.oneCell' = true := by
  refine ⟨fun x hx => by obtain ⟨b, hb⟩ := h.left (hD x hx); exact hb.len, fun u hu => ?_⟩
  obtain ⟨y, hy, hu⟩ := List.mem_flatten.1 hu
  obtain ⟨p, hp⟩ := h.left (hD y hy)
  exact hp.one u hu
theorem flat_single (vs : List Value) : (vs.map fun v => [v]).flatten = vs := by
  induction vs with
  | nil => rfl
  | cons v vs ih => rw [List.map_cons, List.flatten_cons, ih]; rfl
/-- Where the rest lies: no block of the row that grows. -/
def LS (w : World) (mv lv : Value) (L : List (List Value)) : Prop := (∃ A c, lv = .slice A L.length c) ∧ (L ≠ [] → ∃ g c, lv = .slice (some ⟨g, 0, none⟩) L.length c ∧ L.length ≤ c ∧ c ≤ maxLen ∧ ElAt w g 0 1 L ∧ g < w.heap.size ∧ mv.ownBlock ≠ some g)
theorem FragsV.ls {w : World} {base : Nat} {v : Value} {ls : List (List UInt8)} (h : FragsV w base v ls) : ∃ L, LS w (.slice none 0 0) v L ∧ F2 (RB w) L ls := by
  obtain ⟨vs, h1, h2, h3⟩ := h
  refine ⟨vs.map fun v => [v], ⟨?_, fun hne => ?_⟩, ?_⟩
  · obtain ⟨A, c, e, -⟩ := h1.shape
    exact ⟨A, c, by rw [e, List.length_map]⟩
  · have h0 : 0 < vs.length := by
      cases vs with
      | nil => exact absurd rfl hne
      | cons v vs => simp
    obtain ⟨g, c, e, hb, hlt, hc⟩ := h1.at (i := 0) h0
    obtain ⟨A, c', e', hc1, hc2⟩ := h1.shape
    rw [e] at e'
    injection e' with e1 e2 e3
    subst e3
    refine ⟨g, c, by rw [e, List.length_map], by rw [List.length_map]; exact hc1, hc2, ⟨fun x hx => ?_, fun j u hu => ?_⟩, hlt, by simp [Value.ownBlock]⟩
    · obtain ⟨v, _, rfl⟩ := List.mem_map.1 hx; rfl
    · rw [flat_single] at hu
      obtain ⟨hj, rfl⟩ := List.getElem?_eq_some_iff.1 hu
      rw [Nat.zero_add]; exact hc j hj
  · refine F2.of_at (by rw [List.length_map, h2]) fun k hk hk' => ?_
    rw [List.getElem_map]
    obtain ⟨C, c, e, h4, h5, h6⟩ := h3 k (by simpa using hk) hk'
    exact ⟨C, c, by rw [e], h4, h5, h6⟩
theorem ins_rowN {w : World} {B n c : Nat} {A : Option Addr} {M : List (List Value)} {ms : List (List UInt8)} (h : RowN w B 22 1 (.slice A n c) M) (hF : F2 (RB w) M ms) : Ins w w.heap.size A ms := by
  by_cases h0 : ms = []
  · exact .inl h0
  · have hl := hF.len
    have hm0 : 0 < M.length := by
      have := List.length_pos_iff.2 h0
      omega
    obtain ⟨g, c', e, hb, hlt, hel⟩ := h.at (i := 0) hm0
    injection e with e1 e2 e3
    subst e1
    refine .inr ⟨g, 0, hlt, rfl, fun k hk => ?_⟩
    have hk' : k < M.length := by omega
    have hc := hel.get hk' 0 (by omega)
    obtain ⟨C, cc, ex, h4, h5, h6⟩ := hF.at hk' hk
    rw [ex] at hc
    simp only [Nat.mul_one, Nat.add_zero] at hc
    exact ⟨C, cc, hc, h4, h5, h6⟩
theorem RowZ.ls {w : World} {B e : Nat} {mv v : Value} {L : List (List Value)} (h : RowZ w B e 1 v L) (hm : ∀ g, mv.ownBlock = some g → g < B) : LS w mv v L := by
  rcases h with ⟨rfl, g, rfl⟩ | ⟨hne, h⟩
  · exact ⟨⟨_, _, rfl⟩, fun h => absurd rfl h⟩
  · have h0 : 0 < L.length := List.length_pos_iff.2 hne
    obtain ⟨g, c, e1, hb, hlt, hel⟩ := h.at (i := 0) h0
    obtain ⟨A, c', e', hc1, hc2⟩ := h.shape
    rw [e1] at e'
    injection e' with e2 e3 e4
    subst e4
    refine ⟨⟨_, _, e1⟩, fun _ => ⟨g, c, e1, hc1, hc2, hel, hlt, fun e => ?_⟩⟩
    have := hm g e
    omega
section
variable {P : Program} {w : World}
theorem wpList_append_z {ops : Array Oper} {rest : List Oper} {o : Oper} {a : Act} {Q : Exit → Act → World → Prop} (hgd : o.guard = none) (s x : Operand) (t : TypeId)
    (ho : o.op = .call { callee := .builtin .append, args := #[s, x], argTypes := #[t, t] })
    (base : Nat) (e : TypeId) (z : Value) (sz bytes : Nat) (ht : P.underlying t = some (.slice e)) (hinfo : (P.info? e).map (fun i => (i.zero, i.size, i.bytes)) = some (some z, sz, bytes)) (hzs : z.cells.size = sz) (hsz : 0 < sz)
    (v : Value) (L : List (List Value)) (hs : a.eval s = v) (C : Option Addr) (m d : Nat) (M : List (List Value)) (hx : a.eval x = .slice C m d) (hm : m = M.length) (hrow : RowZ w base e sz v L) (hM : ∀ x ∈ M, x.length = sz) (hsrc : Src w C M.flatten) (h1 : ∀ u ∈ M.flatten, u.oneCell' = true)
    (h63 : L.length + M.length ≤ maxLen) (hbytes : (L.length + M.length) * bytes ≤ 140737488355328) (hbase : base ≤ w.heap.size)
    (h : ∀ v' w', RowZ w' base e sz v' (L ++ M) → Below base w w' → wpList P ops Q rest (a.put o.dst v') w') : wpList P ops Q (o :: rest) a w := by
  rcases hrow with ⟨rfl, g, rfl⟩ | ⟨hne, hrow⟩
  · subst hm
    obtain ⟨v', w', hr, h2, h3⟩ := run_append_zero (P := P) (w := w) (ty := o.type) ht hinfo hzs hsz (g := g) (d := d) hM hsrc (by simpa using h63) (by simpa using hbytes) hbase
    refine wpList_plain hgd fun K hK => ?_
    unfold Oper.wp execOp
    simp only [ho, resolve, invoke, builtin, Sem.run_bind, Sem.run_pure, Result.andThen_ok, List.map_toArray, List.map_cons, List.map_nil, hs, hx]
    rw [hr]
    exact hK _ _ (h v' w' h2 (h3.mono hbase))
  · exact wpList_append_rowN hgd s x t ho base e z sz bytes ht hinfo hzs hsz v L hs C m d M hx hm hrow hM hsrc h1 h63 hbytes hbase fun v' w' h2 h3 _ =>
      h v' w' (.inr ⟨by simp [hne], h2⟩) (below_grown h3 (fun i hi => (hrow.lt i hi).1) hbase)
end
end Go.Proofs.Ytidooohgbiiikaa
/- The law FragBack at any bytes. -/
namespace Go.Proofs.Ytidooohgbiiikaa
open Go.RowKit
set_option linter.unusedVariables false
set_option linter.unusedSimpArgs false
set_option maxRecDepth 100000 in
set_option maxHeartbeats 16000000 in
theorem back_l (A : Option Addr) (c : Nat) (b : List UInt8) (most : Int) (O : Option Addr) (oc : Nat) (order : List UInt8) (w : World) (hc : b.length ≤ c) (hcm : c ≤ maxLen) (m0 : -9223372036854775808 ≤ most) (m1 : most ≤ 9223372036854775807) (hB : BS w w.heap.size A b) (hoc : order.length ≤ oc) (hocm : oc ≤ maxLen) (hO : BS w w.heap.size O order) :
    Calls Try.prog 5 #[.slice A b.length c, .int .i64 most, .slice O order.length oc] w fun e w' => e = .returned (.bool true) ∧ Below w.heap.size w w' := by
  by_cases hl : 1500 < b.length
  · have i1 : (1500 : Int) < (b.length : Int) := by omega
    have i2 : (b.length : Int) ≤ 9223372036854775807 := by unfold maxLen at hcm; omega
    clear hB hO
    have HW0 := Lib.hid (Below.refl w.heap.size w)
    go_enter Try.func5, Try.ntmps5
    go_wp2_with fail
    refine (awake_any _).mono ?_
    rintro e wz ⟨rfl, hbz⟩
    have HBZ := Lib.hid (HW0.out.trans (hbz.mono HW0.out.size))
    clear hbz
    go_wp2_with fail
    go_ret
    exact ⟨rfl, HBZ.out⟩
  have i1 : ¬ (1500 : Int) < (b.length : Int) := by omega
  have hb1500 : b.length ≤ 1500 := by omega
  have HB := Lib.hid hB
  have HO := Lib.hid hO
  have ho9 : (order.length : Int) ≤ 9223372036854775807 := by unfold maxLen at hocm; omega
  obtain ⟨bl, hbl⟩ : ∃ bl, b.length = bl := ⟨_, rfl⟩
  have HBL := Lib.hid hbl
  clear hB hO hl
  have hparse := fun W hB => refParse_any A c b W (by omega) ⟨hc, hcm⟩ hB
  have hsplit := fun W hB => split_any A c b most W (by omega) ⟨hc, hcm⟩ m0 m1 hB
  rw [hbl] at hparse hsplit i1 hc hb1500 ⊢
  have HPA := Lib.hid hparse
  have HSP := Lib.hid hsplit
  clear hparse hsplit hbl
  go_enter Try.func5, Try.ntmps5
  go_wp2_with fail
  refine (HPA.out w HB.out).mono ?_
  rintro e w2 ⟨hb2, ⟨hpe, rfl⟩ | ⟨hpe, v, lv, rfl, hv, hx⟩⟩
  · have HPE := Lib.hid hpe
    have HW2 := Lib.hid hb2
    clear hpe hb2
    obtain ⟨pe, hpe⟩ : ∃ pe, perr b = pe := ⟨_, rfl⟩
    rw [hpe]
    have hpe0 : ¬ pe = 0 := by rw [← hpe]; exact HPE.out
    have hpeb : (pe == 0) = false := by simpa using hpe0
    clear hpe
    go_upto_region 4 with (show wpList _ _ _ ((⟨none, .store 41 (.tmp 7) _, _, _, _, none⟩ : Oper) :: _) _ _; refine wpList_store_mid rfl 41 (.tmp 7) _ rfl w2.heap.size 0 #[.int .u8 0, .int .i64 0, .int .u16 0, .bool false, .bool false, .int .i64 0, .int .u8 0, .int .u8 0, .int .u16 0, .bool false, .int .u64 0, .int .u64 0, .bool false, .int .u64 0, .int .u64 0, .slice none 0 0] rfl rfl ((Blk.new w2 41 #[.int .u8 0, .int .i64 0, .int .u16 0, .bool false, .bool false, .int .i64 0, .int .u8 0, .int .u8 0, .int .u16 0, .bool false, .int .u64 0, .int .u64 0, .bool false, .int .u64 0, .int .u64 0, .slice none 0 0]).there rfl) (by kernel_rfl) (by simp [Value.oneCell']) ?_)
    generalize hw3 : (World.setCells _ _ _ _) = w3
    have HKA := Lib.hid (show Kept (fun i => i = w2.heap.size) (w2.alloc (.cells #[.int .u8 0, .int .i64 0, .int .u16 0, .bool false, .bool false, .int .i64 0, .int .u8 0, .int .u8 0, .int .u16 0, .bool false, .int .u64 0, .int .u64 0, .bool false, .int .u64 0, .int .u64 0, .slice none 0 0] 41)) w3 by rw [← hw3]; exact Kept.setCells (S := fun i => i = w2.heap.size) rfl _ _ (Kept.refl _ _))
    have HW3 := Lib.hid (show Below w.heap.size w w3 from HW2.out.trans ((show Kept (fun _ => False) w2 w3 from ((Kept.refl _ _).alloc _).then HKA.out (fun i hi e => by omega)).below HW2.out.size (fun _ h => h.elim)))
    clear hw3 HKA
    go_wp2_with fail
    refine (awake_any _).mono ?_
    rintro e wz ⟨rfl, hbz⟩
    have HBZ := Lib.hid (HW3.out.trans (hbz.mono HW3.out.size))
    clear hbz
    go_wp2_with fail
    go_ret
    exact ⟨rfl, HBZ.out⟩
  have HOK := Lib.hid (okPt hpe)
  have HB2 := Lib.hid hb2
  have HPE := Lib.hid hpe
  obtain ⟨hd, hhd⟩ : ∃ hd, phd b = hd := ⟨_, rfl⟩
  obtain ⟨X, hX⟩ : ∃ X, pld b = X := ⟨_, rfl⟩
  have hXl : X.length ≤ 1500 := by rw [← hX]; have := pld_le b; have := HBL.out; omega
  have hwf : hd.wf := by rw [← hhd]; exact HOK.out.wf
  have hof8 : hd.off ≤ 8191 := by rw [← hhd]; exact HOK.out.o1
  have HLAW := Lib.hid (fun (h1 : hd.more = false) (h2 : hd.off = 0) (h3 : (splitR b most).1 = 0) (l : List (List UInt8)) (hp : l.Perm (splitR b most).2) => show joinR l = (0, hd.pkt X) by
    rw [← hhd, ← hX]; exact back_law (by have := HBL.out; omega) HPE.out (by rw [hhd]; exact h1) (by rw [hhd]; exact h2) h3 hp)
  have HERR := Lib.hid (fun (h2 : hd.off = 0) (h3 : (splitR b most).1 ≠ 0) => show hd.stay = true ∨ most < (hd.opts.length : Int) + 28 by
    rw [← hhd]; exact back_err (by have := HBL.out; omega) HPE.out (by rw [hhd]; exact h2) h3)
  have HCNT := Lib.hid (splitR_cnt (b := b) (most := most) (by have := HBL.out; omega))
  rw [hhd] at hv ⊢
  rw [hX] at hx
  clear hpe hb2 hhd hX HPE HOK
  obtain ⟨OA, ohc, hve, hoc1, hoc2⟩ := hv.shape
  obtain ⟨LA, lc, hxe, hxc1, hxc2⟩ := hx.shape
  obtain ⟨tos, len, id, stay, more, off, ttl, pr, sm, src, dst, os⟩ := hd
  obtain ⟨t0, t1, i0, i1, o0, o1, x0, x1, p0, p1, q0, q1, s0, s1, d0, d1, n0, n1, n40, n4⟩ := hwf
  simp only at t0 t1 i0 i1 o0 o1 x0 x1 p0 p1 q0 q1 s0 s1 d0 d1 n0 n1 n40 n4
  obtain ⟨n, hn⟩ : ∃ n, os.length = n := ⟨_, rfl⟩
  obtain ⟨m, hm⟩ : ∃ m, X.length = m := ⟨_, rfl⟩
  rw [bcs_length] at hve hxe hoc1 hxc1
  simp only at hve hoc1 hv hof8 HLAW HERR
  rw [hn] at hve hoc1 n40 n4 HERR
  rw [hm] at hxe hxc1 hXl
  subst hve hxe
  have HV := Lib.hid hv
  have HX := Lib.hid hx
  have HN := Lib.hid hn
  have HM := Lib.hid hm
  clear hv hx hn hm
  simp only [Hd.cells]
  go_upto_region 4 with (show wpList _ _ _ ((⟨none, .store 41 (.tmp 7) _, _, _, _, none⟩ : Oper) :: _) _ _; refine wpList_store_mid rfl 41 (.tmp 7) _ rfl w2.heap.size 0 #[.int .u8 tos, .int .i64 len, .int .u16 id, .bool stay, .bool more, .int .i64 off, .int .u8 ttl, .int .u8 pr, .int .u16 sm, .bool false, .int .u64 0, .int .u64 src, .bool false, .int .u64 0, .int .u64 dst, .slice OA n ohc] rfl rfl ((Blk.new w2 41 #[.int .u8 0, .int .i64 0, .int .u16 0, .bool false, .bool false, .int .i64 0, .int .u8 0, .int .u8 0, .int .u16 0, .bool false, .int .u64 0, .int .u64 0, .bool false, .int .u64 0, .int .u64 0, .slice none 0 0]).there rfl) (by kernel_rfl) (by simp [Value.oneCell']) ?_)
  generalize hw3 : (World.setCells _ _ _ _) = w3
  have HH := Lib.hid (show Blk w3 w2.heap.size 41 #[.int .u8 tos, .int .i64 len, .int .u16 id, .bool stay, .bool more, .int .i64 off, .int .u8 ttl, .int .u8 pr, .int .u16 sm, .bool false, .int .u64 0, .int .u64 src, .bool false, .int .u64 0, .int .u64 dst, .slice OA n ohc] by rw [← hw3]; exact (Blk.new w2 41 #[.int .u8 0, .int .i64 0, .int .u16 0, .bool false, .bool false, .int .i64 0, .int .u8 0, .int .u8 0, .int .u16 0, .bool false, .int .u64 0, .int .u64 0, .bool false, .int .u64 0, .int .u64 0, .slice none 0 0]).setAll #[.int .u8 tos, .int .i64 len, .int .u16 id, .bool stay, .bool more, .int .i64 off, .int .u8 ttl, .int .u8 pr, .int .u16 sm, .bool false, .int .u64 0, .int .u64 src, .bool false, .int .u64 0, .int .u64 dst, .slice OA n ohc] rfl)
  have HKA := Lib.hid (show Kept (fun i => i = w2.heap.size) (w2.alloc (.cells #[.int .u8 0, .int .i64 0, .int .u16 0, .bool false, .bool false, .int .i64 0, .int .u8 0, .int .u8 0, .int .u16 0, .bool false, .int .u64 0, .int .u64 0, .bool false, .int .u64 0, .int .u64 0, .slice none 0 0] 41)) w3 by rw [← hw3]; exact Kept.setCells (S := fun i => i = w2.heap.size) rfl _ _ (Kept.refl _ _))
  have HKB := Lib.hid (show Kept (fun _ => False) w2 w3 from ((Kept.refl _ _).alloc _).then HKA.out (fun i hi e => by omega))
  have HW3 := Lib.hid (show Below w.heap.size w w3 from HB2.out.trans (HKB.out.below HB2.out.size (fun _ h => h.elim)))
  have HV3 := Lib.hid (HV.out.kept HKB.out (fun _ _ h => h))
  have HX3 := Lib.hid (HX.out.kept HKB.out (fun _ _ h => h))
  have hwt : w.heap.size ≤ w2.heap.size := HB2.out.size
  clear hw3 HKA HKB HV HX HB2
  obtain ⟨ht, hht⟩ : ∃ ht, w2.heap.size = ht := ⟨_, rfl⟩
  rw [hht] at HH hwt ⊢
  clear hht
  have cB := HH.out.cell
  have lB := HH.out.lt
  have fB := HH.out.frozen
  cases more with
  | true =>
    go_wp2_with fail
    refine (awake_any _).mono ?_
    rintro e wz ⟨rfl, hbz⟩
    have HBZ := Lib.hid (HW3.out.trans (hbz.mono HW3.out.size))
    clear hbz
    go_wp2_with fail
    go_ret
    exact ⟨rfl, HBZ.out⟩
  | false =>
  by_cases hoff : 0 < off
  · 
    go_wp2_with fail
    refine (awake_any _).mono ?_
    rintro e wz ⟨rfl, hbz⟩
    have HBZ := Lib.hid (HW3.out.trans (hbz.mono HW3.out.size))
    clear hbz
    go_wp2_with fail
    go_ret
    exact ⟨rfl, HBZ.out⟩
  have hoff0 : off = 0 := by omega
  have HLAW2 := Lib.hid (HLAW.out rfl hoff0)
  have HERR2 := Lib.hid (HERR.out hoff0)
  subst hoff0
  go_upto_region 7 with fail
  generalize hw4 : World.setCell _ _ _ = w4
  have HH4 := Lib.hid (show Blk w4 ht 41 #[.int .u8 tos, .int .i64 len, .int .u16 id, .bool stay, .bool false, .int .i64 0, .int .u8 ttl, .int .u8 pr, .int .u16 0, .bool false, .int .u64 0, .int .u64 src, .bool false, .int .u64 0, .int .u64 dst, .slice OA n ohc] by
    rw [← hw4]
    have h1 := HH.out.set_ 8 (.int .u16 0)
    simp only [List.setIfInBounds_toArray, List.set_cons_succ, List.set_cons_zero] at h1
    exact h1)
  have HKS := Lib.hid (show Kept (fun i => i = ht) w3 w4 by rw [← hw4]; exact Kept.setIn (S := fun i => i = ht) rfl (Kept.refl _ _))
  have HW4 := Lib.hid (show Below w.heap.size w w4 from HW3.out.trans (HKS.out.below HW3.out.size (fun i e => by rw [e]; exact hwt)))
  have HV4 := Lib.hid (HV3.out.kept HKS.out (fun i hi e => HV3.out.ne HH.out (by decide) (by rw [hi, e])))
  have HX4 := Lib.hid (HX3.out.kept HKS.out (fun i hi e => HX3.out.ne HH.out (by decide) (by rw [hi, e])))
  clear hw4 HKS HV3 HX3 HH cB lB fB HW3
  go_wp2_with (show wpList _ _ _ ((⟨_, .load 41 (.tmp 7), _, _, _, none⟩ : Oper) :: _) _ _; refine wpList_load_mid rfl 41 (.tmp 7) rfl ht 0 rfl [.int .u8 tos, .int .i64 len, .int .u16 id, .bool stay, .bool false, .int .i64 0, .int .u8 ttl, .int .u8 pr, .int .u16 0, .bool false, .int .u64 0, .int .u64 src, .bool false, .int .u64 0, .int .u64 dst, .slice OA n ohc] _ HH4.out.range' Try.underlying41 rfl (by kernel_rfl) ?_)
  refine (refPacket_yes tos len id stay false 0 ttl pr 0 src dst OA n ohc os HN.out n40 n4 t0 t1 i0 i1 o0 x0 x1 p0 p1 s0 s1 d0 d1 X LA m lc HM.out (by omega) ⟨hoc1, hoc2⟩ hof8 w4 (HV4.out.byt.bs_of) (HX4.out.byt.bs_of)).mono ?_
  rintro e w5 ⟨vp, rfl, hrp, hb5⟩
  have HRP := Lib.hid hrp
  have HK5 := Lib.hid (show Kept (fun _ => False) w4 w5 from Kept.ofB hb5)
  have HW5 := Lib.hid (HW4.out.trans (hb5.mono HW4.out.size))
  have HH5 := Lib.hid (HH4.out.kept HK5.out (fun h => h))
  have HB5 := Lib.hid (HB.out.onB HW5.out (Nat.le_refl _))
  clear hrp hb5 HH4 HK5 HV4 HX4
  obtain ⟨W, hWd⟩ : ∃ W, ((⟨tos, len, id, stay, false, 0, ttl, pr, 0, src, dst, os⟩ : Hd) : Hd).pkt X = W := ⟨_, rfl⟩
  have HWD := Lib.hid (show ((⟨tos, len, id, stay, false, 0, ttl, pr, sm, src, dst, os⟩ : Hd) : Hd).pkt X = W by
    rw [← hWd]
    exact (pkt_free ((⟨tos, len, id, stay, false, 0, ttl, pr, sm, src, dst, os⟩ : Hd) : Hd) len 0 X).symm)
  rw [hWd] at HRP
  clear hWd
  go_wp2_with fail
  refine (HSP.out w5 HB5.out).mono ?_
  rintro e w6 ⟨hb6, lv0, rfl, hf⟩
  have HK6 := Lib.hid (show Kept (fun _ => False) w5 w6 from Kept.ofB hb6)
  have HW6 := Lib.hid (HW5.out.trans (hb6.mono HW5.out.size))
  have HH6 := Lib.hid (HH5.out.kept HK6.out (fun h => h))
  have HRP6 := Lib.hid (HRP.out.kept HK6.out (fun _ _ h => h))
  have HFR := Lib.hid hf.ls
  clear hf hb6 HK6 HH5 HRP HB5
  have cB := HH6.out.cell
  have lB := HH6.out.lt
  obtain ⟨se, hse⟩ : ∃ se, (splitR b most).1 = se := ⟨_, rfl⟩
  obtain ⟨ls0, hls0⟩ : ∃ ls0, (splitR b most).2 = ls0 := ⟨_, rfl⟩
  rw [hse, hls0] at HLAW2
  rw [hse] at HERR2
  rw [hls0] at HFR HCNT
  rw [hse]
  clear hse hls0
  by_cases hs0 : se = 0
  case neg =>
    have hsb : (se == 0) = false := by simpa using hs0
    have HE2 := Lib.hid (HERR2.out hs0)
    clear HFR
    cases stay with
    | true =>
      go_wp2_with fail
      refine (awake_any _).mono ?_
      rintro e wz ⟨rfl, hbz⟩
      have HBZ := Lib.hid (HW6.out.trans (hbz.mono HW6.out.size))
      clear hbz
      go_wp2_with fail
      go_ret
      exact ⟨rfl, HBZ.out⟩
    | false =>
      have i2 : most < (n : Int) + 28 := by
        rcases HE2.out with h | h
        · cases h
        · exact h
      go_wp2_with fail
      refine (awake_any _).mono ?_
      rintro e wz ⟨rfl, hbz⟩
      have HBZ := Lib.hid (HW6.out.trans (hbz.mono HW6.out.size))
      clear hbz
      go_wp2_with fail
      go_ret
      exact ⟨rfl, HBZ.out⟩
  case pos =>
  subst hs0
  have HLAW3 := Lib.hid (fun l hp => (HLAW2.out rfl l hp).trans (by rw [HWD.out]))
  obtain ⟨L0, hL0, hF0⟩ := HFR.out
  have HL0 := Lib.hid hL0
  have HF0 := Lib.hid hF0
  have hn0 : L0.length ≤ 200 := by rw [hF0.len]; exact HCNT.out.1
  obtain ⟨n0, hn0e⟩ : ∃ n0, L0.length = n0 := ⟨_, rfl⟩
  rw [hn0e] at hn0
  have HN0 := Lib.hid hn0e
  have hinf := Try.info22r
  have hw6 : w.heap.size ≤ w6.heap.size := HW6.out.size
  clear hL0 hF0 hn0e HFR HLAW HLAW2 HERR HERR2 HPA HSP cB lB HH6 HWD
  go_wp2_with fail
  go_loopw [12, 14, 15] (fun lv mv i wr' => ∃ (q : Nat) (M L : List (List Value)) (ms ls : List (List UInt8)), i = .int .i64 (q : Int) ∧ q + L.length = n0 ∧ Hid (RowN wr' w6.heap.size 22 1 mv M) ∧ Hid (LS wr' mv lv L) ∧ Hid (F2 (RB w6) M ms) ∧ Hid (F2 (RB w6) L ls) ∧ Hid ((ms ++ ls).Perm ls0) ∧ Hid (Below w6.heap.size w6 wr')) (fun _ _ i _ => n0 - (intOf i).toNat)
  case atStart => exact ⟨0, [], L0, [], ls0, rfl, by rw [HN0.out]; omega, Lib.hid (RowN.nil _ _ _ _), HL0, Lib.hid .nil, HF0, Lib.hid (List.Perm.refl _), Lib.hid (Below.refl _ _)⟩
  case round =>
    clear HL0 HF0 HN0
    obtain ⟨q, M, L, ms, ls, rfl, hqn, HMR, HLS, HFM, HFL, HPM, HWR⟩ := hrel
    have hwr6 : w6.heap.size ≤ wr.heap.size := HWR.out.size
    have q0 : (0 : Int) ≤ (q : Int) := Int.natCast_nonneg _
    obtain ⟨MA, mc, hme, hmc1, hmc2⟩ := HMR.out.shape
    have hMl : M.length ≤ 200 := by
      have e1 := HFM.out.len
      have e2 := HPM.out.length_eq
      have e3 := HCNT.out.1
      rw [List.length_append] at e2
      omega
    obtain ⟨mn, hmn⟩ : ∃ mn, M.length = mn := ⟨_, rfl⟩
    rw [hmn] at hme hmc1 hMl
    have HMN := Lib.hid hmn
    clear hmn
    subst hme
    by_cases hLe : L = []
    · subst hLe
      obtain ⟨⟨lA, lcap, hle⟩, -⟩ := HLS.out
      subst hle
      have hls : ls = [] := List.eq_nil_of_length_eq_zero (by rw [← HFL.out.len]; rfl)
      subst hls
      have HJ := Lib.hid (HLAW3.out ms (by have := HPM.out; rwa [List.append_nil] at this))
      have hmsl : ms.length = mn := by rw [← HFM.out.len, HMN.out]
      have HJA := Lib.hid (join_any MA mc ms wr (by omega) (by
        have := perm_sum HPM.out
        have h2 := HCNT.out.2
        rw [List.append_nil] at this
        omega) (ins_rowN HMR.out (HFM.out.imp fun a b h => h.onB HWR.out)))
      rw [hmsl] at HJA
      have HRPr := Lib.hid (HRP6.out.kept (show Kept (fun _ => False) w6 wr from Kept.ofB HWR.out) (fun _ _ h => h))
      clear HLS HMR HFM HFL HPM
      go_wp2_with fail
      refine HJA.out.mono ?_
      rintro e w8 ⟨hb8, vj, rfl, hrj⟩
      rw [HJ.out] at hrj ⊢
      simp only at hrj ⊢
      have HRJ := Lib.hid hrj.byt
      have HRQ := Lib.hid ((HRPr.out.kept (show Kept (fun _ => False) wr w8 from Kept.ofB hb8) (fun _ _ h => h)).byt)
      have HW8 := Lib.hid ((HW6.out.trans (HWR.out.mono hw6)).trans (hb8.mono (by omega)))
      obtain ⟨P1, c1, e1, hp1, hp2, hpb⟩ := HRJ.out
      obtain ⟨P2, c2, e2, hq1, hq2, hqb⟩ := HRQ.out
      subst e1 e2
      have v1 := hpb.conv (P := Try.prog) (c := c1) Try.underlying22 Try.underlying5 Try.underlying9
      have v2 := hqb.conv (P := Try.prog) (c := c2) Try.underlying22 Try.underlying5 Try.underlying9
      clear hrj hb8 hpb hqb
      go_wp2_with fail
      refine (awake_any _).mono ?_
      rintro e wz ⟨rfl, hbz⟩
      have HBZ := Lib.hid (HW8.out.trans (hbz.mono HW8.out.size))
      clear hbz
      go_wp2_with fail
      go_ret
      exact ⟨rfl, HBZ.out⟩
    have hL1 : 0 < L.length := List.length_pos_iff.2 hLe
    obtain ⟨g, lcap, hle, hlc1, hlc2, hel, hgl, hgm⟩ := HLS.out.2 hLe
    subst hle
    have HLL := Lib.hid (show L.length ≤ 200 by omega)
    have HONE := Lib.hid (fun D hD => HFL.out.onesB D hD)
    obtain ⟨n, hnL⟩ : ∃ n, L.length = n := ⟨_, rfl⟩
    rw [hnL] at hL1 hlc1 hqn HLL ⊢
    have HNL := Lib.hid hnL
    have HEL := Lib.hid hel
    have HGM := Lib.hid hgm
    have l0I : (0 : Int) < (n : Int) := by omega
    have q3I : (q : Int) < 300 := by omega
    have lcI : (n : Int) ≤ (lcap : Int) := by omega
    have hn200 : n ≤ 200 := HLL.out
    have hl9 : (lcap : Int) ≤ 9223372036854775807 := by unfold maxLen at hlc2; omega
    clear hnL hel hgm hLe HLS
    go_upto_if 81 with fail
    go_cut [16] (fun x wx => ∃ k : Nat, k < n ∧ x = .int .i64 (k : Int) ∧ wr = wx)
    case first =>
      by_cases hqo : q < order.length
      · have i3 : (q : Int) < (order.length : Int) := by omega
        obtain ⟨ob, oo, hob, rfl, hoc⟩ := HO.out.at hqo
        have hoq := hoc q hqo
        have hoq' : wr.cell? ⟨ob, oo + q, none⟩ = some (.int .u8 (order[q].toNat : Int)) := ((HW6.out.trans (HWR.out.mono hw6)).cell (p := ⟨ob, oo + q, none⟩) hob).trans hoq
        have hby := byte_le order[q]
        have hby0 : (0 : Int) ≤ (order[q].toNat : Int) := Int.natCast_nonneg _
        obtain ⟨y, hy⟩ : ∃ y : Nat, order[q].toNat = y := ⟨_, rfl⟩
        rw [hy] at hoq' hby hby0
        have nz : ¬ (n : Int) = 0 := by omega
        have nb : ((n : Int) == 0) = false := by simpa using nz
        have er : Int.tmod (y : Int) (n : Int) = ((y % n : Nat) : Int) := by rw [Int.tmod_eq_emod_of_nonneg hby0]; rfl
        have erl : y % n < n := Nat.mod_lt _ hL1
        clear hoc hoq hy
        go_wp2_with fail
        go_meet
        exact ⟨y % n, erl, by first | rw [er] | rfl | simp [er], rfl⟩
      · have i3 : ¬ (q : Int) < (order.length : Int) := by omega
        go_wp2_with fail
        go_meet
        exact ⟨0, hL1, rfl, rfl⟩
    case rest =>
    obtain ⟨k, hkn, rfl, rfl⟩ := hcut
    have k0 : (0 : Int) ≤ (k : Int) := Int.natCast_nonneg _
    have kI : (k : Int) < (n : Int) := by omega
    have kI2 : (k : Int) ≤ (n : Int) := by omega
    have kc : (k : Int) ≤ (lcap : Int) := by omega
    have hkL : k < L.length := by rw [HNL.out]; exact hkn
    have hkls : k < ls.length := by rw [← HFL.out.len]; exact hkL
    have ce := HEL.out.get hkL 0 (by omega)
    obtain ⟨EA, ec, hee, -, -, -⟩ := HFL.out.at hkL hkls
    rw [hee] at ce
    simp only [Nat.zero_add, Nat.mul_one, Nat.add_zero] at ce
    obtain ⟨el, hel⟩ : ∃ el, ls[k].length = el := ⟨_, rfl⟩
    rw [hel] at hee ce
    have ce2 : wr.cell? ⟨g, k, none⟩ = some (.slice EA el ec) := ce
    have HEE := Lib.hid hee
    clear hel hee ce
    go_upto_region 19 with (at_builtin; refine wpList_append_rowN rfl (.tmp 90) (.tmp 95) 24 rfl w6.heap.size 22 (.slice none 0 0) 1 24 Try.underlying24 hinf rfl (by omega) _ M rfl (some ⟨wr.heap.size, 0, none⟩) 1 1 [[.slice EA el ec]] rfl rfl (HMR.out.alloc _) (by simp) (Src.blk (Blk.new _ _ _) rfl) ?a2 ?a3 ?a4 ?a5 ?_)
    case a2 => simp [Value.oneCell']
    case a3 => simp [HMN.out]; unfold maxLen; omega
    case a4 => simp [HMN.out]; omega
    case a5 => simp; omega
    intro v8 w8 hr8 hg8 ho8
    have HR8 := Lib.hid hr8
    have HW8 := Lib.hid (show Below w6.heap.size w6 w8 from (HWR.out.alloc hwr6 _).trans (below_grown hg8 (fun i hi => (HMR.out.lt i (by first | exact hi | simpa [Value.ownBlock] using hi)).1) (by simp; omega)))
    have HE := Lib.hid (show ElAt w8 g 0 1 L from HEL.out.keep fun o => World.cell?_of_block ((hg8.block g (by simp; omega) (fun e => HGM.out (by first | exact e.symm | simpa [Value.ownBlock] using e.symm))).trans (Below.heap_alloc wr _ g hgl)))
    obtain ⟨B1, hB1⟩ : ∃ B1, w8.heap.size = B1 := ⟨_, rfl⟩
    have hgB : g < w8.heap.size := Nat.lt_of_lt_of_le hgl (by have := hg8.size; simp at this; omega)
    have hB6 : w6.heap.size ≤ B1 := by rw [← hB1]; exact HW8.out.size
    clear hr8 hg8 ho8 HMR HEL HGM ce2
    have hH : B1 ≤ w8.heap.size := by omega
    have bH : g < B1 := by omega
    have blt := hgB
    have HB1 := Lib.hid hB1
    obtain ⟨k1, hk1⟩ : ∃ k1, k + 1 = k1 := ⟨_, rfl⟩
    have HK1 := Lib.hid hk1
    have er : (k : Int) + 1 = (k1 : Int) := by omega
    have k1n : (k1 : Int) ≤ (n : Int) := by omega
    have k1c : (k1 : Int) ≤ (lcap : Int) := by omega
    have k10 : (0 : Int) ≤ (k1 : Int) := Int.natCast_nonneg _
    clear hB1 hgB
    go_upto_region 19 with fail
    refine wp_region_lax 9 B1 1 [4] [(0, fun v u => ∃ g, v = .slice (some ⟨g, 0, none⟩) 0 0), (4, fun v u => RowZ u B1 22 1 v (L.take k)), (8, fun v u => ∃ A' c', v = .slice A' (n - k1) c' ∧ ES u B1 A' 1 (L.drop (k + 1)))] ?st ?ne rfl (by kernel_rfl) (by kernel_rfl) (by kernel_rfl) ?_
    case st =>
      intro p hp
      simp only [List.mem_cons, List.not_mem_nil, or_false] at hp
      rcases hp with rfl | rfl | rfl
      · intro v u u' h _; exact h
      · intro v u u' h hk; exact h.kept hk
      · rintro v u u' ⟨A', c', rfl, h⟩ hk; exact ⟨A', c', rfl, h.laxG (by omega) hk⟩
    case ne =>
      intro p hp
      simp only [List.mem_cons, List.not_mem_nil, or_false] at hp
      rcases hp with rfl | rfl | rfl
      · exact ⟨.slice (some ⟨0, 0, none⟩) 0 0, _, Lax.refl _ _ _, 0, rfl⟩
      · exact rowZG_is 22 1 B1 w8 (L.take k) (fun y hy => (HONE.out _ (fun z hz => List.mem_of_mem_take hz)).1 y hy) hH (by have := HNL.out; simp only [List.length_take, List.length_drop, List.length_append]; unfold maxLen; omega)
      · exact ⟨_, w8, Lax.refl _ _ _, some ⟨g, (k + 1) * 1, none⟩, 0, rfl, es_sliceG HE.out bH (by have := HNL.out; omega)⟩
    simp only [List.take_succ_cons, List.take_zero, List.drop_succ_cons, List.drop_zero]
    intro G pick hR hp1 hp2
    repeat (first | (refine wpR_det hp2 rfl ((hR.rel _).trans rfl) rfl ?_; intro K hK; go_big_quiet_op; go_big_quiet_on) | (refine wpR_ptr hp2 rfl ((hR.rel _).trans rfl) rfl rfl ?_; intro K hK; go_big_quiet_op; go_big_quiet_on) | (refine wpR_skip pick rfl ?_; intro K hK; go_big_quiet_op; go_big_quiet_on))
    refine wpR_rel pick rfl ((hR.rel _).trans rfl) ((hR.turns _).trans rfl) ?_ ?_
    · intro u hu
      have hk := hR.since hu.1
      have hks := hk.size
      unfold relAt
      go_simp
      exact ⟨hR.into0 ((Kept.refl _ _).alloc _), hR.put 0 rfl rfl ⟨_, rfl⟩⟩
    intro v hv
    obtain ⟨u, _, hu⟩ := hv
    obtain ⟨g0, rfl⟩ := hR.get 0 rfl hu
    clear hu
    intro K hK
    go_big_quiet_op
    go_big_quiet_on
    repeat (first | (refine wpR_det hp2 rfl ((hR.rel _).trans rfl) rfl ?_; intro K hK; go_big_quiet_op; go_big_quiet_on) | (refine wpR_ptr hp2 rfl ((hR.rel _).trans rfl) rfl rfl ?_; intro K hK; go_big_quiet_op; go_big_quiet_on) | (refine wpR_skip pick rfl ?_; intro K hK; go_big_quiet_op; go_big_quiet_on))
    refine wpR_turn pick rfl ((hR.rel _).trans rfl) ((hR.turns _).trans rfl) ((hR.adds _).trans rfl) ?_ ?_
    · intro u hu hM
      have hk := hR.since hu.1
      have hks := hk.size
      refine relAt_append_zero (.tmp 97) (.tmp 100) 24 rfl B1 22 (.slice none 0 0) 1 24 Try.underlying24 hinf rfl (by omega) g0 rfl (some ⟨g, 0, none⟩) k lcap (L.take k) rfl ?me (fun y hy => (HONE.out _ (fun z hz => List.mem_of_mem_take hz)).1 y hy) ?se ?le ?be ?he ?_
      case me => have := HNL.out; simp only [List.length_take, List.length_drop, List.length_append]; omega
      case se => exact .inr ⟨_, rfl, fun j u hu => by rw [Addr.add_lit]; exact ((HE.out.take k).keep (w' := _) (fun o => hk.cell blt bH o)).2 j u hu⟩
      case le => have := HNL.out; simp only [List.length_take, List.length_drop, List.length_append]; unfold maxLen; omega
      case be => have := HNL.out; simp only [List.length_take, List.length_drop, List.length_append]; omega
      case he => omega
      intro v' w' h1 h2
      exact ⟨hR.into (Lax.of_below h2), hR.put 1 rfl rfl h1⟩
    intro v hv
    obtain ⟨u, _, hu⟩ := hv
    obtain hT4 := hR.get 1 rfl hu
    clear hu
    intro K hK
    go_big_quiet_op
    go_big_quiet_on
    repeat (first | (refine wpR_det hp2 rfl ((hR.rel _).trans rfl) rfl ?_; intro K hK; go_big_quiet_op; go_big_quiet_on) | (refine wpR_ptr hp2 rfl ((hR.rel _).trans rfl) rfl rfl ?_; intro K hK; go_big_quiet_op; go_big_quiet_on) | (refine wpR_skip pick rfl ?_; intro K hK; go_big_quiet_op; go_big_quiet_on))
    refine wpR_rel pick rfl ((hR.rel _).trans rfl) ((hR.turns _).trans rfl) ?_ ?_
    · intro u hu
      have hk := hR.since hu.1
      have hks := hk.size
      unfold relAt
      go_simp
      refine ⟨hR.into0 (Kept.refl _ _), hR.put 2 rfl rfl ⟨_, _, rfl, ?_⟩⟩
      have hel' := HE.out.keep (w' := u) (fun o => hk.cell blt bH o)
      have e1 := HK1.out
      subst e1
      split
      · rw [show L.drop (k + 1) = [] from List.drop_eq_nil_of_le (by have := HNL.out; omega)]; exact .inl rfl
      · exact es_slice1 (k := k + 1) hel' bH (by have := HNL.out; omega)
    intro v hv
    obtain ⟨u, _, hu⟩ := hv
    obtain ⟨A', c', rfl, -⟩ := hR.get 2 rfl hu
    clear hu
    intro K hK
    go_big_quiet_op
    go_big_quiet_on
    repeat (first | (refine wpR_det hp2 rfl ((hR.rel _).trans rfl) rfl ?_; intro K hK; go_big_quiet_op; go_big_quiet_on) | (refine wpR_ptr hp2 rfl ((hR.rel _).trans rfl) rfl rfl ?_; intro K hK; go_big_quiet_op; go_big_quiet_on) | (refine wpR_skip pick rfl ?_; intro K hK; go_big_quiet_op; go_big_quiet_on))
    refine wpR_nil ?_
    intro w9 hk2 hF hM
    have HV := Lib.hid (hR.get 1 rfl hM)
    have HS := Lib.hid ((hR.get 2 rfl (hF _ _ (Got.upd_self _ _ _))))
    have HLX := Lib.hid hk2
    have hs9 := hk2.size
    clear hF hM hk2 hp1 hp2 hR
    obtain ⟨A'', c'', e, hS⟩ := HS.out
    injection e with e1 e2 e3
    subst e1
    have HSS := Lib.hid hS
    clear e2 e3 hS HS
    go_upto_region 14 with (at_builtin; refine wpList_append_z rfl (.tmp 101) (.tmp 105) 24 rfl B1 22 (.slice none 0 0) 1 24 Try.underlying24 hinf rfl (by omega) _ (L.take k) rfl A' (n - k1) c' (L.drop (k + 1)) rfl ?b0 HV.out (fun y hy => (HONE.out _ (fun z hz => List.mem_of_mem_drop hz)).1 y hy) HSS.out.src (HONE.out _ (fun z hz => List.mem_of_mem_drop hz)).2 ?b3 ?b4 ?b5 ?_)
    case b0 => have := HNL.out; simp only [List.length_take, List.length_drop, List.length_append]; omega
    case b3 => have := HNL.out; simp only [List.length_take, List.length_drop, List.length_append]; unfold maxLen; omega
    case b4 => have := HNL.out; simp only [List.length_take, List.length_drop, List.length_append]; omega
    case b5 => omega
    intro v10 w10 hr10 hb10
    have HKK := Lib.hid (show Below B1 w8 w10 from (HLX.out.below hH).trans hb10)
    have hr10' : RowZ w10 B1 22 1 v10 (L.take k ++ L.drop (k + 1)) := by first | exact hr10 | (rw [HK1.out]; exact hr10)
    have HL10 := Lib.hid (hr10'.ls (mv := v8) (fun g' hg' => by have h := (HR8.out.lt g' hg').2; have := HB1.out; omega))
    have HR10 := Lib.hid (HR8.out.below HKK.out (fun g' hg' => by have h := (HR8.out.lt g' hg').2; have := HB1.out; omega))
    have HW10 := Lib.hid (show Below w6.heap.size w6 w10 from HW8.out.trans (HKK.out.mono hB6))
    have HFM10 := Lib.hid (show F2 (RB w6) (M ++ [[.slice EA el ec]]) (ms ++ [ls[k]]) from F2.append HFM.out (.one (by have h := HFL.out.at hkL hkls; rw [HEE.out] at h; exact h)))
    have HFL10 := Lib.hid (show F2 (RB w6) (L.take k ++ L.drop (k + 1)) (ls.take k ++ ls.drop (k + 1)) from F2.append (HFL.out.take k) (HFL.out.drop (k + 1)))
    have HPM10 := Lib.hid (perm_step hkls HPM.out)
    have hql : q + 1 + (L.take k ++ L.drop (k + 1)).length = n0 := by have := HNL.out; simp only [List.length_take, List.length_drop, List.length_append]; omega
    clear hr10 hr10' hb10 HKK HR8 HW8 HV HSS HLX HFM HFL HPM HWR HE
    go_wp2_with fail
    go_roundw
    case rel => exact ⟨q + 1, _, _, _, _, by go_num, hql, HR10, HL10, HFM10, HFL10, HPM10, HW10⟩
    case measure => simp [intOf]; omega
end Go.Proofs.Ytidooohgbiiikaa
