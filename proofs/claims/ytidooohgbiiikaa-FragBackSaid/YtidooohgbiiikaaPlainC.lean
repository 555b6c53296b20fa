import Derived.Test.YtidooohgbiiikaaPlainJ
import Derived.Test.YtidooohgbiiikaaPlainS
/- The bytes of a packet say what the packet is; the fragments of a packet, in whatever order, put together. Plain Lean. -/
namespace Go.Proofs.Ytidooohgbiiikaa
set_option linter.unusedVariables false
set_option linter.unusedSimpArgs false
def head20 (g : Hd) : List UInt8 := [b8 (64 + (g.size : Int) / 4), b8 g.tos, b8 (g.len / 256), b8 g.len, b8 (g.id / 256), b8 g.id, b8 (g.place / 256), b8 g.place, b8 g.ttl, b8 g.proto, b8 (g.ck / 256), b8 g.ck, b8 (g.src / 256 / 256 / 256), b8 (g.src / 256 / 256), b8 (g.src / 256), b8 g.src, b8 (g.dst / 256 / 256 / 256), b8 (g.dst / 256 / 256), b8 (g.dst / 256), b8 g.dst]
theorem bytes_eq (g : Hd) : g.bytes = head20 g ++ g.opts := by
  simp [Hd.bytes, Hd.pre, Hd.parts, fin, digs, head20]
theorem total_cons2 (a b : UInt8) (l : List UInt8) : total true (a :: b :: l) = (a.toNat : Int) * 256 + (b.toNat : Int) + total true l := by simp only [total]; omega
theorem total_bytes (g : Hd) : total true g.bytes = total true g.pre + g.ck := by
  have hck := g.ck_range
  rw [bytes_eq]
  unfold head20 Hd.pre Hd.parts
  simp only [digs, List.nil_append, List.cons_append, List.flatten_cons, List.flatten_nil, List.append_nil, total_cons2, b8_val]
  omega
theorem norm_sum (T : Int) (h : 0 < T) : norm (T + (65535 - norm T)) = 65535 := by
  unfold norm
  rw [if_neg (by omega)]
  split
  · omega
  · omega
theorem pre_pos (g : Hd) (hw : g.wf) : 0 < total true g.pre := by
  have h40 := hw.o40
  have : 0 ≤ total true (g.pre.drop 2) := total_nonneg _ _
  unfold Hd.pre Hd.parts at this ⊢
  simp only [digs, List.nil_append, List.cons_append, List.flatten_cons, List.flatten_nil, List.append_nil, List.drop_succ_cons, List.drop_zero] at this ⊢
  rw [total_cons2, b8_val, b8_val]
  have hs : (g.size : Int) ≤ 60 := by unfold Hd.size; omega
  have := hw.tos0
  omega
theorem num1 (a : UInt8) : num [a] = (a.toNat : Int) := by simp [num]
theorem num2 (a b : UInt8) : num [a, b] = (a.toNat : Int) * 256 + (b.toNat : Int) := by simp [num]
theorem num4 (a b c d : UInt8) : num [a, b, c, d] = (((a.toNat : Int) * 256 + (b.toNat : Int)) * 256 + (c.toNat : Int)) * 256 + (d.toNat : Int) := by simp [num]
section
variable {g : Hd} {X : List UInt8}
theorem fl0 : fld (g.bytes ++ X) 0 1 = (64 + (g.size : Int) / 4) % 256 := by rw [bytes_eq]; unfold fld head20; simp only [List.cons_append, List.nil_append, List.drop_zero, List.take_succ_cons, List.take_zero, num1, b8_val]
theorem fl1 : fld (g.bytes ++ X) 1 1 = g.tos % 256 := by rw [bytes_eq]; unfold fld head20; simp only [List.cons_append, List.nil_append, List.drop_succ_cons, List.drop_zero, List.take_succ_cons, List.take_zero, num1, b8_val]
theorem fl2 (h0 : 0 ≤ g.len) (h1 : g.len ≤ 65535) : fld (g.bytes ++ X) 2 2 = g.len := by rw [bytes_eq]; unfold fld head20; simp only [List.cons_append, List.nil_append, List.drop_succ_cons, List.drop_zero, List.take_succ_cons, List.take_zero, num2, b8_val]; omega
theorem fl4 (h0 : 0 ≤ g.id) (h1 : g.id ≤ 65535) : fld (g.bytes ++ X) 4 2 = g.id := by rw [bytes_eq]; unfold fld head20; simp only [List.cons_append, List.nil_append, List.drop_succ_cons, List.drop_zero, List.take_succ_cons, List.take_zero, num2, b8_val]; omega
theorem fl6 (h0 : 0 ≤ g.place) (h1 : g.place ≤ 65535) : fld (g.bytes ++ X) 6 2 = g.place := by rw [bytes_eq]; unfold fld head20; simp only [List.cons_append, List.nil_append, List.drop_succ_cons, List.drop_zero, List.take_succ_cons, List.take_zero, num2, b8_val]; omega
theorem fl8 : fld (g.bytes ++ X) 8 1 = g.ttl % 256 := by rw [bytes_eq]; unfold fld head20; simp only [List.cons_append, List.nil_append, List.drop_succ_cons, List.drop_zero, List.take_succ_cons, List.take_zero, num1, b8_val]
theorem fl9 : fld (g.bytes ++ X) 9 1 = g.proto % 256 := by rw [bytes_eq]; unfold fld head20; simp only [List.cons_append, List.nil_append, List.drop_succ_cons, List.drop_zero, List.take_succ_cons, List.take_zero, num1, b8_val]
theorem fl10 (h0 : 0 ≤ g.ck) (h1 : g.ck ≤ 65535) : fld (g.bytes ++ X) 10 2 = g.ck := by rw [bytes_eq]; unfold fld head20; simp only [List.cons_append, List.nil_append, List.drop_succ_cons, List.drop_zero, List.take_succ_cons, List.take_zero, num2, b8_val]; omega
theorem fl12 (h0 : 0 ≤ g.src) (h1 : g.src ≤ 4294967295) : fld (g.bytes ++ X) 12 4 = g.src := by rw [bytes_eq]; unfold fld head20; simp only [List.cons_append, List.nil_append, List.drop_succ_cons, List.drop_zero, List.take_succ_cons, List.take_zero, num4, b8_val]; omega
theorem fl16 (h0 : 0 ≤ g.dst) (h1 : g.dst ≤ 4294967295) : fld (g.bytes ++ X) 16 4 = g.dst := by rw [bytes_eq]; unfold fld head20; simp only [List.cons_append, List.nil_append, List.drop_succ_cons, List.drop_zero, List.take_succ_cons, List.take_zero, num4, b8_val]; omega
theorem drop20 : (g.bytes ++ X).drop 20 = g.opts ++ X := by rw [bytes_eq]; unfold head20; simp only [List.cons_append, List.nil_append, List.drop_succ_cons, List.drop_zero, List.append_assoc]
end
/-- The bytes of a packet are one, and say what it is. -/
theorem pk_bytes (g : Hd) (X : List UInt8) (hw : g.wf) (ho : g.off ≤ 8191) (hl : g.len = (g.size : Int) + X.length) (hL : g.len ≤ 65535) :
    Pk (g.bytes ++ X) ∧ phd (g.bytes ++ X) = { g with sum := g.ck } ∧ pld (g.bytes ++ X) = X := by
  obtain ⟨t0, t1, i0, i1, o0, o1, x0, x1, p0, p1, q0, q1, s0, s1, d0, d1, n0, n1, n40, n4⟩ := hw
  have hck := g.ck_range
  have hs : g.size = 20 + g.opts.length := rfl
  have hpl0 : 0 ≤ g.place ∧ g.place < 32768 ∧ g.place % 8192 = g.off ∧ (g.place / 16384 % 2 = 1 ↔ g.stay = true) ∧ (g.place / 8192 % 2 = 1 ↔ g.more = true) := by
    unfold Hd.place
    cases g.stay <;> cases g.more <;> simp <;> omega
  obtain ⟨pl0, pl1, pl2, pl3, pl4⟩ := hpl0
  have e0 := fl0 (g := g) (X := X)
  have e1 := fl1 (g := g) (X := X)
  have e2 := fl2 (g := g) (X := X) n0 hL
  have e4 := fl4 (g := g) (X := X) i0 i1
  have e6 := fl6 (g := g) (X := X) pl0 (by omega)
  have e8 := fl8 (g := g) (X := X)
  have e9 := fl9 (g := g) (X := X)
  have e10 := fl10 (g := g) (X := X) hck.1 hck.2
  have e12 := fl12 (g := g) (X := X) s0 s1
  have e16 := fl16 (g := g) (X := X) d0 d1
  have ehs : hsz (g.bytes ++ X) = g.size := by unfold hsz; rw [e0]; omega
  have hbl := g.bytes_len
  have hlen : (g.bytes ++ X).length = g.size + X.length := by rw [List.length_append, hbl]
  have hto : total true ((g.bytes ++ X).take g.size) = total true g.pre + g.ck := by
    rw [List.take_append_of_le_length (by omega), List.take_of_length_le (by omega), total_bytes]
  refine ⟨⟨by omega, by omega, by rw [ehs, e2]; omega, by rw [e2, hlen]; omega, by rw [e0]; omega, by rw [e6]; exact pl1, ?_⟩, ?_, ?_⟩
  · rw [ehs, hto]
    have := norm_sum _ (pre_pos g ⟨t0, t1, i0, i1, o0, o1, x0, x1, p0, p1, q0, q1, s0, s1, d0, d1, n0, n1, n40, n4⟩)
    unfold Hd.ck
    omega
  · unfold phd
    rw [e1, e2, e4, e6, e8, e9, e10, e12, e16, ehs, drop20, pl2, List.take_append_of_le_length (by omega), List.take_of_length_le (by omega), Int.emod_eq_of_lt t0 (by omega), Int.emod_eq_of_lt x0 (by omega), Int.emod_eq_of_lt p0 (by omega)]
    have b1 : decide (g.place / 16384 % 2 = 1) = g.stay := by cases h : g.stay <;> simp [pl3, h]
    have b2 : decide (g.place / 8192 % 2 = 1) = g.more := by cases h : g.more <;> simp [pl4, h]
    rw [b1, b2]
  · unfold pld
    rw [e2, ehs, List.drop_append_of_le_length (by omega), List.drop_of_length_le (by omega), List.nil_append, List.take_of_length_le (by omega)]
theorem perr_pkt {h : Hd} {X : List UInt8} (hw : h.wf) (ho : h.off ≤ 8191) (hL : h.size + X.length ≤ 65535) : perr (h.pkt X) = 0 ∧ ∃ s, pt (h.pkt X) = ⟨{ h with len := (h.size : Int) + X.length, sum := s }, X⟩ := by
  have hw' : ({ h with len := (h.size : Int) + X.length } : Hd).wf := by
    obtain ⟨t0, t1, i0, i1, o0, o1, x0, x1, p0, p1, q0, q1, s0, s1, d0, d1, n0, n1, n40, n4⟩ := hw
    exact ⟨t0, t1, i0, i1, o0, o1, x0, x1, p0, p1, q0, q1, s0, s1, d0, d1, by show 0 ≤ (h.size : Int) + X.length; omega, by show (h.size : Int) + X.length ≤ 1000000; omega, n40, n4⟩
  obtain ⟨h1, h2, h3⟩ := pk_bytes { h with len := (h.size : Int) + X.length } X hw' ho rfl (by show (h.size : Int) + X.length ≤ 65535; omega)
  refine ⟨of_pk h1, ({ h with len := (h.size : Int) + X.length } : Hd).ck, ?_⟩
  unfold pt
  show (⟨phd (({ h with len := (h.size : Int) + X.length } : Hd).bytes ++ X), pld (({ h with len := (h.size : Int) + X.length } : Hd).bytes ++ X)⟩ : Pt) = _
  rw [h2, h3]
theorem pkt_free (h : Hd) (a s : Int) (X : List UInt8) : ({ h with len := a, sum := s } : Hd).pkt X = h.pkt X := rfl
/-! ### A sort does not ask for the order, where no two keys are alike -/
section
variable {α : Type} {key : α → Int}
theorem mrg_perm {A B : List α} (h : A.Perm B) : ∀ U : List α, (A.Pairwise fun a b => key a ≠ key b) → mrg key U A = mrg key U B := by
  induction h with
  | nil => intro U _; rfl
  | cons x _ ih => intro U hd; rw [mrg_cons, mrg_cons]; exact ih _ (List.pairwise_cons.1 hd).2
  | swap x y l =>
    intro U hd
    rw [mrg_cons, mrg_cons, mrg_cons, mrg_cons]
    have := (List.pairwise_cons.1 hd).1 x (by simp)
    congr 1
    first | exact sins_comm _ _ this U | exact sins_comm _ _ (Ne.symm this) U
  | trans h1 _ ih1 ih2 => intro U hd; rw [ih1 U hd]; exact ih2 U ((h1.pairwise_iff (fun h => h.symm)).1 hd)
theorem isort_perm {A B : List α} (h : A.Perm B) (hs : B.Pairwise fun a b => key a < key b) : isort key A = B := by
  have hd : A.Pairwise fun a b => key a ≠ key b := (h.pairwise_iff (fun h => Ne.symm h)).2 (hs.imp fun h => by omega)
  unfold isort
  rw [mrg_perm h [] hd]
  exact isort_srt (hs.imp fun h => by omega)
end
/-! ### The fragments, put together -/
theorem pieceH_wf {h : Hd} (hw : h.wf) (hm : h.more = false) {X R k : Nat} (hf : fits h R k) : (pieceH h X R k).wf ∧ (pieceH h X R k).off ≤ 8191 := by
  obtain ⟨t0, t1, i0, i1, o0, o1, x0, x1, p0, p1, q0, q1, s0, s1, d0, d1, n0, n1, n40, n4⟩ := hw
  unfold fits at hf
  exact ⟨⟨t0, t1, i0, i1, by show 0 ≤ h.off + _; omega, by show h.off + _ ≤ 1000000; omega, x0, x1, p0, p1, q0, q1, s0, s1, d0, d1, n0, n1, n40, n4⟩, hf⟩
theorem gat_pieces (h h0 : Hd) (X : List UInt8) (R : Nat) (hR : 0 < R) (hR8 : R % 8 = 0) (ho : h.off = 0) (hm : h.more = false) (f : Nat → Pt) (hk0 : ∀ k, kinB (f k).hd h0 = true) (ho0 : ∀ k, (f k).hd.off = ((k * R / 8 : Nat) : Int)) (hm0 : ∀ k, (f k).hd.more = decide ((k + 1) * R < X.length)) (hx0 : ∀ k, (f k).ld = (X.drop (k * R)).take R) :
    ∀ (d k : Nat) (m : Bool), k + d = cnt X.length R → (m = true ↔ k * R < X.length) → gat h0 ((List.range' k d).map f) m (X.take (k * R)) = (0, X) := by
  intro d
  induction d with
  | zero =>
    intro k m hk hmm
    have h1 : ¬ k * R < X.length := by
      have := cnt_lt X.length R k hR
      omega
    have hmf : m = false := by
      cases m with
      | false => rfl
      | true => exact absurd (hmm.1 rfl) h1
    subst hmf
    simp only [List.range'_zero, List.map_nil]
    rw [gat, if_neg (by simp), List.take_of_length_le (by omega)]
  | succ d ih =>
    intro k m hk hmm
    have h1 : k * R < X.length := (cnt_lt X.length R k hR).1 (by omega)
    have hm1 : m = true := hmm.2 h1
    rw [List.range'_succ, List.map_cons]
    have e8 : 8 * (k * R / 8) = k * R := by
      have : (k * R) % 8 = 0 := by rw [Nat.mul_mod, hR8]; simp
      omega
    rw [gat_on (hk0 k) hm1 (by rw [ho0 k, List.length_take, Nat.min_eq_left (by omega)]; omega), hx0 k, hm0 k]
    have ea : X.take (k * R) ++ (X.drop (k * R)).take R = X.take ((k + 1) * R) := by
      rw [show (k + 1) * R = k * R + R by rw [Nat.add_mul, Nat.one_mul], List.take_add]
    rw [ea]
    exact ih (k + 1) _ (by omega) (by simp)
theorem joinR_pieces (h : Hd) (X : List UInt8) (R : Nat) (hw : h.wf) (hR : 0 < R) (hR8 : R % 8 = 0) (ho : h.off = 0) (hm : h.more = false) (hX : 0 < X.length) (hf : ∀ k, k < cnt X.length R → fits h R k) (hL : h.size + X.length ≤ 65535)
    {l : List (List UInt8)} (hp : l.Perm (pieces h X R (cnt X.length R))) : joinR l = (0, h.pkt X) := by
  have hn : 0 < cnt X.length R := (cnt_lt X.length R 0 hR).2 (by omega)
  have hpk : ∀ k, k < cnt X.length R → perr (piece h X R k) = 0 ∧ ∃ s, pt (piece h X R k) = ⟨{ pieceH h X.length R k with len := ((pieceH h X.length R k).size : Int) + ((X.drop (k * R)).take R).length, sum := s }, (X.drop (k * R)).take R⟩ := by
    intro k hk
    obtain ⟨h1, h2⟩ := pieceH_wf hw hm (X := X.length) (hf k hk)
    have hlen : ((X.drop (k * R)).take R).length ≤ X.length := by rw [List.length_take, List.length_drop]; omega
    exact perr_pkt h1 h2 (by have : (pieceH h X.length R k).size = h.size := rfl; omega)
  have he : ∀ b ∈ l, perr b = 0 := by
    intro b hb
    obtain ⟨k, hk, rfl⟩ := List.mem_map.1 (hp.mem_iff.1 hb)
    exact (hpk k (List.mem_range.1 hk)).1
  have e8 : ∀ k, 8 * (k * R / 8) = k * R := fun k => by
    have : (k * R) % 8 = 0 := by rw [Nat.mul_mod, hR8]; simp
    omega
  have hoff : ∀ k, k < cnt X.length R → (pt (piece h X R k)).hd.off = ((k * R / 8 : Nat) : Int) := fun k hk => by
    obtain ⟨s, e⟩ := (hpk k hk).2
    rw [e]; show h.off + _ = _; rw [ho]; omega
  have hs : isort poff (l.map pt) = (pieces h X R (cnt X.length R)).map pt := by
    refine isort_perm (hp.map pt) ?_
    unfold pieces
    rw [List.map_map, List.pairwise_map]
    refine List.Pairwise.imp_of_mem (fun {a b} ha hb hab => ?_) (List.pairwise_lt_range (n := cnt X.length R))
    show (pt (piece h X R a)).hd.off < (pt (piece h X R b)).hd.off
    rw [hoff a (List.mem_range.1 ha), hoff b (List.mem_range.1 hb)]
    have := e8 a
    have := e8 b
    have : a * R < b * R := Nat.mul_lt_mul_of_pos_right hab hR
    omega
  rw [joinR_all he, hs]
  -- a function that agrees with the pieces
  have hfn : ∃ f : Nat → Pt, (pieces h X R (cnt X.length R)).map pt = (List.range' 0 (cnt X.length R)).map f ∧ (∀ k, kinB (f k).hd (f 0).hd = true) ∧ (∀ k, (f k).hd.off = ((k * R / 8 : Nat) : Int)) ∧ (∀ k, (f k).hd.more = decide ((k + 1) * R < X.length)) ∧ (∀ k, (f k).ld = (X.drop (k * R)).take R) ∧ ∀ Y, ({ (f 0).hd with more := false, off := 0 } : Hd).pkt Y = h.pkt Y := by
    refine ⟨fun k => if k < cnt X.length R then pt (piece h X R k) else ⟨pieceH h X.length R k, (X.drop (k * R)).take R⟩, ?_, fun k => ?_, fun k => ?_, fun k => ?_, fun k => ?_, fun Y => ?_⟩
    · unfold pieces
      rw [List.map_map, List.range_eq_range']
      refine List.map_congr_left fun k hk => ?_
      have : k < cnt X.length R := by simpa using hk
      simp only [Function.comp, if_pos this]
    · have a0 : ∃ x s, (if 0 < cnt X.length R then pt (piece h X R 0) else ⟨pieceH h X.length R 0, (X.drop (0 * R)).take R⟩).hd = { pieceH h X.length R 0 with len := x, sum := s } := by
        rw [if_pos hn]; obtain ⟨s, e⟩ := (hpk 0 hn).2; rw [e]; exact ⟨_, _, rfl⟩
      obtain ⟨x, s, e0⟩ := a0
      simp only at e0 ⊢
      rw [e0]
      split
      · rename_i hk; obtain ⟨s', e⟩ := (hpk k hk).2; rw [e]; exact decide_eq_true ⟨rfl, rfl, rfl, rfl⟩
      · exact decide_eq_true ⟨rfl, rfl, rfl, rfl⟩
    · simp only
      split
      · rename_i hk; exact hoff k hk
      · show h.off + _ = _; rw [ho]; omega
    · simp only
      split
      · rename_i hk; obtain ⟨s', e⟩ := (hpk k hk).2; rw [e]; show (h.more || _) = _; rw [hm]; simp
      · show (h.more || _) = _; rw [hm]; simp
    · simp only
      split
      · rename_i hk; obtain ⟨s', e⟩ := (hpk k hk).2; rw [e]
      · rfl
    · simp only
      rw [if_pos hn]
      obtain ⟨s, e⟩ := (hpk 0 hn).2
      rw [e]
      have e1 : ({ h with more := false, off := 0 } : Hd) = h := by cases h; simp only at ho hm; subst ho hm; rfl
      have e2 : ({ h with more := false, off := 0 } : Hd).pkt Y = h.pkt Y := by rw [e1]
      exact e2
  obtain ⟨f, hf1, hf2, hf3, hf4, hf5, hf6⟩ := hfn
  rw [hf1]
  have hlen : 0 < ((List.range' 0 (cnt X.length R)).map f).length := by simp; exact hn
  rw [joinS_at hlen]
  have h00 : ((List.range' 0 (cnt X.length R)).map f)[0] = f 0 := by simp
  rw [h00]
  have := gat_pieces h (f 0).hd X R hR hR8 ho hm f hf2 hf3 hf4 hf5 (cnt X.length R) 0 true (by omega) (by simp; omega)
  rw [Nat.zero_mul, List.take_zero] at this
  rw [this]
  unfold finJ
  rw [if_pos rfl, hf6]
end Go.Proofs.Ytidooohgbiiikaa
/- The law FragBack, with no program in sight. -/
namespace Go.Proofs.Ytidooohgbiiikaa
set_option linter.unusedVariables false
theorem pt_take {b : List UInt8} (h : perr b = 0) : perr (b.take (fld b 2 2).toNat) = 0 ∧ pt (b.take (fld b 2 2).toNat) = pt b := by
  have hp := pk_of h
  obtain ⟨h1, h2, h3, h4, h5, h6, h7⟩ := hp
  obtain ⟨n, hn⟩ : ∃ n, (fld b 2 2).toNat = n := ⟨_, rfl⟩
  have hnI : fld b 2 2 = (n : Int) := by omega
  have hle : hsz b ≤ n := by omega
  have hnb : n ≤ b.length := by omega
  have ft : ∀ k m, k + m ≤ 20 → fld (b.take n) k m = fld b k m := fun k m hk => fld_take b k m n (by omega)
  have hz : hsz (b.take n) = hsz b := by unfold hsz; rw [ft 0 1 (by omega)]
  have htk : (b.take n).take (hsz b) = b.take (hsz b) := by rw [List.take_take, Nat.min_eq_left hle]
  rw [hn]
  refine ⟨of_pk ⟨by rw [List.length_take]; omega, by rw [hz]; exact h2, by rw [hz, ft 2 2 (by omega)]; exact h3, by rw [ft 2 2 (by omega), List.length_take]; omega, by rw [ft 0 1 (by omega)]; exact h5, by rw [ft 6 2 (by omega)]; exact h6, by rw [hz, htk]; exact h7⟩, ?_⟩
  have e1 : phd (b.take n) = phd b := by
    unfold phd
    rw [ft 1 1 (by omega), ft 2 2 (by omega), ft 4 2 (by omega), ft 6 2 (by omega), ft 8 1 (by omega), ft 9 1 (by omega), ft 10 2 (by omega), ft 12 4 (by omega), ft 16 4 (by omega), hz, List.drop_take, List.take_take, Nat.min_eq_left (by omega)]
  have e2 : pld (b.take n) = pld b := by
    unfold pld
    rw [ft 2 2 (by omega), hz, List.drop_take, List.take_take, hn, Nat.min_self]
  unfold pt
  rw [e1, e2]
theorem joinR_one {x : List UInt8} (h : perr x = 0) (hm : (phd x).more = false) (ho : (phd x).off = 0) : joinR [x] = (0, (phd x).pkt (pld x)) := by
  rw [joinR_all (fun b hb => by rw [List.mem_singleton.1 hb]; exact h)]
  have e : isort poff ([x].map pt) = [pt x] := rfl
  rw [e]
  show finJ (phd x) (gat (phd x) [pt x] true []) = _
  have hk : kinB (pt x).hd (phd x) = true := decide_eq_true ⟨rfl, rfl, rfl, rfl⟩
  have ho' : (pt x).hd.off = 0 := ho
  have hm' : (pt x).hd.more = false := hm
  rw [gat_on hk rfl (by rw [ho']; rfl), hm', gat, if_neg (by decide), List.nil_append]
  unfold finJ
  rw [if_pos rfl]
  have e1 : ({ phd x with more := false, off := 0 } : Hd) = phd x := by rw [← hm, ← ho]
  rw [e1]
  rfl
theorem perm_one {x : List UInt8} {l : List (List UInt8)} (h : l.Perm [x]) : l = [x] := List.perm_singleton.1 h
theorem cnt_le8 (m R : Nat) (h : 8 ≤ R) : cnt m R ≤ m / 8 + 1 := by
  unfold cnt
  have : (m + R - 1) / R < m / 8 + 2 := by
    rw [Nat.div_lt_iff_lt_mul (by omega)]
    have e : (m / 8 + 2) * R = m / 8 * R + 2 * R := Nat.add_mul ..
    have : m / 8 * 8 ≤ m / 8 * R := Nat.mul_le_mul_left _ h
    omega
  omega
section
variable {b : List UInt8} {most : Int}
theorem back_fits (hb : b.length ≤ 1500) (he : perr b = 0) (ho : (phd b).off = 0) (h3 : ¬ most < (hsz b : Int) + 8) : ∀ k, k < cnt (pld b).length (room most (hsz b)) → fits (phd b) (room most (hsz b)) k := by
  intro k hk
  have hr := room_of most (hsz b) h3
  have hlt := (cnt_lt (pld b).length (room most (hsz b)) k (by omega)).1 hk
  have := pld_le b
  unfold fits
  rw [ho]
  omega
theorem back_law (hb : b.length ≤ 1500) (he : perr b = 0) (hm : (phd b).more = false) (ho : (phd b).off = 0) (hs : (splitR b most).1 = 0) {l : List (List UInt8)} (hp : l.Perm (splitR b most).2) : joinR l = (0, (phd b).pkt (pld b)) := by
  have hpk := pk_of he
  by_cases h1 : fld b 2 2 ≤ most
  · rw [splitR_whole b most he h1] at hp
    rw [perm_one hp]
    obtain ⟨h2, h3⟩ := pt_take he
    have e1 : phd (b.take (fld b 2 2).toNat) = phd b := congrArg Pt.hd h3
    have e2 : pld (b.take (fld b 2 2).toNat) = pld b := congrArg Pt.ld h3
    rw [joinR_one h2 (by rw [e1]; exact hm) (by rw [e1]; exact ho), e1, e2]
  by_cases h2 : (phd b).stay = true
  · rw [splitR_stay b most he h1 h2] at hs; cases hs
  by_cases h3 : most < (hsz b : Int) + 8
  · rw [splitR_short b most he h1 h2 h3] at hs; cases hs
  have hr := room_of most (hsz b) h3
  have hX : (pld b).length = (fld b 2 2).toNat - hsz b := hpk.load
  have hhl := hpk.hl
  have hlb := hpk.lb
  rw [splitR_all b most he h1 h2 h3 _ _ _ rfl rfl rfl (back_fits hb he ho h3)] at hp
  exact joinR_pieces (phd b) (pld b) (room most (hsz b)) hpk.wf (by omega) hr.2.2.1 ho hm (by omega) (back_fits hb he ho h3) (by rw [hpk.size]; omega) hp
theorem back_err (hb : b.length ≤ 1500) (he : perr b = 0) (ho : (phd b).off = 0) (hs : (splitR b most).1 ≠ 0) : (phd b).stay = true ∨ most < ((phd b).opts.length : Int) + 28 := by
  have hpk := pk_of he
  by_cases h1 : fld b 2 2 ≤ most
  · rw [splitR_whole b most he h1] at hs; exact absurd rfl hs
  by_cases h2 : (phd b).stay = true
  · exact .inl h2
  by_cases h3 : most < (hsz b : Int) + 8
  · have := hpk.opts
    have := hpk.h20
    exact .inr (by omega)
  rw [splitR_all b most he h1 h2 h3 _ _ _ rfl rfl rfl (back_fits hb he ho h3)] at hs
  exact absurd rfl hs
theorem splitR_cnt (hb : b.length ≤ 1500) : (splitR b most).2.length ≤ 200 ∧ ((splitR b most).2.map List.length).sum ≤ 20000 := by
  have key : ∀ (l : List (List UInt8)) (z : Nat), (∀ x ∈ l, x.length ≤ z) → (l.map List.length).sum ≤ l.length * z := by
    intro l z
    induction l with
    | nil => intro _; simp
    | cons y l ih =>
      intro h
      rw [List.map_cons, List.sum_cons, List.length_cons, Nat.add_mul, Nat.one_mul]
      have := ih fun x hx => h x (by simp [hx])
      have := h y (by simp)
      omega
  by_cases he : perr b = 0
  · have hpk := pk_of he
    have hhl := hpk.hl
    have hlb := hpk.lb
    by_cases h1 : fld b 2 2 ≤ most
    · rw [splitR_whole b most he h1]
      simp
      omega
    by_cases h2 : (phd b).stay = true
    · rw [splitR_stay b most he h1 h2]; simp
    by_cases h3 : most < (hsz b : Int) + 8
    · rw [splitR_short b most he h1 h2 h3]; simp
    have hr := room_of most (hsz b) h3
    have hX : (pld b).length = (fld b 2 2).toNat - hsz b := hpk.load
    by_cases h4 : ∀ k, k < cnt (pld b).length (room most (hsz b)) → fits (phd b) (room most (hsz b)) k
    · rw [splitR_all b most he h1 h2 h3 _ _ _ rfl rfl rfl h4]
      have hc := cnt_le8 (pld b).length (room most (hsz b)) (by omega)
      have hn : (pieces (phd b) (pld b) (room most (hsz b)) (cnt (pld b).length (room most (hsz b)))).length ≤ 200 := by rw [pieces_len]; omega
      refine ⟨hn, ?_⟩
      have hh := hsz_le b
      have hs := hpk.size
      show ((pieces (phd b) (pld b) (room most (hsz b)) (cnt (pld b).length (room most (hsz b)))).map List.length).sum ≤ _
      -- each is a header and its share of the load
      have tot : ∀ n, ((pieces (phd b) (pld b) (room most (hsz b)) n).map List.length).sum = n * hsz b + ((pld b).take (n * room most (hsz b))).length := by
        intro n
        induction n with
        | zero => simp [pieces]
        | succ n ih =>
          rw [pieces_succ, List.map_append, List.sum_append, ih, List.map_cons, List.map_nil, List.sum_cons, List.sum_nil]
          unfold piece
          rw [Hd.pkt_len]
          have e : (pieceH (phd b) (pld b).length (room most (hsz b)) n).size = (phd b).size := rfl
          rw [e, hs, Nat.add_mul n 1, Nat.one_mul, Nat.add_mul n 1, Nat.one_mul]
          simp only [List.length_take, List.length_drop]
          omega
      rw [tot, List.length_take]
      have : cnt (pld b).length (room most (hsz b)) * hsz b ≤ 200 * 60 := Nat.mul_le_mul (by rw [pieces_len] at hn; exact hn) hh.1
      omega
    · have : ∃ k, ¬ (k < cnt (pld b).length (room most (hsz b)) → fits (phd b) (room most (hsz b)) k) := Classical.byContradiction fun hh => h4 (fun k => Classical.byContradiction fun h5 => hh ⟨k, h5⟩)
      obtain ⟨k, hk⟩ := this
      rw [Classical.not_imp] at hk
      rw [splitR_far b most he h1 h2 h3 _ _ _ rfl rfl rfl k hk.1 hk.2]; simp
  · rw [splitR_err b most he]; simp
end
theorem perm_sum {l l' : List (List UInt8)} (h : l.Perm l') : (l.map List.length).sum = (l'.map List.length).sum := (h.map List.length).sum_nat
theorem perm_step {M L B : List (List UInt8)} {k : Nat} (hk : k < L.length) (h : (M ++ L).Perm B) : ((M ++ [L[k]]) ++ (L.take k ++ L.drop (k + 1))).Perm B := by
  refine List.Perm.trans ?_ h
  rw [List.append_assoc]
  refine List.Perm.append_left M ?_
  have e : L = L.take k ++ L[k] :: L.drop (k + 1) := by rw [← List.drop_eq_getElem_cons hk, List.take_append_drop]
  conv => rhs; rw [e]
  show (L[k] :: (L.take k ++ L.drop (k + 1))).Perm _
  exact List.perm_middle.symm
end Go.Proofs.Ytidooohgbiiikaa
