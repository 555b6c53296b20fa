/- capture.Read, walked. -/
import Derived.Test.YtohimionlgaaoaaM
namespace Go.Proofs.Ytohimionlgaaoaa
open Go.RowKit
set_option linter.unusedVariables false
def sumP : List Pk → Nat
  | [] => 0
  | p :: t => 16 + p.dl.length + sumP t
theorem sumP_snoc (l : List Pk) (p : Pk) : sumP (l ++ [p]) = sumP l + (16 + p.dl.length) := by
  induction l with
  | nil => simp [sumP]
  | cons q t ih => simp only [List.cons_append, sumP, ih]; omega
theorem sumP_app (l m : List Pk) : sumP (l ++ m) = sumP l + sumP m := by
  induction l with
  | nil => simp [sumP]
  | cons q t ih => simp only [List.cons_append, sumP, ih]; omega
theorem sumP_len : ∀ l : List Pk, l.length * 16 ≤ sumP l
  | [] => by simp [sumP]
  | p :: t => by have := sumP_len t; simp only [sumP, List.length_cons]; omega
theorem allR_sum (sm na : Bool) (mo : Int) : ∀ (f : Nat) (b : List UInt8), b.length < f → (allR sm na mo f b).2 = sumP (allR sm na mo f b).1 ∧ (allR sm na mo f b).2 ≤ b.length
  | 0, b, h => by omega
  | f + 1, b, h => by
    by_cases hk : pkOk sm na mo b
    · have h1 := hk.1
      have h2 := hk.2.1
      obtain ⟨e1, e2⟩ := allR_sum sm na mo f (b.drop (16 + szP sm b)) (by rw [List.length_drop]; omega)
      rw [List.length_drop] at e2
      rw [allR_yes _ _ _ _ _ hk]
      have hd : (pkOf sm b).dl.length = szP sm b := by unfold pkOf; rw [List.length_take, List.length_drop]; omega
      refine ⟨?_, ?_⟩
      · show 16 + szP sm b + _ = 16 + (pkOf sm b).dl.length + sumP _
        rw [hd, e1]
      · show 16 + szP sm b + _ ≤ _
        omega
    · rw [allR_no _ _ _ _ _ hk]
      exact ⟨rfl, Nat.zero_le _⟩
theorem alls_sum (sm na : Bool) (mo : Int) (b : List UInt8) : (alls sm na mo b).2 = sumP (alls sm na mo b).1 ∧ (alls sm na mo b).2 ≤ b.length := allR_sum sm na mo _ b (by omega)
def ReadP (b : List UInt8) (w : World) (e : Ending) (w' : World) : Prop :=
  (∃ er : Int, e = .returned (.tuple #[.agg #[.bool false, .bool false, .int .u32 0, .int .u32 0], .slice none 0 0, .int .i64 er]) ∧ ((b.length < 24 ∧ er = 20) ∨ (24 ≤ b.length ∧ (∀ sm na, ¬ okF sm na b) ∧ er = 21) ∨
    (∃ sm na, okF sm na b ∧ (alls sm na (ofL sm ((b.drop 16).take 4)) (b.drop 24)).2 ≠ b.length - 24 ∧ er = 21))) ∨
  (∃ sm na, okF sm na b ∧ (alls sm na (ofL sm ((b.drop 16).take 4)) (b.drop 24)).2 = b.length - 24 ∧ ∃ v, e = .returned (.tuple #[.agg #[.bool sm, .bool na, .int .u32 (ofL sm ((b.drop 16).take 4)), .int .u32 (ofL sm ((b.drop 20).take 4))], v, .int .i64 0]) ∧
    PksO w' w.heap.size v (alls sm na (ofL sm ((b.drop 16).take 4)) (b.drop 24)).1)
/-- Packets gathered in a box. -/
def ColI (base : Nat) (M : Nat → Prop) (g8 : Nat) (v : Value) (pre : List Pk) (u : World) : Prop := Blk u g8 48 #[v] ∧ PksO u base v pre ∧ ∀ g, v.ownBlock = some g → ¬ M g
theorem ColI.stays {base B g8 : Nat} {M : Nat → Prop} {v : Value} {pre : List Pk} {u u' : World} {S : Nat → Prop} (h : ColI base M g8 v pre u) (hk : Kept S u u') (hS : ∀ i, S i → B ≤ i ∧ ∀ o, u.heap[i]? = some o → o.isCells = false) : ColI base M g8 v pre u' :=
  ⟨h.1.stays hk hS, h.2.1.stays hk hS, h.2.2⟩
theorem ColI.on {base g8 : Nat} {M : Nat → Prop} {v : Value} {pre : List Pk} {u u' : World} (h : ColI base M g8 v pre u) (hk : Kept (fun _ => False) u u') : ColI base M g8 v pre u' :=
  ⟨h.1.kept hk (fun h => h), h.2.1.kept hk (fun _ h => h.elim), h.2.2⟩
/-- What Read keeps between two rounds. -/
def RdJ (w : World) (M : Nat → Prop) (rb fb g8 g9 : Nat) (fv : Array Value) (y B : Nat) (v : Value) (pre : List Pk) (u : World) : Prop :=
  ColI w.heap.size M g8 v pre u ∧ Blk u g9 3 #[.int .i64 ((y : Int) - (sumP pre : Int))] ∧ Blk u rb 29 #[.bool false, .bool false, .int .u32 0, .int .u32 0] ∧ Blk u fb 29 fv ∧ Kept (fun i => w.heap.size ≤ i) w u ∧ B ≤ u.heap.size
theorem RdJ.stays {w : World} {M : Nat → Prop} {rb fb g8 g9 : Nat} {fv : Array Value} {y B : Nat} (hB : w.heap.size ≤ B) (v : Value) : Stays B (RdJ w M rb fb g8 g9 fv y B v) := by
  rintro pre u u' S ⟨h1, h2, h3, h4, h5, h6⟩ hk hS
  exact ⟨h1.stays hk hS, h2.stays hk hS, h3.stays hk hS, h4.stays hk hS, h5.then hk (fun i _ hs => by have := (hS i hs).1; omega), Nat.le_trans h6 hk.size⟩
theorem RdJ.on {w : World} {M : Nat → Prop} {rb fb g8 g9 : Nat} {fv : Array Value} {y B : Nat} {v : Value} {pre : List Pk} {u u' : World} (h : RdJ w M rb fb g8 g9 fv y B v pre u) (hk : Kept (fun _ => False) u u') : RdJ w M rb fb g8 g9 fv y B v pre u' := by
  obtain ⟨h1, h2, h3, h4, h5, h6⟩ := h
  exact ⟨h1.on hk, h2.kept hk (fun h => h), h3.kept hk (fun h => h), h4.kept hk (fun h => h), h5.then hk (fun _ _ h => h.elim), Nat.le_trans h6 hk.size⟩
def anyV (J : Value → List Pk → World → Prop) (pre : List Pk) (u : World) : Prop := ∃ v, J v pre u
theorem anyV.stays {B : Nat} {J : Value → List Pk → World → Prop} (hJ : ∀ v, Stays B (J v)) : Stays B (anyV J) := by
  rintro pre u u' S ⟨v, h⟩ hk hS
  exact ⟨v, hJ v _ _ _ _ h hk hS⟩
def pkV (x : Pk) (DA : Option Addr) (dc : Nat) : Array Value := #[.int .u32 x.se, .int .u32 x.pa, .int .u32 x.pl, .slice DA x.dl.length dc]
/-- What the round's assignment leaves. -/
def RdA (base tv bx : Nat) (J : Value → List Pk → World → Prop) (a : Act) (s : List Pk × Pk × Act) (u : World) : Prop :=
  ∃ v g DA dc, J v s.1 u ∧ v.ownBlock ≠ some g ∧ s.2.2 = { tmps := (a.tmps.setIfInBounds tv (.agg (pkV s.2.1 DA dc))).setIfInBounds bx (.pointer (some ⟨g, 0, none⟩)), defers := [] } ∧ Blk u g 34 (pkV s.2.1 DA dc) ∧ Row u base 5 (.slice DA s.2.1.dl.length dc) (bcs s.2.1.dl)
theorem RdA.stays {base tv bx B : Nat} {J : Value → List Pk → World → Prop} (hJ : ∀ v, Stays B (J v)) (a : Act) : Stays B (RdA base tv bx J a) := by
  rintro ⟨pre, x, a1⟩ u u' S ⟨v, g, DA, dc, h0, h1, h2, h3, h4⟩ hk hS
  exact ⟨v, g, DA, dc, hJ _ _ _ _ _ h0 hk hS, h1, h2, h3.stays hk hS, h4.stays hk hS⟩
theorem Try.info34 : (Try.prog.info? 34).map (fun i => (i.zero, i.size, i.bytes)) = some (some (.agg #[.int .u32 0, .int .u32 0, .int .u32 0, .slice none 0 0]), 4, 40) := by kernel_rfl
set_option maxRecDepth 10000 in
set_option maxHeartbeats 16000000 in
theorem readC_any (A : Option Addr) (c : Nat) (b : List UInt8) (w : World) (hl : b.length ≤ 100000) (hc : b.length ≤ c) (hcm : c ≤ maxLen) (hB : BS w w.heap.size A b) :
    Calls Try.prog 20 #[.slice A b.length c] w fun e w' => ReadP b w e w' ∧ Below w.heap.size w w' := by
  have HB := Lib.hid hB
  have HC := Lib.hid (show b.length ≤ c ∧ c ≤ maxLen from ⟨hc, hcm⟩)
  clear hB hc hcm
  refine callsIn_wide.1 (callsIn_of_wp_marks (n := 3) Try.func20 rfl trivial ?_ rfl)
  simp only [Try.ntmps20, List.size_toArray, List.length_cons, List.length_nil, Nat.reduceAdd, Nat.reduceSub, Array.replicate_succ, Array.replicate_zero, List.push_toArray, List.append_toArray, List.nil_append, List.cons_append]
  refine wpIn_wide.2 ?_
  go_upto_region 1 with fail
  obtain ⟨w1, hw1⟩ : ∃ w1 : World, w1 = w.alloc (.cells #[.bool false, .bool false, .int .u32 0, .int .u32 0] 29) := ⟨_, rfl⟩
  have HR1 := Lib.hid (show Blk w1 w.heap.size 29 #[.bool false, .bool false, .int .u32 0, .int .u32 0] by rw [hw1]; exact Blk.new _ _ _)
  have HK1 := Lib.hid (show Kept (fun _ => False) w w1 by rw [hw1]; exact (Kept.refl _ _).alloc _)
  rw [← hw1]
  clear hw1
  obtain ⟨rb, hrb⟩ : ∃ rb, w.heap.size = rb := ⟨_, rfl⟩
  have HRB := Lib.hid hrb
  rw [hrb] at HR1 ⊢
  clear hrb
  have HOP := Lib.hid (openC_any A c b w1 hl HC.out.1 HC.out.2 (HB.out.on HK1.out (fun _ _ h => h)))
  go_wp2_with fail
  refine HOP.out.mono ?_
  rintro e w2 ⟨hop, hb2⟩
  have HK2 := Lib.hid (show Kept (fun _ => False) w1 w2 from Kept.quietly hb2)
  clear hb2
  rcases hop with ⟨h24, rfl⟩ | ⟨sm, na, hok, v, rfl, hv⟩ | ⟨h24, hno, rfl⟩
  · have HL := Lib.hid h24
    clear h24
    go_upto_region 2 with fail
    obtain ⟨w3, hw3⟩ : ∃ w3 : World, w3 = w2.alloc (.cells #[.bool false, .bool false, .int .u32 0, .int .u32 0] 29) := ⟨_, rfl⟩
    have HRZ := Lib.hid (show Blk w3 rb 29 #[.bool false, .bool false, .int .u32 0, .int .u32 0] by rw [hw3]; exact (HR1.out.kept HK2.out (fun h => h)).alloc _)
    have HKZ := Lib.hid (show Kept (fun _ => False) w w3 by rw [hw3]; exact (HK1.out.trans HK2.out).alloc _)
    have HK23 := Lib.hid (show Kept (fun _ => False) w2 w3 by rw [hw3]; exact (Kept.refl _ _).alloc _)
    have HF3 := Lib.hid (show Blk w3 w2.heap.size 29 #[.bool false, .bool false, .int .u32 0, .int .u32 0] by rw [hw3]; exact Blk.new _ _ _)
    rw [← hw3]
    clear hw3
    have lz := HRZ.out.lt
    have cz := HRZ.out.cell
    have fz := HRZ.out.frozen
    go_wp2_with fail
    refine leaveM0 (results_blk_tmp2 (P := Try.prog) (show Try.f20.results = _ from rfl) _ _ rb 29 #[.bool false, .bool false, .int .u32 0, .int .u32 0] _ rfl ((((HRZ.out.set_ 0 _).set_ 1 _).set_ 2 _).set_to rfl) Try.underlying29 rfl (by kernel_rfl)) rfl ⟨.inl ⟨20, rfl, .inl ⟨HL.out, rfl⟩⟩, ?_⟩
    exact (Kept.set4 (S := fun i => i = rb) (HKZ.out.mono (T := fun i => i = rb) (fun _ _ h => h.elim)) rfl _ _ _ _).below (Nat.le_refl _) (fun i e => by have := HRB.out; omega)
  · have HOK := Lib.hid hok
    obtain ⟨RA, rc, rfl, -, -⟩ := hv.shape
    rw [bcs_length] at hv ⊢
    obtain ⟨y, hy⟩ : ∃ y, b.drop 24 = y := ⟨_, rfl⟩
    have hyl : y.length ≤ b.length := by rw [← hy, List.length_drop]; omega
    have h24 : 24 ≤ b.length := by
      have := congrArg List.length hok
      rw [show (headL sm na (ofL sm ((b.drop 16).take 4)) (ofL sm ((b.drop 20).take 4))).length = 24 from headLs_len _ _ _ _, List.length_take] at this
      omega
    have hyn : y.length = b.length - 24 := by rw [← hy, List.length_drop]
    obtain ⟨mo, hmo⟩ : ∃ mo, ofL sm ((b.drop 16).take 4) = mo := ⟨_, rfl⟩
    obtain ⟨li, hli⟩ : ∃ li, ofL sm ((b.drop 20).take 4) = li := ⟨_, rfl⟩
    have MO := Lib.hid (show 0 ≤ mo ∧ mo ≤ 4294967295 by rw [← hmo]; exact ofL_range sm _ (by rw [List.length_take, List.length_drop]; omega))
    have LI := Lib.hid (show 0 ≤ li ∧ li ≤ 4294967295 by rw [← hli]; exact ofL_range sm _ (by rw [List.length_take, List.length_drop]; omega))
    rw [hy] at hv ⊢
    rw [hmo, hli]
    have HY := Lib.hid hy
    have HMO := Lib.hid hmo
    have HLI := Lib.hid hli
    have HYN := Lib.hid hyn
    have HV := Lib.hid hv
    clear hok hy hmo hli hv hyn
    go_upto_region 2 with fail
    obtain ⟨w3, hw3⟩ : ∃ w3 : World, w3 = w2.alloc (.cells #[.bool sm, .bool na, .int .u32 mo, .int .u32 li] 29) := ⟨_, rfl⟩
    have HRZ := Lib.hid (show Blk w3 rb 29 #[.bool false, .bool false, .int .u32 0, .int .u32 0] by rw [hw3]; exact (HR1.out.kept HK2.out (fun h => h)).alloc _)
    have HKZ := Lib.hid (show Kept (fun _ => False) w w3 by rw [hw3]; exact (HK1.out.trans HK2.out).alloc _)
    have HK23 := Lib.hid (show Kept (fun _ => False) w2 w3 by rw [hw3]; exact (Kept.refl _ _).alloc _)
    have HF3 := Lib.hid (show Blk w3 w2.heap.size 29 #[.bool sm, .bool na, .int .u32 mo, .int .u32 li] by rw [hw3]; exact Blk.new _ _ _)
    rw [← hw3]
    clear hw3
    obtain ⟨fb, hfb⟩ : ∃ fb, w2.heap.size = fb := ⟨_, rfl⟩
    have HFB := Lib.hid hfb
    rw [hfb] at HF3 ⊢
    clear hfb
    have lz := HRZ.out.lt
    have cz := HRZ.out.cell
    have fz := HRZ.out.frozen
    clear lz cz fz
    have cf := HF3.out.cell
    go_upto_region 6 with fail
    obtain ⟨w4, hw4⟩ : ∃ w4 : World, w4 = (w3.alloc (.cells #[.slice none 0 0] 48)).alloc (.cells #[.int .i64 (y.length : Int)] 3) := ⟨_, rfl⟩
    have HG8 := Lib.hid (show Blk w4 w3.heap.size 48 #[.slice none 0 0] by rw [hw4]; exact (Blk.new _ _ _).alloc _)
    have HG9 := Lib.hid (show Blk w4 (w3.heap.size + 1) 3 #[.int .i64 (y.length : Int)] by rw [hw4]; exact Blk.new_ (by simp) _ _)
    have HK4 := Lib.hid (show Kept (fun _ => False) w3 w4 by rw [hw4]; exact ((Kept.refl _ _).alloc _).alloc _)
    rw [← hw4]
    clear hw4
    obtain ⟨g9, hg9⟩ : ∃ g, w3.heap.size + 1 = g := ⟨_, rfl⟩
    have HG9E := Lib.hid hg9
    rw [hg9] at HG9 ⊢
    obtain ⟨g8, hg8⟩ : ∃ g, w3.heap.size = g := ⟨_, rfl⟩
    have HG8E := Lib.hid hg8
    rw [hg8] at HG8 ⊢
    clear hg8 hg9 cf
    have HF4 := Lib.hid (HF3.out.kept HK4.out (fun h => h))
    have cf := HF4.out.cell
    have HZ4 := Lib.hid (HRZ.out.kept HK4.out (fun h => h))
    have HK24 := Lib.hid (show Kept (fun _ => False) w2 w4 from HK23.out.trans HK4.out)
    have HAL := Lib.hid (allc_any sm na mo li RA rc y w4 (by omega) (by obtain ⟨A', c', e, -, -, h⟩ := HV.out.byt; cases e; exact h.on HK24.out (fun _ _ h => h)))
    go_wp2_with fail
    refine HAL.out.mono ?_
    rintro e w5 ⟨ob, fb2, CA, cc, rfl, hob, hfb2, hrow, hob1, hfb1, hb5⟩
    go_wp2_with fail
    clear cf
    have hxs := alls_sum sm na mo y
    obtain ⟨ps, hps⟩ : ∃ ps, (alls sm na mo y).1 = ps := ⟨_, rfl⟩
    have HPS := Lib.hid hps
    have hit := all1_iter sm na mo li ob fb2 CA cc w4.heap.size y w5 MO.out LI.out (by omega) hob hfb2 hrow
    obtain ⟨M, hM⟩ : ∃ M, ItM ob fb2 (.slice CA y.length cc) = M := ⟨_, rfl⟩
    rw [hM, hps] at hit
    have hM1 : ∀ i, M i → i < w5.heap.size ∧ w4.heap.size ≤ i := by
      rw [← hM]
      rintro i (rfl | rfl | h)
      · exact ⟨hob.lt, hob1⟩
      · exact ⟨hfb2.lt, hfb1⟩
      · exact ⟨(hrow.lt _ h).2, (hrow.lt _ h).1⟩
    rw [hps] at hxs
    have HIT := Lib.hid hit
    have HM1 := Lib.hid hM1
    have hpl : ps.length * 16 ≤ y.length := by have := sumP_len ps; have := hxs.1; have := hxs.2; omega
    have HK5 := Lib.hid (show Kept (fun _ => False) w4 w5 from Kept.quietly hb5)
    have HKW := Lib.hid (show Kept (fun _ => False) w w5 from (HK1.out.trans (HK2.out.trans HK24.out)).trans HK5.out)
    have HI0 := Lib.hid (show anyV (RdJ w M rb fb g8 g9 #[.bool sm, .bool na, .int .u32 mo, .int .u32 li] y.length w5.heap.size) [] w5 from
      ⟨_, ⟨HG8.out.kept HK5.out (fun h => h), PksO.nil _ _, fun g h => by cases h⟩, by simpa [sumP] using HG9.out.kept HK5.out (fun h => h), HZ4.out.kept HK5.out (fun h => h), HF4.out.kept HK5.out (fun h => h), HKW.out.mono (fun _ _ h => h.elim), Nat.le_refl _⟩)
    clear hob hfb2 hrow hob1 hfb1 hb5 hM hit hM1
    refine range_law2 (xs := ps) (M := M) (Kn := ItK w5.heap.size) (gf := 38) (lb := #[.pointer (some ⟨ob, 0, none⟩), .pointer (some ⟨fb2, 0, none⟩)]) rfl (fun args w => enters_of Try.func38 (by kernel_rfl) rfl args w) HIT.out (fun i h => (HM1.out i h).1) ?_
      (anyV (RdJ w M rb fb g8 g9 #[.bool sm, .bool na, .int .u32 mo, .int .u32 li] y.length w5.heap.size)) (fun _ _ _ => False) (RdA w.heap.size 26 10 (RdJ w M rb fb g8 g9 #[.bool sm, .bool na, .int .u32 mo, .int .u32 li] y.length w5.heap.size))
      (anyV.stays (RdJ.stays HKW.out.size)) (fun _ _ _ _ _ h => h.elim) (RdA.stays (RdJ.stays HKW.out.size)) HI0.out ?_ ?_ ?_ (fun D c pre u _ h => h.elim)
    · rintro x args u ⟨DA, dc, rfl, -⟩
      rfl
    · rintro l pre x t args u K hx ⟨v, hI⟩ ⟨DA, dc, rfl, hr⟩ hK
      gi_wp2_with (rw [Oper.semAt_eq _ _ _ (fun c h => by cases h)]; go_simp; try go_bits)
      have hk0 := (Kept.refl (fun _ => False) u).alloc (.cells #[.int .u32 x.se, .int .u32 x.pa, .int .u32 x.pl, .slice DA x.dl.length dc] 34)
      exact hK _ _ (keepsOthers_of_kept hk0 (fun _ h => h.elim)) (hk0.mono (fun _ _ h => h.elim)) ⟨v, u.heap.size, DA, dc, hI.on hk0, (fun h => by obtain ⟨cs, hb⟩ := hI.1.2.1.own h; exact Nat.lt_irrefl _ hb.lt), rfl, Blk.new _ _ _, (hr.more HKW.out.size).alloc _⟩
    · rintro l pre x t a₁ u hx ⟨v, g10, DA, dc, hI, hvg, ha, hg10, hdr⟩
      dsimp only at hI ha hg10 hdr
      subst ha
      simp only [List.setIfInBounds_toArray, List.set_cons_zero, List.set_cons_succ]
      obtain ⟨⟨hb8, ⟨L, hLp, hLr, hLd⟩, hvM⟩, hb9, hbz, hbf, hkw, hsz⟩ := hI
      have c8 := hb8.cell
      have f8 := hb8.frozen
      have l8 := hb8.lt
      have c9 := hb9.cell
      have f9 := hb9.frozen
      have l9 := hb9.lt
      have hpre : pre.length < ps.length := by rw [← hx]; simp
      have hLl : L.length = pre.length := by rw [← hLp]; simp
      have c10 : ∀ i, u.cell? ⟨g10, i, none⟩ = #[.int .u32 x.se, .int .u32 x.pa, .int .u32 x.pl, .slice DA x.dl.length dc][i]? := hg10.cell
      gi_wp2_with (first
        | (gi_at_builtin; refine wpListIn_append_rowN rfl (.tmp 27) (.tmp 29) 48 rfl w.heap.size 34 (.agg #[.int .u32 0, .int .u32 0, .int .u32 0, .slice none 0 0]) 4 40 Try.underlying48 Try.info34 rfl (by omega) v (L.map PkV.cs) rfl (some ⟨u.heap.size, 0, none⟩) 1 1 [PkV.cs ⟨x, DA, dc⟩] rfl rfl ?a1 (fun z hz => by rw [List.mem_singleton.1 hz]; rfl) ?a2 ?a3 ?a4 ?a5 ?a6 ?_)
        | (rw [Oper.semAt_eq _ _ _ (fun c h => by cases h)]; go_simp; try go_bits))
      case a1 => exact hLr.alloc _
      case a2 => exact Src.new _ _ _ (by simp [PkV.cs])
      case a3 => intro u hu; simp [PkV.cs] at hu; rcases hu with rfl | rfl | rfl | rfl <;> rfl
      case a4 => rw [List.length_map, hLl]; unfold maxLen; simp; omega
      case a5 => rw [List.length_map, hLl]; simp; omega
      case a6 => rw [World.size_alloc]; have := hkw.size; omega
      intro v2 w6 hrow hgr hown
      have hk6 : Kept (fun i => v.ownBlock = some i) u w6 := Kept.trans ((Kept.refl _ _).alloc _) (kept_grown hgr (fun i e _ => e))
      have hb86 := hb8.kept hk6 (hLr.ne hb8 (by decide))
      have hb96 := hb9.kept hk6 (hLr.ne hb9 (by decide))
      have hg106 := hg10.kept hk6 hvg
      have hdr6 := hdr.kept hk6 (fun g hg hs => by
        obtain ⟨cs, hbb⟩ := hdr.blk hg
        obtain ⟨cs', hbb'⟩ := hLr.blk hs
        exact Blk.ne_ hbb hbb' (by decide) rfl)
      have hps6 : PksO w6 w.heap.size v2 (pre ++ [x]) := ⟨L ++ [⟨x, DA, dc⟩], by simp [hLp], by rw [List.map_append]; exact hrow, fun p hp => by
        rcases List.mem_append.1 hp with hp | hp
        · exact (hLd p hp).kept hk6 (fun g hg hs => by
            obtain ⟨cs, hbb⟩ := (hLd p hp).blk hg
            obtain ⟨cs', hbb'⟩ := hLr.blk hs
            exact Blk.ne_ hbb hbb' (by decide) rfl)
        · rw [List.mem_singleton.1 hp]
          exact hdr6⟩
      have HV2 := Lib.hid (show ∀ g, v2.ownBlock = some g → ¬ M g from fun g hg => by
        rcases hown with h | h
        · exact hvM g (h ▸ hg)
        · rw [h] at hg
          cases hg
          intro hm
          have := (HM1.out _ hm).1
          omega)
      obtain ⟨C2, c2, rfl, -, -⟩ := hrow.shape
      have HHR := Lib.hid hrow
      have HPS6 := Lib.hid hps6
      clear hrow hps6
      obtain ⟨n2, hn2⟩ : ∃ n, (L.map PkV.cs ++ [PkV.cs ⟨x, DA, dc⟩]).length = n := ⟨_, rfl⟩
      rw [hn2] at HHR HPS6 HV2 ⊢
      clear hn2
      have n98 : ¬ g9 = g8 := Blk.ne_ hb96 hb86 (by decide)
      have n89 : ¬ g8 = g9 := fun h => n98 h.symm
      have n08 : ¬ g10 = g8 := Blk.ne_ hg106 hb86 (by decide)
      have n80 : ¬ g8 = g10 := fun h => n08 h.symm
      have n09 : ¬ g10 = g9 := Blk.ne_ hg106 hb96 (by decide)
      have n90 : ¬ g9 = g10 := fun h => n09 h.symm
      have l8' := hb86.lt
      have c8' := hb86.cell
      have f8' := hb86.frozen
      have l9' := hb96.lt
      have c9' := hb96.cell
      have f9' := hb96.frozen
      have c10' : ∀ i, w6.cell? ⟨g10, i, none⟩ = #[.int .u32 x.se, .int .u32 x.pa, .int .u32 x.pl, .slice DA x.dl.length dc][i]? := hg106.cell
      have HGR := Lib.hid hgr
      clear hgr hown c8 f8 l8 c9 f9 l9 c10
      gi_wp2_with (rw [Oper.semAt_eq _ _ _ (fun c h => by cases h)]; go_simp; try go_bits)
      have hk7 : Kept (fun i => v.ownBlock = some i ∨ i = g8 ∨ i = g9) u w6 := hk6.mono (fun _ _ h => .inl h)
      have hsum : sumP (pre ++ [x]) = sumP pre + (16 + x.dl.length) := sumP_snoc pre x
      have hsps : sumP (pre ++ [x]) ≤ y.length := by
        have e := congrArg sumP hx
        rw [show pre ++ x :: t = (pre ++ [x]) ++ t by simp, sumP_app] at e
        have := hxs.1; have := hxs.2; omega
      rw [IntWalk.wrap64_in (16 + (x.dl.length : Int)) (by omega), IntWalk.wrap64_in ((y.length : Int) - (sumP pre : Int) - (16 + (x.dl.length : Int))) (by omega), show (y.length : Int) - (sumP pre : Int) - (16 + (x.dl.length : Int)) = (y.length : Int) - (sumP (pre ++ [x]) : Int) by omega]
      have hk8 := (hk7.setIn (b := g8) (o := 0) (s := none) (u := .slice C2 n2 c2) (.inr (.inl rfl))).setIn (b := g9) (o := 0) (s := none) (u := .int .i64 ((y.length : Int) - (sumP (pre ++ [x]) : Int))) (.inr (.inr rfl))
      have hks : Kept (fun i => i = g8 ∨ i = g9) w6 ((w6.setCell ⟨g8, 0, none⟩ (.slice C2 n2 c2)).setCell ⟨g9, 0, none⟩ (.int .i64 ((y.length : Int) - (sumP (pre ++ [x]) : Int)))) := ((Kept.refl _ _).setIn (.inl rfl)).setIn (.inr rfl)
      have hn29 : ∀ {r : Nat} {cs : Array Value}, Blk u r 29 cs → ¬ (v.ownBlock = some r ∨ r = g8 ∨ r = g9) := by
        rintro r cs hr (h | rfl | rfl)
        · exact hLr.ne hr (by decide) h
        · exact Blk.ne_ hr hb8 (by decide) rfl
        · exact Blk.ne_ hr hb9 (by decide) rfl
      refine ⟨keepsOthers_of_kept hk8 ?_, hk8.mono ?_, .slice C2 n2 c2, ⟨(hb86.set_to rfl).far' n89, HPS6.out.kept hks ?_, HV2.out⟩, (hb96.far' n98).set_to rfl, hbz.kept hk8 (hn29 hbz), hbf.kept hk8 (hn29 hbf), hkw.then hk8 ?_, Nat.le_trans hsz hk8.size⟩
      · rintro i (h | rfl | rfl)
        · obtain ⟨cs, hb⟩ := hLr.blk h
          exact ⟨_, _, hb⟩
        · exact ⟨_, _, hb8⟩
        · exact ⟨_, _, hb9⟩
      · rintro i - (h | rfl | rfl) hm
        · exact hvM i h hm
        · have := (HM1.out _ hm).2; have := HG8.out.lt; omega
        · have := (HM1.out _ hm).2; have := HG9.out.lt; omega
      · rintro i (rfl | rfl) t cs hb
        · rw [show t = 48 from Classical.byContradiction fun h => Blk.ne_ hb hb86 h rfl]; decide
        · rw [show t = 3 from Classical.byContradiction fun h => Blk.ne_ hb hb96 h rfl]; decide
      · rintro i hi (h | rfl | rfl)
        · exact (hLr.lt _ h).1
        · have := HG8E.out; have := HKZ.out.size; omega
        · have := HG9E.out; have := HKZ.out.size; omega
    · rintro D u hD ⟨v, hI⟩ hDD
      have HI := Lib.hid hI
      have HDD := Lib.hid hDD
      have HD := Lib.hid hD
      obtain ⟨hb8, hb9, hbz, hbf, hkw, -⟩ := hI
      have c8 := hb8.1.cell
      have c9 := hb9.cell
      have cz := hbz.cell
      have fz := hbz.frozen
      have lz := hbz.lt
      have cf := hbf.cell
      have n8r : ¬ g8 = rb := Blk.ne_ hb8.1 hbz (by decide)
      have nr8 : ¬ rb = g8 := fun h => n8r h.symm
      have nfr : ¬ fb = rb := by have := HRB.out; have := HFB.out; have := HRZ.out.lt; have := HK1.out.size; have := HR1.out.lt; have := HK2.out.size; omega
      have nrf : ¬ rb = fb := fun h => nfr h.symm
      clear hb8 hb9 hbz hbf hkw hDD hD
      by_cases hz : (y.length : Int) - (sumP ps : Int) = 0
      · have hzb : decide ((y.length : Int) - (sumP ps : Int) = 0) = true := by simpa using hz
        have HZ := Lib.hid hz
        go_wp2_with fail
        clear hzb hz
        go_region
        go_wp2_with fail
        obtain ⟨WF, hWF⟩ : ∃ WF, ((((u.setCell ⟨rb, 0, none⟩ (.bool sm)).setCell ⟨rb, 1, none⟩ (.bool na)).setCell ⟨rb, 2, none⟩ (.int .u32 mo)).setCell ⟨rb, 3, none⟩ (.int .u32 li)).drew = WF := ⟨_, rfl⟩
        rw [hWF]
        have hkF : Kept (fun i => i = rb) u WF := by rw [← hWF]; exact (Kept.set4 (S := fun i => i = rb) (Kept.refl _ _) rfl _ _ _ _).drew
        have hrF : Blk WF rb 29 #[.bool sm, .bool na, .int .u32 mo, .int .u32 li] := by rw [← hWF]; exact Blk.drew ((((HI.out.2.2.1.set_ 0 _).set_ 1 _).set_ 2 _).set_to rfl)
        have hDF : WF.heap[D]? = some (.deferred (some [])) := (hkF.block D (Array.getElem?_eq_some_iff.1 HDD.out).1 (fun h => by have := HKW.out.size; have := HD.out; have := HRB.out; have := HRZ.out.lt; have := HKW.out.size; have := HK5.out.size; have := HK4.out.size; omega)).trans HDD.out
        have hkD : Kept (fun i => i = D) WF (WF.putObj D (.deferred none)) := kept_putObj rfl
        have hne : ¬ rb = D := fun h => by rw [← h] at hDF; have h2 : WF.heap[rb]? = some (.cells #[.bool sm, .bool na, .int .u32 mo, .int .u32 li] 29 (0, 0)) := hrF; rw [h2] at hDF; cases hDF
        have hkU : Kept (fun i => i = rb ∨ i = D) u (WF.putObj D (.deferred none)) := (hkF.mono (fun _ _ h => .inl h)).trans (hkD.mono (fun _ _ h => .inr h))
        refine leaveM1 rfl hDF (results_blk_tmp2 (P := Try.prog) (show Try.f20.results = _ from rfl) _ _ rb 29 #[.bool sm, .bool na, .int .u32 mo, .int .u32 li] _ rfl (hrF.kept hkD hne) Try.underlying29 rfl (by kernel_rfl)) ⟨.inr ⟨sm, na, HOK.out, by rw [HMO.out, HY.out, hxs.1, ← HYN.out]; have := HZ.out; omega, v, by rw [HMO.out, HLI.out]; rfl, ?_⟩, (HI.out.2.2.2.2.1.then hkU (fun i hi h => by rcases h with rfl | rfl; exact Nat.le_of_eq HRB.out; exact Nat.le_trans HKW.out.size HD.out)).below (Nat.le_refl _) (fun i h => h)⟩
        rw [HMO.out, HY.out, HPS.out]
        refine HI.out.1.2.1.kept hkU ?_
        rintro i (rfl | hi) t cs hb
        · rw [show t = 29 from Classical.byContradiction fun h => Blk.ne_ hb HI.out.2.2.1 h rfl]; decide
        · rw [hi] at hb
          have h2 : u.heap[D]? = some (.cells cs t (0, 0)) := hb
          rw [HDD.out] at h2
          cases h2
      · have hzb : decide ((y.length : Int) - (sumP ps : Int) = 0) = false := by simpa using hz
        go_wp2_with fail
        obtain ⟨WF, hWF⟩ : ∃ WF, (((u.setCell ⟨rb, 0, none⟩ (.bool false)).setCell ⟨rb, 1, none⟩ (.bool false)).setCell ⟨rb, 2, none⟩ (.int .u32 0)).setCell ⟨rb, 3, none⟩ (.int .u32 0) = WF := ⟨_, rfl⟩
        rw [hWF]
        have hkF : Kept (fun i => i = rb) u WF := by rw [← hWF]; exact Kept.set4 (S := fun i => i = rb) (Kept.refl _ _) rfl _ _ _ _
        have hrF : Blk WF rb 29 #[.bool false, .bool false, .int .u32 0, .int .u32 0] := by rw [← hWF]; exact (((HI.out.2.2.1.set_ 0 _).set_ 1 _).set_ 2 _).set_to rfl
        have hDF : WF.heap[D]? = some (.deferred (some [])) := (hkF.block D (Array.getElem?_eq_some_iff.1 HDD.out).1 (fun h => by have := HKW.out.size; have := HD.out; have := HRB.out; have := HRZ.out.lt; have := HKW.out.size; have := HK5.out.size; have := HK4.out.size; omega)).trans HDD.out
        have hkD : Kept (fun i => i = D) WF (WF.putObj D (.deferred none)) := kept_putObj rfl
        have hne : ¬ rb = D := fun h => by rw [← h] at hDF; have h2 : WF.heap[rb]? = some (.cells #[.bool false, .bool false, .int .u32 0, .int .u32 0] 29 (0, 0)) := hrF; rw [h2] at hDF; cases hDF
        have hkU : Kept (fun i => i = rb ∨ i = D) u (WF.putObj D (.deferred none)) := (hkF.mono (fun _ _ h => .inl h)).trans (hkD.mono (fun _ _ h => .inr h))
        refine leaveM1 rfl hDF (results_blk_tmp2 (P := Try.prog) (show Try.f20.results = _ from rfl) _ _ rb 29 #[.bool false, .bool false, .int .u32 0, .int .u32 0] _ rfl (hrF.kept hkD hne) Try.underlying29 rfl (by kernel_rfl)) ⟨?_, (HI.out.2.2.2.2.1.then hkU (fun i hi h => by rcases h with rfl | rfl; exact Nat.le_of_eq HRB.out; exact Nat.le_trans HKW.out.size HD.out)).below (Nat.le_refl _) (fun i h => h)⟩
        exact .inl ⟨21, rfl, .inr (.inr ⟨sm, na, HOK.out, by rw [HMO.out, HY.out, hxs.1, ← HYN.out]; omega, rfl⟩)⟩
  · have HL := Lib.hid h24
    have HNO := Lib.hid hno
    clear h24 hno
    go_upto_region 2 with fail
    obtain ⟨w3, hw3⟩ : ∃ w3 : World, w3 = w2.alloc (.cells #[.bool false, .bool false, .int .u32 0, .int .u32 0] 29) := ⟨_, rfl⟩
    have HRZ := Lib.hid (show Blk w3 rb 29 #[.bool false, .bool false, .int .u32 0, .int .u32 0] by rw [hw3]; exact (HR1.out.kept HK2.out (fun h => h)).alloc _)
    have HKZ := Lib.hid (show Kept (fun _ => False) w w3 by rw [hw3]; exact (HK1.out.trans HK2.out).alloc _)
    have HK23 := Lib.hid (show Kept (fun _ => False) w2 w3 by rw [hw3]; exact (Kept.refl _ _).alloc _)
    have HF3 := Lib.hid (show Blk w3 w2.heap.size 29 #[.bool false, .bool false, .int .u32 0, .int .u32 0] by rw [hw3]; exact Blk.new _ _ _)
    rw [← hw3]
    clear hw3
    have lz := HRZ.out.lt
    have cz := HRZ.out.cell
    have fz := HRZ.out.frozen
    go_wp2_with fail
    refine leaveM0 (results_blk_tmp2 (P := Try.prog) (show Try.f20.results = _ from rfl) _ _ rb 29 #[.bool false, .bool false, .int .u32 0, .int .u32 0] _ rfl ((((HRZ.out.set_ 0 _).set_ 1 _).set_ 2 _).set_to rfl) Try.underlying29 rfl (by kernel_rfl)) rfl ⟨.inl ⟨21, rfl, .inr (.inl ⟨HL.out, HNO.out, rfl⟩)⟩, ?_⟩
    exact (Kept.set4 (S := fun i => i = rb) (HKZ.out.mono (T := fun i => i = rb) (fun _ _ h => h.elim)) rfl _ _ _ _).below (Nat.le_refl _) (fun i e => by have := HRB.out; omega)

end Go.Proofs.Ytohimionlgaaoaa
