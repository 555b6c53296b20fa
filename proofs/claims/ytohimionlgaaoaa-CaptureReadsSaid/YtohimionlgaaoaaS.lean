/- The law's all: packets gathered, so many at most. -/
import Derived.Test.YtohimionlgaaoaaQ
namespace Go.Proofs.Ytohimionlgaaoaa
open Go.RowKit
set_option linter.unusedVariables false
theorem run_eql_func_nil (w : World) (f : Fn) (fi ca : Array Value) : (binOp .eql 66 (.func f fi ca) .nilFunc).run Try.prog w = .ok (.bool false) w := by
  have h : ∀ d : Nat, (Op.equalIn (d + 1) 66 (.func f fi ca) .nilFunc).run Try.prog w = .ok false w := fun d => by
    simp [Op.equalIn, run_underlying Try.underlying66]
  simp only [binOp]
  simp [Op.equal, Op.maxDepth, h 9999]
/-- What all keeps between two rounds. -/
def AlJ (w : World) (M : Nat → Prop) (g5 g7 : Nat) (most B : Nat) (v : Value) (pre : List Pk) (u : World) : Prop :=
  ColI w.heap.size M g7 v pre u ∧ Blk u g5 3 #[.int .i64 (most : Int)] ∧ Kept (fun i => w.heap.size ≤ i) w u ∧ B ≤ u.heap.size ∧ pre.length ≤ most
theorem AlJ.stays {w : World} {M : Nat → Prop} {g5 g7 most B : Nat} (hB : w.heap.size ≤ B) (v : Value) : Stays B (AlJ w M g5 g7 most B v) := by
  rintro pre u u' S ⟨h1, h2, h5, h6, h7⟩ hk hS
  exact ⟨h1.stays hk hS, h2.stays hk hS, h5.then hk (fun i _ hs => by have := (hS i hs).1; omega), Nat.le_trans h6 hk.size, h7⟩
theorem AlJ.on {w : World} {M : Nat → Prop} {g5 g7 most B : Nat} {v : Value} {pre : List Pk} {u u' : World} (h : AlJ w M g5 g7 most B v pre u) (hk : Kept (fun _ => False) u u') : AlJ w M g5 g7 most B v pre u' := by
  obtain ⟨h1, h2, h5, h6, h7⟩ := h
  exact ⟨h1.on hk, h2.kept hk (fun h => h), h5.then hk (fun _ _ h => h.elim), Nat.le_trans h6 hk.size, h7⟩
/-- How all stops early. -/
def AlX (w : World) (M : Nat → Prop) (g5 g7 : Nat) (most B : Nat) (xs : List Pk) (c : Code) (s : List Pk) (u : World) : Prop :=
  c = .exit 0 ∧ ∃ pre x t v, s = pre ++ [x] ∧ pre ++ x :: t = xs ∧ pre.length = most ∧ AlJ w M g5 g7 most B v pre u
theorem AlX.stays {w : World} {M : Nat → Prop} {g5 g7 most B : Nat} {xs : List Pk} (hB : w.heap.size ≤ B) (c : Code) : Stays B (AlX w M g5 g7 most B xs c) := by
  rintro s u u' S ⟨rfl, pre, x, t, v, h1, h2, h3, h4⟩ hk hS
  exact ⟨rfl, pre, x, t, v, h1, h2, h3, AlJ.stays hB v _ _ _ _ h4 hk hS⟩
set_option maxRecDepth 10000 in
set_option maxHeartbeats 16000000 in
theorem alll_any (sm na : Bool) (mo li : Int) (A : Option Addr) (c : Nat) (y : List UInt8) (most : Nat) (w : World) (hmo : 0 ≤ mo ∧ mo ≤ 4294967295) (hli : 0 ≤ li ∧ li ≤ 4294967295) (hl : y.length ≤ 100000) (hm : most ≤ 1000) (hB : BS w w.heap.size A y) :
    Calls Try.prog 19 #[.agg #[.bool sm, .bool na, .int .u32 mo, .int .u32 li], .slice A y.length c, .int .i64 (most : Int)] w fun e w' => ∃ v, e = .returned v ∧ PksO w' w.heap.size v ((alls sm na mo y).1.take most) ∧ Below w.heap.size w w' := by
  have HB := Lib.hid hB
  have MO := Lib.hid hmo
  have LI := Lib.hid hli
  clear hB hmo hli
  refine callsIn_wide.1 (callsIn_of_wp_marks (n := 3) Try.func19 rfl trivial ?_ rfl)
  simp only [Try.ntmps19, List.size_toArray, List.length_cons, List.length_nil, Nat.reduceAdd, Nat.reduceSub, Array.replicate_succ, Array.replicate_zero, List.push_toArray, List.append_toArray, List.nil_append, List.cons_append]
  refine wpIn_wide.2 ?_
  go_upto_region 2 with fail
  obtain ⟨w1, hw1⟩ : ∃ w1 : World, w1 = ((w.alloc (.cells #[.bool sm, .bool na, .int .u32 mo, .int .u32 li] 29)).alloc (.cells #[.int .i64 (most : Int)] 3)).alloc (.cells #[.slice none 0 0] 48) := ⟨_, rfl⟩
  have HF1 := Lib.hid (show Blk w1 w.heap.size 29 #[.bool sm, .bool na, .int .u32 mo, .int .u32 li] by rw [hw1]; exact ((Blk.new _ _ _).alloc _).alloc _)
  have HM1 := Lib.hid (show Blk w1 (w.heap.size + 1) 3 #[.int .i64 (most : Int)] by rw [hw1]; exact (Blk.new_ (by simp) _ _).alloc _)
  have HV1 := Lib.hid (show Blk w1 (w.heap.size + 1 + 1) 48 #[.slice none 0 0] by rw [hw1]; exact Blk.new_ (by simp) _ _)
  have HK1 := Lib.hid (show Kept (fun _ => False) w w1 by rw [hw1]; exact (((Kept.refl _ _).alloc _).alloc _).alloc _)
  rw [← hw1]
  clear hw1
  obtain ⟨g7, hg7⟩ : ∃ g, w.heap.size + 1 + 1 = g := ⟨_, rfl⟩
  have HG7 := Lib.hid hg7
  rw [hg7] at HV1 ⊢
  obtain ⟨g5, hg5⟩ : ∃ g, w.heap.size + 1 = g := ⟨_, rfl⟩
  have HG5 := Lib.hid hg5
  rw [hg5] at HM1 ⊢
  obtain ⟨g3, hg3⟩ : ∃ g, w.heap.size = g := ⟨_, rfl⟩
  have HG3 := Lib.hid hg3
  rw [hg3] at HF1 ⊢
  clear hg3 hg5 hg7
  have cf := HF1.out.cell
  go_wp2_with fail
  refine (allc_any sm na mo li A c y w1 hl (HB.out.on HK1.out (fun _ _ h => h))).mono ?_
  rintro e w5 ⟨ob, fb2, CA, cc, rfl, hob, hfb2, hrow, hob1, hfb1, hb5⟩
  clear cf
  have hnil := run_eql_func_nil
  go_wp2_with fail
  clear hnil
  have hxs := alls_sum sm na mo y
  obtain ⟨ps, hps⟩ : ∃ ps, (alls sm na mo y).1 = ps := ⟨_, rfl⟩
  have hit := all1_iter sm na mo li ob fb2 CA cc w1.heap.size y w5 MO.out LI.out hl hob hfb2 hrow
  obtain ⟨M, hM⟩ : ∃ M, ItM ob fb2 (.slice CA y.length cc) = M := ⟨_, rfl⟩
  rw [hM, hps] at hit
  have hM1 : ∀ i, M i → i < w5.heap.size ∧ w1.heap.size ≤ i := by
    rw [← hM]
    rintro i (rfl | rfl | h)
    · exact ⟨hob.lt, hob1⟩
    · exact ⟨hfb2.lt, hfb1⟩
    · exact ⟨(hrow.lt _ h).2, (hrow.lt _ h).1⟩
  rw [hps] at hxs
  have HIT := Lib.hid hit
  have HMM := Lib.hid hM1
  have hpl : ps.length * 16 ≤ y.length := by have := sumP_len ps; have := hxs.1; have := hxs.2; omega
  have HK5 := Lib.hid (show Kept (fun _ => False) w1 w5 from Kept.quietly hb5)
  have HKW := Lib.hid (show Kept (fun _ => False) w w5 from HK1.out.trans HK5.out)
  have HI0 := Lib.hid (show anyV (AlJ w M g5 g7 most w5.heap.size) [] w5 from
    ⟨_, ⟨HV1.out.kept HK5.out (fun h => h), PksO.nil _ _, fun g h => by cases h⟩, HM1.out.kept HK5.out (fun h => h), HKW.out.mono (fun _ _ h => h.elim), Nat.le_refl _, Nat.zero_le _⟩)
  clear hob hfb2 hrow hob1 hfb1 hb5 hM hit hM1
  refine range_law2 (xs := ps) (M := M) (Kn := ItK w5.heap.size) (gf := 38) (lb := #[.pointer (some ⟨ob, 0, none⟩), .pointer (some ⟨fb2, 0, none⟩)]) rfl (fun args w => enters_of Try.func38 (by kernel_rfl) rfl args w) HIT.out (fun i h => (HMM.out i h).1) ?_
    (anyV (AlJ w M g5 g7 most w5.heap.size)) (AlX w M g5 g7 most w5.heap.size ps) (RdA w.heap.size 16 9 (AlJ w M g5 g7 most w5.heap.size))
    (anyV.stays (AlJ.stays HKW.out.size)) (AlX.stays HKW.out.size) (RdA.stays (AlJ.stays HKW.out.size)) HI0.out ?_ ?_ ?_ ?_
  · rintro x args u ⟨DA, dc, rfl, -⟩
    rfl
  · rintro l pre x t args u K hx ⟨v, hI⟩ ⟨DA, dc, rfl, hr⟩ hK
    gi_wp2_with (rw [Oper.semAt_eq _ _ _ (fun c h => by cases h)]; go_simp; try go_bits)
    have hk0 := (Kept.refl (fun _ => False) u).alloc (.cells #[.int .u32 x.se, .int .u32 x.pa, .int .u32 x.pl, .slice DA x.dl.length dc] 34)
    exact hK _ _ (keepsOthers_of_kept hk0 (fun _ h => h.elim)) (hk0.mono (fun _ _ h => h.elim)) ⟨v, u.heap.size, DA, dc, hI.on hk0, (fun h => by obtain ⟨cs, hb⟩ := hI.1.2.1.own h; exact Nat.lt_irrefl _ hb.lt), rfl, Blk.new _ _ _, (hr.more HKW.out.size).alloc _⟩
  · rintro l pre x t a₁ u hx ⟨v, g10, DA, dc, hI, hvg, ha, hg10, hdr⟩
    dsimp only at hI ha hg10 hdr
    subst ha
    simp only [List.setIfInBounds_toArray, List.set_cons_zero, List.set_cons_succ]
    have HI := Lib.hid hI
    obtain ⟨⟨hb8, ⟨L, hLp, hLr, hLd⟩, hvM⟩, hb9, hkw, hsz, hpm⟩ := hI
    have hLl : L.length = pre.length := by rw [← hLp]; simp
    obtain ⟨VA, vc, hve, -, -⟩ := hLr.shape
    rw [List.length_map, hLl] at hve
    subst hve
    have c8 := hb8.cell
    have f8 := hb8.frozen
    have l8 := hb8.lt
    have c9 := hb9.cell
    have hpre : pre.length < ps.length := by rw [← hx]; simp
    have c10 : ∀ i, u.cell? ⟨g10, i, none⟩ = #[.int .u32 x.se, .int .u32 x.pa, .int .u32 x.pl, .slice DA x.dl.length dc][i]? := hg10.cell
    by_cases hml : most ≤ pre.length
    · have hmI : (most : Int) ≤ (pre.length : Int) := by omega
      gi_wp2_with (rw [Oper.semAt_eq _ _ _ (fun c h => by cases h)]; go_simp; try go_bits)
      exact ⟨KeepsOthers.refl _, rfl, pre, x, t, _, rfl, hx, by omega, HI.out⟩
    · have hmI : ¬ (most : Int) ≤ (pre.length : Int) := by omega
      gi_wp2_with (first
        | (gi_at_builtin; refine wpListIn_append_rowN rfl (.tmp 21) (.tmp 23) 48 rfl w.heap.size 34 (.agg #[.int .u32 0, .int .u32 0, .int .u32 0, .slice none 0 0]) 4 40 Try.underlying48 Try.info34 rfl (by omega) (.slice VA pre.length vc) (L.map PkV.cs) rfl (some ⟨u.heap.size, 0, none⟩) 1 1 [PkV.cs ⟨x, DA, dc⟩] rfl rfl ?a1 (fun z hz => by rw [List.mem_singleton.1 hz]; rfl) ?a2 ?a3 ?a4 ?a5 ?a6 ?_)
        | (rw [Oper.semAt_eq _ _ _ (fun c h => by cases h)]; go_simp; try go_bits))
      case a1 => exact hLr.alloc _
      case a2 => exact Src.new _ _ _ (by simp [PkV.cs])
      case a3 => intro u hu; simp [PkV.cs] at hu; rcases hu with rfl | rfl | rfl | rfl <;> rfl
      case a4 => unfold maxLen; omega
      case a5 => omega
      case a6 => have := hkw.size; omega
      intro v2 w6 hrow hgr hown
      have hk6 : Kept (fun i => (Value.slice VA pre.length vc).ownBlock = some i) u w6 := Kept.trans ((Kept.refl _ _).alloc _) (kept_grown hgr (fun i e _ => e))
      have hb86 := hb8.kept hk6 (hLr.ne hb8 (by decide))
      have hb96 := hb9.kept hk6 (hLr.ne hb9 (by decide))
      have hdr6 := hdr.kept hk6 (fun g hg hs => by
        obtain ⟨cs, hbb⟩ := hdr.blk hg
        obtain ⟨cs', hbb'⟩ := hLr.blk hs
        exact Blk.ne_ hbb hbb' (by decide) rfl)
      have hps6 : PksO w6 w.heap.size v2 (pre ++ [x]) := ⟨L ++ [⟨x, DA, dc⟩], by simp [hLp], by rw [List.map_append]; exact hrow, fun p hp => by
        rcases List.mem_append.1 hp with hp | hp
        · exact (hLd p hp).kept hk6 (fun g hg hs => by
            obtain ⟨cs, hbb⟩ := (hLd p hp).blk hg
            obtain ⟨cs', hbb'⟩ := hLr.blk hs
            exact Blk.ne_ hbb hbb' (by decide) rfl)
        · rw [List.mem_singleton.1 hp]
          exact hdr6⟩
      have HV2 := Lib.hid (show ∀ g, v2.ownBlock = some g → ¬ M g from fun g hg => by
        rcases hown with h | h
        · exact hvM g (h ▸ hg)
        · rw [h] at hg
          cases hg
          intro hm
          have := (HMM.out _ hm).1
          omega)
      have HPS6 := Lib.hid hps6
      obtain ⟨C2, c2, rfl, -, -⟩ := hrow.shape
      clear hrow hps6
      obtain ⟨n2, hn2⟩ : ∃ n, (L.map PkV.cs ++ [PkV.cs ⟨x, DA, dc⟩]).length = n := ⟨_, rfl⟩
      rw [hn2] at HPS6 HV2 ⊢
      clear hn2
      have l8' := hb86.lt
      have c8' := hb86.cell
      have f8' := hb86.frozen
      clear hgr hown c8 f8 l8 c9 c10
      gi_wp2_with (rw [Oper.semAt_eq _ _ _ (fun c h => by cases h)]; go_simp; try go_bits)
      have hk8 := (hk6.mono (T := fun i => (Value.slice VA pre.length vc).ownBlock = some i ∨ i = g7) (fun _ _ h => .inl h)).setIn (b := g7) (o := 0) (s := none) (u := .slice C2 n2 c2) (.inr rfl)
      have hks : Kept (fun i => i = g7) w6 (w6.setCell ⟨g7, 0, none⟩ (.slice C2 n2 c2)) := (Kept.refl _ _).setIn rfl
      refine ⟨keepsOthers_of_kept hk8 ?_, hk8.mono ?_, .slice C2 n2 c2, ⟨hb86.set_to rfl, HPS6.out.kept hks ?_, HV2.out⟩, hb96.far' (Blk.ne_ hb96 hb86 (by decide)), hkw.then hk8 ?_, Nat.le_trans hsz hk8.size, by simp; omega⟩
      · rintro i (h | rfl)
        · obtain ⟨cs, hb⟩ := hLr.blk h
          exact ⟨_, _, hb⟩
        · exact ⟨_, _, hb8⟩
      · rintro i - (h | rfl) hm
        · exact hvM i h hm
        · have := (HMM.out _ hm).2; have := HV1.out.lt; omega
      · rintro i rfl t cs hb
        rw [show t = 48 from Classical.byContradiction fun h => Blk.ne_ hb hb86 h rfl]; decide
      · rintro i hi (h | rfl)
        · exact (hLr.lt _ h).1
        · have := HG7.out; omega
  · rintro D u hD ⟨v, hI⟩ hDD
    have HI := Lib.hid hI
    have HDD := Lib.hid hDD
    have HD := Lib.hid hD
    have c7 := hI.1.1.cell
    clear hI hDD hD
    go_wp2_with fail
    have hkD : Kept (fun i => i = D) u (u.putObj D (.deferred none)) := kept_putObj rfl
    refine leaveM1 rfl HDD.out (results_tmp (show Try.f19.results = _ from rfl) _ _ _) ⟨v, rfl, ?_, (HI.out.2.2.1.then hkD (fun i hi h => by rw [h]; exact Nat.le_trans HKW.out.size HD.out)).below (Nat.le_refl _) (fun i h => h)⟩
    rw [hps, List.take_of_length_le HI.out.2.2.2.2]
    exact HI.out.1.2.1.kept hkD (fun i hi t cs hb => by
      rw [hi] at hb
      have h2 : u.heap[D]? = some (.cells cs t (0, 0)) := hb
      rw [HDD.out] at h2
      cases h2)
  · rintro D cd s u hD ⟨rfl, pre, x, t, v, rfl, hx, hpm, hI⟩ hDD
    have HI := Lib.hid hI
    have HDD := Lib.hid hDD
    have HD := Lib.hid hD
    have c7 := hI.1.1.cell
    clear hI hDD hD
    go_wp2_with fail
    have hkD : Kept (fun i => i = D) u (u.putObj D (.deferred none)) := kept_putObj rfl
    refine leaveM1 rfl HDD.out (results_tmp (show Try.f19.results = _ from rfl) _ _ _) ⟨v, rfl, ?_, (HI.out.2.2.1.then hkD (fun i hi h => by rw [h]; exact Nat.le_trans HKW.out.size HD.out)).below (Nat.le_refl _) (fun i h => h)⟩
    rw [hps, show ps.take most = pre by rw [← hx, ← hpm]; simp]
    exact HI.out.1.2.1.kept hkD (fun i hi t cs hb => by
      rw [hi] at hb
      have h2 : u.heap[D]? = some (.cells cs t (0, 0)) := hb
      rw [HDD.out] at h2
      cases h2)
end Go.Proofs.Ytohimionlgaaoaa
