/- Contract of the reference's Pick of layer 19. -/
import Derived.Test.YtpakfepjfcpjkaaSmPlain
import Derived.Outline
import Derived.Deep.Light
import Derived.Deep.LoopGhost
import Derived.Deep.DeepCutAuto
namespace Go.Proofs.Ytpakfepjfcpjkaa
open Go.RowKit
set_option linter.unusedVariables false

structure ShR where
  c : Cd
  owed : Int
def ShR.cs (r : ShR) : List Value := [.int .i64 r.c.slot, .int .i64 r.c.backend, .int .i64 r.c.weight, .int .u32 r.c.load, .int .i64 r.owed]
theorem ShR.cs_len (r : ShR) : r.cs.length = 5 := rfl
def ShR.sh (r : ShR) : Sh := ⟨r.c.backend, r.c.weight, r.owed⟩
theorem sr_cells {w : World} {b off k : Nat} {S : List ShR} (h : ElAt w b off 5 (S.map ShR.cs)) (hk : k < S.length) :
    w.cell? ⟨b, off + k * 5, none⟩ = some (.int .i64 S[k].c.slot) ∧ w.cell? ⟨b, off + k * 5 + 1, none⟩ = some (.int .i64 S[k].c.backend) ∧ w.cell? ⟨b, off + k * 5 + 2, none⟩ = some (.int .i64 S[k].c.weight) ∧ w.cell? ⟨b, off + k * 5 + 3, none⟩ = some (.int .u32 S[k].c.load) ∧ w.cell? ⟨b, off + k * 5 + 4, none⟩ = some (.int .i64 S[k].owed) := by
  have hk' : k < (S.map ShR.cs).length := by simpa using hk
  have a0 := h.get0 hk' (by omega)
  have a1 := h.get hk' 1 (by omega)
  have a2 := h.get hk' 2 (by omega)
  have a3 := h.get hk' 3 (by omega)
  have a4 := h.get hk' 4 (by omega)
  simp only [List.getElem_map, ShR.cs] at a0 a1 a2 a3 a4
  exact ⟨a0, a1, a2, a3, a4⟩
/-- Candidates, with what each is owed. -/
def rowR (h : List Cd) (g : Nat → Int) : List ShR := h.mapIdx fun i c => ⟨c, g i⟩
theorem rowR_len (h : List Cd) (g : Nat → Int) : (rowR h g).length = h.length := by simp [rowR]
theorem rowR_at (h : List Cd) (g : Nat → Int) (k : Nat) (hk : k < h.length) : (rowR h g)[k]'(by rw [rowR_len]; exact hk) = ⟨h[k], g k⟩ := by simp [rowR]
def updR (g : Nat → Int) (k : Nat) (x : Int) : Nat → Int := fun i => if i = k then x else g i
theorem rowR_set (h : List Cd) (g : Nat → Int) (k : Nat) (hk : k < h.length) (x : Int) : ((rowR h g).map ShR.cs).set k ((((rowR h g).map ShR.cs)[k]'(by simp [rowR_len]; exact hk)).set 4 (.int .i64 x)) = (rowR h (updR g k x)).map ShR.cs := by
  apply List.ext_getElem
  · simp [rowR_len]
  · intro i h1 h2
    have hi : i < h.length := by simpa [rowR_len] using h2
    rw [List.getElem_set]
    by_cases e : k = i
    · subst e
      rw [if_pos rfl]
      simp only [List.getElem_map]
      rw [rowR_at h g k hi, rowR_at h _ k hi]
      simp [ShR.cs, updR]
    · rw [if_neg e]
      simp only [List.getElem_map]
      rw [rowR_at h g i hi, rowR_at h _ i hi]
      simp [ShR.cs, updR, Ne.symm e]
theorem rowR_congr (h : List Cd) (f g : Nat → Int) (hfg : ∀ i, i < h.length → f i = g i) : rowR h f = rowR h g := by
  apply List.ext_getElem
  · simp [rowR_len]
  · intro i h1 h2
    have hi : i < h.length := by simpa [rowR_len] using h2
    rw [rowR_at h f i hi, rowR_at h g i hi, hfg i hi]
theorem rowR_snoc (h : List Cd) (x : Cd) : (rowR (h ++ [x]) (fun _ => 0)) = rowR h (fun _ => 0) ++ [⟨x, 0⟩] := by simp [rowR]
/-- Were those before the same? -/
def smB (R : List ShR) (h : List Cd) : Bool := decide ((R.map fun r => (r.c.backend, r.c.weight)).take h.length = h.map fun c => (c.backend, c.weight))
theorem smB_nil (R : List ShR) : smB R [] = true := by simp [smB]
theorem smB_out (R : List ShR) (h : List Cd) (x : Cd) (hk : R.length ≤ h.length) : smB R (h ++ [x]) = false := by
  unfold smB; rw [decide_eq_false_iff_not]; intro e
  have := congrArg List.length e
  simp at this; omega
theorem smB_in (R : List ShR) (h : List Cd) (x : Cd) (hk : h.length < R.length) : smB R (h ++ [x]) = (smB R h && (decide (R[h.length].c.backend = x.backend) && decide (R[h.length].c.weight = x.weight))) := by
  unfold smB
  have e : (R.map fun r => (r.c.backend, r.c.weight)).take (h ++ [x]).length = (R.map fun r => (r.c.backend, r.c.weight)).take h.length ++ [(R[h.length].c.backend, R[h.length].c.weight)] := by
    rw [List.length_append, List.length_singleton, List.take_succ_eq_append_getElem (by simpa using hk)]; simp
  rw [e, List.map_append, Bool.eq_iff_iff]
  simp only [decide_eq_true_eq, Bool.and_eq_true, List.map_cons, List.map_nil]
  constructor
  · intro h1
    have h2 := List.append_inj h1 (by simp; omega)
    simp at h2
    exact ⟨by simpa using h2.1, h2.2⟩
  · rintro ⟨h1, h2, h3⟩
    rw [h1, h2, h3]
theorem smB_false (R : List ShR) (h : List Cd) (x : Cd) (hs : smB R h = false) : smB R (h ++ [x]) = false := by
  rcases Nat.lt_or_ge h.length R.length with hk | hk
  · rw [smB_in R h x hk, hs]; rfl
  · exact smB_out R h x hk
theorem knows_sm (R : List ShR) (h : List Cd) : knowsB (R.map ShR.sh) h = (smB R h && decide (h.length = R.length)) := by
  unfold knowsB smB
  rw [Bool.eq_iff_iff]
  simp only [decide_eq_true_eq, Bool.and_eq_true, List.map_map]
  have e : ((fun s : Sh => (s.backend, s.weight)) ∘ ShR.sh) = fun r => (r.c.backend, r.c.weight) := rfl
  rw [e]
  constructor
  · intro h1
    have h2 := congrArg List.length h1
    simp at h2
    exact ⟨by rw [← h1, List.take_of_length_le (by simp; omega)], h2.symm⟩
  · rintro ⟨h1, h2⟩
    rw [List.take_of_length_le (by simp; omega)] at h1
    exact h1
def totC (h : List Cd) : Int := (h.map (·.weight)).sum
theorem totC_snoc (h : List Cd) (x : Cd) : totC (h ++ [x]) = totC h + x.weight := by simp [totC]
theorem totC_range (h : List Cd) (hw : ∀ c ∈ h, 0 ≤ c.weight ∧ c.weight ≤ 100) : 0 ≤ totC h ∧ totC h ≤ 100 * h.length := by
  unfold totC
  induction h with
  | nil => simp
  | cons c h ih =>
    have := ih (fun d hd => hw d (by simp [hd]))
    have := hw c (by simp)
    simp only [List.map_cons, List.sum_cons, List.length_cons]; omega
theorem totC_base (R : List Sh) (h : List Cd) : totTo (baseS R h) (baseS R h).length = totC h := by
  unfold totTo totC
  rw [List.take_length]
  congr 1
  apply List.ext_getElem
  · simp [baseS_len]
  · intro i h1 h2
    rw [List.getElem_map, List.getElem_map]
    exact (baseS_at R h i (by simpa using h1) (by simpa using h2)).1
theorem step_crd (S : List Sh) (i : Nat) (hi : i < S.length) : crd (stepS S) i = crd (S.map addS) i - if i = stepB S then totTo S S.length else 0 := by
  rw [crd_at _ _ (by rw [stepS_len]; exact hi), crd_at _ _ (by simpa using hi)]
  unfold stepS
  rw [List.getElem_set]
  by_cases e : stepB S = i
  · subst e
    rw [if_pos rfl, if_pos rfl]
    simp [subS, addS, List.getD_eq_getElem?_getD, hi]
  · rw [if_neg e, if_neg (fun h => e h.symm)]
    simp [addS]
def gk (f : Nat → Int) (k : Nat) : Nat → Int := fun i => if i < k then f i else 0
theorem gk_zero (f : Nat → Int) : gk f 0 = fun _ => 0 := by funext i; simp [gk]
theorem gk_step (h : List Cd) (f : Nat → Int) (k : Nat) (x y : Int) (hy : f k = y) : rowR h (updR (updR (gk f k) k x) k y) = rowR h (gk f (k + 1)) := by
  apply rowR_congr
  intro i hi
  unfold updR gk
  by_cases e : i = k
  · subst e; rw [if_pos rfl, if_pos (by omega), hy]
  · rw [if_neg e, if_neg e]
    by_cases h2 : i < k
    · rw [if_pos h2, if_pos (by omega)]
    · rw [if_neg h2, if_neg (by omega)]
theorem gk_same (h : List Cd) (f : Nat → Int) (k : Nat) : rowR h (gk f k) = rowR h (updR (gk f k) k 0) := by
  apply rowR_congr
  intro i hi
  unfold updR gk
  by_cases e : i = k
  · subst e; rw [if_neg (by omega), if_pos rfl]
  · rw [if_neg e]
theorem gk_end (S0 : List Sh) (h : List Cd) (n B : Nat) (T : Int) (hn : h.length = n) (hS : S0.length = n) (hB : stepB S0 = B) (hT : totTo S0 S0.length = T) : rowR h (updR (gk (crd (S0.map addS)) n) B (crd (S0.map addS) B - T)) = rowR h (crd (stepS S0)) := by
  apply rowR_congr
  intro i hi
  rw [step_crd S0 i (by omega), hB, hT]
  unfold updR gk
  by_cases e : i = B
  · subst e; rw [if_pos rfl, if_pos rfl]
  · rw [if_neg e, if_neg e, if_pos (by omega)]; omega
theorem Try.infoShR : (Try.prog.info? 63).map (fun i => (i.zero, i.size, i.bytes)) = some (some (.agg #[.int .i64 0, .int .i64 0, .int .i64 0, .int .u32 0, .int .i64 0]), 5, 40) := by kernel_rfl
theorem sr_one (r : ShR) : ∀ u ∈ [r.cs].flatten, u.oneCell' = true := by intro u hu; simp [ShR.cs] at hu; rcases hu with rfl | rfl | rfl | rfl | rfl <;> rfl
/-- What the reference's Pick leaves. -/
def RefPost (R : List ShR) (l : List Cd) (v0 : Value) (w : World) (e : Ending) (w' : World) : Prop :=
  (heavy l = [] ∧ e = .returned (.tuple #[v0, .int .i64 (-1)]) ∧ Below w.heap.size w w') ∨
  (heavy l ≠ [] ∧ ∃ v', e = .returned (.tuple #[v', .int .i64 (stepB (baseS (R.map ShR.sh) (heavy l)) : Int)]) ∧ RowN w' w.heap.size 63 5 v' ((rowR (heavy l) (crd (stepS (baseS (R.map ShR.sh) (heavy l))))).map ShR.cs) ∧ Below w.heap.size w w')
set_option maxRecDepth 100000 in
set_option maxHeartbeats 4000000 in
theorem refSpick_any (WA A : Option Addr) (wcap c : Nat) (R : List ShR) (l : List Cd) (w : World) (Bd : Int) (hl : l.length ≤ 30) (hRl : R.length ≤ 100) (hw : ∀ c ∈ l, 0 ≤ c.weight ∧ c.weight ≤ 100) (hBd : ∀ r ∈ R, -Bd ≤ r.owed ∧ r.owed ≤ Bd) (b0 : 0 ≤ Bd) (b1 : Bd ≤ 1000000000)
    (hW : ES w w.heap.size WA 5 (R.map ShR.cs)) (hE : ES w w.heap.size A 4 (l.map Cd.cs)) :
    Calls Try.prog 22 #[.slice WA R.length wcap, .slice A l.length c] w (RefPost R l (.slice WA R.length wcap) w) := by
  have HWS := Lib.hid hW
  have HE := Lib.hid hE
  have HWT := Lib.hid hw
  have HBD := Lib.hid hBd
  have h44 := Try.infoShR
  clear hW hE hw hBd
  go_enter Try.func22, Try.ntmps22
  go_wp2_with fail
  go_loopw [6, 7, 8, 9, 10] (fun v sm t i _ wr => ∃ k : Nat, k ≤ l.length ∧ i = .int .i64 (k : Int) ∧ sm = .bool (smB R (heavy (l.take k))) ∧ t = .int .i64 (totC (heavy (l.take k))) ∧ Hid (RowN wr w.heap.size 63 5 v ((rowR (heavy (l.take k)) (fun _ => 0)).map ShR.cs)) ∧ Hid (Below w.heap.size w wr)) (fun _ _ _ i _ _ => l.length - (intOf i).toNat)
  case atStart => exact ⟨0, by omega, rfl, by rw [List.take_zero]; exact congrArg Value.bool (smB_nil R).symm, rfl, Lib.hid (RowN.nil _ _ _ _), Lib.hid (Below.refl _ _)⟩
  case round =>
    obtain ⟨k, hk, rfl, rfl, rfl, HO, HB⟩ := hrel
    have hsw := HB.out.size
    by_cases hkl : k < l.length
    · obtain ⟨b, o, hb, rfl, hcl⟩ := HE.out.at (k := k) (by simpa using hkl)
      obtain ⟨c0, c1, c2, c3⟩ := cd_cells (hcl.keep (w' := wr) (fun o => HB.out.cell (p := ⟨b, o, none⟩) hb)) hkl
      have hkI : (k : Int) < (l.length : Int) := by omega
      have hk0 : (0 : Int) ≤ (k : Int) := by omega
      have HH := Lib.hid (heavy_snoc l k hkl)
      have HHL := Lib.hid (heavy_len (l.take k))
      have hwk := HWT.out l[k] (List.getElem_mem hkl)
      have htr := totC_range (heavy (l.take k)) (fun c hc => HWT.out c (List.mem_of_mem_take (heavy_pos _ c hc).1))
      have hhl := heavy_len (l.take k)
      rw [List.length_take] at hhl
      obtain ⟨x, hx⟩ : ∃ x, l[k] = x := ⟨_, rfl⟩
      rw [hx] at c0 c1 c2 c3 HH hwk
      have blt : b < wr.heap.size := by omega
      obtain ⟨hA, hcap, hve, -⟩ := HO.out.shape
      rw [List.length_map, rowR_len] at hve
      subst hve
      obtain ⟨hi, hhi⟩ : ∃ hi, heavy (l.take k) = hi := ⟨_, rfl⟩
      rw [hhi] at HO HH HHL htr hhl ⊢
      clear hcl hx hhi
      by_cases hp : 0 < x.weight
      · have HH2 := Lib.hid (HH.out.trans (by rw [if_pos hp]))
        have hx1 : ¬ x.weight < 1 := by omega
        go_upto_region 9 with fail
        go_cut [7] (fun sm wx => sm = .bool (smB R (hi ++ [x])) ∧ Hid (Kept (fun _ => False) wr wx))
        case first =>
          by_cases hsm : smB R hi = true
          · rw [hsm]
            rcases Nat.lt_or_ge hi.length R.length with hlt | hge
            · have hltI : (hi.length : Int) < (R.length : Int) := by omega
              have hltD : decide ((hi.length : Int) < (R.length : Int)) = true := by simp; omega
              have hltN : decide (hi.length < R.length) = true := by simp; omega
              obtain ⟨wb, wo, hwb, rfl, hwel⟩ := HWS.out.at (k := hi.length) (by simpa using hlt)
              obtain ⟨-, d1, d2, -, -⟩ := sr_cells (hwel.keep (w' := wr) (fun o => HB.out.cell (p := ⟨wb, o, none⟩) hwb)) hlt
              have HIN := Lib.hid (smB_in R hi x hlt)
              rw [hsm] at HIN
              have wblt : wb < wr.heap.size := by omega
              have hi0 : (0 : Int) ≤ (hi.length : Int) := by omega
              generalize R[hi.length].c.backend = y0 at *
              generalize R[hi.length].c.weight = y1 at *
              obtain ⟨xs, x0, xw, xl⟩ := x
              simp only at c0 c1 c2 c3 HIN hwk hp hx1
              generalize hi.length = m at *
              clear hwel hsm
              by_cases e0 : y0 = x0
              · subst e0
                by_cases e1 : y1 = xw
                · subst e1
                  have HI2 := Lib.hid (show smB R (hi ++ [⟨xs, y0, y1, xl⟩]) = true by rw [HIN.out]; simp)
                  clear HIN
                  refine wp_region_kept 36 [] ?st ?ne rfl (by kernel_rfl) (by kernel_rfl) ?_
                  case st => intro p hp; cases hp
                  case ne => intro p hp; cases hp
                  simp only [List.take_succ_cons, List.take_zero, List.drop_succ_cons, List.drop_zero]
                  intro G pick hR hp1 hp2
                  have p1 : ∀ u, (pick u).cell? ⟨wb, wo + m * 5 + 1, none⟩ = some (.int .i64 y0) := fun u => ((hp1 u).cell wblt (fun h => h) _).trans d1
                  have p2 : ∀ u, (pick u).cell? ⟨wb, wo + m * 5 + 2, none⟩ = some (.int .i64 y1) := fun u => ((hp1 u).cell wblt (fun h => h) _).trans d2
                  have p3 : ∀ u, (pick u).cell? ⟨b, o + k * 4 + 1, none⟩ = some (.int .i64 y0) := fun u => ((hp1 u).cell blt (fun h => h) _).trans c1
                  have p4 : ∀ u, (pick u).cell? ⟨b, o + k * 4 + 2, none⟩ = some (.int .i64 y1) := fun u => ((hp1 u).cell blt (fun h => h) _).trans c2
                  repeat (first | (refine wpR_det hp2 rfl ((hR.rel _).trans rfl) rfl ?_; intro K hK; go_big_quiet_op; go_big_quiet_on) | (refine wpR_ptr hp2 rfl ((hR.rel _).trans rfl) rfl rfl ?_; intro K hK; go_big_quiet_op; go_big_quiet_on) | (refine wpR_skip pick rfl ?_; intro K hK; go_big_quiet_op; go_big_quiet_on))
                  refine wpR_nil ?_
                  intro wX hk2 hF hM
                  have HK2 := Lib.hid hk2
                  clear hF hM hk2 hp1 hp2 hR p1 p2 p3 p4
                  go_wp2_with fail
                  go_meet
                  exact ⟨by rw [HI2.out], HK2⟩
                · have e1' : (y1 == xw) = false := by simp [e1]
                  have HI2 := Lib.hid (show smB R (hi ++ [⟨xs, y0, xw, xl⟩]) = false by rw [HIN.out]; simp [e1])
                  clear HIN e1
                  refine wp_region_kept 36 [] ?st ?ne rfl (by kernel_rfl) (by kernel_rfl) ?_
                  case st => intro p hp; cases hp
                  case ne => intro p hp; cases hp
                  simp only [List.take_succ_cons, List.take_zero, List.drop_succ_cons, List.drop_zero]
                  intro G pick hR hp1 hp2
                  have p1 : ∀ u, (pick u).cell? ⟨wb, wo + m * 5 + 1, none⟩ = some (.int .i64 y0) := fun u => ((hp1 u).cell wblt (fun h => h) _).trans d1
                  have p2 : ∀ u, (pick u).cell? ⟨wb, wo + m * 5 + 2, none⟩ = some (.int .i64 y1) := fun u => ((hp1 u).cell wblt (fun h => h) _).trans d2
                  have p3 : ∀ u, (pick u).cell? ⟨b, o + k * 4 + 1, none⟩ = some (.int .i64 y0) := fun u => ((hp1 u).cell blt (fun h => h) _).trans c1
                  have p4 : ∀ u, (pick u).cell? ⟨b, o + k * 4 + 2, none⟩ = some (.int .i64 xw) := fun u => ((hp1 u).cell blt (fun h => h) _).trans c2
                  repeat (first | (refine wpR_det hp2 rfl ((hR.rel _).trans rfl) rfl ?_; intro K hK; go_big_quiet_op; go_big_quiet_on) | (refine wpR_ptr hp2 rfl ((hR.rel _).trans rfl) rfl rfl ?_; intro K hK; go_big_quiet_op; go_big_quiet_on) | (refine wpR_skip pick rfl ?_; intro K hK; go_big_quiet_op; go_big_quiet_on))
                  refine wpR_nil ?_
                  intro wX hk2 hF hM
                  have HK2 := Lib.hid hk2
                  clear hF hM hk2 hp1 hp2 hR p1 p2 p3 p4
                  go_wp2_with fail
                  go_meet
                  exact ⟨by rw [HI2.out], HK2⟩
              · have e0' : (y0 == x0) = false := by simp [e0]
                have HI2 := Lib.hid (show smB R (hi ++ [⟨xs, x0, xw, xl⟩]) = false by rw [HIN.out]; simp [e0])
                clear HIN e0
                refine wp_region_kept 36 [] ?st ?ne rfl (by kernel_rfl) (by kernel_rfl) ?_
                case st => intro p hp; cases hp
                case ne => intro p hp; cases hp
                simp only [List.take_succ_cons, List.take_zero, List.drop_succ_cons, List.drop_zero]
                intro G pick hR hp1 hp2
                have p1 : ∀ u, (pick u).cell? ⟨wb, wo + m * 5 + 1, none⟩ = some (.int .i64 y0) := fun u => ((hp1 u).cell wblt (fun h => h) _).trans d1
                have p2 : ∀ u, (pick u).cell? ⟨wb, wo + m * 5 + 2, none⟩ = some (.int .i64 y1) := fun u => ((hp1 u).cell wblt (fun h => h) _).trans d2
                have p3 : ∀ u, (pick u).cell? ⟨b, o + k * 4 + 1, none⟩ = some (.int .i64 x0) := fun u => ((hp1 u).cell blt (fun h => h) _).trans c1
                have p4 : ∀ u, (pick u).cell? ⟨b, o + k * 4 + 2, none⟩ = some (.int .i64 xw) := fun u => ((hp1 u).cell blt (fun h => h) _).trans c2
                repeat (first | (refine wpR_det hp2 rfl ((hR.rel _).trans rfl) rfl ?_; intro K hK; go_big_quiet_op; go_big_quiet_on) | (refine wpR_ptr hp2 rfl ((hR.rel _).trans rfl) rfl rfl ?_; intro K hK; go_big_quiet_op; go_big_quiet_on) | (refine wpR_skip pick rfl ?_; intro K hK; go_big_quiet_op; go_big_quiet_on))
                refine wpR_nil ?_
                intro wX hk2 hF hM
                have HK2 := Lib.hid hk2
                clear hF hM hk2 hp1 hp2 hR p1 p2 p3 p4
                go_wp2_with fail
                go_meet
                exact ⟨by rw [HI2.out], HK2⟩
            · have hgeI : ¬ (hi.length : Int) < (R.length : Int) := by omega
              have hgeD : decide (hi.length < R.length) = false := by simp; omega
              have hgeD2 : decide ((hi.length : Int) < (R.length : Int)) = false := by simp; omega
              have HI2 := Lib.hid (smB_out R hi x hge)
              clear hsm
              refine wp_region_kept 36 [] ?st ?ne rfl (by kernel_rfl) (by kernel_rfl) ?_
              case st => intro p hp; cases hp
              case ne => intro p hp; cases hp
              simp only [List.take_succ_cons, List.take_zero, List.drop_succ_cons, List.drop_zero]
              intro G pick hR hp1 hp2
              repeat (first | (refine wpR_det hp2 rfl ((hR.rel _).trans rfl) rfl ?_; intro K hK; go_big_quiet_op; go_big_quiet_on) | (refine wpR_ptr hp2 rfl ((hR.rel _).trans rfl) rfl rfl ?_; intro K hK; go_big_quiet_op; go_big_quiet_on) | (refine wpR_skip pick rfl ?_; intro K hK; go_big_quiet_op; go_big_quiet_on))
              refine wpR_nil ?_
              intro wX hk2 hF hM
              have HK2 := Lib.hid hk2
              clear hF hM hk2 hp1 hp2 hR
              go_wp2_with fail
              go_meet
              exact ⟨by rw [HI2.out], HK2⟩
          · have hsm' : smB R hi = false := by simpa using hsm
            have HI2 := Lib.hid (smB_false R hi x hsm')
            rw [hsm']
            clear hsm hsm'
            refine wp_region_kept 36 [] ?st ?ne rfl (by kernel_rfl) (by kernel_rfl) ?_
            case st => intro p hp; cases hp
            case ne => intro p hp; cases hp
            simp only [List.take_succ_cons, List.take_zero, List.drop_succ_cons, List.drop_zero]
            intro G pick hR hp1 hp2
            repeat (first | (refine wpR_det hp2 rfl ((hR.rel _).trans rfl) rfl ?_; intro K hK; go_big_quiet_op; go_big_quiet_on) | (refine wpR_ptr hp2 rfl ((hR.rel _).trans rfl) rfl rfl ?_; intro K hK; go_big_quiet_op; go_big_quiet_on) | (refine wpR_skip pick rfl ?_; intro K hK; go_big_quiet_op; go_big_quiet_on))
            refine wpR_nil ?_
            intro wX hk2 hF hM
            have HK2 := Lib.hid hk2
            clear hF hM hk2 hp1 hp2 hR
            go_wp2_with fail
            go_meet
            exact ⟨by rw [HI2.out], HK2⟩
        case rest =>
          obtain ⟨rfl, HKX⟩ := hcut
          have hsx := HKX.out.size
          have HOX := Lib.hid (HO.out.kept HKX.out (fun _ _ h => h))
          have HBX := Lib.hid (HB.out.trans (HKX.out.below hsw (fun _ h => h.elim)))
          have d0 := (HKX.out.cell blt (fun h => h) (o + k * 4)).trans c0
          have d1 := (HKX.out.cell blt (fun h => h) (o + k * 4 + 1)).trans c1
          have d2 := (HKX.out.cell blt (fun h => h) (o + k * 4 + 2)).trans c2
          have d3 := (HKX.out.cell blt (fun h => h) (o + k * 4 + 3)).trans c3
          have bltx : b < wc.heap.size := by omega
          clear c0 c1 c2 c3 blt HO HB HKX
          have HTS := Lib.hid (totC_snoc hi x)
          go_wp2_with (at_builtin; refine wpList_append_rowN rfl (.tmp 62) (.tmp 68) 36 rfl w.heap.size 63 (.agg #[.int .i64 0, .int .i64 0, .int .i64 0, .int .u32 0, .int .i64 0]) 5 40 Try.underlying36 h44 rfl (by omega) _ ((rowR hi (fun _ => 0)).map ShR.cs) rfl (some ⟨wc.heap.size, 0, none⟩) 1 1 [ShR.cs ⟨x, 0⟩] rfl rfl ?a1 (fun y hy => by simp at hy; subst hy; rfl) ?a2 (sr_one _) ?a3 ?a4 ?a5 ?_)
          case a1 => exact HOX.out.alloc _
          case a2 => exact Src.blk (cs := #[.int .i64 x.slot, .int .i64 x.backend, .int .i64 x.weight, .int .u32 x.load, .int .i64 0]) (Blk.new _ _ _) rfl
          case a3 => simp [rowR_len]; unfold maxLen; omega
          case a4 => simp [rowR_len]; omega
          case a5 => first | omega | (simp; omega)
          intro v5 w5 hr5 hg5 _
          have hs5 : wc.heap.size + 1 ≤ w5.heap.size := by have := hg5.size; simpa using this
          have HR5 := Lib.hid (show RowN w5 w.heap.size 63 5 v5 ((rowR (hi ++ [x]) (fun _ => 0)).map ShR.cs) by rw [rowR_snoc, List.map_append]; exact hr5)
          have HB5 := Lib.hid ((HBX.out.alloc (by omega) _).trans (below_grown hg5 (fun i e => (HOX.out.lt i (ownBlock_len e)).1) (by simp; omega)))
          have e2 := (HB5.out.cell (p := ⟨b, o + k * 4 + 2, none⟩) hb).trans ((HBX.out.cell (p := ⟨b, o + k * 4 + 2, none⟩) hb).symm.trans d2)
          have blt5 : b < w5.heap.size := by omega
          clear hr5 hg5 d0 d1 d2 d3 HOX HBX
          go_wp2_with fail
          go_roundw
          case rel => exact ⟨k + 1, by omega, by go_num, by rw [HH2.out], by rw [HH2.out, HTS.out], Lib.hid (by rw [HH2.out]; exact HR5.out), HB5⟩
          case measure => simp [intOf]; omega
      · have HH2 := Lib.hid (HH.out.trans (by rw [if_neg hp, List.append_nil]))
        have hx1 : x.weight < 1 := by omega
        go_wp2_with fail
        go_roundw
        case rel => exact ⟨k + 1, by omega, by go_num, by rw [HH2.out], by rw [HH2.out], Lib.hid (by rw [HH2.out]; have h := HO.out; exact h), HB⟩
        case measure => simp [intOf]; omega
    · obtain rfl : k = l.length := by omega
      rw [List.take_length] at HO ⊢
      have hhl := heavy_len l
      obtain ⟨hA, hcap, hve, -⟩ := HO.out.shape
      rw [List.length_map, rowR_len] at hve
      subst hve
      by_cases hh0 : heavy l = []
      · have hlen : (heavy l).length = 0 := by rw [hh0]; rfl
        have HH0 := Lib.hid hh0
        rw [hlen]
        clear hh0 hlen
        go_wp2_with fail
        go_ret2
        exact .inl ⟨HH0.out, rfl, HB.out⟩
      · have hpos : 0 < (heavy l).length := List.length_pos_iff.2 hh0
        have HNE := Lib.hid hh0
        have HWH := Lib.hid (show ∀ c ∈ heavy l, 0 ≤ c.weight ∧ c.weight ≤ 100 from fun c hc => HWT.out c (heavy_pos l c hc).1)
        have htr := totC_range (heavy l) HWH.out
        have hz : (((heavy l).length : Int) == 0) = false := beq_eq_false_iff_ne.2 (by omega)
        have HKS := Lib.hid (knows_sm R (heavy l))
        have HBC := Lib.hid (baseS_credit (R.map ShR.sh) (heavy l) Bd (fun s hs => by obtain ⟨r, hr, rfl⟩ := List.mem_map.1 hs; exact HBD.out r hr) b0)
        have HBL := Lib.hid (baseS_len (R.map ShR.sh) (heavy l))
        have HBA := Lib.hid (baseS_at (R.map ShR.sh) (heavy l))
        have HTB := Lib.hid (totC_base (R.map ShR.sh) (heavy l))
        obtain ⟨h, hh⟩ : ∃ h, heavy l = h := ⟨_, rfl⟩
        have HHH := Lib.hid hh
        rw [hh] at hpos HWH htr hz HKS HBC HBL HBA HTB HO hhl ⊢
        clear hh hh0
        obtain ⟨n, hn⟩ : ∃ n, h.length = n := ⟨_, rfl⟩
        have HN := Lib.hid hn
        rw [hn] at hpos htr hz HKS HBL hhl ⊢
        clear hn
        go_upto_region 14 with fail
        go_cut [7] (fun sm wx => sm = .bool (knowsB (R.map ShR.sh) h) ∧ wr = wx)
        case first =>
          by_cases hsm : smB R h = true
          · rw [hsm] at HKS ⊢
            clear hsm
            by_cases hln : n = R.length
            · have HK2 := Lib.hid (show knowsB (R.map ShR.sh) h = true from HKS.out.trans (by simp [hln]))
              have hlI : ((n : Int) == (R.length : Int)) = true := by simp; omega
              clear hln HKS
              go_wp2_with fail
              go_meet
              exact ⟨by rw [HK2.out], rfl⟩
            · have HK2 := Lib.hid (show knowsB (R.map ShR.sh) h = false from HKS.out.trans (by simp [hln]))
              have hlI : ((n : Int) == (R.length : Int)) = false := by simp; omega
              clear hln HKS
              go_wp2_with fail
              go_meet
              exact ⟨by rw [HK2.out], rfl⟩
          · have hsm' : smB R h = false := by simpa using hsm
            rw [hsm'] at HKS ⊢
            have HK2 := Lib.hid (show knowsB (R.map ShR.sh) h = false from HKS.out.trans (by simp))
            clear hsm hsm' HKS
            go_wp2_with fail
            go_meet
            exact ⟨by rw [HK2.out], rfl⟩
        case rest =>
          obtain ⟨rfl, rfl⟩ := hcut
          obtain ⟨S0, hS0⟩ : ∃ S0, baseS (R.map ShR.sh) h = S0 := ⟨_, rfl⟩
          have HS0 := Lib.hid hS0
          rw [hS0] at HBC HBL HTB
          have HSW := Lib.hid (show ∀ i (hi : i < S0.length), S0[i].weight = (h[i]'(by rw [HN.out, ← HBL.out]; exact hi)).weight from fun i hi => by
            subst hS0; exact (HBA.out i hi (by rw [HN.out, ← HBL.out]; exact hi)).1)
          obtain ⟨kn, hkn⟩ : ∃ kn, knowsB (R.map ShR.sh) h = kn := ⟨_, rfl⟩
          have HKN := Lib.hid hkn
          have HCR := Lib.hid (show ∀ i (hi : i < S0.length), (kn = false → S0[i].credit = 0) ∧ (kn = true → ∃ (hR : i < R.length), S0[i].credit = R[i].owed) from fun i hi => by
            subst hS0 hkn
            refine ⟨fun e => ?_, fun e => ?_⟩
            · have e2 : baseS (R.map ShR.sh) h = freshS h := by unfold baseS; rw [if_neg (by rw [e]; simp)]
              simp only [e2]
              simp [freshS]
            · have e2 : baseS (R.map ShR.sh) h = R.map ShR.sh := by unfold baseS; rw [if_pos e]
              refine ⟨by rw [e2] at hi; simpa using hi, ?_⟩
              simp only [e2]
              simp [ShR.sh])
          rw [hkn]
          obtain ⟨f, hf⟩ : ∃ f, crd (S0.map addS) = f := ⟨_, rfl⟩
          have HF := Lib.hid hf
          clear hS0 hkn hf HBA HKS
          go_wp2_with fail
          go_loopw [11, 12] (fun bb i wx => ∃ k : Nat, k ≤ n ∧ i = .int .i64 (k : Int) ∧ bb = .int .i64 (bestTo f k : Int) ∧ Hid (RowN wx w.heap.size 63 5 (.slice hA n hcap) ((rowR h (gk f k)).map ShR.cs)) ∧ Hid (Below w.heap.size w wx)) (fun _ i _ => n - (intOf i).toNat)
          case atStart => exact ⟨0, by omega, rfl, rfl, Lib.hid (by rw [gk_zero]; have ho := HO.out; rw [HN.out] at ho; exact ho), HB⟩
          case round =>
            clear HO HB
            obtain ⟨k, hkn, rfl, rfl, HO, HB⟩ := hrel
            have hsw := HB.out.size
            by_cases hk : k < n
            · have hkS : k < S0.length := by rw [HBL.out]; exact hk
              have hkH : k < h.length := by rw [HN.out]; exact hk
              have hkI : (k : Int) < (n : Int) := by omega
              have hk0 : (0 : Int) ≤ (k : Int) := by omega
              have hbl : bestTo f k ≤ k := bestTo_le f k
              have hwt := HWH.out h[k] (List.getElem_mem _)
              have hcr := HBC.out S0[k] (List.getElem_mem _)
              have hck := HCR.out k hkS
              have HFK := Lib.hid (show f k = S0[k].credit + h[k].weight by rw [← HF.out, crd_at _ _ (by simpa using hkS), ← HSW.out k hkS]; simp [addS])
              obtain ⟨g, cg, ev, -, hgb, hel⟩ := HO.out.at (i := 0) (by simp [rowR_len, HN.out]; omega)
              obtain ⟨rfl, rfl⟩ : hA = some ⟨g, 0, none⟩ ∧ hcap = cg := by injection ev with e1 e2 e3; exact ⟨e1, e3⟩
              obtain ⟨-, -, s2, -, -⟩ := sr_cells hel (k := k) (by rw [rowR_len]; exact hkH)
              rw [rowR_at h _ k hkH] at s2
              simp only [Nat.zero_add] at s2
              have fz := HO.out.frozen (g := g) rfl (k * 5 + 4)
              have HWK := Lib.hid (show ∃ x, h[k].weight = x from ⟨_, rfl⟩)
              obtain ⟨cr, ecr⟩ : ∃ x, S0[k].credit = x := ⟨_, rfl⟩
              rw [ecr] at hcr HFK hck
              obtain ⟨wt, ewt⟩ : ∃ x, h[k].weight = x := ⟨_, rfl⟩
              rw [ewt] at hwt HFK s2
              have HWTK := Lib.hid ewt
              have s4 : wr.cell? ⟨g, k * 5 + 4, none⟩ = some (.int .i64 0) := by
                obtain ⟨-, -, -, -, x4⟩ := sr_cells hel (k := k) (by rw [rowR_len]; exact hkH)
                rw [rowR_at h _ k hkH] at x4
                simpa [gk] using x4
              clear hel ev ecr ewt HWK
              go_upto_if 95 with fail
              go_cut [12] (fun i wx => i = .int .i64 (k : Int) ∧ Hid (RowN wx w.heap.size 63 5 (.slice (some ⟨g, 0, none⟩) n hcap) ((rowR h (updR (gk f k) k cr)).map ShR.cs)) ∧ Hid (Below w.heap.size w wx))
              case first =>
                cases kn with
                | false =>
                  have HC0 := Lib.hid (hck.1 rfl)
                  clear hck
                  go_wp2_with fail
                  go_meet
                  exact ⟨rfl, Lib.hid (by rw [HC0.out, ← gk_same]; exact HO.out), HB⟩
                | true =>
                  obtain ⟨hkR, hcR⟩ := hck.2 rfl
                  have HC0 := Lib.hid hcR
                  obtain ⟨wb, wo, hwb, rfl, hwel⟩ := HWS.out.at (k := k) (by simpa using hkR)
                  obtain ⟨-, -, -, -, d4⟩ := sr_cells (hwel.keep (w' := wr) (fun o => HB.out.cell (p := ⟨wb, o, none⟩) hwb)) hkR
                  rw [← hcR] at d4
                  have hkRI : (k : Int) < (R.length : Int) := by omega
                  have wblt : wb < wr.heap.size := by omega
                  clear hck hwel hcR
                  go_wp2_with fail
                  go_meet
                  refine ⟨rfl, Lib.hid ?_, Lib.hid (HB.out.setCell (by have := (HO.out.lt g rfl).1; simpa using this) _)⟩
                  have hr := HO.out.set (g := g) rfl k (by simp [rowR_len]; exact hkH) 4 (by omega) (.int .i64 cr)
                  rw [rowR_set h _ k hkH] at hr
                  exact hr
              case rest =>
                obtain ⟨rfl, HO2, HB2⟩ := hcut
                have hsc := HB2.out.size
                clear s2 s4 fz HO HB hck hgb
                obtain ⟨g', cg', ev, -, hgb, hel⟩ := HO2.out.at (i := 0) (by simp [rowR_len, HN.out]; omega)
                obtain rfl : g = g' := by injection ev with ev; injection ev with ev; injection ev
                obtain ⟨-, -, s2, -, s4⟩ := sr_cells hel (k := k) (by rw [rowR_len]; exact hkH)
                rw [rowR_at h _ k hkH] at s2 s4
                simp only [Nat.zero_add] at s2 s4
                rw [HWTK.out] at s2
                rw [show updR (gk f k) k cr k = cr by simp [updR]] at s4
                have fz := HO2.out.frozen (g := g) rfl (k * 5 + 4)
                clear hel ev
                go_wp2_with fail
                refine wp_region_kept 16 [] ?st ?ne rfl (by kernel_rfl) (by kernel_rfl) ?_
                case st => intro p hp; cases hp
                case ne => intro p hp; cases hp
                simp only [List.take_succ_cons, List.take_zero, List.drop_succ_cons, List.drop_zero]
                intro G pick hR hp1 hp2
                have q1 : ∀ u, (pick u).cell? ⟨g, k * 5 + 4, none⟩ = some (.int .i64 cr) := fun u => ((hp1 u).cell hgb (fun h => h) _).trans s4
                have q2 : ∀ u, (pick u).cell? ⟨g, k * 5 + 2, none⟩ = some (.int .i64 wt) := fun u => ((hp1 u).cell hgb (fun h => h) _).trans s2
                repeat (first | (refine wpR_det hp2 rfl ((hR.rel _).trans rfl) rfl ?_; intro K hK; go_big_quiet_op; go_big_quiet_on) | (refine wpR_ptr hp2 rfl ((hR.rel _).trans rfl) rfl rfl ?_; intro K hK; go_big_quiet_op; go_big_quiet_on) | (refine wpR_skip pick rfl ?_; intro K hK; go_big_quiet_op; go_big_quiet_on))
                refine wpR_nil ?_
                intro wX hk2 hF hM
                have c3 := (hk2.cell hgb (fun h => h) (k * 5 + 4)).trans s4
                have f3 := (hk2.frozen hgb (fun h => h) (k * 5 + 4)).trans fz
                have hgb2 : g < wX.heap.size := by have := hk2.size; omega
                have hsX : w.heap.size ≤ wX.heap.size := by have := hk2.size; omega
                have HBX := Lib.hid (HB2.out.trans (hk2.below (by omega) (fun _ h => h.elim)))
                have HOX := Lib.hid (HO2.out.kept hk2 (fun _ _ h => h))
                clear hF hM hk2 hp1 hp2 hR q1 q2 HO2 HB2 s2 s4 fz
                go_upto_region 22 with fail
                obtain ⟨w4, hw4⟩ : ∃ w4 : World, w4 = wX.setCell ⟨g, k * 5 + 4, none⟩ (.int .i64 (cr + wt)) := ⟨_, rfl⟩
                have HO4 := Lib.hid (show RowN w4 w.heap.size 63 5 (.slice (some ⟨g, 0, none⟩) n hcap) ((rowR h (gk f (k + 1))).map ShR.cs) by
                  have hr := HOX.out.set (g := g) rfl k (by simp [rowR_len]; exact hkH) 4 (by omega) (.int .i64 (cr + wt))
                  rw [rowR_set h _ k hkH, gk_step h f k cr (cr + wt) HFK.out] at hr
                  rw [hw4]; exact hr)
                have HB4 := Lib.hid (show Below w.heap.size w w4 by rw [hw4]; exact HBX.out.setCell (by have := (HOX.out.lt g rfl).1; simpa using this) _)
                have hgb4 := (HO4.out.lt g rfl).2
                have hs4 := HB4.out.size
                have s3 : w4.cell? ⟨g, k * 5 + 4, none⟩ = some (.int .i64 (cr + wt)) := by rw [hw4]; exact World.cell?_setCell_same _ _ _ c3
                have s4 : w4.cell? ⟨g, bestTo f k * 5 + 4, none⟩ = some (.int .i64 (f (bestTo f k))) := by
                  obtain ⟨g', cg', ev, -, -, hel⟩ := HO4.out.at (i := 0) (by simp [rowR_len, HN.out]; omega)
                  obtain rfl : g = g' := by injection ev with ev; injection ev with ev; injection ev
                  obtain ⟨-, -, -, -, x4⟩ := sr_cells hel (k := bestTo f k) (by rw [rowR_len]; omega)
                  rw [rowR_at h _ _ (by omega), Nat.zero_add] at x4
                  rw [x4]
                  simp only [gk]
                  rw [if_pos (by omega)]
                rw [← hw4]
                clear hw4 c3 f3 hgb2 HOX HBX
                have HBT := Lib.hid (show bestTo f (k + 1) = if f (bestTo f k) < f k then k else bestTo f k from rfl)
                rw [HFK.out] at HBT
                have hBI : (bestTo f k : Int) < (n : Int) := by omega
                have hB0 : (0 : Int) ≤ (bestTo f k : Int) := by omega
                obtain ⟨B, hB⟩ : ∃ B, bestTo f k = B := ⟨_, rfl⟩
                rw [hB] at s4 HBT hbl hBI hB0 ⊢
                obtain ⟨bc, hbc⟩ : ∃ x, f B = x := ⟨_, rfl⟩
                rw [hbc] at s4 HBT
                clear hB hbc
                by_cases hgt : bc < cr + wt
                · have HBT2 := Lib.hid (HBT.out.trans (by rw [if_pos hgt]))
                  refine wp_region_kept 11 [] ?st ?ne rfl (by kernel_rfl) (by kernel_rfl) ?_
                  case st => intro p hp; cases hp
                  case ne => intro p hp; cases hp
                  simp only [List.take_succ_cons, List.take_zero, List.drop_succ_cons, List.drop_zero]
                  intro G pick hR hp1 hp2
                  have q1 : ∀ u, (pick u).cell? ⟨g, k * 5 + 4, none⟩ = some (.int .i64 (cr + wt)) := fun u => ((hp1 u).cell hgb4 (fun h => h) _).trans s3
                  have q2 : ∀ u, (pick u).cell? ⟨g, B * 5 + 4, none⟩ = some (.int .i64 bc) := fun u => ((hp1 u).cell hgb4 (fun h => h) _).trans s4
                  repeat (first | (refine wpR_det hp2 rfl ((hR.rel _).trans rfl) rfl ?_; intro K hK; go_big_quiet_op; go_big_quiet_on) | (refine wpR_ptr hp2 rfl ((hR.rel _).trans rfl) rfl rfl ?_; intro K hK; go_big_quiet_op; go_big_quiet_on) | (refine wpR_skip pick rfl ?_; intro K hK; go_big_quiet_op; go_big_quiet_on))
                  refine wpR_nil ?_
                  intro wX2 hk2 hF hM
                  have HBX := Lib.hid (HB4.out.trans (hk2.below (by omega) (fun _ h => h.elim)))
                  have HOX := Lib.hid (HO4.out.kept hk2 (fun _ _ h => h))
                  clear hF hM hk2 hp1 hp2 hR q1 q2 HO4 HB4 s3 s4
                  go_wp2_with fail
                  go_roundw
                  case rel => exact ⟨k + 1, by omega, by go_num, by rw [HBT2.out], HOX, HBX⟩
                  case measure => simp [intOf]; omega
                · have HBT2 := Lib.hid (HBT.out.trans (by rw [if_neg hgt]))
                  refine wp_region_kept 11 [] ?st ?ne rfl (by kernel_rfl) (by kernel_rfl) ?_
                  case st => intro p hp; cases hp
                  case ne => intro p hp; cases hp
                  simp only [List.take_succ_cons, List.take_zero, List.drop_succ_cons, List.drop_zero]
                  intro G pick hR hp1 hp2
                  have q1 : ∀ u, (pick u).cell? ⟨g, k * 5 + 4, none⟩ = some (.int .i64 (cr + wt)) := fun u => ((hp1 u).cell hgb4 (fun h => h) _).trans s3
                  have q2 : ∀ u, (pick u).cell? ⟨g, B * 5 + 4, none⟩ = some (.int .i64 bc) := fun u => ((hp1 u).cell hgb4 (fun h => h) _).trans s4
                  repeat (first | (refine wpR_det hp2 rfl ((hR.rel _).trans rfl) rfl ?_; intro K hK; go_big_quiet_op; go_big_quiet_on) | (refine wpR_ptr hp2 rfl ((hR.rel _).trans rfl) rfl rfl ?_; intro K hK; go_big_quiet_op; go_big_quiet_on) | (refine wpR_skip pick rfl ?_; intro K hK; go_big_quiet_op; go_big_quiet_on))
                  refine wpR_nil ?_
                  intro wX2 hk2 hF hM
                  have HBX := Lib.hid (HB4.out.trans (hk2.below (by omega) (fun _ h => h.elim)))
                  have HOX := Lib.hid (HO4.out.kept hk2 (fun _ _ h => h))
                  clear hF hM hk2 hp1 hp2 hR q1 q2 HO4 HB4 s3 s4
                  go_wp2_with fail
                  go_roundw
                  case rel => exact ⟨k + 1, by omega, by go_num, by rw [HBT2.out], HOX, HBX⟩
                  case measure => simp [intOf]; omega
            · obtain rfl : k = n := by omega
              have hblt : bestTo f k < k := bestTo_lt f k hpos
              have HSB := Lib.hid (show stepB S0 = bestTo f k by unfold stepB; rw [HF.out, HBL.out])
              obtain ⟨g, cg, ev, -, hgb, hel⟩ := HO.out.at (i := 0) (by simp [rowR_len, HN.out]; omega)
              obtain ⟨rfl, rfl⟩ : hA = some ⟨g, 0, none⟩ ∧ hcap = cg := by injection ev with e1 e2 e3; exact ⟨e1, e3⟩
              obtain ⟨-, -, -, -, x4⟩ := sr_cells hel (k := bestTo f k) (by rw [rowR_len, HN.out]; exact hblt)
              rw [rowR_at h _ _ (by rw [HN.out]; exact hblt), Nat.zero_add, show gk f k (bestTo f k) = f (bestTo f k) by simp [gk, hblt]] at x4
              simp only at x4
              have fz := HO.out.frozen (g := g) rfl (bestTo f k * 5 + 4)
              have hfb : -1000001000 ≤ f (bestTo f k) ∧ f (bestTo f k) ≤ 1000001000 := by
                have hlS : bestTo f k < S0.length := by rw [HBL.out]; exact hblt
                have h1 := HBC.out _ (List.getElem_mem hlS)
                have h2 := HWH.out _ (List.getElem_mem (show bestTo f k < h.length by rw [HN.out]; exact hblt))
                have h3 := HSW.out _ hlS
                have e : f (bestTo f k) = (S0[bestTo f k]'hlS).credit + (S0[bestTo f k]'hlS).weight := by
                  conv => lhs; rw [← HF.out]
                  rw [crd_at _ _ (by simp; rw [HF.out]; exact hlS)]
                  simp only [HF.out]
                  simp [addS]
                rw [e, h3]; omega
              have HFIN := Lib.hid (show RowN (wr.setCell ⟨g, bestTo f k * 5 + 4, none⟩ (.int .i64 (f (bestTo f k) - totC h))) w.heap.size 63 5 (.slice (some ⟨g, 0, none⟩) k hcap) ((rowR h (crd (stepS S0))).map ShR.cs) by
                have hr := HO.out.set (g := g) rfl (bestTo f k) (by simp [rowR_len, HN.out]; exact hblt) 4 (by omega) (.int .i64 (f (bestTo f k) - totC h))
                rw [rowR_set h _ _ (by rw [HN.out]; exact hblt)] at hr
                have e := gk_end S0 h k (bestTo f k) (totC h) HN.out HBL.out HSB.out HTB.out
                rw [HF.out] at e
                rw [e] at hr
                exact hr)
              have HBF := Lib.hid (show Below w.heap.size w (wr.setCell ⟨g, bestTo f k * 5 + 4, none⟩ (.int .i64 (f (bestTo f k) - totC h))) from HB.out.setCell (by have := (HO.out.lt g rfl).1; simpa using this) _)
              have hBI : (bestTo f k : Int) < (k : Int) := by omega
              obtain ⟨B, hB⟩ : ∃ B, bestTo f k = B := ⟨_, rfl⟩
              rw [hB] at x4 fz hfb HFIN HBF hBI HSB ⊢
              obtain ⟨bc, hbc⟩ : ∃ y, f B = y := ⟨_, rfl⟩
              rw [hbc] at x4 hfb HFIN HBF
              generalize totC h = T at *
              clear hB hbc hel ev hblt
              go_wp2_with fail
              go_ret2
              exact .inr ⟨HNE.out, _, by rw [HHH.out, HS0.out, HSB.out]; rfl, by rw [HHH.out, HS0.out]; exact HFIN.out, HBF.out⟩
end Go.Proofs.Ytpakfepjfcpjkaa
