/- The law's same: alike packets? -/
import Derived.Test.YtohimionlgaaoaaG
namespace Go.Proofs.Ytohimionlgaaoaa
open Go.RowKit
set_option linter.unusedVariables false
theorem PkV.get {w : World} {b off : Nat} {L : List PkV} (h : ElAt w b off 4 (L.map PkV.cs)) {k : Nat} (hk : k < L.length) :
    w.cell? ⟨b, off + k * 4, none⟩ = some (.int .u32 L[k].pk.se) ∧ w.cell? ⟨b, off + k * 4 + 1, none⟩ = some (.int .u32 L[k].pk.pa) ∧ w.cell? ⟨b, off + k * 4 + 2, none⟩ = some (.int .u32 L[k].pk.pl) ∧ w.cell? ⟨b, off + k * 4 + 3, none⟩ = some (.slice L[k].DA L[k].pk.dl.length L[k].dc) := by
  have h0 := h.get (k := k) (by simpa using hk) 0 (by omega)
  have h1 := h.get (k := k) (by simpa using hk) 1 (by omega)
  have h2 := h.get (k := k) (by simpa using hk) 2 (by omega)
  have h3 := h.get (k := k) (by simpa using hk) 3 (by omega)
  simp [PkV.cs] at h0 h1 h2 h3
  exact ⟨h0, h1, h2, h3⟩
theorem take_eq_snoc {α : Type} {l m : List α} {k : Nat} (h : l.take k = m.take k) (hk : k < l.length) (hm : k < m.length) (e : l[k] = m[k]) : l.take (k + 1) = m.take (k + 1) := by
  rw [List.take_succ_eq_append_getElem hk, List.take_succ_eq_append_getElem hm, h, e]
set_option maxRecDepth 10000 in
set_option maxHeartbeats 16000000 in
theorem samePk_any (A C : Option Addr) (a c : Nat) (L M : List PkV) (w : World) (hl : L.length ≤ 100000) (hm : M.length ≤ 100000) (hA : ES w w.heap.size A 4 (L.map PkV.cs)) (hC : ES w w.heap.size C 4 (M.map PkV.cs)) (hX : ∀ p ∈ L, BS w w.heap.size p.DA p.pk.dl) (hY : ∀ p ∈ M, BS w w.heap.size p.DA p.pk.dl) :
    Calls Try.prog 18 #[.slice A L.length a, .slice C M.length c] w fun e w' => e = .returned (.bool (decide (L.map (·.pk) = M.map (·.pk)))) ∧ Kept (fun _ => False) w w' := by
  have HA := Lib.hid hA
  have HC := Lib.hid hC
  have HX := Lib.hid hX
  have HY := Lib.hid hY
  clear hA hC hX hY
  go_enter Try.func18, Try.ntmps18
  go_wp2_with fail
  go_loopw [5] (fun i wr => ∃ k : Nat, k ≤ L.length ∧ k ≤ M.length ∧ i = .int .i64 (k : Int) ∧ Hid ((L.map (·.pk)).take k = (M.map (·.pk)).take k) ∧ Hid (Kept (fun _ => False) w wr)) (fun i _ => L.length - (intOf i).toNat)
  case atStart => exact ⟨0, by omega, by omega, rfl, Lib.hid (by simp), Lib.hid (Kept.refl _ _)⟩
  case round =>
    obtain ⟨k, hk, hk', rfl, HT, HK⟩ := hrel
    have k0 : (0 : Int) ≤ (k : Int) := Int.natCast_nonneg _
    have k9 : (k : Int) ≤ 100000 := by omega
    by_cases hlt : k < L.length ∧ k < M.length
    · obtain ⟨h1, h2⟩ := hlt
      have i1 : (k : Int) < (L.length : Int) := by omega
      have i2 : (k : Int) < (M.length : Int) := by omega
      obtain ⟨b, off, hb, rfl, he⟩ := HA.out.at (k := k) (by simpa using h1)
      obtain ⟨b', off', hb', rfl, he'⟩ := HC.out.at (k := k) (by simpa using h2)
      have lb : b < wr.heap.size := Nat.lt_of_lt_of_le hb HK.out.size
      have lb' : b' < wr.heap.size := Nat.lt_of_lt_of_le hb' HK.out.size
      obtain ⟨c0, c1, c2, c3⟩ := PkV.get (he.keep (fun o => HK.out.cell hb (fun h => h) o)) h1
      obtain ⟨d0, d1, d2, d3⟩ := PkV.get (he'.keep (fun o => HK.out.cell hb' (fun h => h) o)) h2
      have hdx := HX.out L[k] (List.getElem_mem h1)
      have hdy := HY.out M[k] (List.getElem_mem h2)
      have HNE := Lib.hid (show L.map (·.pk) = M.map (·.pk) → L[k].pk = M[k].pk from fun h => by
        have e1 : (L.map (·.pk))[k]'(by simpa using h1) = L[k].pk := by simp
        have e2 : (M.map (·.pk))[k]'(by simpa using h2) = M[k].pk := by simp
        rw [← e1, ← e2]; congr 1)
      have HST := Lib.hid (fun h : L[k].pk = M[k].pk => take_eq_snoc (l := L.map (·.pk)) (m := M.map (·.pk)) HT.out (by simpa using h1) (by simpa using h2) (by simpa using h))
      clear he he' hb hb'
      generalize L[k] = p at c0 c1 c2 c3 hdx HNE HST
      generalize M[k] = q at d0 d1 d2 d3 hdy HNE HST
      obtain ⟨⟨se, pa, pl, dl⟩, DA, dc⟩ := p
      obtain ⟨⟨se2, pa2, pl2, dm⟩, DB, dd⟩ := q
      have HDX := Lib.hid (show BS w w.heap.size DA dl from hdx)
      have HDY := Lib.hid (show BS w w.heap.size DB dm from hdy)
      clear hdx hdy
      rcases Classical.em (¬ se = se2) with hd | hd
      · have HNO := Lib.hid (show ¬ L.map (·.pk) = M.map (·.pk) from fun h => hd (by have := HNE.out h; injection this))
        have hb : (se != se2) = true := by simpa using hd
        clear hd
        go_wp2_with fail
        refine wp_region_kept 52 [] ?st ?ne rfl (by kernel_rfl) (by kernel_rfl) ?_
        case st => intro p hp; cases hp
        case ne => intro p hp; cases hp
        simp only [List.take_succ_cons, List.take_zero, List.drop_succ_cons, List.drop_zero]
        intro G pick hR hp1 hp2
        have r0 : ∀ u, (pick u).cell? ⟨b, off + k * 4, none⟩ = some (.int .u32 se) := fun u => ((hp1 u).cell lb (fun h => h) _).trans c0
        have r1 : ∀ u, (pick u).cell? ⟨b, off + k * 4 + 1, none⟩ = some (.int .u32 pa) := fun u => ((hp1 u).cell lb (fun h => h) _).trans c1
        have r2 : ∀ u, (pick u).cell? ⟨b, off + k * 4 + 2, none⟩ = some (.int .u32 pl) := fun u => ((hp1 u).cell lb (fun h => h) _).trans c2
        have r3 : ∀ u, (pick u).cell? ⟨b, off + k * 4 + 3, none⟩ = some (.slice DA dl.length dc) := fun u => ((hp1 u).cell lb (fun h => h) _).trans c3
        have s0 : ∀ u, (pick u).cell? ⟨b', off' + k * 4, none⟩ = some (.int .u32 se2) := fun u => ((hp1 u).cell lb' (fun h => h) _).trans d0
        have s1 : ∀ u, (pick u).cell? ⟨b', off' + k * 4 + 1, none⟩ = some (.int .u32 pa2) := fun u => ((hp1 u).cell lb' (fun h => h) _).trans d1
        have s2 : ∀ u, (pick u).cell? ⟨b', off' + k * 4 + 2, none⟩ = some (.int .u32 pl2) := fun u => ((hp1 u).cell lb' (fun h => h) _).trans d2
        have s3 : ∀ u, (pick u).cell? ⟨b', off' + k * 4 + 3, none⟩ = some (.slice DB dm.length dd) := fun u => ((hp1 u).cell lb' (fun h => h) _).trans d3
        repeat (first | (refine wpR_det hp2 rfl ((hR.rel _).trans rfl) rfl ?_; intro K hK; go_big_quiet_op; go_big_quiet_on) | (refine wpR_ptr hp2 rfl ((hR.rel _).trans rfl) rfl rfl ?_; intro K hK; go_big_quiet_op; go_big_quiet_on) | (refine wpR_skip pick rfl ?_; intro K hK; go_big_quiet_op; go_big_quiet_on))
        refine wpR_nil ?_
        intro w2 hk2 hF hM
        have HK2 := Lib.hid (HK.out.trans hk2)
        clear hF hM hk2 hp1 hp2 hR r0 r1 r2 r3 s0 s1 s2 s3 c0 c1 c2 c3 d0 d1 d2 d3
        go_wp2_with fail
        go_ret
        exact ⟨congrArg (fun z => Ending.returned (.bool z)) (decide_eq_false HNO.out).symm, HK2.out⟩
      replace hd := Classical.not_not.1 hd
      subst hd
      rcases Classical.em (¬ pa = pa2) with hd | hd
      · have HNO := Lib.hid (show ¬ L.map (·.pk) = M.map (·.pk) from fun h => hd (by have := HNE.out h; injection this))
        have hb : (pa != pa2) = true := by simpa using hd
        clear hd
        go_wp2_with fail
        refine wp_region_kept 52 [] ?st ?ne rfl (by kernel_rfl) (by kernel_rfl) ?_
        case st => intro p hp; cases hp
        case ne => intro p hp; cases hp
        simp only [List.take_succ_cons, List.take_zero, List.drop_succ_cons, List.drop_zero]
        intro G pick hR hp1 hp2
        have r0 : ∀ u, (pick u).cell? ⟨b, off + k * 4, none⟩ = some (.int .u32 se) := fun u => ((hp1 u).cell lb (fun h => h) _).trans c0
        have r1 : ∀ u, (pick u).cell? ⟨b, off + k * 4 + 1, none⟩ = some (.int .u32 pa) := fun u => ((hp1 u).cell lb (fun h => h) _).trans c1
        have r2 : ∀ u, (pick u).cell? ⟨b, off + k * 4 + 2, none⟩ = some (.int .u32 pl) := fun u => ((hp1 u).cell lb (fun h => h) _).trans c2
        have r3 : ∀ u, (pick u).cell? ⟨b, off + k * 4 + 3, none⟩ = some (.slice DA dl.length dc) := fun u => ((hp1 u).cell lb (fun h => h) _).trans c3
        have s0 : ∀ u, (pick u).cell? ⟨b', off' + k * 4, none⟩ = some (.int .u32 se) := fun u => ((hp1 u).cell lb' (fun h => h) _).trans d0
        have s1 : ∀ u, (pick u).cell? ⟨b', off' + k * 4 + 1, none⟩ = some (.int .u32 pa2) := fun u => ((hp1 u).cell lb' (fun h => h) _).trans d1
        have s2 : ∀ u, (pick u).cell? ⟨b', off' + k * 4 + 2, none⟩ = some (.int .u32 pl2) := fun u => ((hp1 u).cell lb' (fun h => h) _).trans d2
        have s3 : ∀ u, (pick u).cell? ⟨b', off' + k * 4 + 3, none⟩ = some (.slice DB dm.length dd) := fun u => ((hp1 u).cell lb' (fun h => h) _).trans d3
        repeat (first | (refine wpR_det hp2 rfl ((hR.rel _).trans rfl) rfl ?_; intro K hK; go_big_quiet_op; go_big_quiet_on) | (refine wpR_ptr hp2 rfl ((hR.rel _).trans rfl) rfl rfl ?_; intro K hK; go_big_quiet_op; go_big_quiet_on) | (refine wpR_skip pick rfl ?_; intro K hK; go_big_quiet_op; go_big_quiet_on))
        refine wpR_nil ?_
        intro w2 hk2 hF hM
        have HK2 := Lib.hid (HK.out.trans hk2)
        clear hF hM hk2 hp1 hp2 hR r0 r1 r2 r3 s0 s1 s2 s3 c0 c1 c2 c3 d0 d1 d2 d3
        go_wp2_with fail
        go_ret
        exact ⟨congrArg (fun z => Ending.returned (.bool z)) (decide_eq_false HNO.out).symm, HK2.out⟩
      replace hd := Classical.not_not.1 hd
      subst hd
      rcases Classical.em (¬ pl = pl2) with hd | hd
      · have HNO := Lib.hid (show ¬ L.map (·.pk) = M.map (·.pk) from fun h => hd (by have := HNE.out h; injection this))
        have hb : (pl != pl2) = true := by simpa using hd
        clear hd
        go_wp2_with fail
        refine wp_region_kept 52 [] ?st ?ne rfl (by kernel_rfl) (by kernel_rfl) ?_
        case st => intro p hp; cases hp
        case ne => intro p hp; cases hp
        simp only [List.take_succ_cons, List.take_zero, List.drop_succ_cons, List.drop_zero]
        intro G pick hR hp1 hp2
        have r0 : ∀ u, (pick u).cell? ⟨b, off + k * 4, none⟩ = some (.int .u32 se) := fun u => ((hp1 u).cell lb (fun h => h) _).trans c0
        have r1 : ∀ u, (pick u).cell? ⟨b, off + k * 4 + 1, none⟩ = some (.int .u32 pa) := fun u => ((hp1 u).cell lb (fun h => h) _).trans c1
        have r2 : ∀ u, (pick u).cell? ⟨b, off + k * 4 + 2, none⟩ = some (.int .u32 pl) := fun u => ((hp1 u).cell lb (fun h => h) _).trans c2
        have r3 : ∀ u, (pick u).cell? ⟨b, off + k * 4 + 3, none⟩ = some (.slice DA dl.length dc) := fun u => ((hp1 u).cell lb (fun h => h) _).trans c3
        have s0 : ∀ u, (pick u).cell? ⟨b', off' + k * 4, none⟩ = some (.int .u32 se) := fun u => ((hp1 u).cell lb' (fun h => h) _).trans d0
        have s1 : ∀ u, (pick u).cell? ⟨b', off' + k * 4 + 1, none⟩ = some (.int .u32 pa) := fun u => ((hp1 u).cell lb' (fun h => h) _).trans d1
        have s2 : ∀ u, (pick u).cell? ⟨b', off' + k * 4 + 2, none⟩ = some (.int .u32 pl2) := fun u => ((hp1 u).cell lb' (fun h => h) _).trans d2
        have s3 : ∀ u, (pick u).cell? ⟨b', off' + k * 4 + 3, none⟩ = some (.slice DB dm.length dd) := fun u => ((hp1 u).cell lb' (fun h => h) _).trans d3
        repeat (first | (refine wpR_det hp2 rfl ((hR.rel _).trans rfl) rfl ?_; intro K hK; go_big_quiet_op; go_big_quiet_on) | (refine wpR_ptr hp2 rfl ((hR.rel _).trans rfl) rfl rfl ?_; intro K hK; go_big_quiet_op; go_big_quiet_on) | (refine wpR_skip pick rfl ?_; intro K hK; go_big_quiet_op; go_big_quiet_on))
        refine wpR_nil ?_
        intro w2 hk2 hF hM
        have HK2 := Lib.hid (HK.out.trans hk2)
        clear hF hM hk2 hp1 hp2 hR r0 r1 r2 r3 s0 s1 s2 s3 c0 c1 c2 c3 d0 d1 d2 d3
        go_wp2_with fail
        go_ret
        exact ⟨congrArg (fun z => Ending.returned (.bool z)) (decide_eq_false HNO.out).symm, HK2.out⟩
      replace hd := Classical.not_not.1 hd
      subst hd
      go_wp2_with fail
      refine wp_region_kept 52 [(43, fun v u => v = .string ⟨dl.toArray⟩), (49, fun v u => v = .string ⟨dm.toArray⟩)] ?st ?ne rfl (by kernel_rfl) (by kernel_rfl) ?_
      case st =>
        intro p hp
        simp only [List.mem_cons, List.not_mem_nil, or_false] at hp
        rcases hp with rfl | rfl
        · intro v u u' h hk; exact h
        · intro v u u' h hk; exact h
      case ne =>
        intro p hp
        simp only [List.mem_cons, List.not_mem_nil, or_false] at hp
        rcases hp with rfl | rfl
        · exact ⟨_, _, Kept.refl _ _, rfl⟩
        · exact ⟨_, _, Kept.refl _ _, rfl⟩
      simp only [List.take_succ_cons, List.take_zero, List.drop_succ_cons, List.drop_zero]
      intro G pick hR hp1 hp2
      have r0 : ∀ u, (pick u).cell? ⟨b, off + k * 4, none⟩ = some (.int .u32 se) := fun u => ((hp1 u).cell lb (fun h => h) _).trans c0
      have r1 : ∀ u, (pick u).cell? ⟨b, off + k * 4 + 1, none⟩ = some (.int .u32 pa) := fun u => ((hp1 u).cell lb (fun h => h) _).trans c1
      have r2 : ∀ u, (pick u).cell? ⟨b, off + k * 4 + 2, none⟩ = some (.int .u32 pl) := fun u => ((hp1 u).cell lb (fun h => h) _).trans c2
      have r3 : ∀ u, (pick u).cell? ⟨b, off + k * 4 + 3, none⟩ = some (.slice DA dl.length dc) := fun u => ((hp1 u).cell lb (fun h => h) _).trans c3
      have s0 : ∀ u, (pick u).cell? ⟨b', off' + k * 4, none⟩ = some (.int .u32 se) := fun u => ((hp1 u).cell lb' (fun h => h) _).trans d0
      have s1 : ∀ u, (pick u).cell? ⟨b', off' + k * 4 + 1, none⟩ = some (.int .u32 pa) := fun u => ((hp1 u).cell lb' (fun h => h) _).trans d1
      have s2 : ∀ u, (pick u).cell? ⟨b', off' + k * 4 + 2, none⟩ = some (.int .u32 pl) := fun u => ((hp1 u).cell lb' (fun h => h) _).trans d2
      have s3 : ∀ u, (pick u).cell? ⟨b', off' + k * 4 + 3, none⟩ = some (.slice DB dm.length dd) := fun u => ((hp1 u).cell lb' (fun h => h) _).trans d3
      repeat (first | (refine wpR_det hp2 rfl ((hR.rel _).trans rfl) rfl ?_; intro K hK; go_big_quiet_op; go_big_quiet_on) | (refine wpR_ptr hp2 rfl ((hR.rel _).trans rfl) rfl rfl ?_; intro K hK; go_big_quiet_op; go_big_quiet_on) | (refine wpR_skip pick rfl ?_; intro K hK; go_big_quiet_op; go_big_quiet_on))
      refine wpR_rel pick rfl ((hR.rel _).trans rfl) ((hR.turns _).trans rfl) ?_ ?_
      · intro u hu
        have hk := hR.since hu.1
        have hks := hk.size
        have hB := HDX.out.on (HK.out.trans hk) (fun _ _ h => h)
        have hcv := hB.conv (P := Try.prog) (c := dc) Try.underlying25 Try.underlying5 Try.underlying9
        clear hB
        unfold relAt
        go_simp
        exact ⟨hR.into0 (Kept.refl _ _), hR.put 0 rfl rfl rfl⟩
      intro v hv
      obtain ⟨u, _, hu⟩ := hv
      obtain rfl := hR.get 0 rfl hu
      clear hu
      intro K hK
      go_big_quiet_op
      go_big_quiet_on
      repeat (first | (refine wpR_det hp2 rfl ((hR.rel _).trans rfl) rfl ?_; intro K hK; go_big_quiet_op; go_big_quiet_on) | (refine wpR_ptr hp2 rfl ((hR.rel _).trans rfl) rfl rfl ?_; intro K hK; go_big_quiet_op; go_big_quiet_on) | (refine wpR_skip pick rfl ?_; intro K hK; go_big_quiet_op; go_big_quiet_on))
      refine wpR_rel pick rfl ((hR.rel _).trans rfl) ((hR.turns _).trans rfl) ?_ ?_
      · intro u hu
        have hk := hR.since hu.1
        have hks := hk.size
        have hB := HDY.out.on (HK.out.trans hk) (fun _ _ h => h)
        have hcv := hB.conv (P := Try.prog) (c := dd) Try.underlying25 Try.underlying5 Try.underlying9
        clear hB
        unfold relAt
        go_simp
        exact ⟨hR.into0 (Kept.refl _ _), hR.put 1 rfl rfl rfl⟩
      intro v hv
      obtain ⟨u, _, hu⟩ := hv
      obtain rfl := hR.get 1 rfl hu
      clear hu
      intro K hK
      go_big_quiet_op
      go_big_quiet_on
      repeat (first | (refine wpR_det hp2 rfl ((hR.rel _).trans rfl) rfl ?_; intro K hK; go_big_quiet_op; go_big_quiet_on) | (refine wpR_ptr hp2 rfl ((hR.rel _).trans rfl) rfl rfl ?_; intro K hK; go_big_quiet_op; go_big_quiet_on) | (refine wpR_skip pick rfl ?_; intro K hK; go_big_quiet_op; go_big_quiet_on))
      refine wpR_nil ?_
      intro w2 hk2 hF hM
      have HK2 := Lib.hid (HK.out.trans hk2)
      clear hF hM hk2 hp1 hp2 hR r0 r1 r2 r3 s0 s1 s2 s3 c0 c1 c2 c3 d0 d1 d2 d3
      by_cases heq : dl = dm
      · have hb : (!(dl == dm)) = false := by rw [heq]; simp
        have HST2 := Lib.hid (HST.out (by rw [heq]))
        clear heq
        rw [hb]
        go_wp2_with fail
        go_roundw
        case rel => exact ⟨k + 1, by omega, by omega, by go_num, HST2, HK2⟩
        case measure => simp [intOf]; omega
      · have hb : (!(dl == dm)) = true := by rw [beq_eq_false_iff_ne.2 heq]; rfl
        have HNO := Lib.hid (show ¬ L.map (·.pk) = M.map (·.pk) from fun h => heq (by have := HNE.out h; injection this))
        clear heq
        rw [hb]
        go_wp2_with fail
        go_ret
        exact ⟨congrArg (fun z => Ending.returned (.bool z)) (decide_eq_false HNO.out).symm, HK2.out⟩
    · have HEQ := Lib.hid (show decide (L.map (·.pk) = M.map (·.pk)) = ((L.length : Int) == (M.length : Int)) from by
        by_cases h : L.map (·.pk) = M.map (·.pk)
        · have hn : L.length = M.length := by have := congrArg List.length h; simpa using this
          rw [decide_eq_true h, hn]; simp
        · rw [decide_eq_false h]
          symm
          rw [beq_eq_false_iff_ne]
          intro hI
          have hn : L.length = M.length := by omega
          have hkl : k = L.length := by omega
          apply h
          have := HT.out
          rw [List.take_of_length_le (by simp; omega), List.take_of_length_le (by simp; omega)] at this
          exact this)
      by_cases h1 : k < L.length
      · have i1 : (k : Int) < (L.length : Int) := by omega
        have i2 : ¬ (k : Int) < (M.length : Int) := by omega
        go_wp2_with fail
        go_ret
        exact ⟨congrArg (fun z => Ending.returned (.bool z)) HEQ.out.symm, HK.out⟩
      · have i1 : ¬ (k : Int) < (L.length : Int) := by omega
        go_wp2_with fail
        go_ret
        exact ⟨congrArg (fun z => Ending.returned (.bool z)) HEQ.out.symm, HK.out⟩
end Go.Proofs.Ytohimionlgaaoaa
