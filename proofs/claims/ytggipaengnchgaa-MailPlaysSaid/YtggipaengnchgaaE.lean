/- slices.DeleteFunc at letters; Clear. -/
import Derived.Test.YtggipaengnchgaaD
namespace Go.Proofs.Ytggipaengnchgaa
open Go.RowKit
set_option linter.unusedVariables false
theorem keepN_all (L : List Le) (node : Int) (h : ∀ x ∈ L, x.node ≠ node) : keepN L node = L := by
  unfold keepN; rw [List.filter_eq_self]; intro x hx; simpa using h x hx
theorem dfs_start (L : List Le) (node : Int) (j : Nat) (hj : j < L.length) (h1 : L[j].node = node) (h2 : ∀ i (hi : i < L.length), i < j → L[i].node ≠ node) : DfS L L node j (j + 1) := by
  refine ⟨rfl, by omega, by omega, ?_, rfl, fun x hx => hx⟩
  rw [keepN_snoc L node j hj, if_pos h1, List.append_nil, keepN_all]
  intro x hx
  obtain ⟨i, hi, rfl⟩ := List.mem_iff_getElem.1 hx
  rw [List.getElem_take]
  simp at hi
  exact h2 i (by omega) (by omega)
theorem rowN_put {w : World} {base g cap n : Nat} {M : List Le} (h : RowN w base 31 3 (.slice (some ⟨g, 0, none⟩) n cap) (M.map Le.cs)) (i : Nat) (hi : i < M.length) (nd : Int) (bk : Bool) (v : Value) (l : List UInt8) :
    RowN (((w.setCell ⟨g, i * 3, none⟩ (.int .i64 nd)).setCell ⟨g, i * 3 + 1, none⟩ (.bool bk)).setCell ⟨g, i * 3 + 2, none⟩ v) base 31 3 (.slice (some ⟨g, 0, none⟩) n cap) ((M.set i ⟨nd, bk, v, l⟩).map Le.cs) := by
  have hi' : i < (M.map Le.cs).length := by simpa using hi
  have a := h.set (g := g) rfl i hi' 0 (by omega) (.int .i64 nd)
  have b := a.set (g := g) rfl i (by rw [List.length_set]; exact hi') 1 (by omega) (.bool bk)
  have c := b.set (g := g) rfl i (by rw [List.length_set, List.length_set]; exact hi') 2 (by omega) v
  have e : (M.set i ⟨nd, bk, v, l⟩).map Le.cs = (M.map Le.cs).set i [.int .i64 nd, .bool bk, v] := by rw [List.map_set]; rfl
  rw [e]
  simp only [List.getElem_set_self, List.set_set, List.getElem_map, Le.cs] at c
  exact c
def DelPost (LA : Option Addr) (lc base : Nat) (L : List Le) (node : Int) (w : World) (e : Ending) (w' : World) : Prop :=
  e = .returned (.slice LA (keepN L node).length lc) ∧ RowN w' base 31 3 (.slice LA (keepN L node).length lc) ((keepN L node).map Le.cs) ∧ Kept (fun i => (Value.slice LA L.length lc).ownBlock = some i) w w'
set_option maxHeartbeats 4000000 in
theorem deleteF_any (nb : Nat) (node : Int) (LA : Option Addr) (lc base : Nat) (L : List Le) (w : World) (hl : L.length ≤ 100000) (hs : SlV L) (hN : Blk w nb 3 #[.int .i64 node]) (hR : RowN w base 31 3 (.slice LA L.length lc) (L.map Le.cs)) :
    Calls Try.prog 20 #[.slice LA L.length lc, (.func (.func 21) #[] #[.pointer (some ⟨nb, 0, none⟩)])] w (DelPost LA lc base L node w) := by
  have hix := indexF_any nb node LA lc L w hl hs hN (by obtain ⟨A', c', hv, -, -, he⟩ := hR.es; injection hv with e1 e2 e3; rw [e1]; exact he)
  have HIX := Lib.hid hix
  have HN := Lib.hid hN
  have HS := Lib.hid hs
  have HR := Lib.hid hR
  clear hix hN hs hR
  go_enter Try.func20, Try.ntmps20
  go_wp2_with fail
  refine HIX.out.mono ?_
  rintro e w1 ⟨z, rfl, hix, hb1⟩
  have HB1 := Lib.hid hb1
  clear hb1 HIX
  rcases hix with ⟨rfl, hno⟩ | ⟨j0, hj0, rfl, hj1, hj2⟩
  · have HKN := Lib.hid (keepN_all L node hno)
    clear hno
    go_wp2_with fail
    go_ret
    unfold DelPost
    rw [HKN.out]
    exact ⟨rfl, HR.out.belowAll HB1.out, Kept.ofB HB1.out⟩
  · have HD0 := Lib.hid (dfs_start L node j0 hj0 hj1 hj2)
    obtain ⟨g, c', e, hbg, hgl, -⟩ := HR.out.at (i := j0) (by simpa using hj0)
    injection e with e1 e2 e3
    subst e1 e3
    obtain ⟨-, -, -, -, hnc, hcm, -, -⟩ := HR.out.parts
    unfold maxLen at hcm
    have gnb : g ≠ nb := fun e => by subst e; exact HR.out.ne HN.out (by decide) rfl
    have nlt := HN.out.lt
    have HK1 := Lib.hid (Kept.ofB (S := (· = g)) HB1.out)
    have HR1 := Lib.hid (HR.out.belowAll HB1.out)
    clear hj1 hj2 e2 HB1
    have j0I : (0 : Int) ≤ (j0 : Int) := by omega
    have hneg : ((j0 : Int) == -1) = false := beq_eq_false_iff_ne.2 (by omega)
    go_wp2_with fail
    go_loopw [5, 6, 7] (fun i j _ wr => ∃ i' j' : Nat, i = .int .i64 (i' : Int) ∧ j = .int .i64 (j' : Int) ∧ ∃ M : List Le, Hid (DfS L M node i' j') ∧ Hid (RowN wr base 31 3 (.slice (some ⟨g, 0, none⟩) L.length lc) (M.map Le.cs)) ∧ Hid (Kept (· = g) w wr)) (fun _ j _ _ => L.length - (intOf j).toNat)
    case atStart => exact ⟨j0, j0 + 1, rfl, by go_num, L, HD0, HR1, HK1⟩
    case round =>
      clear HD0 HR1 HK1
      obtain ⟨i, j, rfl, rfl, M, HD, HRM, HK⟩ := hrel
      have hij := HD.out.lt
      have hjn := HD.out.le
      have hsr := HK.out.size
      have hML := HD.out.len
      have grl : g < wr.heap.size := by omega
      by_cases hjl : j < L.length
      · obtain ⟨hjM, hMj⟩ := HD.out.at_ hjl
        obtain ⟨g', c', e, -, -, hel⟩ := HRM.out.at (i := j) (by simpa using hjM)
        injection e with e1 e2 e3
        injection e1 with e1
        injection e1 with e1
        subst e1
        obtain ⟨c0, c1, c2⟩ := le_cells hel hjM
        have hiM : i < M.length := by omega
        obtain ⟨d0, d1, d2⟩ := le_cells hel hiM
        rw [hMj] at c0 c1 c2
        simp only [Nat.zero_add] at c0 c1 c2 d0 d1 d2
        obtain ⟨VA, vn, vc, hv⟩ := HS.out L[j] (List.getElem_mem hjl)
        rw [hv] at c2
        obtain ⟨x, hx⟩ : ∃ x, L[j] = x := ⟨_, rfl⟩
        have HX := Lib.hid hx
        rw [hx] at c0 c1 hv
        obtain ⟨nd, bk, v, bl⟩ := x
        simp only at c0 c1 hv
        subst hv
        have D0 := Lib.hid d0
        have D1 := Lib.hid d1
        have D2 := Lib.hid d2
        have HNr := Lib.hid (HN.out.kept HK.out (fun h => gnb h.symm))
        have jI : (j : Int) < (L.length : Int) := by omega
        clear hel hMj hx d0 d1 d2 e2 e3 hML
        go_upto_region 8 with fail
        obtain ⟨w2, hw2⟩ : ∃ w2 : World, w2 = wr.alloc (.cells #[.int .i64 nd, .bool bk, .slice VA vn vc] 31) := ⟨_, rfl⟩
        have hk2 : Kept (fun _ => False) wr w2 := by rw [hw2]; exact (Kept.refl _ _).alloc _
        have HT2 := Lib.hid (show Blk w2 wr.heap.size 31 #[.int .i64 nd, .bool bk, .slice VA vn vc] by rw [hw2]; exact Blk.new _ _ _)
        have HK2 := Lib.hid hk2
        have hs2 : wr.heap.size + 1 ≤ w2.heap.size := by rw [hw2]; simp
        rw [← hw2]
        clear hw2 hk2 c0 c1 c2
        have HCL := Lib.hid (clos_any nb nd node bk VA vn vc w2 (HNr.out.kept HK2.out (fun h => h)))
        have ct := HT2.out.cell
        have lt2 := HT2.out.lt
        go_wp2_with fail
        refine HCL.out.mono ?_
        rintro e w3 ⟨rfl, hb3⟩
        have hs3 := hb3.size
        have HT3 := Lib.hid (HT2.out.below hb3 HT2.out.lt)
        have HK3 := Lib.hid (HK2.out.trans (Kept.ofB (S := fun _ => False) hb3))
        clear hb3 HCL ct lt2 HT2 HK2 HNr
        have HR3 := Lib.hid (HRM.out.kept HK3.out (fun _ _ h => h))
        have HKw := Lib.hid (HK.out.then HK3.out (fun _ _ h => h.elim))
        by_cases he : nd = node
        · subst he
          go_wp2_with fail
          go_roundw
          case rel => exact ⟨i, j + 1, rfl, by go_num, M, Lib.hid (HD.out.drop_ hjl (by rw [HX.out])), HR3, HKw⟩
          case measure => simp [intOf]; omega
        · have heb : (nd == node) = false := beq_eq_false_iff_ne.2 he
          have c0 := (HK3.out.cell grl (fun h => h) _).trans D0.out
          have c1 := (HK3.out.cell grl (fun h => h) _).trans D1.out
          have c2 := (HK3.out.cell grl (fun h => h) _).trans D2.out
          have fr := HR3.out.frozen (g := g) rfl
          have ct := HT3.out.cell
          have lt3 := HT3.out.lt
          have gl3 : g < w3.heap.size := by omega
          have iI : (i : Int) < (L.length : Int) := by omega
          have i0 : (0 : Int) ≤ (i : Int) := by omega
          have gne : g ≠ wr.heap.size := by omega
          go_wp2_with fail
          go_roundw
          case rel =>
            refine ⟨i + 1, j + 1, by go_num, by go_num, M.set i ⟨nd, bk, .slice VA vn vc, bl⟩, Lib.hid ?_, Lib.hid ?_, Lib.hid ?_⟩
            · have := HD.out.keep_ hjl (by rw [HX.out]; exact he)
              rw [HX.out] at this
              exact this
            · go_light
              exact rowN_put HR3.out i hiM nd bk _ bl
            · go_light
              exact ((HKw.out.setCell (p := ⟨g, i * 3, none⟩) (.inl rfl) _).setCell (p := ⟨g, i * 3 + 1, none⟩) (.inl rfl) _).setCell (p := ⟨g, i * 3 + 2, none⟩) (.inl rfl) _
          case measure => simp [intOf]; omega
      · obtain rfl : j = L.length := by omega
        have hjI : ¬ (L.length : Int) < (L.length : Int) := by omega
        have hpr := HD.out.pre
        rw [List.take_length] at hpr
        have hcut := HRM.out.cut i (by simp; omega)
        rw [← List.map_take, hpr] at hcut
        have hil : (keepN L node).length = i := by rw [← hpr, List.length_take]; omega
        have HCT := Lib.hid hcut
        have HIL := Lib.hid hil
        have iI : (i : Int) < (L.length : Int) := by omega
        have i0 : (0 : Int) ≤ (i : Int) := by omega
        have ilc : (i : Int) < (lc : Int) := by omega
        clear hpr hcut hil hML
        go_wp2_with (with_reducible refine wpList_clear_rowN rfl (.tmp 38) 50 rfl base 31 (.agg #[.int .i64 0, .bool false, .slice none 0 0]) 3 Try.underlying50 zero31 rfl (by decide) ?z1 g i (L.length - i) lc (lc - i) ((keepN L node).map Le.cs) ?z2 (by omega) (by omega) HCT.out ?_)
        case z1 => decide
        intro w3 hrow hk3
        have HR3 := Lib.hid hrow
        have HK3 := Lib.hid (HK.out.trans hk3)
        clear hrow hk3
        go_wp2_with fail
        go_ret
        unfold DelPost
        rw [HIL.out]
        exact ⟨rfl, HR3.out, HK3.out.mono (fun i _ h => by rw [h]; rfl)⟩
end Go.Proofs.Ytggipaengnchgaa
