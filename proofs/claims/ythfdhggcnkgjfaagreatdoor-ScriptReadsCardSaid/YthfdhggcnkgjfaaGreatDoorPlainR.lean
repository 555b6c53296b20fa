/- What was read fits its fields. -/
import Derived.Test.YthfdhggcnkgjfaaGreatDoorUD
import Derived.Test.YthfdhggcnkgjfaaGreatDoorPlainU
import Derived.Test.YthfdhggcnkgjfaaGreatDoorWB
namespace Go.Proofs.YthfdhggcnkgjfaaGreatDoor
set_option linter.unusedVariables false
theorem i64_nat {n : Nat} (h : n ≤ 1073741824) : i64 (n : Int) := ⟨by omega, by omega⟩
theorem limP_flag {c : UInt8} {v : Nat} (h : c = 70 ∨ c = 49) (hv : v ≤ limP c) : v ≤ 255 := by
  rcases h with rfl | rfl
  · exact hv
  · exact Nat.le_trans hv (by decide)
theorem fill1_int {c : UInt8} {v : Nat} {s : Sp} (h : SpI s) (hv : v ≤ limP c) : SpI (fill1 c v s) := by
  have hb := Nat.le_trans hv (limP_le c)
  unfold fill1
  repeat' split
  · exact { h with who := i64_nat hb }
  · exact { h with time := i64_nat hb }
  · rename_i hc; exact { h with flags := limP_flag hc hv }
  · exact { h with x := by show v ≤ 4294967295; omega }
  · exact { h with y := by show v ≤ 4294967295; omega }
  · exact { h with n := by show v ≤ 4294967295; omega }
theorem fillN_int : ∀ (p : List UInt8) (ns : List Nat) (s : Sp), okN p ns → SpI s → SpI (fillN p ns s)
  | [], ns, s, h, hs => by cases ns <;> exact hs
  | c :: p, ns, s, h, hs => by
    by_cases hc : c = 97 ∨ c = 80 ∨ c = 84
    · rw [fillN_skip hc]
      unfold okN at h
      rw [if_pos hc] at h
      exact fillN_int p ns s h hs
    · unfold okN at h
      rw [if_neg hc] at h
      cases ns with
      | nil => exact h.elim
      | cons v ns =>
        rw [fillN_num hc]
        exact fillN_int p ns _ h.2 (fill1_int hs h.1)
theorem getD_le {l : List Nat} {i : Nat} (h : ∀ n ∈ l, n ≤ 1073741824) : l.getD i 0 ≤ 1073741824 := by
  rw [List.getD_eq_getElem?_getD]
  cases hg : l[i]? with
  | none => exact Nat.zero_le _
  | some v => exact h v (List.mem_of_getElem? hg)
theorem i64_zero : i64 0 := ⟨by decide, by decide⟩
theorem i64_small {k : Int} (h : 0 ≤ k ∧ k ≤ 8) : i64 k := ⟨by omega, by omega⟩
theorem OspI.zero : OspI Osp.zero := ⟨i64_zero, i64_zero, i64_zero, i64_zero, by decide, by decide, by decide, by decide, i64_zero, fun m h => by cases h⟩
theorem fillO_int {k : Int} {f : Fd} (hk : 1 ≤ k ∧ k ≤ 8) (ok : FdOk f) : OspI (fillO k f) := by
  have g0 := i64_nat (getD_le (i := 0) ok.nums)
  have g1 := i64_nat (getD_le (i := 1) ok.nums)
  have ik : i64 k := ⟨by omega, by omega⟩
  unfold fillO
  repeat' split
  · exact { OspI.zero with kind := i64_small (k := 1) (by decide), backend := g0, hi := ok.a.2.1, lo := ok.a.2.2 }
  · exact { OspI.zero with kind := i64_small (k := 2) (by decide), hi := ok.a.2.1, lo := ok.a.2.2, port := ok.po, proto := ok.p, way := i64_nat (Nat.le_trans ok.wy (by decide)) }
  · exact { OspI.zero with kind := ik, vip := g0, version := g1 }
  · exact { OspI.zero with kind := ik, backend := g0 }
  · exact { OspI.zero with kind := i64_small (k := 8) (by decide) }
theorem mem_int {w : List UInt8} {m : Int × Int} (h : memP w = some m) : i64 m.1 ∧ i64 m.2 := by
  unfold memP at h
  split at h
  · split at h
    · rename_i a b ha hb
      injection h with h
      subst h
      have h1 := numP_le ha
      have h2 := numP_le hb
      exact ⟨i64_nat (by omega), i64_nat (by omega)⟩
    · cases h
  · cases h
theorem mems_int : ∀ {ws : List (List UInt8)} {l : List (Int × Int)}, memsP ws = some l → ∀ m ∈ l, i64 m.1 ∧ i64 m.2
  | [], l, h => by injection h with h; subst h; exact fun m h => by cases h
  | w :: ws, l, h => by
    unfold memsP at h
    cases hm : memP w with
    | none => rw [hm] at h; cases h
    | some m =>
      cases hr : memsP ws with
      | none => rw [hm, hr] at h; cases h
      | some r =>
        rw [hm, hr] at h
        injection h with h
        subst h
        intro x hx
        rcases List.mem_cons.1 hx with rfl | hx
        · exact mem_int hm
        · exact mems_int hr x hx
theorem opPat_k {nm p : List UInt8} {k : Int} (h : opPat nm = some (k, p)) : 1 ≤ k ∧ k ≤ 8 := by
  unfold opPat at h
  repeat' split at h
  all_goals first | (cases h; done) | (injection h with h; injection h with h1 h2; subst h1; decide)
theorem op_int {ws : List (List UInt8)} {o : Osp} (h : opP ws = some o) : OspI o := by
  cases ws with
  | nil => cases h
  | cons nm r =>
    unfold opP at h
    simp only at h
    by_cases hm : nm = membersT
    · rw [if_pos hm] at h
      cases r with
      | nil => cases h
      | cons v ms =>
        simp only at h
        cases hn : numP 10 255 v with
        | none => rw [hn] at h; cases h
        | some n =>
          rw [hn] at h
          simp only at h
          split at h
          · obtain ⟨l, hl2, rfl⟩ := Option.map_eq_some_iff.1 h
            have h1 := numP_le hn
            exact { OspI.zero with kind := i64_small (k := 3) (by decide), vip := i64_nat (by omega), ms := mems_int hl2 }
          · cases h
    · rw [if_neg hm] at h
      cases hp : opPat nm with
      | none => rw [hp] at h; cases h
      | some q =>
        obtain ⟨k, p⟩ := q
        rw [hp] at h
        obtain ⟨f, hf, rfl⟩ := Option.map_eq_some_iff.1 h
        exact fillO_int (opPat_k hp) (fitS_ok FdOk.zero hf)
theorem SpI.zero : SpI Sp.zero := ⟨i64_zero, OspI.zero, i64_zero, i64_zero, by decide, by decide, by decide, by decide, by decide, by decide, by decide⟩
theorem line_int {t : List UInt8} {x : Sp} (h : lineP t = some x) : SpI x := by
  unfold lineP at h
  split at h
  · cases h
  · generalize parts 32 t = ws at h
    cases ws with
    | nil => cases h
    | cons nm r =>
      unfold wordsP at h
      simp only at h
      split at h
      · obtain ⟨o, ho, rfl⟩ := Option.map_eq_some_iff.1 h
        exact { SpI.zero with op := op_int ho }
      · cases hc : cmdOf nm with
        | none => rw [hc] at h; cases h
        | some q =>
          obtain ⟨k, nm', p⟩ := q
          rw [hc] at h
          obtain ⟨f, hf, rfl⟩ := Option.map_eq_some_iff.1 h
          have hk := List.mem_of_find?_eq_some hc
          have ok := fitS_ok FdOk.zero hf
          have hkp : k ≤ 15 ∧ p.all stepL = true := by
            unfold cmds at hk
            simp only [List.mem_cons, List.not_mem_nil, or_false] at hk
            rcases hk with e | e | e | e | e | e | e | e | e | e | e | e | e | e | e
            all_goals (injection e with e1 e2; injection e2 with e2 e3; subst e1 e3; decide)
          unfold fillP
          refine fillN_int p f.nums _ (fitS_okN hkp.2 hf) { SpI.zero with kind := ⟨by show (-9223372036854775808 : Int) ≤ (k : Int); omega, by show (k : Int) ≤ 9223372036854775807; omega⟩, hi := ok.a.2.1, lo := ok.a.2.2, port := ok.po }
theorem fillN_load : ∀ (p : List UInt8) (ns : List Nat) (s : Sp), (fillN p ns s).load = s.load
  | [], ns, s => by cases ns <;> rfl
  | c :: p, ns, s => by
    by_cases h : c = 97 ∨ c = 80 ∨ c = 84
    · rw [fillN_skip h]; exact fillN_load p ns s
    · cases ns with
      | nil => rw [fillN, if_neg h]; exact fillN_load p [] s
      | cons v ns =>
        rw [fillN_num h, fillN_load p ns]
        unfold fill1
        repeat' split
        all_goals rfl
theorem line_load {t : List UInt8} {x : Sp} (h : lineP t = some x) : x.load.length ≤ t.length := by
  unfold lineP at h
  split at h
  · cases h
  · have hj := join_parts 32 t
    generalize parts 32 t = ws at h hj
    cases ws with
    | nil => cases h
    | cons nm r =>
      unfold wordsP at h
      simp only at h
      split at h
      · obtain ⟨o, ho, rfl⟩ := Option.map_eq_some_iff.1 h
        exact Nat.zero_le _
      · cases hc : cmdOf nm with
        | none => rw [hc] at h; cases h
        | some q =>
          obtain ⟨k, nm', p⟩ := q
          rw [hc] at h
          obtain ⟨f, hf, rfl⟩ := Option.map_eq_some_iff.1 h
          unfold fillP
          rw [fillN_load]
          have h1 := fitS_load hf
          have h2 : Fd.zero.load.length = 0 := rfl
          have h3 := (joinC_tail_len nm r).2
          rw [hj] at h3
          show f.load.length ≤ _
          omega
end Go.Proofs.YthfdhggcnkgjfaaGreatDoor
