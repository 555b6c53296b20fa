/- The document's operation. -/
import Derived.Test.YthfdhggcnkgjfaaGreatDoorYC
import Derived.Test.YthfdhggcnkgjfaaGreatDoorYF
import Derived.Test.YthfdhggcnkgjfaaGreatDoorPlainU
namespace Go.Proofs.YthfdhggcnkgjfaaGreatDoor
open Go.RowKit
set_option linter.unusedVariables false
set_option linter.unusedSimpArgs false
theorem relAt_store_mid {P : Program} {w : World} {o : Oper} {a : Act} {R : Value → World → Prop} (ty : TypeId) (x y : Operand) (ho : o.op = .store ty x y)
    (b of_ : Nat) (cells : Array Value) (hx : a.eval x = .pointer (some ⟨b, of_, none⟩)) (hy : a.eval y = .agg cells)
    (ht : w.there b of_ cells.size) (hi : (P.info? ty).map (·.size) = some cells.size) (h1 : cells.all (·.oneCell') = true)
    (h : R undef (w.setCells b of_ cells.toList)) : relAt P o a w R := by
  unfold relAt execOp
  simp only [ho, hx, hy, Instr.storeAt, Instr.sureAddr, Sem.run_bind, Sem.run_pure, Result.andThen_ok, run_storeVar_mid w b of_ ty cells ht hi h1]
  exact h
theorem fitStep_po {c : UInt8} {ws ws' : List (List UInt8)} {f g : Fd} (h : fitStep c ws f = some (ws', g)) (hf : f.po ≤ 65535) : g.po ≤ 65535 := by
  unfold fitStep at h
  cases ws with
  | nil => cases h
  | cons w ws =>
    simp only at h
    repeat' split at h
    all_goals try (simp only [Option.map_eq_some_iff] at h)
    all_goals try (obtain ⟨a, ha, h⟩ := h)
    all_goals try (injection h with h1 h2)
    all_goals try (injection h1 with h1 h2)
    all_goals try (subst h2)
    all_goals first | exact hf | exact numP_le ha
theorem fitS_po : ∀ {p : List UInt8} {ws : List (List UInt8)} {f g : Fd}, fitS p ws f = some g → f.po ≤ 65535 → g.po ≤ 65535
  | [], ws, f, g, h, hf => by
    unfold fitS at h
    split at h
    · injection h with h; subst h; exact hf
    · cases h
  | c :: p, ws, f, g, h, hf => by
    unfold fitS at h
    cases hs : fitStep c ws f with
    | none => rw [hs] at h; cases h
    | some q =>
      obtain ⟨ws', f'⟩ := q
      rw [hs] at h
      exact fitS_po h (fitStep_po hs hf)
theorem opP_pat {nm p : List UInt8} {k : Int} (h : opPat nm = some (k, p)) (hm : nm ≠ membersT) (r : List (List UInt8)) : opP (nm :: r) = (fitS p r Fd.zero).map (fillO k) := by
  unfold opP
  simp only
  rw [if_neg hm, h]
def IssRet (w : World) (o : Option Osp) (e : Ending) (w' : World) : Prop := Below w.heap.size w w' ∧ ∃ (o' : Osp) (MA : Option Addr) (ml mc : Nat) (ok : Bool), e = .returned (.tuple #[.agg (OC (.slice MA ml mc) o'), .bool ok]) ∧ ok = o.isSome ∧ ∀ q, o = some q → o' = q ∧ RowN w' w.heap.size 69 2 (.slice MA ml mc) (mcs q.ms)
theorem iss_no {w' : World} {base : Nat} {o : Option Osp} {o' : Osp} {v : Value} (h : o = none) : false = o.isSome ∧ ∀ q, o = some q → o' = q ∧ RowN w' base 69 2 v (mcs q.ms) := by
  subst h
  exact ⟨rfl, fun q h => by cases h⟩
theorem iss_yes {w' : World} {base : Nat} {o : Option Osp} {o' : Osp} (h : o = some o') (hm : o'.ms = []) (ht : true = true) : true = o.isSome ∧ ∀ q, o = some q → o' = q ∧ RowN w' base 69 2 (.slice none 0 0) (mcs q.ms) := by
  subst h
  refine ⟨rfl, fun q h => ?_⟩
  injection h with h
  subst h
  exact ⟨rfl, by rw [hm]; exact RowN.nil _ _ _ _⟩
theorem iss_mem {w' : World} {base : Nat} {o : Option Osp} {o' : Osp} {v : Value} (h : o = some o') (hm : RowN w' base 69 2 v (mcs o'.ms)) : true = o.isSome ∧ ∀ q, o = some q → o' = q ∧ RowN w' base 69 2 v (mcs q.ms) := by
  subst h
  refine ⟨rfl, fun q h => ?_⟩
  injection h with h
  subst h
  exact ⟨rfl, hm⟩
theorem put_none (a : Act) (v : Value) : a.put none v = a := rfl
theorem opP_mem (v : List UInt8) (r : List (List UInt8)) : opP (membersT :: v :: r) = (fitS [75] [v] Fd.zero).bind fun f => (memsR false [] r).map fun l => { Osp.zero with kind := 3, vip := (f.nums.getD 0 0 : Nat), ms := l } := by
  have e : fitS [75] [v] Fd.zero = (numP 10 255 v).map fun n => { Fd.zero with nums := [n] } := by
    rw [fitS, fitStep_n (by decide) (by decide) (by decide) (by decide) (by decide)]
    show (match (numP 10 255 v).map _ with | none => none | some (ws', f') => fitS [] ws' f') = _
    cases numP 10 255 v <;> rfl
  rw [e]
  unfold opP
  simp only
  rw [if_pos trivial]
  cases numP 10 255 v with
  | none => rfl
  | some n =>
    simp only [Option.map_some, Option.bind_some]
    unfold memsR
    simp only [List.length_nil, Nat.zero_add, List.nil_append]
    split
    · cases memsP r <;> rfl
    · rfl
theorem fillO_b {f : Fd} {a : Nat} (h : f.nums = [a]) : fillO 1 f = { Osp.zero with kind := 1, backend := (a : Nat), a := f.a } := by
  unfold fillO
  rw [if_pos rfl, h]
  rfl
theorem fillO_two {f : Fd} {a b : Nat} {k : Int} (h : f.nums = [a, b]) (hk : k = 4 ∨ k = 5 := by decide) : fillO k f = { Osp.zero with kind := k, vip := (a : Nat), version := (b : Nat) } := by
  unfold fillO
  rw [if_neg (by omega), if_neg (by omega), if_pos hk, h]
  rfl
theorem fillO_one {f : Fd} {a : Nat} {k : Int} (h : f.nums = [a]) (hk : k = 6 ∨ k = 7 := by decide) : fillO k f = { Osp.zero with kind := k, backend := (a : Nat) } := by
  unfold fillO
  rw [if_neg (by omega), if_neg (by omega), if_neg (by omega), if_pos hk, h]
  rfl
set_option maxRecDepth 20000 in
set_option maxHeartbeats 16000000 in
theorem issue_any (ws : List ByteArray) (Ad : Option Addr) (c : Nat) (w : World) (hcap : ws.length ≤ c) (hcm : c ≤ maxLen) (hz : (joinC 32 (ws.map (·.data.toList))).length ≤ 4000) (hS : SS w w.heap.size Ad ws) :
    Calls Tryz.prog 18 #[.slice Ad ws.length c] w (IssRet w (opP (ws.map (·.data.toList)))) := by
  unfold maxLen at hcm
  have HS0 := Lib.hid hS
  have HZ0 := Lib.hid hz
  clear hS hz
  go_enter Tryz.func18, Tryz.ntmps18
  go_upto_region 1 with fail
  obtain ⟨w1, hw1⟩ : ∃ w1 : World, w1 = w.alloc (.cells #[.int .i64 0, .int .i64 0, .int .i64 0, .int .i64 0, .bool false, .int .u64 0, .int .u64 0, .int .u16 0, .int .u8 0, .int .i64 0, .slice none 0 0] 39) := ⟨_, rfl⟩
  have HR1 := Lib.hid (show Blk w1 w.heap.size 39 #[.int .i64 0, .int .i64 0, .int .i64 0, .int .i64 0, .bool false, .int .u64 0, .int .u64 0, .int .u16 0, .int .u8 0, .int .i64 0, .slice none 0 0] by rw [hw1]; exact Blk.new _ _ _)
  have HK1 := Lib.hid (show Kept (fun _ => False) w w1 by rw [hw1]; exact (Kept.refl _ _).alloc _)
  rw [← hw1]
  clear hw1
  obtain ⟨rb, hrb⟩ : ∃ rb, w.heap.size = rb := ⟨_, rfl⟩
  have HRB := Lib.hid hrb
  rw [hrb] at HR1 ⊢
  clear hrb
  cases ws with
  | nil =>
    go_wp2_with (show wpList _ _ _ ((⟨none, .store 39 (.tmp 2) _, _, _, _, none⟩ : Oper) :: _) _ _; refine wpList_store_mid rfl 39 (.tmp 2) _ rfl rb 0 #[.int .i64 0, .int .i64 0, .int .i64 0, .int .i64 0, .bool false, .int .u64 0, .int .u64 0, .int .u16 0, .int .u8 0, .int .i64 0, .slice none 0 0] rfl rfl (HR1.out.there rfl) (by kernel_rfl) (by simp [Value.oneCell']) ?_)
    generalize hw9 : (World.setCells _ _ _ _) = w9
    have HK9 := Lib.hid (show Kept (fun i => i = rb) w1 w9 by rw [← hw9]; exact Kept.setCells (S := fun i => i = rb) rfl _ _ (Kept.refl _ _))
    have HR9 := Lib.hid (show Blk w9 rb 39 #[.int .i64 0, .int .i64 0, .int .i64 0, .int .i64 0, .bool false, .int .u64 0, .int .u64 0, .int .u16 0, .int .u8 0, .int .i64 0, .slice none 0 0] by rw [← hw9]; exact HR1.out.setAll #[.int .i64 0, .int .i64 0, .int .i64 0, .int .i64 0, .bool false, .int .u64 0, .int .u64 0, .int .u16 0, .int .u8 0, .int .i64 0, .slice none 0 0] rfl)
    clear hw9
    refine bodyPost_ret (results_blk_tmp (P := Tryz.prog) (show Tryz.f18.results = _ from rfl) _ _ rb 39 #[.int .i64 0, .int .i64 0, .int .i64 0, .int .i64 0, .bool false, .int .u64 0, .int .u64 0, .int .u16 0, .int .u8 0, .int .i64 0, .slice none 0 0] _ rfl HR9.out Tryz.underlying39 rfl (by kernel_rfl)) rfl ?_
    have HBZ := Lib.hid ((HK1.out.below (Nat.le_refl _) (fun i h => h.elim)).trans (HK9.out.below HK1.out.size (fun i e => by have := HRB.out; omega)))
    exact ⟨HBZ.out, Osp.zero, none, 0, 0, false, rfl, iss_no rfl⟩
  | cons x xs =>
    obtain ⟨b, off, hb, rfl, c0', hat⟩ := HS0.out.head
    have hbw : b < w1.heap.size := Nat.lt_of_lt_of_le hb HK1.out.size
    have c0 : w1.cell? ⟨b, off, none⟩ = some (.string x) := (HK1.out.cell hb (fun h => h) _).trans c0'
    rw [List.length_cons] at hcap ⊢
    have hlx2 : (((xs.length : Int) + 1) == 0) = false := by simp; omega
    have HSR0 := Lib.hid (SS.rest hb hat hcap)
    go_upto_region 4 with fail
    generalize hRA : (if c = 1 then (some ⟨b, off, none⟩ : Option Addr) else some ⟨b, off + 1, none⟩) = RA at HSR0 ⊢
    have HSR := Lib.hid (show SS w1 w1.heap.size RA xs from by
      rcases HSR0.out with h | ⟨b', o', h1, h2, h3⟩
      · exact .inl h
      · exact .inr ⟨b', o', Nat.lt_of_lt_of_le h1 HK1.out.size, h2, fun k hk => (HK1.out.cell h1 (fun h => h) _).trans (h3 k hk)⟩)
    have HC0 := Lib.hid c0'
    have HZR := Lib.hid (show (joinC 32 (xs.map (·.data.toList))).length ≤ 4000 by
      have := (joinC_tail_len x.data.toList (xs.map (·.data.toList))).2
      have h2 := HZ0.out
      rw [List.map_cons] at h2
      omega)
    clear hRA HS0 c0' hat HZ0
    by_cases n0 : x.data.toList = [98, 97, 99, 107, 101, 110, 100]
    · skip
      have HXL := Lib.hid (show x.toList = [98, 97, 99, 107, 101, 110, 100] by rw [Lib.toList_data]; exact n0)
      have q0 : (x.toList == [98, 97, 99, 107, 101, 110, 100]) = true := by rw [HXL.out]; rfl
      have q1 : (x.toList == [118, 105, 112]) = false := by rw [HXL.out]; rfl
      have q2 : (x.toList == [109, 101, 109, 98, 101, 114, 115]) = false := by rw [HXL.out]; rfl
      have q3 : (x.toList == [114, 101, 116, 105, 114, 101]) = false := by rw [HXL.out]; rfl
      have q4 : (x.toList == [114, 101, 108, 101, 97, 115, 101]) = false := by rw [HXL.out]; rfl
      have q5 : (x.toList == [101, 118, 105, 99, 116]) = false := by rw [HXL.out]; rfl
      have q6 : (x.toList == [97, 100, 109, 105, 116]) = false := by rw [HXL.out]; rfl
      have q7 : (x.toList == [114, 111, 116, 97, 116, 101]) = false := by rw [HXL.out]; rfl
      have HOP := Lib.hid (show opP ((x :: xs).map (·.data.toList)) = (fitS [75, 97] (xs.map (·.data.toList)) Fd.zero).map (fillO 1) by rw [List.map_cons, n0]; exact opP_pat rfl (by decide) _)
      have HFT := Lib.hid (fit_any ⟨#[75, 97]⟩ xs RA (c - 1) w1 (by decide) (by first | omega | (simp; done) | (simp; omega)) (by unfold maxLen; omega) HZR.out HSR.out)
      obtain ⟨o, ho⟩ : ∃ o, fitS [75, 97] (xs.map (·.data.toList)) Fd.zero = o := ⟨_, rfl⟩
      rw [show fitS (⟨#[75, 97]⟩ : ByteArray).data.toList (xs.map (·.data.toList)) Fd.zero = o from ho] at HFT
      go_wp2_with fail
      refine HFT.out.mono ?_
      rintro e w2 ⟨hb2, hfr⟩
      have HR2 := Lib.hid (HR1.out.below hb2 HR1.out.lt)
      have HK2 := Lib.hid (HK1.out.trans (Kept.ofB (S := fun _ => False) hb2))
      have hsz2 := hb2.size
      clear hb2 HFT
      cases o with
      | none =>
        obtain rfl : e = _ := hfr
        unfold Z63
        go_upto_region 7 with (show wpList _ _ _ ((⟨none, .store 60 (.tmp 5) _, _, _, _, none⟩ : Oper) :: _) _ _; refine wpList_store_mid rfl 60 (.tmp 5) _ rfl w2.heap.size 0 #[.int .i64 0, .int .i64 0, .int .i64 0, .int .i64 0, .int .i64 0, .bool false, .int .u64 0, .int .u64 0, .int .u16 0, .int .u8 0, .int .i64 0, .slice none 0 0, .int .i64 0, .int .i64 0, .int .u8 0, .slice none 0 0, .int .u32 0, .int .u32 0, .int .u32 0, .bool false, .int .u64 0, .int .u64 0, .int .u16 0, .slice none 0 0, .bool false, .int .u64 0, .int .u64 0, .int .i64 0, .int .u8 0, .int .i64 0, .bool false] rfl rfl ((Blk.new w2 60 #[.int .i64 0, .int .i64 0, .int .i64 0, .int .i64 0, .int .i64 0, .bool false, .int .u64 0, .int .u64 0, .int .u16 0, .int .u8 0, .int .i64 0, .slice none 0 0, .int .i64 0, .int .i64 0, .int .u8 0, .slice none 0 0, .int .u32 0, .int .u32 0, .int .u32 0, .bool false, .int .u64 0, .int .u64 0, .int .u16 0, .slice none 0 0, .bool false, .int .u64 0, .int .u64 0, .int .i64 0, .int .u8 0, .int .i64 0, .bool false]).there rfl) (by kernel_rfl) (by simp [Value.oneCell']) ?_)
        generalize hw4 : (World.setCells _ _ _ _) = w3
        have HKA := Lib.hid (show Kept (fun i => i = w2.heap.size) (w2.alloc (.cells #[.int .i64 0, .int .i64 0, .int .i64 0, .int .i64 0, .int .i64 0, .bool false, .int .u64 0, .int .u64 0, .int .u16 0, .int .u8 0, .int .i64 0, .slice none 0 0, .int .i64 0, .int .i64 0, .int .u8 0, .slice none 0 0, .int .u32 0, .int .u32 0, .int .u32 0, .bool false, .int .u64 0, .int .u64 0, .int .u16 0, .slice none 0 0, .bool false, .int .u64 0, .int .u64 0, .int .i64 0, .int .u8 0, .int .i64 0, .bool false] 60)) w3 by rw [← hw4]; exact Kept.setCells (S := fun i => i = w2.heap.size) rfl _ _ (Kept.refl _ _))
        have HF3 := Lib.hid (show Blk w3 w2.heap.size 60 #[.int .i64 0, .int .i64 0, .int .i64 0, .int .i64 0, .int .i64 0, .bool false, .int .u64 0, .int .u64 0, .int .u16 0, .int .u8 0, .int .i64 0, .slice none 0 0, .int .i64 0, .int .i64 0, .int .u8 0, .slice none 0 0, .int .u32 0, .int .u32 0, .int .u32 0, .bool false, .int .u64 0, .int .u64 0, .int .u16 0, .slice none 0 0, .bool false, .int .u64 0, .int .u64 0, .int .i64 0, .int .u8 0, .int .i64 0, .bool false] by rw [← hw4]; exact (Blk.new w2 60 #[.int .i64 0, .int .i64 0, .int .i64 0, .int .i64 0, .int .i64 0, .bool false, .int .u64 0, .int .u64 0, .int .u16 0, .int .u8 0, .int .i64 0, .slice none 0 0, .int .i64 0, .int .i64 0, .int .u8 0, .slice none 0 0, .int .u32 0, .int .u32 0, .int .u32 0, .bool false, .int .u64 0, .int .u64 0, .int .u16 0, .slice none 0 0, .bool false, .int .u64 0, .int .u64 0, .int .i64 0, .int .u8 0, .int .i64 0, .bool false]).setAll #[.int .i64 0, .int .i64 0, .int .i64 0, .int .i64 0, .int .i64 0, .bool false, .int .u64 0, .int .u64 0, .int .u16 0, .int .u8 0, .int .i64 0, .slice none 0 0, .int .i64 0, .int .i64 0, .int .u8 0, .slice none 0 0, .int .u32 0, .int .u32 0, .int .u32 0, .bool false, .int .u64 0, .int .u64 0, .int .u16 0, .slice none 0 0, .bool false, .int .u64 0, .int .u64 0, .int .i64 0, .int .u8 0, .int .i64 0, .bool false] rfl)
        have HKB := Lib.hid (show Kept (fun _ => False) w2 w3 from ((Kept.refl _ _).alloc _).then HKA.out (fun i hi e => by omega))
        have HR3 := Lib.hid (HR2.out.kept HKB.out (fun h => h))
        have HK3 := Lib.hid (HK2.out.trans HKB.out)
        obtain ⟨fb, hfb⟩ : ∃ fb, w2.heap.size = fb := ⟨_, rfl⟩
        rw [hfb] at HF3 ⊢
        clear hw4 HKA HKB hfb HR2 HK2
        have cF := HF3.out.cell
        have lF := HF3.out.lt
        have c3 := (HK3.out.cell hb (fun h => h) off).trans HC0.out
        go_wp2_with (show wpList _ _ _ ((⟨none, .store 39 (.tmp 2) _, _, _, _, none⟩ : Oper) :: _) _ _; refine wpList_store_mid rfl 39 (.tmp 2) _ rfl rb 0 #[.int .i64 0, .int .i64 0, .int .i64 0, .int .i64 0, .bool false, .int .u64 0, .int .u64 0, .int .u16 0, .int .u8 0, .int .i64 0, .slice none 0 0] rfl rfl (HR3.out.there rfl) (by kernel_rfl) (by simp [Value.oneCell']) ?_)
        generalize hw9 : (World.setCells _ _ _ _) = w9
        have HK9 := Lib.hid (show Kept (fun i => i = rb) w3 w9 by rw [← hw9]; exact Kept.setCells (S := fun i => i = rb) rfl _ _ (Kept.refl _ _))
        have HR9 := Lib.hid (show Blk w9 rb 39 #[.int .i64 0, .int .i64 0, .int .i64 0, .int .i64 0, .bool false, .int .u64 0, .int .u64 0, .int .u16 0, .int .u8 0, .int .i64 0, .slice none 0 0] by rw [← hw9]; exact HR3.out.setAll #[.int .i64 0, .int .i64 0, .int .i64 0, .int .i64 0, .bool false, .int .u64 0, .int .u64 0, .int .u16 0, .int .u8 0, .int .i64 0, .slice none 0 0] rfl)
        clear hw9
        refine bodyPost_ret (results_blk_tmp (P := Tryz.prog) (show Tryz.f18.results = _ from rfl) _ _ rb 39 #[.int .i64 0, .int .i64 0, .int .i64 0, .int .i64 0, .bool false, .int .u64 0, .int .u64 0, .int .u16 0, .int .u8 0, .int .i64 0, .slice none 0 0] _ rfl HR9.out Tryz.underlying39 rfl (by kernel_rfl)) rfl ?_
        have HBZ := Lib.hid ((HK3.out.below (Nat.le_refl _) (fun i h => h.elim)).trans (HK9.out.below HK3.out.size (fun i e => by have := HRB.out; omega)))
        exact ⟨HBZ.out, Osp.zero, none, 0, 0, false, rfl, iss_no (by rw [HOP.out]; rw [ho]; rfl)⟩
      | some f =>
        obtain ⟨lv, nv, rfl, hlo, hnu⟩ := hfr
        obtain ⟨LA, lc, hlv, -⟩ := hlo
        subst hlv
        obtain ⟨ll, hll⟩ : ∃ ll, f.load.length = ll := ⟨_, rfl⟩
        rw [hll]
        clear hll
        have HN2 := Lib.hid hnu
        obtain ⟨NA, nc, hnv, hnc1, hnc2⟩ := hnu.shape
        subst hnv
        have hnl := fitS_len ho
        unfold FC
        go_upto_region 7 with (show wpList _ _ _ ((⟨none, .store 60 (.tmp 5) _, _, _, _, none⟩ : Oper) :: _) _ _; refine wpList_store_mid rfl 60 (.tmp 5) _ rfl w2.heap.size 0 #[.int .i64 0, .int .i64 0, .int .i64 0, .int .i64 0, .int .i64 0, .bool false, .int .u64 0, .int .u64 0, .int .u16 0, .int .u8 0, .int .i64 0, .slice none 0 0, .int .i64 0, .int .i64 0, .int .u8 0, (.slice LA ll lc), .int .u32 0, .int .u32 0, .int .u32 0, .bool false, .int .u64 0, .int .u64 0, .int .u16 0, (.slice NA (ics f.nums).length nc), .bool f.a.six, .int .u64 (f.a.hi : Int), .int .u64 (f.a.lo : Int), .int .i64 (f.po : Int), .int .u8 (f.p : Int), .int .i64 (f.wy : Int), .bool true] rfl rfl ((Blk.new w2 60 #[.int .i64 0, .int .i64 0, .int .i64 0, .int .i64 0, .int .i64 0, .bool false, .int .u64 0, .int .u64 0, .int .u16 0, .int .u8 0, .int .i64 0, .slice none 0 0, .int .i64 0, .int .i64 0, .int .u8 0, .slice none 0 0, .int .u32 0, .int .u32 0, .int .u32 0, .bool false, .int .u64 0, .int .u64 0, .int .u16 0, .slice none 0 0, .bool false, .int .u64 0, .int .u64 0, .int .i64 0, .int .u8 0, .int .i64 0, .bool false]).there rfl) (by kernel_rfl) (by simp [Value.oneCell']) ?_)
        generalize hw4 : (World.setCells _ _ _ _) = w3
        have HKA := Lib.hid (show Kept (fun i => i = w2.heap.size) (w2.alloc (.cells #[.int .i64 0, .int .i64 0, .int .i64 0, .int .i64 0, .int .i64 0, .bool false, .int .u64 0, .int .u64 0, .int .u16 0, .int .u8 0, .int .i64 0, .slice none 0 0, .int .i64 0, .int .i64 0, .int .u8 0, .slice none 0 0, .int .u32 0, .int .u32 0, .int .u32 0, .bool false, .int .u64 0, .int .u64 0, .int .u16 0, .slice none 0 0, .bool false, .int .u64 0, .int .u64 0, .int .i64 0, .int .u8 0, .int .i64 0, .bool false] 60)) w3 by rw [← hw4]; exact Kept.setCells (S := fun i => i = w2.heap.size) rfl _ _ (Kept.refl _ _))
        have HF3 := Lib.hid (show Blk w3 w2.heap.size 60 #[.int .i64 0, .int .i64 0, .int .i64 0, .int .i64 0, .int .i64 0, .bool false, .int .u64 0, .int .u64 0, .int .u16 0, .int .u8 0, .int .i64 0, .slice none 0 0, .int .i64 0, .int .i64 0, .int .u8 0, (.slice LA ll lc), .int .u32 0, .int .u32 0, .int .u32 0, .bool false, .int .u64 0, .int .u64 0, .int .u16 0, (.slice NA (ics f.nums).length nc), .bool f.a.six, .int .u64 (f.a.hi : Int), .int .u64 (f.a.lo : Int), .int .i64 (f.po : Int), .int .u8 (f.p : Int), .int .i64 (f.wy : Int), .bool true] by rw [← hw4]; exact (Blk.new w2 60 #[.int .i64 0, .int .i64 0, .int .i64 0, .int .i64 0, .int .i64 0, .bool false, .int .u64 0, .int .u64 0, .int .u16 0, .int .u8 0, .int .i64 0, .slice none 0 0, .int .i64 0, .int .i64 0, .int .u8 0, .slice none 0 0, .int .u32 0, .int .u32 0, .int .u32 0, .bool false, .int .u64 0, .int .u64 0, .int .u16 0, .slice none 0 0, .bool false, .int .u64 0, .int .u64 0, .int .i64 0, .int .u8 0, .int .i64 0, .bool false]).setAll #[.int .i64 0, .int .i64 0, .int .i64 0, .int .i64 0, .int .i64 0, .bool false, .int .u64 0, .int .u64 0, .int .u16 0, .int .u8 0, .int .i64 0, .slice none 0 0, .int .i64 0, .int .i64 0, .int .u8 0, (.slice LA ll lc), .int .u32 0, .int .u32 0, .int .u32 0, .bool false, .int .u64 0, .int .u64 0, .int .u16 0, (.slice NA (ics f.nums).length nc), .bool f.a.six, .int .u64 (f.a.hi : Int), .int .u64 (f.a.lo : Int), .int .i64 (f.po : Int), .int .u8 (f.p : Int), .int .i64 (f.wy : Int), .bool true] rfl)
        have HKB := Lib.hid (show Kept (fun _ => False) w2 w3 from ((Kept.refl _ _).alloc _).then HKA.out (fun i hi e => by omega))
        have HR3 := Lib.hid (HR2.out.kept HKB.out (fun h => h))
        have HK3 := Lib.hid (HK2.out.trans HKB.out)
        have HN3 := Lib.hid (HN2.out.kept HKB.out (fun _ _ h => h))
        obtain ⟨fb, hfb⟩ : ∃ fb, w2.heap.size = fb := ⟨_, rfl⟩
        rw [hfb] at HF3 ⊢
        clear hw4 HKA HKB hfb HR2 HK2
        have cF := HF3.out.cell
        have lF := HF3.out.lt
        have c3 := (HK3.out.cell hb (fun h => h) off).trans HC0.out
        go_upto_region 8 with fail
        obtain ⟨g, nc', hve, hgb, hgl, hce⟩ := HN3.out.at (i := 0) (by simp only [ics, List.length_map]; rw [hnl]; decide)
        injection hve with e1 e2 e3
        subst e1
        obtain ⟨a1, ha⟩ : ∃ a1, f.nums = [a1] := len1 hnl
        have n0 : w3.cell? ⟨g, 0, none⟩ = some (.int .i64 (a1 : Int)) := by rw [hce 0 (by rw [ha]; simp [ics])]; simp [ha, ics]
        have hil : (ics f.nums).length = 1 := by rw [ha]; rfl
        rw [hil] at HF3 cF ⊢
        clear hce e2 e3
        refine wp_region_kept 7 [] ?st ?ne rfl (by kernel_rfl) (by kernel_rfl) ?_
        case st => intro p hp; cases hp
        case ne => intro p hp; cases hp
        simp only [List.take_succ_cons, List.take_zero, List.drop_succ_cons, List.drop_zero]
        intro G pick hR hp1 hp2
        have sF : ∀ u i, (pick u).cell? ⟨fb, i, none⟩ = #[.int .i64 0, .int .i64 0, .int .i64 0, .int .i64 0, .int .i64 0, .bool false, .int .u64 0, .int .u64 0, .int .u16 0, .int .u8 0, .int .i64 0, .slice none 0 0, .int .i64 0, .int .i64 0, .int .u8 0, (.slice LA ll lc), .int .u32 0, .int .u32 0, .int .u32 0, .bool false, .int .u64 0, .int .u64 0, .int .u16 0, (.slice (some ⟨g, 0, none⟩) 1 nc), .bool f.a.six, .int .u64 (f.a.hi : Int), .int .u64 (f.a.lo : Int), .int .i64 (f.po : Int), .int .u8 (f.p : Int), .int .i64 (f.wy : Int), .bool true][i]? := fun u i => ((hp1 u).cell lF (fun h => h) _).trans (cF i)
        have s0 : ∀ u, (pick u).cell? ⟨g, 0, none⟩ = some (.int .i64 (a1 : Int)) := fun u => ((hp1 u).cell hgl (fun h => h) _).trans n0
        repeat (first | (refine wpR_det hp2 rfl ((hR.rel _).trans rfl) rfl ?_; intro K hK; go_big_quiet_op; go_big_quiet_on) | (refine wpR_ptr hp2 rfl ((hR.rel _).trans rfl) rfl rfl ?_; intro K hK; go_big_quiet_op; go_big_quiet_on) | (refine wpR_skip pick rfl ?_; intro K hK; go_big_quiet_op; go_big_quiet_on))
        refine wpR_nil ?_
        intro w4 hk2 hF hM
        have HR4 := Lib.hid (HR3.out.kept hk2 (fun h => h))
        have HK4 := Lib.hid (HK3.out.trans hk2)
        clear hF hM hk2 hp1 hp2 hR sF s0 HR3 HK3 cF lF
        go_wp2_with (show wpList _ _ _ ((⟨none, .store 39 (.tmp 2) _, _, _, _, none⟩ : Oper) :: _) _ _; refine wpList_store_mid rfl 39 (.tmp 2) _ rfl rb 0 #[.int .i64 1, .int .i64 0, .int .i64 (a1 : Int), .int .i64 0, .bool f.a.six, .int .u64 (f.a.hi : Int), .int .u64 (f.a.lo : Int), .int .u16 0, .int .u8 0, .int .i64 0, .slice none 0 0] rfl rfl (HR4.out.there rfl) (by kernel_rfl) (by simp [Value.oneCell']) ?_)
        generalize hw9 : (World.setCells _ _ _ _) = w9
        have HK9 := Lib.hid (show Kept (fun i => i = rb) w4 w9 by rw [← hw9]; exact Kept.setCells (S := fun i => i = rb) rfl _ _ (Kept.refl _ _))
        have HR9 := Lib.hid (show Blk w9 rb 39 #[.int .i64 1, .int .i64 0, .int .i64 (a1 : Int), .int .i64 0, .bool f.a.six, .int .u64 (f.a.hi : Int), .int .u64 (f.a.lo : Int), .int .u16 0, .int .u8 0, .int .i64 0, .slice none 0 0] by rw [← hw9]; exact HR4.out.setAll #[.int .i64 1, .int .i64 0, .int .i64 (a1 : Int), .int .i64 0, .bool f.a.six, .int .u64 (f.a.hi : Int), .int .u64 (f.a.lo : Int), .int .u16 0, .int .u8 0, .int .i64 0, .slice none 0 0] rfl)
        clear hw9
        refine bodyPost_ret (results_blk_tmp (P := Tryz.prog) (show Tryz.f18.results = _ from rfl) _ _ rb 39 #[.int .i64 1, .int .i64 0, .int .i64 (a1 : Int), .int .i64 0, .bool f.a.six, .int .u64 (f.a.hi : Int), .int .u64 (f.a.lo : Int), .int .u16 0, .int .u8 0, .int .i64 0, .slice none 0 0] _ rfl HR9.out Tryz.underlying39 rfl (by kernel_rfl)) rfl ?_
        have HBZ := Lib.hid ((HK4.out.below (Nat.le_refl _) (fun i h => h.elim)).trans (HK9.out.below HK4.out.size (fun i e => by have := HRB.out; omega)))
        exact ⟨HBZ.out, { Osp.zero with kind := 1, backend := (a1 : Nat), a := f.a }, none, 0, 0, true, rfl, iss_yes (by rw [HOP.out, ho]; exact congrArg some (fillO_b ha)) rfl rfl⟩
    by_cases n1 : x.data.toList = [118, 105, 112]
    · skip
      have HXL := Lib.hid (show x.toList = [118, 105, 112] by rw [Lib.toList_data]; exact n1)
      have q0 : (x.toList == [98, 97, 99, 107, 101, 110, 100]) = false := by rw [HXL.out]; rfl
      have q1 : (x.toList == [118, 105, 112]) = true := by rw [HXL.out]; rfl
      have q2 : (x.toList == [109, 101, 109, 98, 101, 114, 115]) = false := by rw [HXL.out]; rfl
      have q3 : (x.toList == [114, 101, 116, 105, 114, 101]) = false := by rw [HXL.out]; rfl
      have q4 : (x.toList == [114, 101, 108, 101, 97, 115, 101]) = false := by rw [HXL.out]; rfl
      have q5 : (x.toList == [101, 118, 105, 99, 116]) = false := by rw [HXL.out]; rfl
      have q6 : (x.toList == [97, 100, 109, 105, 116]) = false := by rw [HXL.out]; rfl
      have q7 : (x.toList == [114, 111, 116, 97, 116, 101]) = false := by rw [HXL.out]; rfl
      have HOP := Lib.hid (show opP ((x :: xs).map (·.data.toList)) = (fitS [97, 80, 112, 119] (xs.map (·.data.toList)) Fd.zero).map (fillO 2) by rw [List.map_cons, n1]; exact opP_pat rfl (by decide) _)
      have HFT := Lib.hid (fit_any ⟨#[97, 80, 112, 119]⟩ xs RA (c - 1) w1 (by decide) (by first | omega | (simp; done) | (simp; omega)) (by unfold maxLen; omega) HZR.out HSR.out)
      obtain ⟨o, ho⟩ : ∃ o, fitS [97, 80, 112, 119] (xs.map (·.data.toList)) Fd.zero = o := ⟨_, rfl⟩
      rw [show fitS (⟨#[97, 80, 112, 119]⟩ : ByteArray).data.toList (xs.map (·.data.toList)) Fd.zero = o from ho] at HFT
      go_wp2_with fail
      refine HFT.out.mono ?_
      rintro e w2 ⟨hb2, hfr⟩
      have HR2 := Lib.hid (HR1.out.below hb2 HR1.out.lt)
      have HK2 := Lib.hid (HK1.out.trans (Kept.ofB (S := fun _ => False) hb2))
      have hsz2 := hb2.size
      clear hb2 HFT
      cases o with
      | none =>
        obtain rfl : e = _ := hfr
        unfold Z63
        go_upto_region 11 with (show wpList _ _ _ ((⟨none, .store 60 (.tmp 6) _, _, _, _, none⟩ : Oper) :: _) _ _; refine wpList_store_mid rfl 60 (.tmp 6) _ rfl w2.heap.size 0 #[.int .i64 0, .int .i64 0, .int .i64 0, .int .i64 0, .int .i64 0, .bool false, .int .u64 0, .int .u64 0, .int .u16 0, .int .u8 0, .int .i64 0, .slice none 0 0, .int .i64 0, .int .i64 0, .int .u8 0, .slice none 0 0, .int .u32 0, .int .u32 0, .int .u32 0, .bool false, .int .u64 0, .int .u64 0, .int .u16 0, .slice none 0 0, .bool false, .int .u64 0, .int .u64 0, .int .i64 0, .int .u8 0, .int .i64 0, .bool false] rfl rfl ((Blk.new w2 60 #[.int .i64 0, .int .i64 0, .int .i64 0, .int .i64 0, .int .i64 0, .bool false, .int .u64 0, .int .u64 0, .int .u16 0, .int .u8 0, .int .i64 0, .slice none 0 0, .int .i64 0, .int .i64 0, .int .u8 0, .slice none 0 0, .int .u32 0, .int .u32 0, .int .u32 0, .bool false, .int .u64 0, .int .u64 0, .int .u16 0, .slice none 0 0, .bool false, .int .u64 0, .int .u64 0, .int .i64 0, .int .u8 0, .int .i64 0, .bool false]).there rfl) (by kernel_rfl) (by simp [Value.oneCell']) ?_)
        generalize hw4 : (World.setCells _ _ _ _) = w3
        have HKA := Lib.hid (show Kept (fun i => i = w2.heap.size) (w2.alloc (.cells #[.int .i64 0, .int .i64 0, .int .i64 0, .int .i64 0, .int .i64 0, .bool false, .int .u64 0, .int .u64 0, .int .u16 0, .int .u8 0, .int .i64 0, .slice none 0 0, .int .i64 0, .int .i64 0, .int .u8 0, .slice none 0 0, .int .u32 0, .int .u32 0, .int .u32 0, .bool false, .int .u64 0, .int .u64 0, .int .u16 0, .slice none 0 0, .bool false, .int .u64 0, .int .u64 0, .int .i64 0, .int .u8 0, .int .i64 0, .bool false] 60)) w3 by rw [← hw4]; exact Kept.setCells (S := fun i => i = w2.heap.size) rfl _ _ (Kept.refl _ _))
        have HF3 := Lib.hid (show Blk w3 w2.heap.size 60 #[.int .i64 0, .int .i64 0, .int .i64 0, .int .i64 0, .int .i64 0, .bool false, .int .u64 0, .int .u64 0, .int .u16 0, .int .u8 0, .int .i64 0, .slice none 0 0, .int .i64 0, .int .i64 0, .int .u8 0, .slice none 0 0, .int .u32 0, .int .u32 0, .int .u32 0, .bool false, .int .u64 0, .int .u64 0, .int .u16 0, .slice none 0 0, .bool false, .int .u64 0, .int .u64 0, .int .i64 0, .int .u8 0, .int .i64 0, .bool false] by rw [← hw4]; exact (Blk.new w2 60 #[.int .i64 0, .int .i64 0, .int .i64 0, .int .i64 0, .int .i64 0, .bool false, .int .u64 0, .int .u64 0, .int .u16 0, .int .u8 0, .int .i64 0, .slice none 0 0, .int .i64 0, .int .i64 0, .int .u8 0, .slice none 0 0, .int .u32 0, .int .u32 0, .int .u32 0, .bool false, .int .u64 0, .int .u64 0, .int .u16 0, .slice none 0 0, .bool false, .int .u64 0, .int .u64 0, .int .i64 0, .int .u8 0, .int .i64 0, .bool false]).setAll #[.int .i64 0, .int .i64 0, .int .i64 0, .int .i64 0, .int .i64 0, .bool false, .int .u64 0, .int .u64 0, .int .u16 0, .int .u8 0, .int .i64 0, .slice none 0 0, .int .i64 0, .int .i64 0, .int .u8 0, .slice none 0 0, .int .u32 0, .int .u32 0, .int .u32 0, .bool false, .int .u64 0, .int .u64 0, .int .u16 0, .slice none 0 0, .bool false, .int .u64 0, .int .u64 0, .int .i64 0, .int .u8 0, .int .i64 0, .bool false] rfl)
        have HKB := Lib.hid (show Kept (fun _ => False) w2 w3 from ((Kept.refl _ _).alloc _).then HKA.out (fun i hi e => by omega))
        have HR3 := Lib.hid (HR2.out.kept HKB.out (fun h => h))
        have HK3 := Lib.hid (HK2.out.trans HKB.out)
        obtain ⟨fb, hfb⟩ : ∃ fb, w2.heap.size = fb := ⟨_, rfl⟩
        rw [hfb] at HF3 ⊢
        clear hw4 HKA HKB hfb HR2 HK2
        have cF := HF3.out.cell
        have lF := HF3.out.lt
        have c3 := (HK3.out.cell hb (fun h => h) off).trans HC0.out
        have hfr : ¬ fb = rb := fun e => HF3.out.ne_ HR3.out (by decide) e
        rw [put_none]
        refine wp_region_add 14 (fun i => i = rb) [12] [] [(12, fun v u => Blk u rb 39 #[.int .i64 2, .int .i64 0, .int .i64 0, .int .i64 0, .bool false, .int .u64 0, .int .u64 0, .int .u16 0, .int .u8 0, .int .i64 0, .slice none 0 0])] ?st ?ne rfl (by kernel_rfl) (by kernel_rfl) (by kernel_rfl) ?_
        case st =>
          intro p hp
          simp only [List.mem_cons, List.not_mem_nil, or_false] at hp
          subst hp
          · intro v u u' h hk; exact h.kept hk (fun h => h)
        case ne =>
          intro p hp
          simp only [List.mem_cons, List.not_mem_nil, or_false] at hp
          subst hp
          · exact ⟨undef, _, (Kept.setCells (S := fun i => i = rb) rfl _ _ (Kept.refl _ _)), HR3.out.setAll #[.int .i64 2, .int .i64 0, .int .i64 0, .int .i64 0, .bool false, .int .u64 0, .int .u64 0, .int .u16 0, .int .u8 0, .int .i64 0, .slice none 0 0] rfl⟩
        simp only [List.take_succ_cons, List.take_zero, List.drop_succ_cons, List.drop_zero]
        intro G pick hR hp1 hp2
        have sF : ∀ u i, (pick u).cell? ⟨fb, i, none⟩ = #[.int .i64 0, .int .i64 0, .int .i64 0, .int .i64 0, .int .i64 0, .bool false, .int .u64 0, .int .u64 0, .int .u16 0, .int .u8 0, .int .i64 0, .slice none 0 0, .int .i64 0, .int .i64 0, .int .u8 0, .slice none 0 0, .int .u32 0, .int .u32 0, .int .u32 0, .bool false, .int .u64 0, .int .u64 0, .int .u16 0, .slice none 0 0, .bool false, .int .u64 0, .int .u64 0, .int .i64 0, .int .u8 0, .int .i64 0, .bool false][i]? := fun u i => ((hp1 u).cell lF hfr _).trans (cF i)
        repeat (first | (refine wpR_det hp2 rfl ((hR.rel _).trans rfl) rfl ?_; intro K hK; go_big_quiet_op; go_big_quiet_on) | (refine wpR_ptr hp2 rfl ((hR.rel _).trans rfl) rfl rfl ?_; intro K hK; go_big_quiet_op; go_big_quiet_on) | (refine wpR_skip pick rfl ?_; intro K hK; go_big_quiet_op; go_big_quiet_on))
        refine wpR_turn pick rfl ((hR.rel _).trans rfl) ((hR.turns _).trans rfl) ((hR.adds _).trans rfl) ?_ ?_
        · intro u hu hM
          have hk := hR.since hu.1
          have hks := hk.size
          have hK0 := hR.first hM
          have hB0 := HR3.out.kept hK0 (fun h => h)
          refine relAt_store_mid 39 (.tmp 2) _ rfl rb 0 #[.int .i64 2, .int .i64 0, .int .i64 0, .int .i64 0, .bool false, .int .u64 0, .int .u64 0, .int .u16 0, .int .u8 0, .int .i64 0, .slice none 0 0] rfl rfl (hB0.there rfl) (by kernel_rfl) (by simp [Value.oneCell']) ?_
          exact ⟨hR.into (Kept.setCells (S := fun i => i = rb) rfl _ _ (Kept.refl _ _)), hR.put 0 rfl rfl (hB0.setAll #[.int .i64 2, .int .i64 0, .int .i64 0, .int .i64 0, .bool false, .int .u64 0, .int .u64 0, .int .u16 0, .int .u8 0, .int .i64 0, .slice none 0 0] rfl)⟩
        intro v hv
        obtain ⟨u, _, hu⟩ := hv
        obtain - := hR.get 0 rfl hu
        clear hu
        intro K hK
        go_big_quiet_op
        go_big_quiet_on
        repeat (first | (refine wpR_det hp2 rfl ((hR.rel _).trans rfl) rfl ?_; intro K hK; go_big_quiet_op; go_big_quiet_on) | (refine wpR_ptr hp2 rfl ((hR.rel _).trans rfl) rfl rfl ?_; intro K hK; go_big_quiet_op; go_big_quiet_on) | (refine wpR_skip pick rfl ?_; intro K hK; go_big_quiet_op; go_big_quiet_on))
        refine wpR_nil ?_
        intro w4 hk2 hF hM
        have HR9 := Lib.hid (show Blk w4 rb 39 #[.int .i64 2, .int .i64 0, .int .i64 0, .int .i64 0, .bool false, .int .u64 0, .int .u64 0, .int .u16 0, .int .u8 0, .int .i64 0, .slice none 0 0] from hR.get 0 rfl hM)
        have HBZ := Lib.hid ((HK3.out.below (Nat.le_refl _) (fun i h => h.elim)).trans (hk2.below HK3.out.size (fun i e => by have := HRB.out; omega)))
        clear hF hM hk2 hp1 hp2 hR sF HR3 HK3 cF lF
        go_wp2_with fail
        refine bodyPost_ret (results_blk_tmp (P := Tryz.prog) (show Tryz.f18.results = _ from rfl) _ _ rb 39 #[.int .i64 2, .int .i64 0, .int .i64 0, .int .i64 0, .bool false, .int .u64 0, .int .u64 0, .int .u16 0, .int .u8 0, .int .i64 0, .slice none 0 0] _ rfl HR9.out Tryz.underlying39 rfl (by kernel_rfl)) rfl ?_
        exact ⟨HBZ.out, { Osp.zero with kind := 2 }, none, 0, 0, _, rfl, iss_no (by rw [HOP.out, ho]; rfl)⟩
      | some f =>
        obtain ⟨lv, nv, rfl, hlo, hnu⟩ := hfr
        obtain ⟨LA, lc, hlv, -⟩ := hlo
        subst hlv
        obtain ⟨ll, hll⟩ : ∃ ll, f.load.length = ll := ⟨_, rfl⟩
        rw [hll]
        clear hll
        have HN2 := Lib.hid hnu
        obtain ⟨NA, nc, hnv, hnc1, hnc2⟩ := hnu.shape
        subst hnv
        have hnl := fitS_len ho
        unfold FC
        go_upto_region 11 with (show wpList _ _ _ ((⟨none, .store 60 (.tmp 6) _, _, _, _, none⟩ : Oper) :: _) _ _; refine wpList_store_mid rfl 60 (.tmp 6) _ rfl w2.heap.size 0 #[.int .i64 0, .int .i64 0, .int .i64 0, .int .i64 0, .int .i64 0, .bool false, .int .u64 0, .int .u64 0, .int .u16 0, .int .u8 0, .int .i64 0, .slice none 0 0, .int .i64 0, .int .i64 0, .int .u8 0, (.slice LA ll lc), .int .u32 0, .int .u32 0, .int .u32 0, .bool false, .int .u64 0, .int .u64 0, .int .u16 0, (.slice NA (ics f.nums).length nc), .bool f.a.six, .int .u64 (f.a.hi : Int), .int .u64 (f.a.lo : Int), .int .i64 (f.po : Int), .int .u8 (f.p : Int), .int .i64 (f.wy : Int), .bool true] rfl rfl ((Blk.new w2 60 #[.int .i64 0, .int .i64 0, .int .i64 0, .int .i64 0, .int .i64 0, .bool false, .int .u64 0, .int .u64 0, .int .u16 0, .int .u8 0, .int .i64 0, .slice none 0 0, .int .i64 0, .int .i64 0, .int .u8 0, .slice none 0 0, .int .u32 0, .int .u32 0, .int .u32 0, .bool false, .int .u64 0, .int .u64 0, .int .u16 0, .slice none 0 0, .bool false, .int .u64 0, .int .u64 0, .int .i64 0, .int .u8 0, .int .i64 0, .bool false]).there rfl) (by kernel_rfl) (by simp [Value.oneCell']) ?_)
        generalize hw4 : (World.setCells _ _ _ _) = w3
        have HKA := Lib.hid (show Kept (fun i => i = w2.heap.size) (w2.alloc (.cells #[.int .i64 0, .int .i64 0, .int .i64 0, .int .i64 0, .int .i64 0, .bool false, .int .u64 0, .int .u64 0, .int .u16 0, .int .u8 0, .int .i64 0, .slice none 0 0, .int .i64 0, .int .i64 0, .int .u8 0, .slice none 0 0, .int .u32 0, .int .u32 0, .int .u32 0, .bool false, .int .u64 0, .int .u64 0, .int .u16 0, .slice none 0 0, .bool false, .int .u64 0, .int .u64 0, .int .i64 0, .int .u8 0, .int .i64 0, .bool false] 60)) w3 by rw [← hw4]; exact Kept.setCells (S := fun i => i = w2.heap.size) rfl _ _ (Kept.refl _ _))
        have HF3 := Lib.hid (show Blk w3 w2.heap.size 60 #[.int .i64 0, .int .i64 0, .int .i64 0, .int .i64 0, .int .i64 0, .bool false, .int .u64 0, .int .u64 0, .int .u16 0, .int .u8 0, .int .i64 0, .slice none 0 0, .int .i64 0, .int .i64 0, .int .u8 0, (.slice LA ll lc), .int .u32 0, .int .u32 0, .int .u32 0, .bool false, .int .u64 0, .int .u64 0, .int .u16 0, (.slice NA (ics f.nums).length nc), .bool f.a.six, .int .u64 (f.a.hi : Int), .int .u64 (f.a.lo : Int), .int .i64 (f.po : Int), .int .u8 (f.p : Int), .int .i64 (f.wy : Int), .bool true] by rw [← hw4]; exact (Blk.new w2 60 #[.int .i64 0, .int .i64 0, .int .i64 0, .int .i64 0, .int .i64 0, .bool false, .int .u64 0, .int .u64 0, .int .u16 0, .int .u8 0, .int .i64 0, .slice none 0 0, .int .i64 0, .int .i64 0, .int .u8 0, .slice none 0 0, .int .u32 0, .int .u32 0, .int .u32 0, .bool false, .int .u64 0, .int .u64 0, .int .u16 0, .slice none 0 0, .bool false, .int .u64 0, .int .u64 0, .int .i64 0, .int .u8 0, .int .i64 0, .bool false]).setAll #[.int .i64 0, .int .i64 0, .int .i64 0, .int .i64 0, .int .i64 0, .bool false, .int .u64 0, .int .u64 0, .int .u16 0, .int .u8 0, .int .i64 0, .slice none 0 0, .int .i64 0, .int .i64 0, .int .u8 0, (.slice LA ll lc), .int .u32 0, .int .u32 0, .int .u32 0, .bool false, .int .u64 0, .int .u64 0, .int .u16 0, (.slice NA (ics f.nums).length nc), .bool f.a.six, .int .u64 (f.a.hi : Int), .int .u64 (f.a.lo : Int), .int .i64 (f.po : Int), .int .u8 (f.p : Int), .int .i64 (f.wy : Int), .bool true] rfl)
        have HKB := Lib.hid (show Kept (fun _ => False) w2 w3 from ((Kept.refl _ _).alloc _).then HKA.out (fun i hi e => by omega))
        have HR3 := Lib.hid (HR2.out.kept HKB.out (fun h => h))
        have HK3 := Lib.hid (HK2.out.trans HKB.out)
        have HN3 := Lib.hid (HN2.out.kept HKB.out (fun _ _ h => h))
        obtain ⟨fb, hfb⟩ : ∃ fb, w2.heap.size = fb := ⟨_, rfl⟩
        rw [hfb] at HF3 ⊢
        clear hw4 HKA HKB hfb HR2 HK2
        have cF := HF3.out.cell
        have lF := HF3.out.lt
        have c3 := (HK3.out.cell hb (fun h => h) off).trans HC0.out
        have hfr : ¬ fb = rb := fun e => HF3.out.ne_ HR3.out (by decide) e
        rw [put_none]
        have hpo : (f.po : Int) ≤ 65535 := by have := fitS_po ho (by decide); omega
        have hpo0 : (0 : Int) ≤ (f.po : Int) := Int.natCast_nonneg _
        refine wp_region_add 14 (fun i => i = rb) [12] [] [(12, fun v u => Blk u rb 39 #[.int .i64 2, .int .i64 0, .int .i64 0, .int .i64 0, .bool f.a.six, .int .u64 (f.a.hi : Int), .int .u64 (f.a.lo : Int), .int .u16 (f.po : Int), .int .u8 (f.p : Int), .int .i64 (f.wy : Int), .slice none 0 0])] ?st ?ne rfl (by kernel_rfl) (by kernel_rfl) (by kernel_rfl) ?_
        case st =>
          intro p hp
          simp only [List.mem_cons, List.not_mem_nil, or_false] at hp
          subst hp
          · intro v u u' h hk; exact h.kept hk (fun h => h)
        case ne =>
          intro p hp
          simp only [List.mem_cons, List.not_mem_nil, or_false] at hp
          subst hp
          · exact ⟨undef, _, (Kept.setCells (S := fun i => i = rb) rfl _ _ (Kept.refl _ _)), HR3.out.setAll #[.int .i64 2, .int .i64 0, .int .i64 0, .int .i64 0, .bool f.a.six, .int .u64 (f.a.hi : Int), .int .u64 (f.a.lo : Int), .int .u16 (f.po : Int), .int .u8 (f.p : Int), .int .i64 (f.wy : Int), .slice none 0 0] rfl⟩
        simp only [List.take_succ_cons, List.take_zero, List.drop_succ_cons, List.drop_zero]
        intro G pick hR hp1 hp2
        have sF : ∀ u i, (pick u).cell? ⟨fb, i, none⟩ = #[.int .i64 0, .int .i64 0, .int .i64 0, .int .i64 0, .int .i64 0, .bool false, .int .u64 0, .int .u64 0, .int .u16 0, .int .u8 0, .int .i64 0, .slice none 0 0, .int .i64 0, .int .i64 0, .int .u8 0, (.slice LA ll lc), .int .u32 0, .int .u32 0, .int .u32 0, .bool false, .int .u64 0, .int .u64 0, .int .u16 0, (.slice NA (ics f.nums).length nc), .bool f.a.six, .int .u64 (f.a.hi : Int), .int .u64 (f.a.lo : Int), .int .i64 (f.po : Int), .int .u8 (f.p : Int), .int .i64 (f.wy : Int), .bool true][i]? := fun u i => ((hp1 u).cell lF hfr _).trans (cF i)
        repeat (first | (refine wpR_det hp2 rfl ((hR.rel _).trans rfl) rfl ?_; intro K hK; go_big_quiet_op; go_big_quiet_on) | (refine wpR_ptr hp2 rfl ((hR.rel _).trans rfl) rfl rfl ?_; intro K hK; go_big_quiet_op; go_big_quiet_on) | (refine wpR_skip pick rfl ?_; intro K hK; go_big_quiet_op; go_big_quiet_on))
        refine wpR_turn pick rfl ((hR.rel _).trans rfl) ((hR.turns _).trans rfl) ((hR.adds _).trans rfl) ?_ ?_
        · intro u hu hM
          have hk := hR.since hu.1
          have hks := hk.size
          have hK0 := hR.first hM
          have hB0 := HR3.out.kept hK0 (fun h => h)
          refine relAt_store_mid 39 (.tmp 2) _ rfl rb 0 #[.int .i64 2, .int .i64 0, .int .i64 0, .int .i64 0, .bool f.a.six, .int .u64 (f.a.hi : Int), .int .u64 (f.a.lo : Int), .int .u16 (f.po : Int), .int .u8 (f.p : Int), .int .i64 (f.wy : Int), .slice none 0 0] rfl rfl (hB0.there rfl) (by kernel_rfl) (by simp [Value.oneCell']) ?_
          exact ⟨hR.into (Kept.setCells (S := fun i => i = rb) rfl _ _ (Kept.refl _ _)), hR.put 0 rfl rfl (hB0.setAll #[.int .i64 2, .int .i64 0, .int .i64 0, .int .i64 0, .bool f.a.six, .int .u64 (f.a.hi : Int), .int .u64 (f.a.lo : Int), .int .u16 (f.po : Int), .int .u8 (f.p : Int), .int .i64 (f.wy : Int), .slice none 0 0] rfl)⟩
        intro v hv
        obtain ⟨u, _, hu⟩ := hv
        obtain - := hR.get 0 rfl hu
        clear hu
        intro K hK
        go_big_quiet_op
        go_big_quiet_on
        repeat (first | (refine wpR_det hp2 rfl ((hR.rel _).trans rfl) rfl ?_; intro K hK; go_big_quiet_op; go_big_quiet_on) | (refine wpR_ptr hp2 rfl ((hR.rel _).trans rfl) rfl rfl ?_; intro K hK; go_big_quiet_op; go_big_quiet_on) | (refine wpR_skip pick rfl ?_; intro K hK; go_big_quiet_op; go_big_quiet_on))
        refine wpR_nil ?_
        intro w4 hk2 hF hM
        have HR9 := Lib.hid (show Blk w4 rb 39 #[.int .i64 2, .int .i64 0, .int .i64 0, .int .i64 0, .bool f.a.six, .int .u64 (f.a.hi : Int), .int .u64 (f.a.lo : Int), .int .u16 (f.po : Int), .int .u8 (f.p : Int), .int .i64 (f.wy : Int), .slice none 0 0] from hR.get 0 rfl hM)
        have HBZ := Lib.hid ((HK3.out.below (Nat.le_refl _) (fun i h => h.elim)).trans (hk2.below HK3.out.size (fun i e => by have := HRB.out; omega)))
        clear hF hM hk2 hp1 hp2 hR sF HR3 HK3 cF lF
        go_wp2_with fail
        refine bodyPost_ret (results_blk_tmp (P := Tryz.prog) (show Tryz.f18.results = _ from rfl) _ _ rb 39 #[.int .i64 2, .int .i64 0, .int .i64 0, .int .i64 0, .bool f.a.six, .int .u64 (f.a.hi : Int), .int .u64 (f.a.lo : Int), .int .u16 (f.po : Int), .int .u8 (f.p : Int), .int .i64 (f.wy : Int), .slice none 0 0] _ rfl HR9.out Tryz.underlying39 rfl (by kernel_rfl)) rfl ?_
        exact ⟨HBZ.out, fillO 2 f, none, 0, 0, _, rfl, iss_yes (by rw [HOP.out, ho]; rfl) rfl rfl⟩
    by_cases n2 : x.data.toList = [109, 101, 109, 98, 101, 114, 115]
    · skip
      have HXL := Lib.hid (show x.toList = [109, 101, 109, 98, 101, 114, 115] by rw [Lib.toList_data]; exact n2)
      have q0 : (x.toList == [98, 97, 99, 107, 101, 110, 100]) = false := by rw [HXL.out]; rfl
      have q1 : (x.toList == [118, 105, 112]) = false := by rw [HXL.out]; rfl
      have q2 : (x.toList == [109, 101, 109, 98, 101, 114, 115]) = true := by rw [HXL.out]; rfl
      have q3 : (x.toList == [114, 101, 116, 105, 114, 101]) = false := by rw [HXL.out]; rfl
      have q4 : (x.toList == [114, 101, 108, 101, 97, 115, 101]) = false := by rw [HXL.out]; rfl
      have q5 : (x.toList == [101, 118, 105, 99, 116]) = false := by rw [HXL.out]; rfl
      have q6 : (x.toList == [97, 100, 109, 105, 116]) = false := by rw [HXL.out]; rfl
      have q7 : (x.toList == [114, 111, 116, 97, 116, 101]) = false := by rw [HXL.out]; rfl
      cases xs with
      | nil =>
        go_wp2_with (show wpList _ _ _ ((⟨none, .store 39 (.tmp 2) _, _, _, _, none⟩ : Oper) :: _) _ _; refine wpList_store_mid rfl 39 (.tmp 2) _ rfl rb 0 #[.int .i64 0, .int .i64 0, .int .i64 0, .int .i64 0, .bool false, .int .u64 0, .int .u64 0, .int .u16 0, .int .u8 0, .int .i64 0, .slice none 0 0] rfl rfl (HR1.out.there rfl) (by kernel_rfl) (by simp [Value.oneCell']) ?_)
        generalize hw9 : (World.setCells _ _ _ _) = w9
        have HK9 := Lib.hid (show Kept (fun i => i = rb) w1 w9 by rw [← hw9]; exact Kept.setCells (S := fun i => i = rb) rfl _ _ (Kept.refl _ _))
        have HR9 := Lib.hid (show Blk w9 rb 39 #[.int .i64 0, .int .i64 0, .int .i64 0, .int .i64 0, .bool false, .int .u64 0, .int .u64 0, .int .u16 0, .int .u8 0, .int .i64 0, .slice none 0 0] by rw [← hw9]; exact HR1.out.setAll #[.int .i64 0, .int .i64 0, .int .i64 0, .int .i64 0, .bool false, .int .u64 0, .int .u64 0, .int .u16 0, .int .u8 0, .int .i64 0, .slice none 0 0] rfl)
        clear hw9
        refine bodyPost_ret (results_blk_tmp (P := Tryz.prog) (show Tryz.f18.results = _ from rfl) _ _ rb 39 #[.int .i64 0, .int .i64 0, .int .i64 0, .int .i64 0, .bool false, .int .u64 0, .int .u64 0, .int .u16 0, .int .u8 0, .int .i64 0, .slice none 0 0] _ rfl HR9.out Tryz.underlying39 rfl (by kernel_rfl)) rfl ?_
        have HBZ := Lib.hid ((HK1.out.below (Nat.le_refl _) (fun i h => h.elim)).trans (HK9.out.below HK1.out.size (fun i e => by have := HRB.out; omega)))
        exact ⟨HBZ.out, Osp.zero, none, 0, 0, false, rfl, iss_no (by rw [List.map_cons, n2]; rfl)⟩
      | cons v ms =>
        have HOP := Lib.hid (show opP ((x :: v :: ms).map (·.data.toList)) = (fitS [75] ([v].map (·.data.toList)) Fd.zero).bind fun f => (memsR false [] (ms.map (·.data.toList))).map fun l => { Osp.zero with kind := 3, vip := (f.nums.getD 0 0 : Nat), ms := l } by rw [List.map_cons, List.map_cons, n2]; exact opP_mem _ _)
        obtain ⟨b2, o2, hb2w, rfl, c2, hat2⟩ := HSR0.out.head
        rw [List.length_cons] at hcap ⊢
        have hly : (((ms.length : Int) + 1) == 0) = false := by simp; omega
        have hc2 : 2 ≤ c := by omega
        obtain ⟨c1, hce⟩ : ∃ c1, c - 1 = c1 := ⟨_, rfl⟩
        have hcap1 : ms.length + 1 ≤ c1 := by omega
        have hcI : (1 : Int) ≤ (c1 : Int) := by omega
        have hcJ : (c1 : Int) ≤ 9223372036854775807 := by omega
        rw [hce]
        have HS1 := Lib.hid (show SS w1 w1.heap.size (some ⟨b2, o2, none⟩) [v] from .inr ⟨b2, o2, Nat.lt_of_lt_of_le hb2w HK1.out.size, rfl, fun k hk => by
          have hk0 : k = 0 := by simpa using hk
          subst hk0
          exact (HK1.out.cell hb2w (fun h => h) _).trans c2⟩)
        have HMZ := Lib.hid (show ∀ y ∈ ms, y.size ≤ 4000 from fun y hy => by
          rw [Lib.size_eq]
          exact Nat.le_trans (joinC_len_get 32 ((v :: ms).map (·.data.toList)) _ (List.mem_map_of_mem (f := fun (z : ByteArray) => z.data.toList) (List.mem_cons_of_mem _ hy))) HZR.out)
        have hsr := SS.rest (c := c1) hb2w hat2 (by omega)
        obtain ⟨RB, hRB⟩ : ∃ RB, (if c1 = 1 then (some ⟨b2, o2, none⟩ : Option Addr) else some ⟨b2, o2 + 1, none⟩) = RB := ⟨_, rfl⟩
        rw [hRB] at hsr
        have HSM := Lib.hid (show ∀ u, Kept (fun _ => False) w u → SS u u.heap.size RB ms from fun u hk => by
          rcases hsr with h | ⟨b', o', h1, h2, h3⟩
          · exact .inl h
          · exact .inr ⟨b', o', Nat.lt_of_lt_of_le h1 hk.size, h2, fun k hk' => (hk.cell h1 (fun h => h) _).trans (h3 k hk')⟩)
        have HZR0 := HZR
        have HZR := Lib.hid (show (joinC 32 ([v].map (·.data.toList))).length ≤ 4000 from (show v.data.toList.length ≤ 4000 from Nat.le_trans (joinC_len_get 32 ((v :: ms).map (·.data.toList)) v.data.toList (List.mem_map_of_mem (f := fun (z : ByteArray) => z.data.toList) List.mem_cons_self)) HZR0.out))
        have HRBE := Lib.hid hRB
        clear hsr hat2 HSR0 HSR HZR0 c2 hRB hce hcap hc2 hcm
        by_cases hc11 : c1 = 1
        · subst hc11
          have hRB0 : RB = some ⟨b2, o2, none⟩ := by rw [← HRBE.out]; rfl
          subst hRB0
          clear HRBE
          have HFT := Lib.hid (fit_any ⟨#[75]⟩ [v] (some ⟨b2, o2, none⟩) 1 w1 (by decide) (by first | omega | (simp; done) | (simp; omega)) (by unfold maxLen; omega) HZR.out HS1.out)
          obtain ⟨o, ho⟩ : ∃ o, fitS [75] ([v].map (·.data.toList)) Fd.zero = o := ⟨_, rfl⟩
          rw [show fitS (⟨#[75]⟩ : ByteArray).data.toList ([v].map (·.data.toList)) Fd.zero = o from ho] at HFT
          go_wp2_with fail
          refine HFT.out.mono ?_
          rintro e w2 ⟨hb2, hfr⟩
          have HR2 := Lib.hid (HR1.out.below hb2 HR1.out.lt)
          have HK2 := Lib.hid (HK1.out.trans (Kept.ofB (S := fun _ => False) hb2))
          have hsz2 := hb2.size
          clear hb2 HFT
          cases o with
          | none =>
            obtain rfl : e = _ := hfr
            unfold Z63
            go_upto_region 16 with (show wpList _ _ _ ((⟨none, .store 60 (.tmp 7) _, _, _, _, none⟩ : Oper) :: _) _ _; refine wpList_store_mid rfl 60 (.tmp 7) _ rfl w2.heap.size 0 #[.int .i64 0, .int .i64 0, .int .i64 0, .int .i64 0, .int .i64 0, .bool false, .int .u64 0, .int .u64 0, .int .u16 0, .int .u8 0, .int .i64 0, .slice none 0 0, .int .i64 0, .int .i64 0, .int .u8 0, .slice none 0 0, .int .u32 0, .int .u32 0, .int .u32 0, .bool false, .int .u64 0, .int .u64 0, .int .u16 0, .slice none 0 0, .bool false, .int .u64 0, .int .u64 0, .int .i64 0, .int .u8 0, .int .i64 0, .bool false] rfl rfl ((Blk.new w2 60 #[.int .i64 0, .int .i64 0, .int .i64 0, .int .i64 0, .int .i64 0, .bool false, .int .u64 0, .int .u64 0, .int .u16 0, .int .u8 0, .int .i64 0, .slice none 0 0, .int .i64 0, .int .i64 0, .int .u8 0, .slice none 0 0, .int .u32 0, .int .u32 0, .int .u32 0, .bool false, .int .u64 0, .int .u64 0, .int .u16 0, .slice none 0 0, .bool false, .int .u64 0, .int .u64 0, .int .i64 0, .int .u8 0, .int .i64 0, .bool false]).there rfl) (by kernel_rfl) (by simp [Value.oneCell']) ?_)
            generalize hw4 : (World.setCells _ _ _ _) = w3
            have HKA := Lib.hid (show Kept (fun i => i = w2.heap.size) (w2.alloc (.cells #[.int .i64 0, .int .i64 0, .int .i64 0, .int .i64 0, .int .i64 0, .bool false, .int .u64 0, .int .u64 0, .int .u16 0, .int .u8 0, .int .i64 0, .slice none 0 0, .int .i64 0, .int .i64 0, .int .u8 0, .slice none 0 0, .int .u32 0, .int .u32 0, .int .u32 0, .bool false, .int .u64 0, .int .u64 0, .int .u16 0, .slice none 0 0, .bool false, .int .u64 0, .int .u64 0, .int .i64 0, .int .u8 0, .int .i64 0, .bool false] 60)) w3 by rw [← hw4]; exact Kept.setCells (S := fun i => i = w2.heap.size) rfl _ _ (Kept.refl _ _))
            have HF3 := Lib.hid (show Blk w3 w2.heap.size 60 #[.int .i64 0, .int .i64 0, .int .i64 0, .int .i64 0, .int .i64 0, .bool false, .int .u64 0, .int .u64 0, .int .u16 0, .int .u8 0, .int .i64 0, .slice none 0 0, .int .i64 0, .int .i64 0, .int .u8 0, .slice none 0 0, .int .u32 0, .int .u32 0, .int .u32 0, .bool false, .int .u64 0, .int .u64 0, .int .u16 0, .slice none 0 0, .bool false, .int .u64 0, .int .u64 0, .int .i64 0, .int .u8 0, .int .i64 0, .bool false] by rw [← hw4]; exact (Blk.new w2 60 #[.int .i64 0, .int .i64 0, .int .i64 0, .int .i64 0, .int .i64 0, .bool false, .int .u64 0, .int .u64 0, .int .u16 0, .int .u8 0, .int .i64 0, .slice none 0 0, .int .i64 0, .int .i64 0, .int .u8 0, .slice none 0 0, .int .u32 0, .int .u32 0, .int .u32 0, .bool false, .int .u64 0, .int .u64 0, .int .u16 0, .slice none 0 0, .bool false, .int .u64 0, .int .u64 0, .int .i64 0, .int .u8 0, .int .i64 0, .bool false]).setAll #[.int .i64 0, .int .i64 0, .int .i64 0, .int .i64 0, .int .i64 0, .bool false, .int .u64 0, .int .u64 0, .int .u16 0, .int .u8 0, .int .i64 0, .slice none 0 0, .int .i64 0, .int .i64 0, .int .u8 0, .slice none 0 0, .int .u32 0, .int .u32 0, .int .u32 0, .bool false, .int .u64 0, .int .u64 0, .int .u16 0, .slice none 0 0, .bool false, .int .u64 0, .int .u64 0, .int .i64 0, .int .u8 0, .int .i64 0, .bool false] rfl)
            have HKB := Lib.hid (show Kept (fun _ => False) w2 w3 from ((Kept.refl _ _).alloc _).then HKA.out (fun i hi e => by omega))
            have HR3 := Lib.hid (HR2.out.kept HKB.out (fun h => h))
            have HK3 := Lib.hid (HK2.out.trans HKB.out)
            obtain ⟨fb, hfb⟩ : ∃ fb, w2.heap.size = fb := ⟨_, rfl⟩
            rw [hfb] at HF3 ⊢
            clear hw4 HKA HKB hfb HR2 HK2
            have cF := HF3.out.cell
            have lF := HF3.out.lt
            have c3 := (HK3.out.cell hb (fun h => h) off).trans HC0.out
            have HM4 := Lib.hid (refMembers ms (some ⟨b2, o2, none⟩) (1 - 1) w3 (by omega) (by unfold maxLen; omega) HMZ.out (HSM.out w3 (HK3.out)))
            rw [show ms.length = 0 by omega] at HM4; go_wp2_with fail
            refine HM4.out.mono ?_
            rintro e w4 ⟨hb4, hmr⟩
            have HR4 := Lib.hid (HR3.out.below hb4 HR3.out.lt)
            have HF4 := Lib.hid (HF3.out.below hb4 HF3.out.lt)
            have HK4 := Lib.hid (HK3.out.trans (Kept.ofB (S := fun _ => False) hb4))
            have hs43 := hb4.size
            obtain ⟨om, hom⟩ : ∃ om, memsR false [] (ms.map (·.data.toList)) = om := ⟨_, rfl⟩
            rw [hom] at hmr
            have HOM := Lib.hid hom

            clear HM4 hb4 hom cF lF c3
            have cF := HF4.out.cell
            have lF := HF4.out.lt
            cases om with
            | none =>
              obtain rfl : e = _ := hmr
              go_wp2_with (show wpList _ _ _ ((⟨none, .store 39 (.tmp 2) _, _, _, _, none⟩ : Oper) :: _) _ _; refine wpList_store_mid rfl 39 (.tmp 2) _ rfl rb 0 #[.int .i64 0, .int .i64 0, .int .i64 0, .int .i64 0, .bool false, .int .u64 0, .int .u64 0, .int .u16 0, .int .u8 0, .int .i64 0, .slice none 0 0] rfl rfl (HR4.out.there rfl) (by kernel_rfl) (by simp [Value.oneCell']) ?_)
              generalize hw9 : (World.setCells _ _ _ _) = w9
              have HK9 := Lib.hid (show Kept (fun i => i = rb) w4 w9 by rw [← hw9]; exact Kept.setCells (S := fun i => i = rb) rfl _ _ (Kept.refl _ _))
              have HR9 := Lib.hid (show Blk w9 rb 39 #[.int .i64 0, .int .i64 0, .int .i64 0, .int .i64 0, .bool false, .int .u64 0, .int .u64 0, .int .u16 0, .int .u8 0, .int .i64 0, .slice none 0 0] by rw [← hw9]; exact HR4.out.setAll #[.int .i64 0, .int .i64 0, .int .i64 0, .int .i64 0, .bool false, .int .u64 0, .int .u64 0, .int .u16 0, .int .u8 0, .int .i64 0, .slice none 0 0] rfl)
              clear hw9
              refine bodyPost_ret (results_blk_tmp (P := Tryz.prog) (show Tryz.f18.results = _ from rfl) _ _ rb 39 #[.int .i64 0, .int .i64 0, .int .i64 0, .int .i64 0, .bool false, .int .u64 0, .int .u64 0, .int .u16 0, .int .u8 0, .int .i64 0, .slice none 0 0] _ rfl HR9.out Tryz.underlying39 rfl (by kernel_rfl)) rfl ?_
              have HBZ := Lib.hid ((HK4.out.below (Nat.le_refl _) (fun i h => h.elim)).trans (HK9.out.below HK4.out.size (fun i e => by have := HRB.out; omega)))
              exact ⟨HBZ.out, Osp.zero, none, 0, 0, false, rfl, iss_no (by rw [HOP.out, ho]; rfl)⟩
            | some ml0 =>
              obtain ⟨mv, rfl, hrow⟩ := hmr
              obtain ⟨MA, mc, rfl, -, -⟩ := hrow.shape
              clear hrow
              go_wp2_with (show wpList _ _ _ ((⟨none, .store 39 (.tmp 2) _, _, _, _, none⟩ : Oper) :: _) _ _; refine wpList_store_mid rfl 39 (.tmp 2) _ rfl rb 0 #[.int .i64 0, .int .i64 0, .int .i64 0, .int .i64 0, .bool false, .int .u64 0, .int .u64 0, .int .u16 0, .int .u8 0, .int .i64 0, .slice none 0 0] rfl rfl (HR4.out.there rfl) (by kernel_rfl) (by simp [Value.oneCell']) ?_)
              generalize hw9 : (World.setCells _ _ _ _) = w9
              have HK9 := Lib.hid (show Kept (fun i => i = rb) w4 w9 by rw [← hw9]; exact Kept.setCells (S := fun i => i = rb) rfl _ _ (Kept.refl _ _))
              have HR9 := Lib.hid (show Blk w9 rb 39 #[.int .i64 0, .int .i64 0, .int .i64 0, .int .i64 0, .bool false, .int .u64 0, .int .u64 0, .int .u16 0, .int .u8 0, .int .i64 0, .slice none 0 0] by rw [← hw9]; exact HR4.out.setAll #[.int .i64 0, .int .i64 0, .int .i64 0, .int .i64 0, .bool false, .int .u64 0, .int .u64 0, .int .u16 0, .int .u8 0, .int .i64 0, .slice none 0 0] rfl)
              clear hw9
              refine bodyPost_ret (results_blk_tmp (P := Tryz.prog) (show Tryz.f18.results = _ from rfl) _ _ rb 39 #[.int .i64 0, .int .i64 0, .int .i64 0, .int .i64 0, .bool false, .int .u64 0, .int .u64 0, .int .u16 0, .int .u8 0, .int .i64 0, .slice none 0 0] _ rfl HR9.out Tryz.underlying39 rfl (by kernel_rfl)) rfl ?_
              have HBZ := Lib.hid ((HK4.out.below (Nat.le_refl _) (fun i h => h.elim)).trans (HK9.out.below HK4.out.size (fun i e => by have := HRB.out; omega)))
              exact ⟨HBZ.out, Osp.zero, none, 0, 0, false, rfl, iss_no (by rw [HOP.out, ho]; rfl)⟩
          | some f =>
            obtain ⟨lv, nv, rfl, hlo, hnu⟩ := hfr
            obtain ⟨LA, lc, hlv, -⟩ := hlo
            subst hlv
            obtain ⟨ll, hll⟩ : ∃ ll, f.load.length = ll := ⟨_, rfl⟩
            rw [hll]
            clear hll
            have HN2 := Lib.hid hnu
            obtain ⟨NA, nc, hnv, hnc1, hnc2⟩ := hnu.shape
            subst hnv
            have hnl := fitS_len ho
            unfold FC
            go_upto_region 16 with (show wpList _ _ _ ((⟨none, .store 60 (.tmp 7) _, _, _, _, none⟩ : Oper) :: _) _ _; refine wpList_store_mid rfl 60 (.tmp 7) _ rfl w2.heap.size 0 #[.int .i64 0, .int .i64 0, .int .i64 0, .int .i64 0, .int .i64 0, .bool false, .int .u64 0, .int .u64 0, .int .u16 0, .int .u8 0, .int .i64 0, .slice none 0 0, .int .i64 0, .int .i64 0, .int .u8 0, (.slice LA ll lc), .int .u32 0, .int .u32 0, .int .u32 0, .bool false, .int .u64 0, .int .u64 0, .int .u16 0, (.slice NA (ics f.nums).length nc), .bool f.a.six, .int .u64 (f.a.hi : Int), .int .u64 (f.a.lo : Int), .int .i64 (f.po : Int), .int .u8 (f.p : Int), .int .i64 (f.wy : Int), .bool true] rfl rfl ((Blk.new w2 60 #[.int .i64 0, .int .i64 0, .int .i64 0, .int .i64 0, .int .i64 0, .bool false, .int .u64 0, .int .u64 0, .int .u16 0, .int .u8 0, .int .i64 0, .slice none 0 0, .int .i64 0, .int .i64 0, .int .u8 0, .slice none 0 0, .int .u32 0, .int .u32 0, .int .u32 0, .bool false, .int .u64 0, .int .u64 0, .int .u16 0, .slice none 0 0, .bool false, .int .u64 0, .int .u64 0, .int .i64 0, .int .u8 0, .int .i64 0, .bool false]).there rfl) (by kernel_rfl) (by simp [Value.oneCell']) ?_)
            generalize hw4 : (World.setCells _ _ _ _) = w3
            have HKA := Lib.hid (show Kept (fun i => i = w2.heap.size) (w2.alloc (.cells #[.int .i64 0, .int .i64 0, .int .i64 0, .int .i64 0, .int .i64 0, .bool false, .int .u64 0, .int .u64 0, .int .u16 0, .int .u8 0, .int .i64 0, .slice none 0 0, .int .i64 0, .int .i64 0, .int .u8 0, .slice none 0 0, .int .u32 0, .int .u32 0, .int .u32 0, .bool false, .int .u64 0, .int .u64 0, .int .u16 0, .slice none 0 0, .bool false, .int .u64 0, .int .u64 0, .int .i64 0, .int .u8 0, .int .i64 0, .bool false] 60)) w3 by rw [← hw4]; exact Kept.setCells (S := fun i => i = w2.heap.size) rfl _ _ (Kept.refl _ _))
            have HF3 := Lib.hid (show Blk w3 w2.heap.size 60 #[.int .i64 0, .int .i64 0, .int .i64 0, .int .i64 0, .int .i64 0, .bool false, .int .u64 0, .int .u64 0, .int .u16 0, .int .u8 0, .int .i64 0, .slice none 0 0, .int .i64 0, .int .i64 0, .int .u8 0, (.slice LA ll lc), .int .u32 0, .int .u32 0, .int .u32 0, .bool false, .int .u64 0, .int .u64 0, .int .u16 0, (.slice NA (ics f.nums).length nc), .bool f.a.six, .int .u64 (f.a.hi : Int), .int .u64 (f.a.lo : Int), .int .i64 (f.po : Int), .int .u8 (f.p : Int), .int .i64 (f.wy : Int), .bool true] by rw [← hw4]; exact (Blk.new w2 60 #[.int .i64 0, .int .i64 0, .int .i64 0, .int .i64 0, .int .i64 0, .bool false, .int .u64 0, .int .u64 0, .int .u16 0, .int .u8 0, .int .i64 0, .slice none 0 0, .int .i64 0, .int .i64 0, .int .u8 0, .slice none 0 0, .int .u32 0, .int .u32 0, .int .u32 0, .bool false, .int .u64 0, .int .u64 0, .int .u16 0, .slice none 0 0, .bool false, .int .u64 0, .int .u64 0, .int .i64 0, .int .u8 0, .int .i64 0, .bool false]).setAll #[.int .i64 0, .int .i64 0, .int .i64 0, .int .i64 0, .int .i64 0, .bool false, .int .u64 0, .int .u64 0, .int .u16 0, .int .u8 0, .int .i64 0, .slice none 0 0, .int .i64 0, .int .i64 0, .int .u8 0, (.slice LA ll lc), .int .u32 0, .int .u32 0, .int .u32 0, .bool false, .int .u64 0, .int .u64 0, .int .u16 0, (.slice NA (ics f.nums).length nc), .bool f.a.six, .int .u64 (f.a.hi : Int), .int .u64 (f.a.lo : Int), .int .i64 (f.po : Int), .int .u8 (f.p : Int), .int .i64 (f.wy : Int), .bool true] rfl)
            have HKB := Lib.hid (show Kept (fun _ => False) w2 w3 from ((Kept.refl _ _).alloc _).then HKA.out (fun i hi e => by omega))
            have HR3 := Lib.hid (HR2.out.kept HKB.out (fun h => h))
            have HK3 := Lib.hid (HK2.out.trans HKB.out)
            have HN3 := Lib.hid (HN2.out.kept HKB.out (fun _ _ h => h))
            obtain ⟨fb, hfb⟩ : ∃ fb, w2.heap.size = fb := ⟨_, rfl⟩
            rw [hfb] at HF3 ⊢
            clear hw4 HKA HKB hfb HR2 HK2
            have cF := HF3.out.cell
            have lF := HF3.out.lt
            have c3 := (HK3.out.cell hb (fun h => h) off).trans HC0.out
            obtain ⟨g, nc', hve, hgb, hgl, hce⟩ := HN3.out.at (i := 0) (by simp only [ics, List.length_map]; rw [hnl]; decide)
            injection hve with e1 e2 e3
            subst e1
            obtain ⟨a1, ha⟩ : ∃ a1, f.nums = [a1] := len1 hnl
            have n0 : w3.cell? ⟨g, 0, none⟩ = some (.int .i64 (a1 : Int)) := by rw [hce 0 (by rw [ha]; simp [ics])]; simp [ha, ics]
            have hil : (ics f.nums).length = 1 := by rw [ha]; rfl
            rw [hil] at HF3 cF ⊢
            clear hce e2 e3
            have HM4 := Lib.hid (refMembers ms (some ⟨b2, o2, none⟩) (1 - 1) w3 (by omega) (by unfold maxLen; omega) HMZ.out (HSM.out w3 (HK3.out)))
            rw [show ms.length = 0 by omega] at HM4; go_wp2_with fail
            refine HM4.out.mono ?_
            rintro e w4 ⟨hb4, hmr⟩
            have HR4 := Lib.hid (HR3.out.below hb4 HR3.out.lt)
            have HF4 := Lib.hid (HF3.out.below hb4 HF3.out.lt)
            have HK4 := Lib.hid (HK3.out.trans (Kept.ofB (S := fun _ => False) hb4))
            have hs43 := hb4.size
            obtain ⟨om, hom⟩ : ∃ om, memsR false [] (ms.map (·.data.toList)) = om := ⟨_, rfl⟩
            rw [hom] at hmr
            have HOM := Lib.hid hom
            have n0 := (hb4.cell (p := ⟨g, 0, none⟩) hgl).trans n0
            clear HM4 hb4 hom cF lF c3
            have cF := HF4.out.cell
            have lF := HF4.out.lt
            cases om with
            | none =>
              obtain rfl : e = _ := hmr
              go_wp2_with (show wpList _ _ _ ((⟨none, .store 39 (.tmp 2) _, _, _, _, none⟩ : Oper) :: _) _ _; refine wpList_store_mid rfl 39 (.tmp 2) _ rfl rb 0 #[.int .i64 0, .int .i64 0, .int .i64 0, .int .i64 0, .bool false, .int .u64 0, .int .u64 0, .int .u16 0, .int .u8 0, .int .i64 0, .slice none 0 0] rfl rfl (HR4.out.there rfl) (by kernel_rfl) (by simp [Value.oneCell']) ?_)
              generalize hw9 : (World.setCells _ _ _ _) = w9
              have HK9 := Lib.hid (show Kept (fun i => i = rb) w4 w9 by rw [← hw9]; exact Kept.setCells (S := fun i => i = rb) rfl _ _ (Kept.refl _ _))
              have HR9 := Lib.hid (show Blk w9 rb 39 #[.int .i64 0, .int .i64 0, .int .i64 0, .int .i64 0, .bool false, .int .u64 0, .int .u64 0, .int .u16 0, .int .u8 0, .int .i64 0, .slice none 0 0] by rw [← hw9]; exact HR4.out.setAll #[.int .i64 0, .int .i64 0, .int .i64 0, .int .i64 0, .bool false, .int .u64 0, .int .u64 0, .int .u16 0, .int .u8 0, .int .i64 0, .slice none 0 0] rfl)
              clear hw9
              refine bodyPost_ret (results_blk_tmp (P := Tryz.prog) (show Tryz.f18.results = _ from rfl) _ _ rb 39 #[.int .i64 0, .int .i64 0, .int .i64 0, .int .i64 0, .bool false, .int .u64 0, .int .u64 0, .int .u16 0, .int .u8 0, .int .i64 0, .slice none 0 0] _ rfl HR9.out Tryz.underlying39 rfl (by kernel_rfl)) rfl ?_
              have HBZ := Lib.hid ((HK4.out.below (Nat.le_refl _) (fun i h => h.elim)).trans (HK9.out.below HK4.out.size (fun i e => by have := HRB.out; omega)))
              exact ⟨HBZ.out, Osp.zero, none, 0, 0, false, rfl, iss_no (by rw [HOP.out, ho, HOM.out]; rfl)⟩
            | some ms0 =>
              obtain ⟨mv, rfl, hrow⟩ := hmr
              obtain ⟨MA, mc, rfl, -, -⟩ := hrow.shape
              obtain ⟨ml, hml⟩ : ∃ ml, (mcs ms0).length = ml := ⟨_, rfl⟩
              rw [hml] at hrow ⊢
              have HRW := Lib.hid hrow
              have HRN := Lib.hid (show ¬ (Value.slice MA ml mc).ownBlock = some rb from hrow.ne HR4.out (by decide))
              have HSZ := Lib.hid (show w.heap.size ≤ w3.heap.size from HK3.out.size)
              clear hrow hml
              go_wp2_with (show wpList _ _ _ ((⟨none, .store 39 (.tmp 2) _, _, _, _, none⟩ : Oper) :: _) _ _; refine wpList_store_mid rfl 39 (.tmp 2) _ rfl rb 0 #[.int .i64 3, .int .i64 (a1 : Int), .int .i64 0, .int .i64 0, .bool false, .int .u64 0, .int .u64 0, .int .u16 0, .int .u8 0, .int .i64 0, .slice MA ml mc] rfl rfl (HR4.out.there rfl) (by kernel_rfl) (by simp [Value.oneCell']) ?_)
              generalize hw9 : (World.setCells _ _ _ _) = w9
              have HK9 := Lib.hid (show Kept (fun i => i = rb) w4 w9 by rw [← hw9]; exact Kept.setCells (S := fun i => i = rb) rfl _ _ (Kept.refl _ _))
              have HR9 := Lib.hid (show Blk w9 rb 39 #[.int .i64 3, .int .i64 (a1 : Int), .int .i64 0, .int .i64 0, .bool false, .int .u64 0, .int .u64 0, .int .u16 0, .int .u8 0, .int .i64 0, .slice MA ml mc] by rw [← hw9]; exact HR4.out.setAll #[.int .i64 3, .int .i64 (a1 : Int), .int .i64 0, .int .i64 0, .bool false, .int .u64 0, .int .u64 0, .int .u16 0, .int .u8 0, .int .i64 0, .slice MA ml mc] rfl)
              clear hw9
              refine bodyPost_ret (results_blk_tmp (P := Tryz.prog) (show Tryz.f18.results = _ from rfl) _ _ rb 39 #[.int .i64 3, .int .i64 (a1 : Int), .int .i64 0, .int .i64 0, .bool false, .int .u64 0, .int .u64 0, .int .u16 0, .int .u8 0, .int .i64 0, .slice MA ml mc] _ rfl HR9.out Tryz.underlying39 rfl (by kernel_rfl)) rfl ?_
              have HBZ := Lib.hid ((HK4.out.below (Nat.le_refl _) (fun i h => h.elim)).trans (HK9.out.below HK4.out.size (fun i e => by have := HRB.out; omega)))
              exact ⟨HBZ.out, { Osp.zero with kind := 3, vip := (a1 : Nat), ms := ms0 }, MA, ml, mc, true, rfl, iss_mem (by rw [HOP.out, ho, HOM.out]; exact congrArg some (by rw [ha]; rfl)) ((RowN.kept HRW.out HK9.out (fun g hg e => HRN.out (by rw [hg, e]))).more HSZ.out)⟩
        · have hRB0 : RB = some ⟨b2, o2 + 1, none⟩ := by rw [← HRBE.out, if_neg hc11]
          subst hRB0
          clear HRBE
          have HFT := Lib.hid (fit_any ⟨#[75]⟩ [v] (some ⟨b2, o2, none⟩) c1 w1 (by decide) (by first | omega | (simp; done) | (simp; omega)) (by unfold maxLen; omega) HZR.out HS1.out)
          obtain ⟨o, ho⟩ : ∃ o, fitS [75] ([v].map (·.data.toList)) Fd.zero = o := ⟨_, rfl⟩
          rw [show fitS (⟨#[75]⟩ : ByteArray).data.toList ([v].map (·.data.toList)) Fd.zero = o from ho] at HFT
          go_wp2_with fail
          refine HFT.out.mono ?_
          rintro e w2 ⟨hb2, hfr⟩
          have HR2 := Lib.hid (HR1.out.below hb2 HR1.out.lt)
          have HK2 := Lib.hid (HK1.out.trans (Kept.ofB (S := fun _ => False) hb2))
          have hsz2 := hb2.size
          clear hb2 HFT
          cases o with
          | none =>
            obtain rfl : e = _ := hfr
            unfold Z63
            go_upto_region 16 with (show wpList _ _ _ ((⟨none, .store 60 (.tmp 7) _, _, _, _, none⟩ : Oper) :: _) _ _; refine wpList_store_mid rfl 60 (.tmp 7) _ rfl w2.heap.size 0 #[.int .i64 0, .int .i64 0, .int .i64 0, .int .i64 0, .int .i64 0, .bool false, .int .u64 0, .int .u64 0, .int .u16 0, .int .u8 0, .int .i64 0, .slice none 0 0, .int .i64 0, .int .i64 0, .int .u8 0, .slice none 0 0, .int .u32 0, .int .u32 0, .int .u32 0, .bool false, .int .u64 0, .int .u64 0, .int .u16 0, .slice none 0 0, .bool false, .int .u64 0, .int .u64 0, .int .i64 0, .int .u8 0, .int .i64 0, .bool false] rfl rfl ((Blk.new w2 60 #[.int .i64 0, .int .i64 0, .int .i64 0, .int .i64 0, .int .i64 0, .bool false, .int .u64 0, .int .u64 0, .int .u16 0, .int .u8 0, .int .i64 0, .slice none 0 0, .int .i64 0, .int .i64 0, .int .u8 0, .slice none 0 0, .int .u32 0, .int .u32 0, .int .u32 0, .bool false, .int .u64 0, .int .u64 0, .int .u16 0, .slice none 0 0, .bool false, .int .u64 0, .int .u64 0, .int .i64 0, .int .u8 0, .int .i64 0, .bool false]).there rfl) (by kernel_rfl) (by simp [Value.oneCell']) ?_)
            generalize hw4 : (World.setCells _ _ _ _) = w3
            have HKA := Lib.hid (show Kept (fun i => i = w2.heap.size) (w2.alloc (.cells #[.int .i64 0, .int .i64 0, .int .i64 0, .int .i64 0, .int .i64 0, .bool false, .int .u64 0, .int .u64 0, .int .u16 0, .int .u8 0, .int .i64 0, .slice none 0 0, .int .i64 0, .int .i64 0, .int .u8 0, .slice none 0 0, .int .u32 0, .int .u32 0, .int .u32 0, .bool false, .int .u64 0, .int .u64 0, .int .u16 0, .slice none 0 0, .bool false, .int .u64 0, .int .u64 0, .int .i64 0, .int .u8 0, .int .i64 0, .bool false] 60)) w3 by rw [← hw4]; exact Kept.setCells (S := fun i => i = w2.heap.size) rfl _ _ (Kept.refl _ _))
            have HF3 := Lib.hid (show Blk w3 w2.heap.size 60 #[.int .i64 0, .int .i64 0, .int .i64 0, .int .i64 0, .int .i64 0, .bool false, .int .u64 0, .int .u64 0, .int .u16 0, .int .u8 0, .int .i64 0, .slice none 0 0, .int .i64 0, .int .i64 0, .int .u8 0, .slice none 0 0, .int .u32 0, .int .u32 0, .int .u32 0, .bool false, .int .u64 0, .int .u64 0, .int .u16 0, .slice none 0 0, .bool false, .int .u64 0, .int .u64 0, .int .i64 0, .int .u8 0, .int .i64 0, .bool false] by rw [← hw4]; exact (Blk.new w2 60 #[.int .i64 0, .int .i64 0, .int .i64 0, .int .i64 0, .int .i64 0, .bool false, .int .u64 0, .int .u64 0, .int .u16 0, .int .u8 0, .int .i64 0, .slice none 0 0, .int .i64 0, .int .i64 0, .int .u8 0, .slice none 0 0, .int .u32 0, .int .u32 0, .int .u32 0, .bool false, .int .u64 0, .int .u64 0, .int .u16 0, .slice none 0 0, .bool false, .int .u64 0, .int .u64 0, .int .i64 0, .int .u8 0, .int .i64 0, .bool false]).setAll #[.int .i64 0, .int .i64 0, .int .i64 0, .int .i64 0, .int .i64 0, .bool false, .int .u64 0, .int .u64 0, .int .u16 0, .int .u8 0, .int .i64 0, .slice none 0 0, .int .i64 0, .int .i64 0, .int .u8 0, .slice none 0 0, .int .u32 0, .int .u32 0, .int .u32 0, .bool false, .int .u64 0, .int .u64 0, .int .u16 0, .slice none 0 0, .bool false, .int .u64 0, .int .u64 0, .int .i64 0, .int .u8 0, .int .i64 0, .bool false] rfl)
            have HKB := Lib.hid (show Kept (fun _ => False) w2 w3 from ((Kept.refl _ _).alloc _).then HKA.out (fun i hi e => by omega))
            have HR3 := Lib.hid (HR2.out.kept HKB.out (fun h => h))
            have HK3 := Lib.hid (HK2.out.trans HKB.out)
            obtain ⟨fb, hfb⟩ : ∃ fb, w2.heap.size = fb := ⟨_, rfl⟩
            rw [hfb] at HF3 ⊢
            clear hw4 HKA HKB hfb HR2 HK2
            have cF := HF3.out.cell
            have lF := HF3.out.lt
            have c3 := (HK3.out.cell hb (fun h => h) off).trans HC0.out
            have HM4 := Lib.hid (refMembers ms (some ⟨b2, o2 + 1, none⟩) (c1 - 1) w3 (by omega) (by unfold maxLen; omega) HMZ.out (HSM.out w3 (HK3.out)))
            go_wp2_with fail
            refine HM4.out.mono ?_
            rintro e w4 ⟨hb4, hmr⟩
            have HR4 := Lib.hid (HR3.out.below hb4 HR3.out.lt)
            have HF4 := Lib.hid (HF3.out.below hb4 HF3.out.lt)
            have HK4 := Lib.hid (HK3.out.trans (Kept.ofB (S := fun _ => False) hb4))
            have hs43 := hb4.size
            obtain ⟨om, hom⟩ : ∃ om, memsR false [] (ms.map (·.data.toList)) = om := ⟨_, rfl⟩
            rw [hom] at hmr
            have HOM := Lib.hid hom

            clear HM4 hb4 hom cF lF c3
            have cF := HF4.out.cell
            have lF := HF4.out.lt
            cases om with
            | none =>
              obtain rfl : e = _ := hmr
              go_wp2_with (show wpList _ _ _ ((⟨none, .store 39 (.tmp 2) _, _, _, _, none⟩ : Oper) :: _) _ _; refine wpList_store_mid rfl 39 (.tmp 2) _ rfl rb 0 #[.int .i64 0, .int .i64 0, .int .i64 0, .int .i64 0, .bool false, .int .u64 0, .int .u64 0, .int .u16 0, .int .u8 0, .int .i64 0, .slice none 0 0] rfl rfl (HR4.out.there rfl) (by kernel_rfl) (by simp [Value.oneCell']) ?_)
              generalize hw9 : (World.setCells _ _ _ _) = w9
              have HK9 := Lib.hid (show Kept (fun i => i = rb) w4 w9 by rw [← hw9]; exact Kept.setCells (S := fun i => i = rb) rfl _ _ (Kept.refl _ _))
              have HR9 := Lib.hid (show Blk w9 rb 39 #[.int .i64 0, .int .i64 0, .int .i64 0, .int .i64 0, .bool false, .int .u64 0, .int .u64 0, .int .u16 0, .int .u8 0, .int .i64 0, .slice none 0 0] by rw [← hw9]; exact HR4.out.setAll #[.int .i64 0, .int .i64 0, .int .i64 0, .int .i64 0, .bool false, .int .u64 0, .int .u64 0, .int .u16 0, .int .u8 0, .int .i64 0, .slice none 0 0] rfl)
              clear hw9
              refine bodyPost_ret (results_blk_tmp (P := Tryz.prog) (show Tryz.f18.results = _ from rfl) _ _ rb 39 #[.int .i64 0, .int .i64 0, .int .i64 0, .int .i64 0, .bool false, .int .u64 0, .int .u64 0, .int .u16 0, .int .u8 0, .int .i64 0, .slice none 0 0] _ rfl HR9.out Tryz.underlying39 rfl (by kernel_rfl)) rfl ?_
              have HBZ := Lib.hid ((HK4.out.below (Nat.le_refl _) (fun i h => h.elim)).trans (HK9.out.below HK4.out.size (fun i e => by have := HRB.out; omega)))
              exact ⟨HBZ.out, Osp.zero, none, 0, 0, false, rfl, iss_no (by rw [HOP.out, ho]; rfl)⟩
            | some ml0 =>
              obtain ⟨mv, rfl, hrow⟩ := hmr
              obtain ⟨MA, mc, rfl, -, -⟩ := hrow.shape
              clear hrow
              go_wp2_with (show wpList _ _ _ ((⟨none, .store 39 (.tmp 2) _, _, _, _, none⟩ : Oper) :: _) _ _; refine wpList_store_mid rfl 39 (.tmp 2) _ rfl rb 0 #[.int .i64 0, .int .i64 0, .int .i64 0, .int .i64 0, .bool false, .int .u64 0, .int .u64 0, .int .u16 0, .int .u8 0, .int .i64 0, .slice none 0 0] rfl rfl (HR4.out.there rfl) (by kernel_rfl) (by simp [Value.oneCell']) ?_)
              generalize hw9 : (World.setCells _ _ _ _) = w9
              have HK9 := Lib.hid (show Kept (fun i => i = rb) w4 w9 by rw [← hw9]; exact Kept.setCells (S := fun i => i = rb) rfl _ _ (Kept.refl _ _))
              have HR9 := Lib.hid (show Blk w9 rb 39 #[.int .i64 0, .int .i64 0, .int .i64 0, .int .i64 0, .bool false, .int .u64 0, .int .u64 0, .int .u16 0, .int .u8 0, .int .i64 0, .slice none 0 0] by rw [← hw9]; exact HR4.out.setAll #[.int .i64 0, .int .i64 0, .int .i64 0, .int .i64 0, .bool false, .int .u64 0, .int .u64 0, .int .u16 0, .int .u8 0, .int .i64 0, .slice none 0 0] rfl)
              clear hw9
              refine bodyPost_ret (results_blk_tmp (P := Tryz.prog) (show Tryz.f18.results = _ from rfl) _ _ rb 39 #[.int .i64 0, .int .i64 0, .int .i64 0, .int .i64 0, .bool false, .int .u64 0, .int .u64 0, .int .u16 0, .int .u8 0, .int .i64 0, .slice none 0 0] _ rfl HR9.out Tryz.underlying39 rfl (by kernel_rfl)) rfl ?_
              have HBZ := Lib.hid ((HK4.out.below (Nat.le_refl _) (fun i h => h.elim)).trans (HK9.out.below HK4.out.size (fun i e => by have := HRB.out; omega)))
              exact ⟨HBZ.out, Osp.zero, none, 0, 0, false, rfl, iss_no (by rw [HOP.out, ho]; rfl)⟩
          | some f =>
            obtain ⟨lv, nv, rfl, hlo, hnu⟩ := hfr
            obtain ⟨LA, lc, hlv, -⟩ := hlo
            subst hlv
            obtain ⟨ll, hll⟩ : ∃ ll, f.load.length = ll := ⟨_, rfl⟩
            rw [hll]
            clear hll
            have HN2 := Lib.hid hnu
            obtain ⟨NA, nc, hnv, hnc1, hnc2⟩ := hnu.shape
            subst hnv
            have hnl := fitS_len ho
            unfold FC
            go_upto_region 16 with (show wpList _ _ _ ((⟨none, .store 60 (.tmp 7) _, _, _, _, none⟩ : Oper) :: _) _ _; refine wpList_store_mid rfl 60 (.tmp 7) _ rfl w2.heap.size 0 #[.int .i64 0, .int .i64 0, .int .i64 0, .int .i64 0, .int .i64 0, .bool false, .int .u64 0, .int .u64 0, .int .u16 0, .int .u8 0, .int .i64 0, .slice none 0 0, .int .i64 0, .int .i64 0, .int .u8 0, (.slice LA ll lc), .int .u32 0, .int .u32 0, .int .u32 0, .bool false, .int .u64 0, .int .u64 0, .int .u16 0, (.slice NA (ics f.nums).length nc), .bool f.a.six, .int .u64 (f.a.hi : Int), .int .u64 (f.a.lo : Int), .int .i64 (f.po : Int), .int .u8 (f.p : Int), .int .i64 (f.wy : Int), .bool true] rfl rfl ((Blk.new w2 60 #[.int .i64 0, .int .i64 0, .int .i64 0, .int .i64 0, .int .i64 0, .bool false, .int .u64 0, .int .u64 0, .int .u16 0, .int .u8 0, .int .i64 0, .slice none 0 0, .int .i64 0, .int .i64 0, .int .u8 0, .slice none 0 0, .int .u32 0, .int .u32 0, .int .u32 0, .bool false, .int .u64 0, .int .u64 0, .int .u16 0, .slice none 0 0, .bool false, .int .u64 0, .int .u64 0, .int .i64 0, .int .u8 0, .int .i64 0, .bool false]).there rfl) (by kernel_rfl) (by simp [Value.oneCell']) ?_)
            generalize hw4 : (World.setCells _ _ _ _) = w3
            have HKA := Lib.hid (show Kept (fun i => i = w2.heap.size) (w2.alloc (.cells #[.int .i64 0, .int .i64 0, .int .i64 0, .int .i64 0, .int .i64 0, .bool false, .int .u64 0, .int .u64 0, .int .u16 0, .int .u8 0, .int .i64 0, .slice none 0 0, .int .i64 0, .int .i64 0, .int .u8 0, .slice none 0 0, .int .u32 0, .int .u32 0, .int .u32 0, .bool false, .int .u64 0, .int .u64 0, .int .u16 0, .slice none 0 0, .bool false, .int .u64 0, .int .u64 0, .int .i64 0, .int .u8 0, .int .i64 0, .bool false] 60)) w3 by rw [← hw4]; exact Kept.setCells (S := fun i => i = w2.heap.size) rfl _ _ (Kept.refl _ _))
            have HF3 := Lib.hid (show Blk w3 w2.heap.size 60 #[.int .i64 0, .int .i64 0, .int .i64 0, .int .i64 0, .int .i64 0, .bool false, .int .u64 0, .int .u64 0, .int .u16 0, .int .u8 0, .int .i64 0, .slice none 0 0, .int .i64 0, .int .i64 0, .int .u8 0, (.slice LA ll lc), .int .u32 0, .int .u32 0, .int .u32 0, .bool false, .int .u64 0, .int .u64 0, .int .u16 0, (.slice NA (ics f.nums).length nc), .bool f.a.six, .int .u64 (f.a.hi : Int), .int .u64 (f.a.lo : Int), .int .i64 (f.po : Int), .int .u8 (f.p : Int), .int .i64 (f.wy : Int), .bool true] by rw [← hw4]; exact (Blk.new w2 60 #[.int .i64 0, .int .i64 0, .int .i64 0, .int .i64 0, .int .i64 0, .bool false, .int .u64 0, .int .u64 0, .int .u16 0, .int .u8 0, .int .i64 0, .slice none 0 0, .int .i64 0, .int .i64 0, .int .u8 0, .slice none 0 0, .int .u32 0, .int .u32 0, .int .u32 0, .bool false, .int .u64 0, .int .u64 0, .int .u16 0, .slice none 0 0, .bool false, .int .u64 0, .int .u64 0, .int .i64 0, .int .u8 0, .int .i64 0, .bool false]).setAll #[.int .i64 0, .int .i64 0, .int .i64 0, .int .i64 0, .int .i64 0, .bool false, .int .u64 0, .int .u64 0, .int .u16 0, .int .u8 0, .int .i64 0, .slice none 0 0, .int .i64 0, .int .i64 0, .int .u8 0, (.slice LA ll lc), .int .u32 0, .int .u32 0, .int .u32 0, .bool false, .int .u64 0, .int .u64 0, .int .u16 0, (.slice NA (ics f.nums).length nc), .bool f.a.six, .int .u64 (f.a.hi : Int), .int .u64 (f.a.lo : Int), .int .i64 (f.po : Int), .int .u8 (f.p : Int), .int .i64 (f.wy : Int), .bool true] rfl)
            have HKB := Lib.hid (show Kept (fun _ => False) w2 w3 from ((Kept.refl _ _).alloc _).then HKA.out (fun i hi e => by omega))
            have HR3 := Lib.hid (HR2.out.kept HKB.out (fun h => h))
            have HK3 := Lib.hid (HK2.out.trans HKB.out)
            have HN3 := Lib.hid (HN2.out.kept HKB.out (fun _ _ h => h))
            obtain ⟨fb, hfb⟩ : ∃ fb, w2.heap.size = fb := ⟨_, rfl⟩
            rw [hfb] at HF3 ⊢
            clear hw4 HKA HKB hfb HR2 HK2
            have cF := HF3.out.cell
            have lF := HF3.out.lt
            have c3 := (HK3.out.cell hb (fun h => h) off).trans HC0.out
            obtain ⟨g, nc', hve, hgb, hgl, hce⟩ := HN3.out.at (i := 0) (by simp only [ics, List.length_map]; rw [hnl]; decide)
            injection hve with e1 e2 e3
            subst e1
            obtain ⟨a1, ha⟩ : ∃ a1, f.nums = [a1] := len1 hnl
            have n0 : w3.cell? ⟨g, 0, none⟩ = some (.int .i64 (a1 : Int)) := by rw [hce 0 (by rw [ha]; simp [ics])]; simp [ha, ics]
            have hil : (ics f.nums).length = 1 := by rw [ha]; rfl
            rw [hil] at HF3 cF ⊢
            clear hce e2 e3
            have HM4 := Lib.hid (refMembers ms (some ⟨b2, o2 + 1, none⟩) (c1 - 1) w3 (by omega) (by unfold maxLen; omega) HMZ.out (HSM.out w3 (HK3.out)))
            go_wp2_with fail
            refine HM4.out.mono ?_
            rintro e w4 ⟨hb4, hmr⟩
            have HR4 := Lib.hid (HR3.out.below hb4 HR3.out.lt)
            have HF4 := Lib.hid (HF3.out.below hb4 HF3.out.lt)
            have HK4 := Lib.hid (HK3.out.trans (Kept.ofB (S := fun _ => False) hb4))
            have hs43 := hb4.size
            obtain ⟨om, hom⟩ : ∃ om, memsR false [] (ms.map (·.data.toList)) = om := ⟨_, rfl⟩
            rw [hom] at hmr
            have HOM := Lib.hid hom
            have n0 := (hb4.cell (p := ⟨g, 0, none⟩) hgl).trans n0
            clear HM4 hb4 hom cF lF c3
            have cF := HF4.out.cell
            have lF := HF4.out.lt
            cases om with
            | none =>
              obtain rfl : e = _ := hmr
              go_wp2_with (show wpList _ _ _ ((⟨none, .store 39 (.tmp 2) _, _, _, _, none⟩ : Oper) :: _) _ _; refine wpList_store_mid rfl 39 (.tmp 2) _ rfl rb 0 #[.int .i64 0, .int .i64 0, .int .i64 0, .int .i64 0, .bool false, .int .u64 0, .int .u64 0, .int .u16 0, .int .u8 0, .int .i64 0, .slice none 0 0] rfl rfl (HR4.out.there rfl) (by kernel_rfl) (by simp [Value.oneCell']) ?_)
              generalize hw9 : (World.setCells _ _ _ _) = w9
              have HK9 := Lib.hid (show Kept (fun i => i = rb) w4 w9 by rw [← hw9]; exact Kept.setCells (S := fun i => i = rb) rfl _ _ (Kept.refl _ _))
              have HR9 := Lib.hid (show Blk w9 rb 39 #[.int .i64 0, .int .i64 0, .int .i64 0, .int .i64 0, .bool false, .int .u64 0, .int .u64 0, .int .u16 0, .int .u8 0, .int .i64 0, .slice none 0 0] by rw [← hw9]; exact HR4.out.setAll #[.int .i64 0, .int .i64 0, .int .i64 0, .int .i64 0, .bool false, .int .u64 0, .int .u64 0, .int .u16 0, .int .u8 0, .int .i64 0, .slice none 0 0] rfl)
              clear hw9
              refine bodyPost_ret (results_blk_tmp (P := Tryz.prog) (show Tryz.f18.results = _ from rfl) _ _ rb 39 #[.int .i64 0, .int .i64 0, .int .i64 0, .int .i64 0, .bool false, .int .u64 0, .int .u64 0, .int .u16 0, .int .u8 0, .int .i64 0, .slice none 0 0] _ rfl HR9.out Tryz.underlying39 rfl (by kernel_rfl)) rfl ?_
              have HBZ := Lib.hid ((HK4.out.below (Nat.le_refl _) (fun i h => h.elim)).trans (HK9.out.below HK4.out.size (fun i e => by have := HRB.out; omega)))
              exact ⟨HBZ.out, Osp.zero, none, 0, 0, false, rfl, iss_no (by rw [HOP.out, ho, HOM.out]; rfl)⟩
            | some ms0 =>
              obtain ⟨mv, rfl, hrow⟩ := hmr
              obtain ⟨MA, mc, rfl, -, -⟩ := hrow.shape
              obtain ⟨ml, hml⟩ : ∃ ml, (mcs ms0).length = ml := ⟨_, rfl⟩
              rw [hml] at hrow ⊢
              have HRW := Lib.hid hrow
              have HRN := Lib.hid (show ¬ (Value.slice MA ml mc).ownBlock = some rb from hrow.ne HR4.out (by decide))
              have HSZ := Lib.hid (show w.heap.size ≤ w3.heap.size from HK3.out.size)
              clear hrow hml
              go_wp2_with (show wpList _ _ _ ((⟨none, .store 39 (.tmp 2) _, _, _, _, none⟩ : Oper) :: _) _ _; refine wpList_store_mid rfl 39 (.tmp 2) _ rfl rb 0 #[.int .i64 3, .int .i64 (a1 : Int), .int .i64 0, .int .i64 0, .bool false, .int .u64 0, .int .u64 0, .int .u16 0, .int .u8 0, .int .i64 0, .slice MA ml mc] rfl rfl (HR4.out.there rfl) (by kernel_rfl) (by simp [Value.oneCell']) ?_)
              generalize hw9 : (World.setCells _ _ _ _) = w9
              have HK9 := Lib.hid (show Kept (fun i => i = rb) w4 w9 by rw [← hw9]; exact Kept.setCells (S := fun i => i = rb) rfl _ _ (Kept.refl _ _))
              have HR9 := Lib.hid (show Blk w9 rb 39 #[.int .i64 3, .int .i64 (a1 : Int), .int .i64 0, .int .i64 0, .bool false, .int .u64 0, .int .u64 0, .int .u16 0, .int .u8 0, .int .i64 0, .slice MA ml mc] by rw [← hw9]; exact HR4.out.setAll #[.int .i64 3, .int .i64 (a1 : Int), .int .i64 0, .int .i64 0, .bool false, .int .u64 0, .int .u64 0, .int .u16 0, .int .u8 0, .int .i64 0, .slice MA ml mc] rfl)
              clear hw9
              refine bodyPost_ret (results_blk_tmp (P := Tryz.prog) (show Tryz.f18.results = _ from rfl) _ _ rb 39 #[.int .i64 3, .int .i64 (a1 : Int), .int .i64 0, .int .i64 0, .bool false, .int .u64 0, .int .u64 0, .int .u16 0, .int .u8 0, .int .i64 0, .slice MA ml mc] _ rfl HR9.out Tryz.underlying39 rfl (by kernel_rfl)) rfl ?_
              have HBZ := Lib.hid ((HK4.out.below (Nat.le_refl _) (fun i h => h.elim)).trans (HK9.out.below HK4.out.size (fun i e => by have := HRB.out; omega)))
              exact ⟨HBZ.out, { Osp.zero with kind := 3, vip := (a1 : Nat), ms := ms0 }, MA, ml, mc, true, rfl, iss_mem (by rw [HOP.out, ho, HOM.out]; exact congrArg some (by rw [ha]; rfl)) ((RowN.kept HRW.out HK9.out (fun g hg e => HRN.out (by rw [hg, e]))).more HSZ.out)⟩
    by_cases n3 : x.data.toList = [114, 101, 116, 105, 114, 101]
    · skip
      have HXL := Lib.hid (show x.toList = [114, 101, 116, 105, 114, 101] by rw [Lib.toList_data]; exact n3)
      have q0 : (x.toList == [98, 97, 99, 107, 101, 110, 100]) = false := by rw [HXL.out]; rfl
      have q1 : (x.toList == [118, 105, 112]) = false := by rw [HXL.out]; rfl
      have q2 : (x.toList == [109, 101, 109, 98, 101, 114, 115]) = false := by rw [HXL.out]; rfl
      have q3 : (x.toList == [114, 101, 116, 105, 114, 101]) = true := by rw [HXL.out]; rfl
      have q4 : (x.toList == [114, 101, 108, 101, 97, 115, 101]) = false := by rw [HXL.out]; rfl
      have q5 : (x.toList == [101, 118, 105, 99, 116]) = false := by rw [HXL.out]; rfl
      have q6 : (x.toList == [97, 100, 109, 105, 116]) = false := by rw [HXL.out]; rfl
      have q7 : (x.toList == [114, 111, 116, 97, 116, 101]) = false := by rw [HXL.out]; rfl
      have HOP := Lib.hid (show opP ((x :: xs).map (·.data.toList)) = (fitS [75, 75] (xs.map (·.data.toList)) Fd.zero).map (fillO 4) by rw [List.map_cons, n3]; exact opP_pat rfl (by decide) _)
      have HFT := Lib.hid (fit_any ⟨#[75, 75]⟩ xs RA (c - 1) w1 (by decide) (by first | omega | (simp; done) | (simp; omega)) (by unfold maxLen; omega) HZR.out HSR.out)
      obtain ⟨o, ho⟩ : ∃ o, fitS [75, 75] (xs.map (·.data.toList)) Fd.zero = o := ⟨_, rfl⟩
      rw [show fitS (⟨#[75, 75]⟩ : ByteArray).data.toList (xs.map (·.data.toList)) Fd.zero = o from ho] at HFT
      go_wp2_with fail
      refine HFT.out.mono ?_
      rintro e w2 ⟨hb2, hfr⟩
      have HR2 := Lib.hid (HR1.out.below hb2 HR1.out.lt)
      have HK2 := Lib.hid (HK1.out.trans (Kept.ofB (S := fun _ => False) hb2))
      have hsz2 := hb2.size
      clear hb2 HFT
      cases o with
      | none =>
        obtain rfl : e = _ := hfr
        unfold Z63
        go_upto_region 22 with (show wpList _ _ _ ((⟨none, .store 60 (.tmp 10) _, _, _, _, none⟩ : Oper) :: _) _ _; refine wpList_store_mid rfl 60 (.tmp 10) _ rfl w2.heap.size 0 #[.int .i64 0, .int .i64 0, .int .i64 0, .int .i64 0, .int .i64 0, .bool false, .int .u64 0, .int .u64 0, .int .u16 0, .int .u8 0, .int .i64 0, .slice none 0 0, .int .i64 0, .int .i64 0, .int .u8 0, .slice none 0 0, .int .u32 0, .int .u32 0, .int .u32 0, .bool false, .int .u64 0, .int .u64 0, .int .u16 0, .slice none 0 0, .bool false, .int .u64 0, .int .u64 0, .int .i64 0, .int .u8 0, .int .i64 0, .bool false] rfl rfl ((Blk.new w2 60 #[.int .i64 0, .int .i64 0, .int .i64 0, .int .i64 0, .int .i64 0, .bool false, .int .u64 0, .int .u64 0, .int .u16 0, .int .u8 0, .int .i64 0, .slice none 0 0, .int .i64 0, .int .i64 0, .int .u8 0, .slice none 0 0, .int .u32 0, .int .u32 0, .int .u32 0, .bool false, .int .u64 0, .int .u64 0, .int .u16 0, .slice none 0 0, .bool false, .int .u64 0, .int .u64 0, .int .i64 0, .int .u8 0, .int .i64 0, .bool false]).there rfl) (by kernel_rfl) (by simp [Value.oneCell']) ?_)
        generalize hw4 : (World.setCells _ _ _ _) = w3
        have HKA := Lib.hid (show Kept (fun i => i = w2.heap.size) (w2.alloc (.cells #[.int .i64 0, .int .i64 0, .int .i64 0, .int .i64 0, .int .i64 0, .bool false, .int .u64 0, .int .u64 0, .int .u16 0, .int .u8 0, .int .i64 0, .slice none 0 0, .int .i64 0, .int .i64 0, .int .u8 0, .slice none 0 0, .int .u32 0, .int .u32 0, .int .u32 0, .bool false, .int .u64 0, .int .u64 0, .int .u16 0, .slice none 0 0, .bool false, .int .u64 0, .int .u64 0, .int .i64 0, .int .u8 0, .int .i64 0, .bool false] 60)) w3 by rw [← hw4]; exact Kept.setCells (S := fun i => i = w2.heap.size) rfl _ _ (Kept.refl _ _))
        have HF3 := Lib.hid (show Blk w3 w2.heap.size 60 #[.int .i64 0, .int .i64 0, .int .i64 0, .int .i64 0, .int .i64 0, .bool false, .int .u64 0, .int .u64 0, .int .u16 0, .int .u8 0, .int .i64 0, .slice none 0 0, .int .i64 0, .int .i64 0, .int .u8 0, .slice none 0 0, .int .u32 0, .int .u32 0, .int .u32 0, .bool false, .int .u64 0, .int .u64 0, .int .u16 0, .slice none 0 0, .bool false, .int .u64 0, .int .u64 0, .int .i64 0, .int .u8 0, .int .i64 0, .bool false] by rw [← hw4]; exact (Blk.new w2 60 #[.int .i64 0, .int .i64 0, .int .i64 0, .int .i64 0, .int .i64 0, .bool false, .int .u64 0, .int .u64 0, .int .u16 0, .int .u8 0, .int .i64 0, .slice none 0 0, .int .i64 0, .int .i64 0, .int .u8 0, .slice none 0 0, .int .u32 0, .int .u32 0, .int .u32 0, .bool false, .int .u64 0, .int .u64 0, .int .u16 0, .slice none 0 0, .bool false, .int .u64 0, .int .u64 0, .int .i64 0, .int .u8 0, .int .i64 0, .bool false]).setAll #[.int .i64 0, .int .i64 0, .int .i64 0, .int .i64 0, .int .i64 0, .bool false, .int .u64 0, .int .u64 0, .int .u16 0, .int .u8 0, .int .i64 0, .slice none 0 0, .int .i64 0, .int .i64 0, .int .u8 0, .slice none 0 0, .int .u32 0, .int .u32 0, .int .u32 0, .bool false, .int .u64 0, .int .u64 0, .int .u16 0, .slice none 0 0, .bool false, .int .u64 0, .int .u64 0, .int .i64 0, .int .u8 0, .int .i64 0, .bool false] rfl)
        have HKB := Lib.hid (show Kept (fun _ => False) w2 w3 from ((Kept.refl _ _).alloc _).then HKA.out (fun i hi e => by omega))
        have HR3 := Lib.hid (HR2.out.kept HKB.out (fun h => h))
        have HK3 := Lib.hid (HK2.out.trans HKB.out)
        obtain ⟨fb, hfb⟩ : ∃ fb, w2.heap.size = fb := ⟨_, rfl⟩
        rw [hfb] at HF3 ⊢
        clear hw4 HKA HKB hfb HR2 HK2
        have cF := HF3.out.cell
        have lF := HF3.out.lt
        have c3 := (HK3.out.cell hb (fun h => h) off).trans HC0.out
        go_wp2_with (show wpList _ _ _ ((⟨none, .store 39 (.tmp 2) _, _, _, _, none⟩ : Oper) :: _) _ _; refine wpList_store_mid rfl 39 (.tmp 2) _ rfl rb 0 #[.int .i64 0, .int .i64 0, .int .i64 0, .int .i64 0, .bool false, .int .u64 0, .int .u64 0, .int .u16 0, .int .u8 0, .int .i64 0, .slice none 0 0] rfl rfl (HR3.out.there rfl) (by kernel_rfl) (by simp [Value.oneCell']) ?_)
        generalize hw9 : (World.setCells _ _ _ _) = w9
        have HK9 := Lib.hid (show Kept (fun i => i = rb) w3 w9 by rw [← hw9]; exact Kept.setCells (S := fun i => i = rb) rfl _ _ (Kept.refl _ _))
        have HR9 := Lib.hid (show Blk w9 rb 39 #[.int .i64 0, .int .i64 0, .int .i64 0, .int .i64 0, .bool false, .int .u64 0, .int .u64 0, .int .u16 0, .int .u8 0, .int .i64 0, .slice none 0 0] by rw [← hw9]; exact HR3.out.setAll #[.int .i64 0, .int .i64 0, .int .i64 0, .int .i64 0, .bool false, .int .u64 0, .int .u64 0, .int .u16 0, .int .u8 0, .int .i64 0, .slice none 0 0] rfl)
        clear hw9
        refine bodyPost_ret (results_blk_tmp (P := Tryz.prog) (show Tryz.f18.results = _ from rfl) _ _ rb 39 #[.int .i64 0, .int .i64 0, .int .i64 0, .int .i64 0, .bool false, .int .u64 0, .int .u64 0, .int .u16 0, .int .u8 0, .int .i64 0, .slice none 0 0] _ rfl HR9.out Tryz.underlying39 rfl (by kernel_rfl)) rfl ?_
        have HBZ := Lib.hid ((HK3.out.below (Nat.le_refl _) (fun i h => h.elim)).trans (HK9.out.below HK3.out.size (fun i e => by have := HRB.out; omega)))
        exact ⟨HBZ.out, Osp.zero, none, 0, 0, false, rfl, iss_no (by rw [HOP.out]; rw [ho]; rfl)⟩
      | some f =>
        obtain ⟨lv, nv, rfl, hlo, hnu⟩ := hfr
        obtain ⟨LA, lc, hlv, -⟩ := hlo
        subst hlv
        obtain ⟨ll, hll⟩ : ∃ ll, f.load.length = ll := ⟨_, rfl⟩
        rw [hll]
        clear hll
        have HN2 := Lib.hid hnu
        obtain ⟨NA, nc, hnv, hnc1, hnc2⟩ := hnu.shape
        subst hnv
        have hnl := fitS_len ho
        unfold FC
        go_upto_region 22 with (show wpList _ _ _ ((⟨none, .store 60 (.tmp 10) _, _, _, _, none⟩ : Oper) :: _) _ _; refine wpList_store_mid rfl 60 (.tmp 10) _ rfl w2.heap.size 0 #[.int .i64 0, .int .i64 0, .int .i64 0, .int .i64 0, .int .i64 0, .bool false, .int .u64 0, .int .u64 0, .int .u16 0, .int .u8 0, .int .i64 0, .slice none 0 0, .int .i64 0, .int .i64 0, .int .u8 0, (.slice LA ll lc), .int .u32 0, .int .u32 0, .int .u32 0, .bool false, .int .u64 0, .int .u64 0, .int .u16 0, (.slice NA (ics f.nums).length nc), .bool f.a.six, .int .u64 (f.a.hi : Int), .int .u64 (f.a.lo : Int), .int .i64 (f.po : Int), .int .u8 (f.p : Int), .int .i64 (f.wy : Int), .bool true] rfl rfl ((Blk.new w2 60 #[.int .i64 0, .int .i64 0, .int .i64 0, .int .i64 0, .int .i64 0, .bool false, .int .u64 0, .int .u64 0, .int .u16 0, .int .u8 0, .int .i64 0, .slice none 0 0, .int .i64 0, .int .i64 0, .int .u8 0, .slice none 0 0, .int .u32 0, .int .u32 0, .int .u32 0, .bool false, .int .u64 0, .int .u64 0, .int .u16 0, .slice none 0 0, .bool false, .int .u64 0, .int .u64 0, .int .i64 0, .int .u8 0, .int .i64 0, .bool false]).there rfl) (by kernel_rfl) (by simp [Value.oneCell']) ?_)
        generalize hw4 : (World.setCells _ _ _ _) = w3
        have HKA := Lib.hid (show Kept (fun i => i = w2.heap.size) (w2.alloc (.cells #[.int .i64 0, .int .i64 0, .int .i64 0, .int .i64 0, .int .i64 0, .bool false, .int .u64 0, .int .u64 0, .int .u16 0, .int .u8 0, .int .i64 0, .slice none 0 0, .int .i64 0, .int .i64 0, .int .u8 0, .slice none 0 0, .int .u32 0, .int .u32 0, .int .u32 0, .bool false, .int .u64 0, .int .u64 0, .int .u16 0, .slice none 0 0, .bool false, .int .u64 0, .int .u64 0, .int .i64 0, .int .u8 0, .int .i64 0, .bool false] 60)) w3 by rw [← hw4]; exact Kept.setCells (S := fun i => i = w2.heap.size) rfl _ _ (Kept.refl _ _))
        have HF3 := Lib.hid (show Blk w3 w2.heap.size 60 #[.int .i64 0, .int .i64 0, .int .i64 0, .int .i64 0, .int .i64 0, .bool false, .int .u64 0, .int .u64 0, .int .u16 0, .int .u8 0, .int .i64 0, .slice none 0 0, .int .i64 0, .int .i64 0, .int .u8 0, (.slice LA ll lc), .int .u32 0, .int .u32 0, .int .u32 0, .bool false, .int .u64 0, .int .u64 0, .int .u16 0, (.slice NA (ics f.nums).length nc), .bool f.a.six, .int .u64 (f.a.hi : Int), .int .u64 (f.a.lo : Int), .int .i64 (f.po : Int), .int .u8 (f.p : Int), .int .i64 (f.wy : Int), .bool true] by rw [← hw4]; exact (Blk.new w2 60 #[.int .i64 0, .int .i64 0, .int .i64 0, .int .i64 0, .int .i64 0, .bool false, .int .u64 0, .int .u64 0, .int .u16 0, .int .u8 0, .int .i64 0, .slice none 0 0, .int .i64 0, .int .i64 0, .int .u8 0, .slice none 0 0, .int .u32 0, .int .u32 0, .int .u32 0, .bool false, .int .u64 0, .int .u64 0, .int .u16 0, .slice none 0 0, .bool false, .int .u64 0, .int .u64 0, .int .i64 0, .int .u8 0, .int .i64 0, .bool false]).setAll #[.int .i64 0, .int .i64 0, .int .i64 0, .int .i64 0, .int .i64 0, .bool false, .int .u64 0, .int .u64 0, .int .u16 0, .int .u8 0, .int .i64 0, .slice none 0 0, .int .i64 0, .int .i64 0, .int .u8 0, (.slice LA ll lc), .int .u32 0, .int .u32 0, .int .u32 0, .bool false, .int .u64 0, .int .u64 0, .int .u16 0, (.slice NA (ics f.nums).length nc), .bool f.a.six, .int .u64 (f.a.hi : Int), .int .u64 (f.a.lo : Int), .int .i64 (f.po : Int), .int .u8 (f.p : Int), .int .i64 (f.wy : Int), .bool true] rfl)
        have HKB := Lib.hid (show Kept (fun _ => False) w2 w3 from ((Kept.refl _ _).alloc _).then HKA.out (fun i hi e => by omega))
        have HR3 := Lib.hid (HR2.out.kept HKB.out (fun h => h))
        have HK3 := Lib.hid (HK2.out.trans HKB.out)
        have HN3 := Lib.hid (HN2.out.kept HKB.out (fun _ _ h => h))
        obtain ⟨fb, hfb⟩ : ∃ fb, w2.heap.size = fb := ⟨_, rfl⟩
        rw [hfb] at HF3 ⊢
        clear hw4 HKA HKB hfb HR2 HK2
        have cF := HF3.out.cell
        have lF := HF3.out.lt
        have c3 := (HK3.out.cell hb (fun h => h) off).trans HC0.out
        go_upto_region 26 with fail
        obtain ⟨g, nc', hve, hgb, hgl, hce⟩ := HN3.out.at (i := 0) (by simp only [ics, List.length_map]; rw [hnl]; decide)
        injection hve with e1 e2 e3
        subst e1
        obtain ⟨a1, a2, ha⟩ : ∃ a1 a2, f.nums = [a1, a2] := len2 hnl
        have n0 : w3.cell? ⟨g, 0, none⟩ = some (.int .i64 (a1 : Int)) := by rw [hce 0 (by rw [ha]; simp [ics])]; simp [ha, ics]
        have n1 : w3.cell? ⟨g, 1, none⟩ = some (.int .i64 (a2 : Int)) := by rw [hce 1 (by rw [ha]; simp [ics])]; simp [ha, ics]
        have hil : (ics f.nums).length = 2 := by rw [ha]; rfl
        rw [hil] at HF3 cF ⊢
        clear hce e2 e3
        refine wp_region_kept 10 [] ?st ?ne rfl (by kernel_rfl) (by kernel_rfl) ?_
        case st => intro p hp; cases hp
        case ne => intro p hp; cases hp
        simp only [List.take_succ_cons, List.take_zero, List.drop_succ_cons, List.drop_zero]
        intro G pick hR hp1 hp2
        have sF : ∀ u i, (pick u).cell? ⟨fb, i, none⟩ = #[.int .i64 0, .int .i64 0, .int .i64 0, .int .i64 0, .int .i64 0, .bool false, .int .u64 0, .int .u64 0, .int .u16 0, .int .u8 0, .int .i64 0, .slice none 0 0, .int .i64 0, .int .i64 0, .int .u8 0, (.slice LA ll lc), .int .u32 0, .int .u32 0, .int .u32 0, .bool false, .int .u64 0, .int .u64 0, .int .u16 0, (.slice (some ⟨g, 0, none⟩) 2 nc), .bool f.a.six, .int .u64 (f.a.hi : Int), .int .u64 (f.a.lo : Int), .int .i64 (f.po : Int), .int .u8 (f.p : Int), .int .i64 (f.wy : Int), .bool true][i]? := fun u i => ((hp1 u).cell lF (fun h => h) _).trans (cF i)
        have s0 : ∀ u, (pick u).cell? ⟨g, 0, none⟩ = some (.int .i64 (a1 : Int)) := fun u => ((hp1 u).cell hgl (fun h => h) _).trans n0
        have s1 : ∀ u, (pick u).cell? ⟨g, 1, none⟩ = some (.int .i64 (a2 : Int)) := fun u => ((hp1 u).cell hgl (fun h => h) _).trans n1
        repeat (first | (refine wpR_det hp2 rfl ((hR.rel _).trans rfl) rfl ?_; intro K hK; go_big_quiet_op; go_big_quiet_on) | (refine wpR_ptr hp2 rfl ((hR.rel _).trans rfl) rfl rfl ?_; intro K hK; go_big_quiet_op; go_big_quiet_on) | (refine wpR_skip pick rfl ?_; intro K hK; go_big_quiet_op; go_big_quiet_on))
        refine wpR_nil ?_
        intro w4 hk2 hF hM
        have HR4 := Lib.hid (HR3.out.kept hk2 (fun h => h))
        have HK4 := Lib.hid (HK3.out.trans hk2)
        clear hF hM hk2 hp1 hp2 hR sF s0 s1 HR3 HK3 cF lF
        go_wp2_with (show wpList _ _ _ ((⟨none, .store 39 (.tmp 2) _, _, _, _, none⟩ : Oper) :: _) _ _; refine wpList_store_mid rfl 39 (.tmp 2) _ rfl rb 0 #[.int .i64 4, .int .i64 (a1 : Int), .int .i64 0, .int .i64 (a2 : Int), .bool false, .int .u64 0, .int .u64 0, .int .u16 0, .int .u8 0, .int .i64 0, .slice none 0 0] rfl rfl (HR4.out.there rfl) (by kernel_rfl) (by simp [Value.oneCell']) ?_)
        generalize hw9 : (World.setCells _ _ _ _) = w9
        have HK9 := Lib.hid (show Kept (fun i => i = rb) w4 w9 by rw [← hw9]; exact Kept.setCells (S := fun i => i = rb) rfl _ _ (Kept.refl _ _))
        have HR9 := Lib.hid (show Blk w9 rb 39 #[.int .i64 4, .int .i64 (a1 : Int), .int .i64 0, .int .i64 (a2 : Int), .bool false, .int .u64 0, .int .u64 0, .int .u16 0, .int .u8 0, .int .i64 0, .slice none 0 0] by rw [← hw9]; exact HR4.out.setAll #[.int .i64 4, .int .i64 (a1 : Int), .int .i64 0, .int .i64 (a2 : Int), .bool false, .int .u64 0, .int .u64 0, .int .u16 0, .int .u8 0, .int .i64 0, .slice none 0 0] rfl)
        clear hw9
        refine bodyPost_ret (results_blk_tmp (P := Tryz.prog) (show Tryz.f18.results = _ from rfl) _ _ rb 39 #[.int .i64 4, .int .i64 (a1 : Int), .int .i64 0, .int .i64 (a2 : Int), .bool false, .int .u64 0, .int .u64 0, .int .u16 0, .int .u8 0, .int .i64 0, .slice none 0 0] _ rfl HR9.out Tryz.underlying39 rfl (by kernel_rfl)) rfl ?_
        have HBZ := Lib.hid ((HK4.out.below (Nat.le_refl _) (fun i h => h.elim)).trans (HK9.out.below HK4.out.size (fun i e => by have := HRB.out; omega)))
        exact ⟨HBZ.out, { Osp.zero with kind := 4, vip := (a1 : Nat), version := (a2 : Nat) }, none, 0, 0, true, rfl, iss_yes (by rw [HOP.out, ho]; exact congrArg some (fillO_two ha)) rfl rfl⟩
    by_cases n4 : x.data.toList = [114, 101, 108, 101, 97, 115, 101]
    · skip
      have HXL := Lib.hid (show x.toList = [114, 101, 108, 101, 97, 115, 101] by rw [Lib.toList_data]; exact n4)
      have q0 : (x.toList == [98, 97, 99, 107, 101, 110, 100]) = false := by rw [HXL.out]; rfl
      have q1 : (x.toList == [118, 105, 112]) = false := by rw [HXL.out]; rfl
      have q2 : (x.toList == [109, 101, 109, 98, 101, 114, 115]) = false := by rw [HXL.out]; rfl
      have q3 : (x.toList == [114, 101, 116, 105, 114, 101]) = false := by rw [HXL.out]; rfl
      have q4 : (x.toList == [114, 101, 108, 101, 97, 115, 101]) = true := by rw [HXL.out]; rfl
      have q5 : (x.toList == [101, 118, 105, 99, 116]) = false := by rw [HXL.out]; rfl
      have q6 : (x.toList == [97, 100, 109, 105, 116]) = false := by rw [HXL.out]; rfl
      have q7 : (x.toList == [114, 111, 116, 97, 116, 101]) = false := by rw [HXL.out]; rfl
      have HOP := Lib.hid (show opP ((x :: xs).map (·.data.toList)) = (fitS [75, 75] (xs.map (·.data.toList)) Fd.zero).map (fillO 5) by rw [List.map_cons, n4]; exact opP_pat rfl (by decide) _)
      have HFT := Lib.hid (fit_any ⟨#[75, 75]⟩ xs RA (c - 1) w1 (by decide) (by first | omega | (simp; done) | (simp; omega)) (by unfold maxLen; omega) HZR.out HSR.out)
      obtain ⟨o, ho⟩ : ∃ o, fitS [75, 75] (xs.map (·.data.toList)) Fd.zero = o := ⟨_, rfl⟩
      rw [show fitS (⟨#[75, 75]⟩ : ByteArray).data.toList (xs.map (·.data.toList)) Fd.zero = o from ho] at HFT
      go_wp2_with fail
      refine HFT.out.mono ?_
      rintro e w2 ⟨hb2, hfr⟩
      have HR2 := Lib.hid (HR1.out.below hb2 HR1.out.lt)
      have HK2 := Lib.hid (HK1.out.trans (Kept.ofB (S := fun _ => False) hb2))
      have hsz2 := hb2.size
      clear hb2 HFT
      cases o with
      | none =>
        obtain rfl : e = _ := hfr
        unfold Z63
        go_upto_region 22 with (show wpList _ _ _ ((⟨none, .store 60 (.tmp 10) _, _, _, _, none⟩ : Oper) :: _) _ _; refine wpList_store_mid rfl 60 (.tmp 10) _ rfl w2.heap.size 0 #[.int .i64 0, .int .i64 0, .int .i64 0, .int .i64 0, .int .i64 0, .bool false, .int .u64 0, .int .u64 0, .int .u16 0, .int .u8 0, .int .i64 0, .slice none 0 0, .int .i64 0, .int .i64 0, .int .u8 0, .slice none 0 0, .int .u32 0, .int .u32 0, .int .u32 0, .bool false, .int .u64 0, .int .u64 0, .int .u16 0, .slice none 0 0, .bool false, .int .u64 0, .int .u64 0, .int .i64 0, .int .u8 0, .int .i64 0, .bool false] rfl rfl ((Blk.new w2 60 #[.int .i64 0, .int .i64 0, .int .i64 0, .int .i64 0, .int .i64 0, .bool false, .int .u64 0, .int .u64 0, .int .u16 0, .int .u8 0, .int .i64 0, .slice none 0 0, .int .i64 0, .int .i64 0, .int .u8 0, .slice none 0 0, .int .u32 0, .int .u32 0, .int .u32 0, .bool false, .int .u64 0, .int .u64 0, .int .u16 0, .slice none 0 0, .bool false, .int .u64 0, .int .u64 0, .int .i64 0, .int .u8 0, .int .i64 0, .bool false]).there rfl) (by kernel_rfl) (by simp [Value.oneCell']) ?_)
        generalize hw4 : (World.setCells _ _ _ _) = w3
        have HKA := Lib.hid (show Kept (fun i => i = w2.heap.size) (w2.alloc (.cells #[.int .i64 0, .int .i64 0, .int .i64 0, .int .i64 0, .int .i64 0, .bool false, .int .u64 0, .int .u64 0, .int .u16 0, .int .u8 0, .int .i64 0, .slice none 0 0, .int .i64 0, .int .i64 0, .int .u8 0, .slice none 0 0, .int .u32 0, .int .u32 0, .int .u32 0, .bool false, .int .u64 0, .int .u64 0, .int .u16 0, .slice none 0 0, .bool false, .int .u64 0, .int .u64 0, .int .i64 0, .int .u8 0, .int .i64 0, .bool false] 60)) w3 by rw [← hw4]; exact Kept.setCells (S := fun i => i = w2.heap.size) rfl _ _ (Kept.refl _ _))
        have HF3 := Lib.hid (show Blk w3 w2.heap.size 60 #[.int .i64 0, .int .i64 0, .int .i64 0, .int .i64 0, .int .i64 0, .bool false, .int .u64 0, .int .u64 0, .int .u16 0, .int .u8 0, .int .i64 0, .slice none 0 0, .int .i64 0, .int .i64 0, .int .u8 0, .slice none 0 0, .int .u32 0, .int .u32 0, .int .u32 0, .bool false, .int .u64 0, .int .u64 0, .int .u16 0, .slice none 0 0, .bool false, .int .u64 0, .int .u64 0, .int .i64 0, .int .u8 0, .int .i64 0, .bool false] by rw [← hw4]; exact (Blk.new w2 60 #[.int .i64 0, .int .i64 0, .int .i64 0, .int .i64 0, .int .i64 0, .bool false, .int .u64 0, .int .u64 0, .int .u16 0, .int .u8 0, .int .i64 0, .slice none 0 0, .int .i64 0, .int .i64 0, .int .u8 0, .slice none 0 0, .int .u32 0, .int .u32 0, .int .u32 0, .bool false, .int .u64 0, .int .u64 0, .int .u16 0, .slice none 0 0, .bool false, .int .u64 0, .int .u64 0, .int .i64 0, .int .u8 0, .int .i64 0, .bool false]).setAll #[.int .i64 0, .int .i64 0, .int .i64 0, .int .i64 0, .int .i64 0, .bool false, .int .u64 0, .int .u64 0, .int .u16 0, .int .u8 0, .int .i64 0, .slice none 0 0, .int .i64 0, .int .i64 0, .int .u8 0, .slice none 0 0, .int .u32 0, .int .u32 0, .int .u32 0, .bool false, .int .u64 0, .int .u64 0, .int .u16 0, .slice none 0 0, .bool false, .int .u64 0, .int .u64 0, .int .i64 0, .int .u8 0, .int .i64 0, .bool false] rfl)
        have HKB := Lib.hid (show Kept (fun _ => False) w2 w3 from ((Kept.refl _ _).alloc _).then HKA.out (fun i hi e => by omega))
        have HR3 := Lib.hid (HR2.out.kept HKB.out (fun h => h))
        have HK3 := Lib.hid (HK2.out.trans HKB.out)
        obtain ⟨fb, hfb⟩ : ∃ fb, w2.heap.size = fb := ⟨_, rfl⟩
        rw [hfb] at HF3 ⊢
        clear hw4 HKA HKB hfb HR2 HK2
        have cF := HF3.out.cell
        have lF := HF3.out.lt
        have c3 := (HK3.out.cell hb (fun h => h) off).trans HC0.out
        go_wp2_with (show wpList _ _ _ ((⟨none, .store 39 (.tmp 2) _, _, _, _, none⟩ : Oper) :: _) _ _; refine wpList_store_mid rfl 39 (.tmp 2) _ rfl rb 0 #[.int .i64 0, .int .i64 0, .int .i64 0, .int .i64 0, .bool false, .int .u64 0, .int .u64 0, .int .u16 0, .int .u8 0, .int .i64 0, .slice none 0 0] rfl rfl (HR3.out.there rfl) (by kernel_rfl) (by simp [Value.oneCell']) ?_)
        generalize hw9 : (World.setCells _ _ _ _) = w9
        have HK9 := Lib.hid (show Kept (fun i => i = rb) w3 w9 by rw [← hw9]; exact Kept.setCells (S := fun i => i = rb) rfl _ _ (Kept.refl _ _))
        have HR9 := Lib.hid (show Blk w9 rb 39 #[.int .i64 0, .int .i64 0, .int .i64 0, .int .i64 0, .bool false, .int .u64 0, .int .u64 0, .int .u16 0, .int .u8 0, .int .i64 0, .slice none 0 0] by rw [← hw9]; exact HR3.out.setAll #[.int .i64 0, .int .i64 0, .int .i64 0, .int .i64 0, .bool false, .int .u64 0, .int .u64 0, .int .u16 0, .int .u8 0, .int .i64 0, .slice none 0 0] rfl)
        clear hw9
        refine bodyPost_ret (results_blk_tmp (P := Tryz.prog) (show Tryz.f18.results = _ from rfl) _ _ rb 39 #[.int .i64 0, .int .i64 0, .int .i64 0, .int .i64 0, .bool false, .int .u64 0, .int .u64 0, .int .u16 0, .int .u8 0, .int .i64 0, .slice none 0 0] _ rfl HR9.out Tryz.underlying39 rfl (by kernel_rfl)) rfl ?_
        have HBZ := Lib.hid ((HK3.out.below (Nat.le_refl _) (fun i h => h.elim)).trans (HK9.out.below HK3.out.size (fun i e => by have := HRB.out; omega)))
        exact ⟨HBZ.out, Osp.zero, none, 0, 0, false, rfl, iss_no (by rw [HOP.out]; rw [ho]; rfl)⟩
      | some f =>
        obtain ⟨lv, nv, rfl, hlo, hnu⟩ := hfr
        obtain ⟨LA, lc, hlv, -⟩ := hlo
        subst hlv
        obtain ⟨ll, hll⟩ : ∃ ll, f.load.length = ll := ⟨_, rfl⟩
        rw [hll]
        clear hll
        have HN2 := Lib.hid hnu
        obtain ⟨NA, nc, hnv, hnc1, hnc2⟩ := hnu.shape
        subst hnv
        have hnl := fitS_len ho
        unfold FC
        go_upto_region 22 with (show wpList _ _ _ ((⟨none, .store 60 (.tmp 10) _, _, _, _, none⟩ : Oper) :: _) _ _; refine wpList_store_mid rfl 60 (.tmp 10) _ rfl w2.heap.size 0 #[.int .i64 0, .int .i64 0, .int .i64 0, .int .i64 0, .int .i64 0, .bool false, .int .u64 0, .int .u64 0, .int .u16 0, .int .u8 0, .int .i64 0, .slice none 0 0, .int .i64 0, .int .i64 0, .int .u8 0, (.slice LA ll lc), .int .u32 0, .int .u32 0, .int .u32 0, .bool false, .int .u64 0, .int .u64 0, .int .u16 0, (.slice NA (ics f.nums).length nc), .bool f.a.six, .int .u64 (f.a.hi : Int), .int .u64 (f.a.lo : Int), .int .i64 (f.po : Int), .int .u8 (f.p : Int), .int .i64 (f.wy : Int), .bool true] rfl rfl ((Blk.new w2 60 #[.int .i64 0, .int .i64 0, .int .i64 0, .int .i64 0, .int .i64 0, .bool false, .int .u64 0, .int .u64 0, .int .u16 0, .int .u8 0, .int .i64 0, .slice none 0 0, .int .i64 0, .int .i64 0, .int .u8 0, .slice none 0 0, .int .u32 0, .int .u32 0, .int .u32 0, .bool false, .int .u64 0, .int .u64 0, .int .u16 0, .slice none 0 0, .bool false, .int .u64 0, .int .u64 0, .int .i64 0, .int .u8 0, .int .i64 0, .bool false]).there rfl) (by kernel_rfl) (by simp [Value.oneCell']) ?_)
        generalize hw4 : (World.setCells _ _ _ _) = w3
        have HKA := Lib.hid (show Kept (fun i => i = w2.heap.size) (w2.alloc (.cells #[.int .i64 0, .int .i64 0, .int .i64 0, .int .i64 0, .int .i64 0, .bool false, .int .u64 0, .int .u64 0, .int .u16 0, .int .u8 0, .int .i64 0, .slice none 0 0, .int .i64 0, .int .i64 0, .int .u8 0, .slice none 0 0, .int .u32 0, .int .u32 0, .int .u32 0, .bool false, .int .u64 0, .int .u64 0, .int .u16 0, .slice none 0 0, .bool false, .int .u64 0, .int .u64 0, .int .i64 0, .int .u8 0, .int .i64 0, .bool false] 60)) w3 by rw [← hw4]; exact Kept.setCells (S := fun i => i = w2.heap.size) rfl _ _ (Kept.refl _ _))
        have HF3 := Lib.hid (show Blk w3 w2.heap.size 60 #[.int .i64 0, .int .i64 0, .int .i64 0, .int .i64 0, .int .i64 0, .bool false, .int .u64 0, .int .u64 0, .int .u16 0, .int .u8 0, .int .i64 0, .slice none 0 0, .int .i64 0, .int .i64 0, .int .u8 0, (.slice LA ll lc), .int .u32 0, .int .u32 0, .int .u32 0, .bool false, .int .u64 0, .int .u64 0, .int .u16 0, (.slice NA (ics f.nums).length nc), .bool f.a.six, .int .u64 (f.a.hi : Int), .int .u64 (f.a.lo : Int), .int .i64 (f.po : Int), .int .u8 (f.p : Int), .int .i64 (f.wy : Int), .bool true] by rw [← hw4]; exact (Blk.new w2 60 #[.int .i64 0, .int .i64 0, .int .i64 0, .int .i64 0, .int .i64 0, .bool false, .int .u64 0, .int .u64 0, .int .u16 0, .int .u8 0, .int .i64 0, .slice none 0 0, .int .i64 0, .int .i64 0, .int .u8 0, .slice none 0 0, .int .u32 0, .int .u32 0, .int .u32 0, .bool false, .int .u64 0, .int .u64 0, .int .u16 0, .slice none 0 0, .bool false, .int .u64 0, .int .u64 0, .int .i64 0, .int .u8 0, .int .i64 0, .bool false]).setAll #[.int .i64 0, .int .i64 0, .int .i64 0, .int .i64 0, .int .i64 0, .bool false, .int .u64 0, .int .u64 0, .int .u16 0, .int .u8 0, .int .i64 0, .slice none 0 0, .int .i64 0, .int .i64 0, .int .u8 0, (.slice LA ll lc), .int .u32 0, .int .u32 0, .int .u32 0, .bool false, .int .u64 0, .int .u64 0, .int .u16 0, (.slice NA (ics f.nums).length nc), .bool f.a.six, .int .u64 (f.a.hi : Int), .int .u64 (f.a.lo : Int), .int .i64 (f.po : Int), .int .u8 (f.p : Int), .int .i64 (f.wy : Int), .bool true] rfl)
        have HKB := Lib.hid (show Kept (fun _ => False) w2 w3 from ((Kept.refl _ _).alloc _).then HKA.out (fun i hi e => by omega))
        have HR3 := Lib.hid (HR2.out.kept HKB.out (fun h => h))
        have HK3 := Lib.hid (HK2.out.trans HKB.out)
        have HN3 := Lib.hid (HN2.out.kept HKB.out (fun _ _ h => h))
        obtain ⟨fb, hfb⟩ : ∃ fb, w2.heap.size = fb := ⟨_, rfl⟩
        rw [hfb] at HF3 ⊢
        clear hw4 HKA HKB hfb HR2 HK2
        have cF := HF3.out.cell
        have lF := HF3.out.lt
        have c3 := (HK3.out.cell hb (fun h => h) off).trans HC0.out
        go_upto_region 26 with fail
        obtain ⟨g, nc', hve, hgb, hgl, hce⟩ := HN3.out.at (i := 0) (by simp only [ics, List.length_map]; rw [hnl]; decide)
        injection hve with e1 e2 e3
        subst e1
        obtain ⟨a1, a2, ha⟩ : ∃ a1 a2, f.nums = [a1, a2] := len2 hnl
        have n0 : w3.cell? ⟨g, 0, none⟩ = some (.int .i64 (a1 : Int)) := by rw [hce 0 (by rw [ha]; simp [ics])]; simp [ha, ics]
        have n1 : w3.cell? ⟨g, 1, none⟩ = some (.int .i64 (a2 : Int)) := by rw [hce 1 (by rw [ha]; simp [ics])]; simp [ha, ics]
        have hil : (ics f.nums).length = 2 := by rw [ha]; rfl
        rw [hil] at HF3 cF ⊢
        clear hce e2 e3
        refine wp_region_kept 10 [] ?st ?ne rfl (by kernel_rfl) (by kernel_rfl) ?_
        case st => intro p hp; cases hp
        case ne => intro p hp; cases hp
        simp only [List.take_succ_cons, List.take_zero, List.drop_succ_cons, List.drop_zero]
        intro G pick hR hp1 hp2
        have sF : ∀ u i, (pick u).cell? ⟨fb, i, none⟩ = #[.int .i64 0, .int .i64 0, .int .i64 0, .int .i64 0, .int .i64 0, .bool false, .int .u64 0, .int .u64 0, .int .u16 0, .int .u8 0, .int .i64 0, .slice none 0 0, .int .i64 0, .int .i64 0, .int .u8 0, (.slice LA ll lc), .int .u32 0, .int .u32 0, .int .u32 0, .bool false, .int .u64 0, .int .u64 0, .int .u16 0, (.slice (some ⟨g, 0, none⟩) 2 nc), .bool f.a.six, .int .u64 (f.a.hi : Int), .int .u64 (f.a.lo : Int), .int .i64 (f.po : Int), .int .u8 (f.p : Int), .int .i64 (f.wy : Int), .bool true][i]? := fun u i => ((hp1 u).cell lF (fun h => h) _).trans (cF i)
        have s0 : ∀ u, (pick u).cell? ⟨g, 0, none⟩ = some (.int .i64 (a1 : Int)) := fun u => ((hp1 u).cell hgl (fun h => h) _).trans n0
        have s1 : ∀ u, (pick u).cell? ⟨g, 1, none⟩ = some (.int .i64 (a2 : Int)) := fun u => ((hp1 u).cell hgl (fun h => h) _).trans n1
        repeat (first | (refine wpR_det hp2 rfl ((hR.rel _).trans rfl) rfl ?_; intro K hK; go_big_quiet_op; go_big_quiet_on) | (refine wpR_ptr hp2 rfl ((hR.rel _).trans rfl) rfl rfl ?_; intro K hK; go_big_quiet_op; go_big_quiet_on) | (refine wpR_skip pick rfl ?_; intro K hK; go_big_quiet_op; go_big_quiet_on))
        refine wpR_nil ?_
        intro w4 hk2 hF hM
        have HR4 := Lib.hid (HR3.out.kept hk2 (fun h => h))
        have HK4 := Lib.hid (HK3.out.trans hk2)
        clear hF hM hk2 hp1 hp2 hR sF s0 s1 HR3 HK3 cF lF
        go_wp2_with (show wpList _ _ _ ((⟨none, .store 39 (.tmp 2) _, _, _, _, none⟩ : Oper) :: _) _ _; refine wpList_store_mid rfl 39 (.tmp 2) _ rfl rb 0 #[.int .i64 5, .int .i64 (a1 : Int), .int .i64 0, .int .i64 (a2 : Int), .bool false, .int .u64 0, .int .u64 0, .int .u16 0, .int .u8 0, .int .i64 0, .slice none 0 0] rfl rfl (HR4.out.there rfl) (by kernel_rfl) (by simp [Value.oneCell']) ?_)
        generalize hw9 : (World.setCells _ _ _ _) = w9
        have HK9 := Lib.hid (show Kept (fun i => i = rb) w4 w9 by rw [← hw9]; exact Kept.setCells (S := fun i => i = rb) rfl _ _ (Kept.refl _ _))
        have HR9 := Lib.hid (show Blk w9 rb 39 #[.int .i64 5, .int .i64 (a1 : Int), .int .i64 0, .int .i64 (a2 : Int), .bool false, .int .u64 0, .int .u64 0, .int .u16 0, .int .u8 0, .int .i64 0, .slice none 0 0] by rw [← hw9]; exact HR4.out.setAll #[.int .i64 5, .int .i64 (a1 : Int), .int .i64 0, .int .i64 (a2 : Int), .bool false, .int .u64 0, .int .u64 0, .int .u16 0, .int .u8 0, .int .i64 0, .slice none 0 0] rfl)
        clear hw9
        refine bodyPost_ret (results_blk_tmp (P := Tryz.prog) (show Tryz.f18.results = _ from rfl) _ _ rb 39 #[.int .i64 5, .int .i64 (a1 : Int), .int .i64 0, .int .i64 (a2 : Int), .bool false, .int .u64 0, .int .u64 0, .int .u16 0, .int .u8 0, .int .i64 0, .slice none 0 0] _ rfl HR9.out Tryz.underlying39 rfl (by kernel_rfl)) rfl ?_
        have HBZ := Lib.hid ((HK4.out.below (Nat.le_refl _) (fun i h => h.elim)).trans (HK9.out.below HK4.out.size (fun i e => by have := HRB.out; omega)))
        exact ⟨HBZ.out, { Osp.zero with kind := 5, vip := (a1 : Nat), version := (a2 : Nat) }, none, 0, 0, true, rfl, iss_yes (by rw [HOP.out, ho]; exact congrArg some (fillO_two ha)) rfl rfl⟩
    by_cases n5 : x.data.toList = [101, 118, 105, 99, 116]
    · skip
      have HXL := Lib.hid (show x.toList = [101, 118, 105, 99, 116] by rw [Lib.toList_data]; exact n5)
      have q0 : (x.toList == [98, 97, 99, 107, 101, 110, 100]) = false := by rw [HXL.out]; rfl
      have q1 : (x.toList == [118, 105, 112]) = false := by rw [HXL.out]; rfl
      have q2 : (x.toList == [109, 101, 109, 98, 101, 114, 115]) = false := by rw [HXL.out]; rfl
      have q3 : (x.toList == [114, 101, 116, 105, 114, 101]) = false := by rw [HXL.out]; rfl
      have q4 : (x.toList == [114, 101, 108, 101, 97, 115, 101]) = false := by rw [HXL.out]; rfl
      have q5 : (x.toList == [101, 118, 105, 99, 116]) = true := by rw [HXL.out]; rfl
      have q6 : (x.toList == [97, 100, 109, 105, 116]) = false := by rw [HXL.out]; rfl
      have q7 : (x.toList == [114, 111, 116, 97, 116, 101]) = false := by rw [HXL.out]; rfl
      have HOP := Lib.hid (show opP ((x :: xs).map (·.data.toList)) = (fitS [75] (xs.map (·.data.toList)) Fd.zero).map (fillO 6) by rw [List.map_cons, n5]; exact opP_pat rfl (by decide) _)
      have HFT := Lib.hid (fit_any ⟨#[75]⟩ xs RA (c - 1) w1 (by decide) (by first | omega | (simp; done) | (simp; omega)) (by unfold maxLen; omega) HZR.out HSR.out)
      obtain ⟨o, ho⟩ : ∃ o, fitS [75] (xs.map (·.data.toList)) Fd.zero = o := ⟨_, rfl⟩
      rw [show fitS (⟨#[75]⟩ : ByteArray).data.toList (xs.map (·.data.toList)) Fd.zero = o from ho] at HFT
      go_wp2_with fail
      refine HFT.out.mono ?_
      rintro e w2 ⟨hb2, hfr⟩
      have HR2 := Lib.hid (HR1.out.below hb2 HR1.out.lt)
      have HK2 := Lib.hid (HK1.out.trans (Kept.ofB (S := fun _ => False) hb2))
      have hsz2 := hb2.size
      clear hb2 HFT
      cases o with
      | none =>
        obtain rfl : e = _ := hfr
        unfold Z63
        go_upto_region 30 with (show wpList _ _ _ ((⟨none, .store 60 (.tmp 12) _, _, _, _, none⟩ : Oper) :: _) _ _; refine wpList_store_mid rfl 60 (.tmp 12) _ rfl w2.heap.size 0 #[.int .i64 0, .int .i64 0, .int .i64 0, .int .i64 0, .int .i64 0, .bool false, .int .u64 0, .int .u64 0, .int .u16 0, .int .u8 0, .int .i64 0, .slice none 0 0, .int .i64 0, .int .i64 0, .int .u8 0, .slice none 0 0, .int .u32 0, .int .u32 0, .int .u32 0, .bool false, .int .u64 0, .int .u64 0, .int .u16 0, .slice none 0 0, .bool false, .int .u64 0, .int .u64 0, .int .i64 0, .int .u8 0, .int .i64 0, .bool false] rfl rfl ((Blk.new w2 60 #[.int .i64 0, .int .i64 0, .int .i64 0, .int .i64 0, .int .i64 0, .bool false, .int .u64 0, .int .u64 0, .int .u16 0, .int .u8 0, .int .i64 0, .slice none 0 0, .int .i64 0, .int .i64 0, .int .u8 0, .slice none 0 0, .int .u32 0, .int .u32 0, .int .u32 0, .bool false, .int .u64 0, .int .u64 0, .int .u16 0, .slice none 0 0, .bool false, .int .u64 0, .int .u64 0, .int .i64 0, .int .u8 0, .int .i64 0, .bool false]).there rfl) (by kernel_rfl) (by simp [Value.oneCell']) ?_)
        generalize hw4 : (World.setCells _ _ _ _) = w3
        have HKA := Lib.hid (show Kept (fun i => i = w2.heap.size) (w2.alloc (.cells #[.int .i64 0, .int .i64 0, .int .i64 0, .int .i64 0, .int .i64 0, .bool false, .int .u64 0, .int .u64 0, .int .u16 0, .int .u8 0, .int .i64 0, .slice none 0 0, .int .i64 0, .int .i64 0, .int .u8 0, .slice none 0 0, .int .u32 0, .int .u32 0, .int .u32 0, .bool false, .int .u64 0, .int .u64 0, .int .u16 0, .slice none 0 0, .bool false, .int .u64 0, .int .u64 0, .int .i64 0, .int .u8 0, .int .i64 0, .bool false] 60)) w3 by rw [← hw4]; exact Kept.setCells (S := fun i => i = w2.heap.size) rfl _ _ (Kept.refl _ _))
        have HF3 := Lib.hid (show Blk w3 w2.heap.size 60 #[.int .i64 0, .int .i64 0, .int .i64 0, .int .i64 0, .int .i64 0, .bool false, .int .u64 0, .int .u64 0, .int .u16 0, .int .u8 0, .int .i64 0, .slice none 0 0, .int .i64 0, .int .i64 0, .int .u8 0, .slice none 0 0, .int .u32 0, .int .u32 0, .int .u32 0, .bool false, .int .u64 0, .int .u64 0, .int .u16 0, .slice none 0 0, .bool false, .int .u64 0, .int .u64 0, .int .i64 0, .int .u8 0, .int .i64 0, .bool false] by rw [← hw4]; exact (Blk.new w2 60 #[.int .i64 0, .int .i64 0, .int .i64 0, .int .i64 0, .int .i64 0, .bool false, .int .u64 0, .int .u64 0, .int .u16 0, .int .u8 0, .int .i64 0, .slice none 0 0, .int .i64 0, .int .i64 0, .int .u8 0, .slice none 0 0, .int .u32 0, .int .u32 0, .int .u32 0, .bool false, .int .u64 0, .int .u64 0, .int .u16 0, .slice none 0 0, .bool false, .int .u64 0, .int .u64 0, .int .i64 0, .int .u8 0, .int .i64 0, .bool false]).setAll #[.int .i64 0, .int .i64 0, .int .i64 0, .int .i64 0, .int .i64 0, .bool false, .int .u64 0, .int .u64 0, .int .u16 0, .int .u8 0, .int .i64 0, .slice none 0 0, .int .i64 0, .int .i64 0, .int .u8 0, .slice none 0 0, .int .u32 0, .int .u32 0, .int .u32 0, .bool false, .int .u64 0, .int .u64 0, .int .u16 0, .slice none 0 0, .bool false, .int .u64 0, .int .u64 0, .int .i64 0, .int .u8 0, .int .i64 0, .bool false] rfl)
        have HKB := Lib.hid (show Kept (fun _ => False) w2 w3 from ((Kept.refl _ _).alloc _).then HKA.out (fun i hi e => by omega))
        have HR3 := Lib.hid (HR2.out.kept HKB.out (fun h => h))
        have HK3 := Lib.hid (HK2.out.trans HKB.out)
        obtain ⟨fb, hfb⟩ : ∃ fb, w2.heap.size = fb := ⟨_, rfl⟩
        rw [hfb] at HF3 ⊢
        clear hw4 HKA HKB hfb HR2 HK2
        have cF := HF3.out.cell
        have lF := HF3.out.lt
        have c3 := (HK3.out.cell hb (fun h => h) off).trans HC0.out
        go_wp2_with (show wpList _ _ _ ((⟨none, .store 39 (.tmp 2) _, _, _, _, none⟩ : Oper) :: _) _ _; refine wpList_store_mid rfl 39 (.tmp 2) _ rfl rb 0 #[.int .i64 0, .int .i64 0, .int .i64 0, .int .i64 0, .bool false, .int .u64 0, .int .u64 0, .int .u16 0, .int .u8 0, .int .i64 0, .slice none 0 0] rfl rfl (HR3.out.there rfl) (by kernel_rfl) (by simp [Value.oneCell']) ?_)
        generalize hw9 : (World.setCells _ _ _ _) = w9
        have HK9 := Lib.hid (show Kept (fun i => i = rb) w3 w9 by rw [← hw9]; exact Kept.setCells (S := fun i => i = rb) rfl _ _ (Kept.refl _ _))
        have HR9 := Lib.hid (show Blk w9 rb 39 #[.int .i64 0, .int .i64 0, .int .i64 0, .int .i64 0, .bool false, .int .u64 0, .int .u64 0, .int .u16 0, .int .u8 0, .int .i64 0, .slice none 0 0] by rw [← hw9]; exact HR3.out.setAll #[.int .i64 0, .int .i64 0, .int .i64 0, .int .i64 0, .bool false, .int .u64 0, .int .u64 0, .int .u16 0, .int .u8 0, .int .i64 0, .slice none 0 0] rfl)
        clear hw9
        refine bodyPost_ret (results_blk_tmp (P := Tryz.prog) (show Tryz.f18.results = _ from rfl) _ _ rb 39 #[.int .i64 0, .int .i64 0, .int .i64 0, .int .i64 0, .bool false, .int .u64 0, .int .u64 0, .int .u16 0, .int .u8 0, .int .i64 0, .slice none 0 0] _ rfl HR9.out Tryz.underlying39 rfl (by kernel_rfl)) rfl ?_
        have HBZ := Lib.hid ((HK3.out.below (Nat.le_refl _) (fun i h => h.elim)).trans (HK9.out.below HK3.out.size (fun i e => by have := HRB.out; omega)))
        exact ⟨HBZ.out, Osp.zero, none, 0, 0, false, rfl, iss_no (by rw [HOP.out]; rw [ho]; rfl)⟩
      | some f =>
        obtain ⟨lv, nv, rfl, hlo, hnu⟩ := hfr
        obtain ⟨LA, lc, hlv, -⟩ := hlo
        subst hlv
        obtain ⟨ll, hll⟩ : ∃ ll, f.load.length = ll := ⟨_, rfl⟩
        rw [hll]
        clear hll
        have HN2 := Lib.hid hnu
        obtain ⟨NA, nc, hnv, hnc1, hnc2⟩ := hnu.shape
        subst hnv
        have hnl := fitS_len ho
        unfold FC
        go_upto_region 30 with (show wpList _ _ _ ((⟨none, .store 60 (.tmp 12) _, _, _, _, none⟩ : Oper) :: _) _ _; refine wpList_store_mid rfl 60 (.tmp 12) _ rfl w2.heap.size 0 #[.int .i64 0, .int .i64 0, .int .i64 0, .int .i64 0, .int .i64 0, .bool false, .int .u64 0, .int .u64 0, .int .u16 0, .int .u8 0, .int .i64 0, .slice none 0 0, .int .i64 0, .int .i64 0, .int .u8 0, (.slice LA ll lc), .int .u32 0, .int .u32 0, .int .u32 0, .bool false, .int .u64 0, .int .u64 0, .int .u16 0, (.slice NA (ics f.nums).length nc), .bool f.a.six, .int .u64 (f.a.hi : Int), .int .u64 (f.a.lo : Int), .int .i64 (f.po : Int), .int .u8 (f.p : Int), .int .i64 (f.wy : Int), .bool true] rfl rfl ((Blk.new w2 60 #[.int .i64 0, .int .i64 0, .int .i64 0, .int .i64 0, .int .i64 0, .bool false, .int .u64 0, .int .u64 0, .int .u16 0, .int .u8 0, .int .i64 0, .slice none 0 0, .int .i64 0, .int .i64 0, .int .u8 0, .slice none 0 0, .int .u32 0, .int .u32 0, .int .u32 0, .bool false, .int .u64 0, .int .u64 0, .int .u16 0, .slice none 0 0, .bool false, .int .u64 0, .int .u64 0, .int .i64 0, .int .u8 0, .int .i64 0, .bool false]).there rfl) (by kernel_rfl) (by simp [Value.oneCell']) ?_)
        generalize hw4 : (World.setCells _ _ _ _) = w3
        have HKA := Lib.hid (show Kept (fun i => i = w2.heap.size) (w2.alloc (.cells #[.int .i64 0, .int .i64 0, .int .i64 0, .int .i64 0, .int .i64 0, .bool false, .int .u64 0, .int .u64 0, .int .u16 0, .int .u8 0, .int .i64 0, .slice none 0 0, .int .i64 0, .int .i64 0, .int .u8 0, .slice none 0 0, .int .u32 0, .int .u32 0, .int .u32 0, .bool false, .int .u64 0, .int .u64 0, .int .u16 0, .slice none 0 0, .bool false, .int .u64 0, .int .u64 0, .int .i64 0, .int .u8 0, .int .i64 0, .bool false] 60)) w3 by rw [← hw4]; exact Kept.setCells (S := fun i => i = w2.heap.size) rfl _ _ (Kept.refl _ _))
        have HF3 := Lib.hid (show Blk w3 w2.heap.size 60 #[.int .i64 0, .int .i64 0, .int .i64 0, .int .i64 0, .int .i64 0, .bool false, .int .u64 0, .int .u64 0, .int .u16 0, .int .u8 0, .int .i64 0, .slice none 0 0, .int .i64 0, .int .i64 0, .int .u8 0, (.slice LA ll lc), .int .u32 0, .int .u32 0, .int .u32 0, .bool false, .int .u64 0, .int .u64 0, .int .u16 0, (.slice NA (ics f.nums).length nc), .bool f.a.six, .int .u64 (f.a.hi : Int), .int .u64 (f.a.lo : Int), .int .i64 (f.po : Int), .int .u8 (f.p : Int), .int .i64 (f.wy : Int), .bool true] by rw [← hw4]; exact (Blk.new w2 60 #[.int .i64 0, .int .i64 0, .int .i64 0, .int .i64 0, .int .i64 0, .bool false, .int .u64 0, .int .u64 0, .int .u16 0, .int .u8 0, .int .i64 0, .slice none 0 0, .int .i64 0, .int .i64 0, .int .u8 0, .slice none 0 0, .int .u32 0, .int .u32 0, .int .u32 0, .bool false, .int .u64 0, .int .u64 0, .int .u16 0, .slice none 0 0, .bool false, .int .u64 0, .int .u64 0, .int .i64 0, .int .u8 0, .int .i64 0, .bool false]).setAll #[.int .i64 0, .int .i64 0, .int .i64 0, .int .i64 0, .int .i64 0, .bool false, .int .u64 0, .int .u64 0, .int .u16 0, .int .u8 0, .int .i64 0, .slice none 0 0, .int .i64 0, .int .i64 0, .int .u8 0, (.slice LA ll lc), .int .u32 0, .int .u32 0, .int .u32 0, .bool false, .int .u64 0, .int .u64 0, .int .u16 0, (.slice NA (ics f.nums).length nc), .bool f.a.six, .int .u64 (f.a.hi : Int), .int .u64 (f.a.lo : Int), .int .i64 (f.po : Int), .int .u8 (f.p : Int), .int .i64 (f.wy : Int), .bool true] rfl)
        have HKB := Lib.hid (show Kept (fun _ => False) w2 w3 from ((Kept.refl _ _).alloc _).then HKA.out (fun i hi e => by omega))
        have HR3 := Lib.hid (HR2.out.kept HKB.out (fun h => h))
        have HK3 := Lib.hid (HK2.out.trans HKB.out)
        have HN3 := Lib.hid (HN2.out.kept HKB.out (fun _ _ h => h))
        obtain ⟨fb, hfb⟩ : ∃ fb, w2.heap.size = fb := ⟨_, rfl⟩
        rw [hfb] at HF3 ⊢
        clear hw4 HKA HKB hfb HR2 HK2
        have cF := HF3.out.cell
        have lF := HF3.out.lt
        have c3 := (HK3.out.cell hb (fun h => h) off).trans HC0.out
        go_upto_region 34 with fail
        obtain ⟨g, nc', hve, hgb, hgl, hce⟩ := HN3.out.at (i := 0) (by simp only [ics, List.length_map]; rw [hnl]; decide)
        injection hve with e1 e2 e3
        subst e1
        obtain ⟨a1, ha⟩ : ∃ a1, f.nums = [a1] := len1 hnl
        have n0 : w3.cell? ⟨g, 0, none⟩ = some (.int .i64 (a1 : Int)) := by rw [hce 0 (by rw [ha]; simp [ics])]; simp [ha, ics]
        have hil : (ics f.nums).length = 1 := by rw [ha]; rfl
        rw [hil] at HF3 cF ⊢
        clear hce e2 e3
        have HR4 := HR3
        have HK4 := HK3
        obtain ⟨w4, hw4⟩ : ∃ w4, w3 = w4 := ⟨_, rfl⟩
        subst hw4
        go_wp2_with (show wpList _ _ _ ((⟨none, .store 39 (.tmp 2) _, _, _, _, none⟩ : Oper) :: _) _ _; refine wpList_store_mid rfl 39 (.tmp 2) _ rfl rb 0 #[.int .i64 6, .int .i64 0, .int .i64 (a1 : Int), .int .i64 0, .bool false, .int .u64 0, .int .u64 0, .int .u16 0, .int .u8 0, .int .i64 0, .slice none 0 0] rfl rfl (HR3.out.there rfl) (by kernel_rfl) (by simp [Value.oneCell']) ?_)
        generalize hw9 : (World.setCells _ _ _ _) = w9
        have HK9 := Lib.hid (show Kept (fun i => i = rb) w3 w9 by rw [← hw9]; exact Kept.setCells (S := fun i => i = rb) rfl _ _ (Kept.refl _ _))
        have HR9 := Lib.hid (show Blk w9 rb 39 #[.int .i64 6, .int .i64 0, .int .i64 (a1 : Int), .int .i64 0, .bool false, .int .u64 0, .int .u64 0, .int .u16 0, .int .u8 0, .int .i64 0, .slice none 0 0] by rw [← hw9]; exact HR3.out.setAll #[.int .i64 6, .int .i64 0, .int .i64 (a1 : Int), .int .i64 0, .bool false, .int .u64 0, .int .u64 0, .int .u16 0, .int .u8 0, .int .i64 0, .slice none 0 0] rfl)
        clear hw9
        refine bodyPost_ret (results_blk_tmp (P := Tryz.prog) (show Tryz.f18.results = _ from rfl) _ _ rb 39 #[.int .i64 6, .int .i64 0, .int .i64 (a1 : Int), .int .i64 0, .bool false, .int .u64 0, .int .u64 0, .int .u16 0, .int .u8 0, .int .i64 0, .slice none 0 0] _ rfl HR9.out Tryz.underlying39 rfl (by kernel_rfl)) rfl ?_
        have HBZ := Lib.hid ((HK3.out.below (Nat.le_refl _) (fun i h => h.elim)).trans (HK9.out.below HK3.out.size (fun i e => by have := HRB.out; omega)))
        exact ⟨HBZ.out, { Osp.zero with kind := 6, backend := (a1 : Nat) }, none, 0, 0, true, rfl, iss_yes (by rw [HOP.out, ho]; exact congrArg some (fillO_one ha)) rfl rfl⟩
    by_cases n6 : x.data.toList = [97, 100, 109, 105, 116]
    · skip
      have HXL := Lib.hid (show x.toList = [97, 100, 109, 105, 116] by rw [Lib.toList_data]; exact n6)
      have q0 : (x.toList == [98, 97, 99, 107, 101, 110, 100]) = false := by rw [HXL.out]; rfl
      have q1 : (x.toList == [118, 105, 112]) = false := by rw [HXL.out]; rfl
      have q2 : (x.toList == [109, 101, 109, 98, 101, 114, 115]) = false := by rw [HXL.out]; rfl
      have q3 : (x.toList == [114, 101, 116, 105, 114, 101]) = false := by rw [HXL.out]; rfl
      have q4 : (x.toList == [114, 101, 108, 101, 97, 115, 101]) = false := by rw [HXL.out]; rfl
      have q5 : (x.toList == [101, 118, 105, 99, 116]) = false := by rw [HXL.out]; rfl
      have q6 : (x.toList == [97, 100, 109, 105, 116]) = true := by rw [HXL.out]; rfl
      have q7 : (x.toList == [114, 111, 116, 97, 116, 101]) = false := by rw [HXL.out]; rfl
      have HOP := Lib.hid (show opP ((x :: xs).map (·.data.toList)) = (fitS [75] (xs.map (·.data.toList)) Fd.zero).map (fillO 7) by rw [List.map_cons, n6]; exact opP_pat rfl (by decide) _)
      have HFT := Lib.hid (fit_any ⟨#[75]⟩ xs RA (c - 1) w1 (by decide) (by first | omega | (simp; done) | (simp; omega)) (by unfold maxLen; omega) HZR.out HSR.out)
      obtain ⟨o, ho⟩ : ∃ o, fitS [75] (xs.map (·.data.toList)) Fd.zero = o := ⟨_, rfl⟩
      rw [show fitS (⟨#[75]⟩ : ByteArray).data.toList (xs.map (·.data.toList)) Fd.zero = o from ho] at HFT
      go_wp2_with fail
      refine HFT.out.mono ?_
      rintro e w2 ⟨hb2, hfr⟩
      have HR2 := Lib.hid (HR1.out.below hb2 HR1.out.lt)
      have HK2 := Lib.hid (HK1.out.trans (Kept.ofB (S := fun _ => False) hb2))
      have hsz2 := hb2.size
      clear hb2 HFT
      cases o with
      | none =>
        obtain rfl : e = _ := hfr
        unfold Z63
        go_upto_region 30 with (show wpList _ _ _ ((⟨none, .store 60 (.tmp 12) _, _, _, _, none⟩ : Oper) :: _) _ _; refine wpList_store_mid rfl 60 (.tmp 12) _ rfl w2.heap.size 0 #[.int .i64 0, .int .i64 0, .int .i64 0, .int .i64 0, .int .i64 0, .bool false, .int .u64 0, .int .u64 0, .int .u16 0, .int .u8 0, .int .i64 0, .slice none 0 0, .int .i64 0, .int .i64 0, .int .u8 0, .slice none 0 0, .int .u32 0, .int .u32 0, .int .u32 0, .bool false, .int .u64 0, .int .u64 0, .int .u16 0, .slice none 0 0, .bool false, .int .u64 0, .int .u64 0, .int .i64 0, .int .u8 0, .int .i64 0, .bool false] rfl rfl ((Blk.new w2 60 #[.int .i64 0, .int .i64 0, .int .i64 0, .int .i64 0, .int .i64 0, .bool false, .int .u64 0, .int .u64 0, .int .u16 0, .int .u8 0, .int .i64 0, .slice none 0 0, .int .i64 0, .int .i64 0, .int .u8 0, .slice none 0 0, .int .u32 0, .int .u32 0, .int .u32 0, .bool false, .int .u64 0, .int .u64 0, .int .u16 0, .slice none 0 0, .bool false, .int .u64 0, .int .u64 0, .int .i64 0, .int .u8 0, .int .i64 0, .bool false]).there rfl) (by kernel_rfl) (by simp [Value.oneCell']) ?_)
        generalize hw4 : (World.setCells _ _ _ _) = w3
        have HKA := Lib.hid (show Kept (fun i => i = w2.heap.size) (w2.alloc (.cells #[.int .i64 0, .int .i64 0, .int .i64 0, .int .i64 0, .int .i64 0, .bool false, .int .u64 0, .int .u64 0, .int .u16 0, .int .u8 0, .int .i64 0, .slice none 0 0, .int .i64 0, .int .i64 0, .int .u8 0, .slice none 0 0, .int .u32 0, .int .u32 0, .int .u32 0, .bool false, .int .u64 0, .int .u64 0, .int .u16 0, .slice none 0 0, .bool false, .int .u64 0, .int .u64 0, .int .i64 0, .int .u8 0, .int .i64 0, .bool false] 60)) w3 by rw [← hw4]; exact Kept.setCells (S := fun i => i = w2.heap.size) rfl _ _ (Kept.refl _ _))
        have HF3 := Lib.hid (show Blk w3 w2.heap.size 60 #[.int .i64 0, .int .i64 0, .int .i64 0, .int .i64 0, .int .i64 0, .bool false, .int .u64 0, .int .u64 0, .int .u16 0, .int .u8 0, .int .i64 0, .slice none 0 0, .int .i64 0, .int .i64 0, .int .u8 0, .slice none 0 0, .int .u32 0, .int .u32 0, .int .u32 0, .bool false, .int .u64 0, .int .u64 0, .int .u16 0, .slice none 0 0, .bool false, .int .u64 0, .int .u64 0, .int .i64 0, .int .u8 0, .int .i64 0, .bool false] by rw [← hw4]; exact (Blk.new w2 60 #[.int .i64 0, .int .i64 0, .int .i64 0, .int .i64 0, .int .i64 0, .bool false, .int .u64 0, .int .u64 0, .int .u16 0, .int .u8 0, .int .i64 0, .slice none 0 0, .int .i64 0, .int .i64 0, .int .u8 0, .slice none 0 0, .int .u32 0, .int .u32 0, .int .u32 0, .bool false, .int .u64 0, .int .u64 0, .int .u16 0, .slice none 0 0, .bool false, .int .u64 0, .int .u64 0, .int .i64 0, .int .u8 0, .int .i64 0, .bool false]).setAll #[.int .i64 0, .int .i64 0, .int .i64 0, .int .i64 0, .int .i64 0, .bool false, .int .u64 0, .int .u64 0, .int .u16 0, .int .u8 0, .int .i64 0, .slice none 0 0, .int .i64 0, .int .i64 0, .int .u8 0, .slice none 0 0, .int .u32 0, .int .u32 0, .int .u32 0, .bool false, .int .u64 0, .int .u64 0, .int .u16 0, .slice none 0 0, .bool false, .int .u64 0, .int .u64 0, .int .i64 0, .int .u8 0, .int .i64 0, .bool false] rfl)
        have HKB := Lib.hid (show Kept (fun _ => False) w2 w3 from ((Kept.refl _ _).alloc _).then HKA.out (fun i hi e => by omega))
        have HR3 := Lib.hid (HR2.out.kept HKB.out (fun h => h))
        have HK3 := Lib.hid (HK2.out.trans HKB.out)
        obtain ⟨fb, hfb⟩ : ∃ fb, w2.heap.size = fb := ⟨_, rfl⟩
        rw [hfb] at HF3 ⊢
        clear hw4 HKA HKB hfb HR2 HK2
        have cF := HF3.out.cell
        have lF := HF3.out.lt
        have c3 := (HK3.out.cell hb (fun h => h) off).trans HC0.out
        go_wp2_with (show wpList _ _ _ ((⟨none, .store 39 (.tmp 2) _, _, _, _, none⟩ : Oper) :: _) _ _; refine wpList_store_mid rfl 39 (.tmp 2) _ rfl rb 0 #[.int .i64 0, .int .i64 0, .int .i64 0, .int .i64 0, .bool false, .int .u64 0, .int .u64 0, .int .u16 0, .int .u8 0, .int .i64 0, .slice none 0 0] rfl rfl (HR3.out.there rfl) (by kernel_rfl) (by simp [Value.oneCell']) ?_)
        generalize hw9 : (World.setCells _ _ _ _) = w9
        have HK9 := Lib.hid (show Kept (fun i => i = rb) w3 w9 by rw [← hw9]; exact Kept.setCells (S := fun i => i = rb) rfl _ _ (Kept.refl _ _))
        have HR9 := Lib.hid (show Blk w9 rb 39 #[.int .i64 0, .int .i64 0, .int .i64 0, .int .i64 0, .bool false, .int .u64 0, .int .u64 0, .int .u16 0, .int .u8 0, .int .i64 0, .slice none 0 0] by rw [← hw9]; exact HR3.out.setAll #[.int .i64 0, .int .i64 0, .int .i64 0, .int .i64 0, .bool false, .int .u64 0, .int .u64 0, .int .u16 0, .int .u8 0, .int .i64 0, .slice none 0 0] rfl)
        clear hw9
        refine bodyPost_ret (results_blk_tmp (P := Tryz.prog) (show Tryz.f18.results = _ from rfl) _ _ rb 39 #[.int .i64 0, .int .i64 0, .int .i64 0, .int .i64 0, .bool false, .int .u64 0, .int .u64 0, .int .u16 0, .int .u8 0, .int .i64 0, .slice none 0 0] _ rfl HR9.out Tryz.underlying39 rfl (by kernel_rfl)) rfl ?_
        have HBZ := Lib.hid ((HK3.out.below (Nat.le_refl _) (fun i h => h.elim)).trans (HK9.out.below HK3.out.size (fun i e => by have := HRB.out; omega)))
        exact ⟨HBZ.out, Osp.zero, none, 0, 0, false, rfl, iss_no (by rw [HOP.out]; rw [ho]; rfl)⟩
      | some f =>
        obtain ⟨lv, nv, rfl, hlo, hnu⟩ := hfr
        obtain ⟨LA, lc, hlv, -⟩ := hlo
        subst hlv
        obtain ⟨ll, hll⟩ : ∃ ll, f.load.length = ll := ⟨_, rfl⟩
        rw [hll]
        clear hll
        have HN2 := Lib.hid hnu
        obtain ⟨NA, nc, hnv, hnc1, hnc2⟩ := hnu.shape
        subst hnv
        have hnl := fitS_len ho
        unfold FC
        go_upto_region 30 with (show wpList _ _ _ ((⟨none, .store 60 (.tmp 12) _, _, _, _, none⟩ : Oper) :: _) _ _; refine wpList_store_mid rfl 60 (.tmp 12) _ rfl w2.heap.size 0 #[.int .i64 0, .int .i64 0, .int .i64 0, .int .i64 0, .int .i64 0, .bool false, .int .u64 0, .int .u64 0, .int .u16 0, .int .u8 0, .int .i64 0, .slice none 0 0, .int .i64 0, .int .i64 0, .int .u8 0, (.slice LA ll lc), .int .u32 0, .int .u32 0, .int .u32 0, .bool false, .int .u64 0, .int .u64 0, .int .u16 0, (.slice NA (ics f.nums).length nc), .bool f.a.six, .int .u64 (f.a.hi : Int), .int .u64 (f.a.lo : Int), .int .i64 (f.po : Int), .int .u8 (f.p : Int), .int .i64 (f.wy : Int), .bool true] rfl rfl ((Blk.new w2 60 #[.int .i64 0, .int .i64 0, .int .i64 0, .int .i64 0, .int .i64 0, .bool false, .int .u64 0, .int .u64 0, .int .u16 0, .int .u8 0, .int .i64 0, .slice none 0 0, .int .i64 0, .int .i64 0, .int .u8 0, .slice none 0 0, .int .u32 0, .int .u32 0, .int .u32 0, .bool false, .int .u64 0, .int .u64 0, .int .u16 0, .slice none 0 0, .bool false, .int .u64 0, .int .u64 0, .int .i64 0, .int .u8 0, .int .i64 0, .bool false]).there rfl) (by kernel_rfl) (by simp [Value.oneCell']) ?_)
        generalize hw4 : (World.setCells _ _ _ _) = w3
        have HKA := Lib.hid (show Kept (fun i => i = w2.heap.size) (w2.alloc (.cells #[.int .i64 0, .int .i64 0, .int .i64 0, .int .i64 0, .int .i64 0, .bool false, .int .u64 0, .int .u64 0, .int .u16 0, .int .u8 0, .int .i64 0, .slice none 0 0, .int .i64 0, .int .i64 0, .int .u8 0, .slice none 0 0, .int .u32 0, .int .u32 0, .int .u32 0, .bool false, .int .u64 0, .int .u64 0, .int .u16 0, .slice none 0 0, .bool false, .int .u64 0, .int .u64 0, .int .i64 0, .int .u8 0, .int .i64 0, .bool false] 60)) w3 by rw [← hw4]; exact Kept.setCells (S := fun i => i = w2.heap.size) rfl _ _ (Kept.refl _ _))
        have HF3 := Lib.hid (show Blk w3 w2.heap.size 60 #[.int .i64 0, .int .i64 0, .int .i64 0, .int .i64 0, .int .i64 0, .bool false, .int .u64 0, .int .u64 0, .int .u16 0, .int .u8 0, .int .i64 0, .slice none 0 0, .int .i64 0, .int .i64 0, .int .u8 0, (.slice LA ll lc), .int .u32 0, .int .u32 0, .int .u32 0, .bool false, .int .u64 0, .int .u64 0, .int .u16 0, (.slice NA (ics f.nums).length nc), .bool f.a.six, .int .u64 (f.a.hi : Int), .int .u64 (f.a.lo : Int), .int .i64 (f.po : Int), .int .u8 (f.p : Int), .int .i64 (f.wy : Int), .bool true] by rw [← hw4]; exact (Blk.new w2 60 #[.int .i64 0, .int .i64 0, .int .i64 0, .int .i64 0, .int .i64 0, .bool false, .int .u64 0, .int .u64 0, .int .u16 0, .int .u8 0, .int .i64 0, .slice none 0 0, .int .i64 0, .int .i64 0, .int .u8 0, .slice none 0 0, .int .u32 0, .int .u32 0, .int .u32 0, .bool false, .int .u64 0, .int .u64 0, .int .u16 0, .slice none 0 0, .bool false, .int .u64 0, .int .u64 0, .int .i64 0, .int .u8 0, .int .i64 0, .bool false]).setAll #[.int .i64 0, .int .i64 0, .int .i64 0, .int .i64 0, .int .i64 0, .bool false, .int .u64 0, .int .u64 0, .int .u16 0, .int .u8 0, .int .i64 0, .slice none 0 0, .int .i64 0, .int .i64 0, .int .u8 0, (.slice LA ll lc), .int .u32 0, .int .u32 0, .int .u32 0, .bool false, .int .u64 0, .int .u64 0, .int .u16 0, (.slice NA (ics f.nums).length nc), .bool f.a.six, .int .u64 (f.a.hi : Int), .int .u64 (f.a.lo : Int), .int .i64 (f.po : Int), .int .u8 (f.p : Int), .int .i64 (f.wy : Int), .bool true] rfl)
        have HKB := Lib.hid (show Kept (fun _ => False) w2 w3 from ((Kept.refl _ _).alloc _).then HKA.out (fun i hi e => by omega))
        have HR3 := Lib.hid (HR2.out.kept HKB.out (fun h => h))
        have HK3 := Lib.hid (HK2.out.trans HKB.out)
        have HN3 := Lib.hid (HN2.out.kept HKB.out (fun _ _ h => h))
        obtain ⟨fb, hfb⟩ : ∃ fb, w2.heap.size = fb := ⟨_, rfl⟩
        rw [hfb] at HF3 ⊢
        clear hw4 HKA HKB hfb HR2 HK2
        have cF := HF3.out.cell
        have lF := HF3.out.lt
        have c3 := (HK3.out.cell hb (fun h => h) off).trans HC0.out
        go_upto_region 34 with fail
        obtain ⟨g, nc', hve, hgb, hgl, hce⟩ := HN3.out.at (i := 0) (by simp only [ics, List.length_map]; rw [hnl]; decide)
        injection hve with e1 e2 e3
        subst e1
        obtain ⟨a1, ha⟩ : ∃ a1, f.nums = [a1] := len1 hnl
        have n0 : w3.cell? ⟨g, 0, none⟩ = some (.int .i64 (a1 : Int)) := by rw [hce 0 (by rw [ha]; simp [ics])]; simp [ha, ics]
        have hil : (ics f.nums).length = 1 := by rw [ha]; rfl
        rw [hil] at HF3 cF ⊢
        clear hce e2 e3
        have HR4 := HR3
        have HK4 := HK3
        obtain ⟨w4, hw4⟩ : ∃ w4, w3 = w4 := ⟨_, rfl⟩
        subst hw4
        go_wp2_with (show wpList _ _ _ ((⟨none, .store 39 (.tmp 2) _, _, _, _, none⟩ : Oper) :: _) _ _; refine wpList_store_mid rfl 39 (.tmp 2) _ rfl rb 0 #[.int .i64 7, .int .i64 0, .int .i64 (a1 : Int), .int .i64 0, .bool false, .int .u64 0, .int .u64 0, .int .u16 0, .int .u8 0, .int .i64 0, .slice none 0 0] rfl rfl (HR3.out.there rfl) (by kernel_rfl) (by simp [Value.oneCell']) ?_)
        generalize hw9 : (World.setCells _ _ _ _) = w9
        have HK9 := Lib.hid (show Kept (fun i => i = rb) w3 w9 by rw [← hw9]; exact Kept.setCells (S := fun i => i = rb) rfl _ _ (Kept.refl _ _))
        have HR9 := Lib.hid (show Blk w9 rb 39 #[.int .i64 7, .int .i64 0, .int .i64 (a1 : Int), .int .i64 0, .bool false, .int .u64 0, .int .u64 0, .int .u16 0, .int .u8 0, .int .i64 0, .slice none 0 0] by rw [← hw9]; exact HR3.out.setAll #[.int .i64 7, .int .i64 0, .int .i64 (a1 : Int), .int .i64 0, .bool false, .int .u64 0, .int .u64 0, .int .u16 0, .int .u8 0, .int .i64 0, .slice none 0 0] rfl)
        clear hw9
        refine bodyPost_ret (results_blk_tmp (P := Tryz.prog) (show Tryz.f18.results = _ from rfl) _ _ rb 39 #[.int .i64 7, .int .i64 0, .int .i64 (a1 : Int), .int .i64 0, .bool false, .int .u64 0, .int .u64 0, .int .u16 0, .int .u8 0, .int .i64 0, .slice none 0 0] _ rfl HR9.out Tryz.underlying39 rfl (by kernel_rfl)) rfl ?_
        have HBZ := Lib.hid ((HK3.out.below (Nat.le_refl _) (fun i h => h.elim)).trans (HK9.out.below HK3.out.size (fun i e => by have := HRB.out; omega)))
        exact ⟨HBZ.out, { Osp.zero with kind := 7, backend := (a1 : Nat) }, none, 0, 0, true, rfl, iss_yes (by rw [HOP.out, ho]; exact congrArg some (fillO_one ha)) rfl rfl⟩
    by_cases n7 : x.data.toList = [114, 111, 116, 97, 116, 101]
    · skip
      have HXL := Lib.hid (show x.toList = [114, 111, 116, 97, 116, 101] by rw [Lib.toList_data]; exact n7)
      have q0 : (x.toList == [98, 97, 99, 107, 101, 110, 100]) = false := by rw [HXL.out]; rfl
      have q1 : (x.toList == [118, 105, 112]) = false := by rw [HXL.out]; rfl
      have q2 : (x.toList == [109, 101, 109, 98, 101, 114, 115]) = false := by rw [HXL.out]; rfl
      have q3 : (x.toList == [114, 101, 116, 105, 114, 101]) = false := by rw [HXL.out]; rfl
      have q4 : (x.toList == [114, 101, 108, 101, 97, 115, 101]) = false := by rw [HXL.out]; rfl
      have q5 : (x.toList == [101, 118, 105, 99, 116]) = false := by rw [HXL.out]; rfl
      have q6 : (x.toList == [97, 100, 109, 105, 116]) = false := by rw [HXL.out]; rfl
      have q7 : (x.toList == [114, 111, 116, 97, 116, 101]) = true := by rw [HXL.out]; rfl
      have HOP := Lib.hid (show opP ((x :: xs).map (·.data.toList)) = (fitS [] (xs.map (·.data.toList)) Fd.zero).map (fillO 8) by rw [List.map_cons, n7]; exact opP_pat rfl (by decide) _)
      cases xs with
      | nil =>
        go_wp2_with (show wpList _ _ _ ((⟨none, .store 39 (.tmp 2) _, _, _, _, none⟩ : Oper) :: _) _ _; refine wpList_store_mid rfl 39 (.tmp 2) _ rfl rb 0 #[.int .i64 8, .int .i64 0, .int .i64 0, .int .i64 0, .bool false, .int .u64 0, .int .u64 0, .int .u16 0, .int .u8 0, .int .i64 0, .slice none 0 0] rfl rfl (HR1.out.there rfl) (by kernel_rfl) (by simp [Value.oneCell']) ?_)
        generalize hw9 : (World.setCells _ _ _ _) = w9
        have HK9 := Lib.hid (show Kept (fun i => i = rb) w1 w9 by rw [← hw9]; exact Kept.setCells (S := fun i => i = rb) rfl _ _ (Kept.refl _ _))
        have HR9 := Lib.hid (show Blk w9 rb 39 #[.int .i64 8, .int .i64 0, .int .i64 0, .int .i64 0, .bool false, .int .u64 0, .int .u64 0, .int .u16 0, .int .u8 0, .int .i64 0, .slice none 0 0] by rw [← hw9]; exact HR1.out.setAll #[.int .i64 8, .int .i64 0, .int .i64 0, .int .i64 0, .bool false, .int .u64 0, .int .u64 0, .int .u16 0, .int .u8 0, .int .i64 0, .slice none 0 0] rfl)
        clear hw9
        refine bodyPost_ret (results_blk_tmp (P := Tryz.prog) (show Tryz.f18.results = _ from rfl) _ _ rb 39 #[.int .i64 8, .int .i64 0, .int .i64 0, .int .i64 0, .bool false, .int .u64 0, .int .u64 0, .int .u16 0, .int .u8 0, .int .i64 0, .slice none 0 0] _ rfl HR9.out Tryz.underlying39 rfl (by kernel_rfl)) rfl ?_
        have HBZ := Lib.hid ((HK1.out.below (Nat.le_refl _) (fun i h => h.elim)).trans (HK9.out.below HK1.out.size (fun i e => by have := HRB.out; omega)))
        exact ⟨HBZ.out, { Osp.zero with kind := 8 }, none, 0, 0, true, rfl, iss_yes (by first | rfl | (rw [HOP.out]; rfl)) rfl rfl⟩
      | cons y ys =>
        have hly : (((ys.length : Int) + 1) == 0) = false := by simp; omega
        rw [List.length_cons]
        go_wp2_with (show wpList _ _ _ ((⟨none, .store 39 (.tmp 2) _, _, _, _, none⟩ : Oper) :: _) _ _; refine wpList_store_mid rfl 39 (.tmp 2) _ rfl rb 0 #[.int .i64 8, .int .i64 0, .int .i64 0, .int .i64 0, .bool false, .int .u64 0, .int .u64 0, .int .u16 0, .int .u8 0, .int .i64 0, .slice none 0 0] rfl rfl (HR1.out.there rfl) (by kernel_rfl) (by simp [Value.oneCell']) ?_)
        generalize hw9 : (World.setCells _ _ _ _) = w9
        have HK9 := Lib.hid (show Kept (fun i => i = rb) w1 w9 by rw [← hw9]; exact Kept.setCells (S := fun i => i = rb) rfl _ _ (Kept.refl _ _))
        have HR9 := Lib.hid (show Blk w9 rb 39 #[.int .i64 8, .int .i64 0, .int .i64 0, .int .i64 0, .bool false, .int .u64 0, .int .u64 0, .int .u16 0, .int .u8 0, .int .i64 0, .slice none 0 0] by rw [← hw9]; exact HR1.out.setAll #[.int .i64 8, .int .i64 0, .int .i64 0, .int .i64 0, .bool false, .int .u64 0, .int .u64 0, .int .u16 0, .int .u8 0, .int .i64 0, .slice none 0 0] rfl)
        clear hw9
        refine bodyPost_ret (results_blk_tmp (P := Tryz.prog) (show Tryz.f18.results = _ from rfl) _ _ rb 39 #[.int .i64 8, .int .i64 0, .int .i64 0, .int .i64 0, .bool false, .int .u64 0, .int .u64 0, .int .u16 0, .int .u8 0, .int .i64 0, .slice none 0 0] _ rfl HR9.out Tryz.underlying39 rfl (by kernel_rfl)) rfl ?_
        have HBZ := Lib.hid ((HK1.out.below (Nat.le_refl _) (fun i h => h.elim)).trans (HK9.out.below HK1.out.size (fun i e => by have := HRB.out; omega)))
        exact ⟨HBZ.out, { Osp.zero with kind := 8 }, none, 0, 0, false, rfl, iss_no (by first | rfl | (rw [HOP.out]; rfl))⟩
    have HXL := Lib.hid (show x.toList = x.data.toList by rw [Lib.toList_data])
    have q0 : (x.toList == [98, 97, 99, 107, 101, 110, 100]) = false := by rw [HXL.out]; exact beq_eq_false_iff_ne.2 n0
    have q1 : (x.toList == [118, 105, 112]) = false := by rw [HXL.out]; exact beq_eq_false_iff_ne.2 n1
    have q2 : (x.toList == [109, 101, 109, 98, 101, 114, 115]) = false := by rw [HXL.out]; exact beq_eq_false_iff_ne.2 n2
    have q3 : (x.toList == [114, 101, 116, 105, 114, 101]) = false := by rw [HXL.out]; exact beq_eq_false_iff_ne.2 n3
    have q4 : (x.toList == [114, 101, 108, 101, 97, 115, 101]) = false := by rw [HXL.out]; exact beq_eq_false_iff_ne.2 n4
    have q5 : (x.toList == [101, 118, 105, 99, 116]) = false := by rw [HXL.out]; exact beq_eq_false_iff_ne.2 n5
    have q6 : (x.toList == [97, 100, 109, 105, 116]) = false := by rw [HXL.out]; exact beq_eq_false_iff_ne.2 n6
    have q7 : (x.toList == [114, 111, 116, 97, 116, 101]) = false := by rw [HXL.out]; exact beq_eq_false_iff_ne.2 n7
    have HNO := Lib.hid (show opP ((x :: xs).map (·.data.toList)) = none from opP_none n0 n1 n2 n3 n4 n5 n6 n7)
    clear n0 n1 n2 n3 n4 n5 n6 n7
    go_wp2_with (show wpList _ _ _ ((⟨none, .store 39 (.tmp 2) _, _, _, _, none⟩ : Oper) :: _) _ _; refine wpList_store_mid rfl 39 (.tmp 2) _ rfl rb 0 #[.int .i64 0, .int .i64 0, .int .i64 0, .int .i64 0, .bool false, .int .u64 0, .int .u64 0, .int .u16 0, .int .u8 0, .int .i64 0, .slice none 0 0] rfl rfl (HR1.out.there rfl) (by kernel_rfl) (by simp [Value.oneCell']) ?_)
    generalize hw9 : (World.setCells _ _ _ _) = w9
    have HK9 := Lib.hid (show Kept (fun i => i = rb) w1 w9 by rw [← hw9]; exact Kept.setCells (S := fun i => i = rb) rfl _ _ (Kept.refl _ _))
    have HR9 := Lib.hid (show Blk w9 rb 39 #[.int .i64 0, .int .i64 0, .int .i64 0, .int .i64 0, .bool false, .int .u64 0, .int .u64 0, .int .u16 0, .int .u8 0, .int .i64 0, .slice none 0 0] by rw [← hw9]; exact HR1.out.setAll #[.int .i64 0, .int .i64 0, .int .i64 0, .int .i64 0, .bool false, .int .u64 0, .int .u64 0, .int .u16 0, .int .u8 0, .int .i64 0, .slice none 0 0] rfl)
    clear hw9
    refine bodyPost_ret (results_blk_tmp (P := Tryz.prog) (show Tryz.f18.results = _ from rfl) _ _ rb 39 #[.int .i64 0, .int .i64 0, .int .i64 0, .int .i64 0, .bool false, .int .u64 0, .int .u64 0, .int .u16 0, .int .u8 0, .int .i64 0, .slice none 0 0] _ rfl HR9.out Tryz.underlying39 rfl (by kernel_rfl)) rfl ?_
    have HBZ := Lib.hid ((HK1.out.below (Nat.le_refl _) (fun i h => h.elim)).trans (HK9.out.below HK1.out.size (fun i e => by have := HRB.out; omega)))
    exact ⟨HBZ.out, Osp.zero, none, 0, 0, false, rfl, iss_no HNO.out⟩
end Go.Proofs.YthfdhggcnkgjfaaGreatDoor
