/- What a chooser keeps, in plain words; the program's Choose in every way. -/
import Derived.Test.YtpakfepjfcpjkaaK
import Derived.Test.YtpakfepjfcpjkaaSmPickC
import Derived.Test.YtpakfepjfcpjkaaCdPickC
import Derived.Test.YtpakfepjfcpjkaaSmRef
import Derived.Deep.Light
namespace Go.Proofs.Ytpakfepjfcpjkaa
open Go.RowKit
set_option linter.unusedVariables false
theorem rf_weight {l : List Cd} {last : Int} (h : rightFrom last l = true) : ∀ c ∈ l, 0 ≤ c.weight ∧ c.weight ≤ 100 := by
  induction l generalizing last with
  | nil => intro c hc; cases hc
  | cons d r ih =>
    rw [rightFrom, Bool.and_eq_true] at h
    obtain ⟨h1, h2⟩ := h
    unfold Cd.okB at h1
    simp only [Bool.and_eq_true, decide_eq_true_eq] at h1
    intro c hc
    cases hc with
    | head => omega
    | tail _ hm => exact ih h2 c hm
/-- A block of numbers. -/
def fv (n : Nat) (f : Nat → Int) : Array Value := ((List.range n).map fun i => Value.int .i64 (f i)).toArray
def updF (f : Nat → Int) (i : Nat) (x : Int) : Nat → Int := fun k => if k = i then x else f k
def stp (h : List Cd) (S : List Sh) : List Sh := if h = [] then S else stepS (baseS S h)
def nextR (R : List ShR) (l : List Cd) : List ShR := if heavy l = [] then R else rowR (heavy l) (crd (stepS (baseS (R.map ShR.sh) (heavy l))))
theorem row_sh (S : List Sh) (h : List Cd) : (rowR h (crd (stepS (baseS S h)))).map ShR.sh = stepS (baseS S h) := by
  have hl : (stepS (baseS S h)).length = h.length := by rw [stepS_len, baseS_len]
  apply List.ext_getElem
  · simp [rowR_len, hl]
  · intro i h1 h2
    have hi : i < h.length := by simpa [rowR_len] using h1
    have hb : i < (baseS S h).length := by rw [baseS_len]; exact hi
    obtain ⟨e1, e2⟩ := baseS_at S h i hb hi
    simp only [List.getElem_map, rowR_at h _ i hi, ShR.sh, crd_at _ _ h2]
    have e3 : (stepS (baseS S h))[i].backend = (baseS S h)[i].backend ∧ (stepS (baseS S h))[i].weight = (baseS S h)[i].weight := by
      simp only [stepS, List.getElem_set]
      split
      · rename_i e; subst e
        simp [subS, addS, List.getD_eq_getElem?_getD, hb]
      · simp [addS]
    rw [← e1, ← e2, ← e3.1, ← e3.2]
theorem next_sh (R : List ShR) (l : List Cd) : (nextR R l).map ShR.sh = stp (heavy l) (R.map ShR.sh) := by
  unfold nextR stp
  split
  · rfl
  · exact row_sh _ _
theorem next_len (R : List ShR) (l : List Cd) (hR : R.length ≤ 30) (hl : l.length ≤ 30) : (nextR R l).length ≤ 30 := by
  unfold nextR
  split
  · exact hR
  · rw [rowR_len]; exact Nat.le_trans (heavy_len l) hl
def DistR (R : List ShR) : Prop := R.Pairwise fun a b => a.c.backend ≠ b.c.backend
theorem dist_pw (l : List Cd) (h : Dist l) : l.Pairwise fun a b => a.backend ≠ b.backend := by
  rw [List.pairwise_iff_getElem]
  intro i j hi hj hij e
  exact h j i hj hij e.symm
theorem next_dist (R : List ShR) (l : List Cd) (hR : DistR R) (hl : Dist l) : DistR (nextR R l) := by
  unfold nextR
  split
  · exact hR
  · have h1 : (heavy l).Pairwise fun a b => a.backend ≠ b.backend := (dist_pw l hl).filter _
    rw [DistR, List.pairwise_iff_getElem]
    intro i j hi hj hij
    rw [rowR_len] at hi hj
    rw [rowR_at _ _ _ hi, rowR_at _ _ _ hj]
    exact List.pairwise_iff_getElem.1 h1 i j hi hj hij
def CrB (R : List ShR) (B : Int) : Prop := ∀ r ∈ R, -B ≤ r.owed ∧ r.owed ≤ B
theorem CrB.sh {R : List ShR} {B : Int} (h : CrB R B) : ∀ s ∈ R.map ShR.sh, -B ≤ s.credit ∧ s.credit ≤ B := by
  intro s hs
  obtain ⟨r, hr, rfl⟩ := List.mem_map.1 hs
  exact h r hr
theorem next_cr (R : List ShR) (l : List Cd) (B : Int) (hB : CrB R B) (b0 : 0 ≤ B) (hw : ∀ c ∈ l, 0 ≤ c.weight ∧ c.weight ≤ 100) (hl : l.length ≤ 30) : CrB (nextR R l) (B + 3100) := by
  have h1 : ∀ s ∈ (nextR R l).map ShR.sh, -(B + 3100) ≤ s.credit ∧ s.credit ≤ B + 3100 := by
    rw [next_sh]
    unfold stp
    split
    · intro s hs; have := hB.sh s hs; omega
    · refine stepS_credit _ B (baseS_credit _ _ B hB.sh b0) ?_ ?_ b0
      · intro s hs
        obtain ⟨i, hi, rfl⟩ := List.mem_iff_getElem.1 hs
        have hi' : i < (heavy l).length := by rw [baseS_len] at hi; exact hi
        rw [(baseS_at _ _ i hi hi').1]
        exact hw _ (heavy_pos l _ (List.getElem_mem hi')).1
      · rw [baseS_len]; exact Nat.le_trans (heavy_len l) hl
  intro r hr
  exact h1 r.sh (List.mem_map_of_mem hr)

set_option maxHeartbeats 1000000 in
theorem refPick_any (b off cap : Nat) (l : List Cd) (n : Int) (w : World) (hl0 : 0 < l.length) (hl : l.length ≤ 70) (hc : CellsAt w b off l) :
    Calls Try.prog 21 #[.slice (some ⟨b, off, none⟩) l.length cap, .int .i64 n] w fun e w' => e = .returned (.int .i64 (pickI l n)) ∧ w = w' := by
  have HC := Lib.hid hc
  have hlen : (0 : Int) < (l.length : Int) := by omega
  clear hc
  go_enter Try.func21, Try.ntmps21
  go_wp2
  go_loop [5] (fun i => ∃ k : Nat, k ≤ l.length ∧ i = .int .i64 k ∧ Hid (∀ j (h : j < k) (h' : j < l.length), l[j].slot < n)) (fun i => l.length - (intOf i).toNat)
  case atStart => exact ⟨0, Nat.zero_le _, rfl, Lib.hid (fun j h => by omega)⟩
  case round =>
    obtain ⟨k, hk, rfl, hr⟩ := hrel
    by_cases hlt : k < l.length
    · obtain ⟨h0, h1, h2, h3⟩ := HC.out k hlt
      by_cases hs : n ≤ l[k].slot
      · go_wp2
        go_ret
        exact ⟨ret_int (by rw [pickI_at hlt hs fun j hj => hr.out j hj (by omega)]), rfl⟩
      · go_wp2
        go_round
        case rel => exact ⟨k + 1, by omega, by go_num, Lib.hid (fun j h h' => by rcases Nat.lt_succ_iff_lt_or_eq.1 h with h | rfl; exact hr.out j h h'; omega)⟩
        case measure => simp [intOf]; omega
    · go_wp2
      go_ret
      exact ⟨ret_int (by rw [pickI_none fun j hj => hr.out j (by omega) hj]; rfl), rfl⟩

theorem refPick_nil (A : Option Addr) (cap : Nat) (n : Int) (w : World) :
    Calls Try.prog 21 #[.slice A 0 cap, .int .i64 n] w fun e w' => e = .returned (.int .i64 (-1)) ∧ w = w' := by
  go_enter Try.func21, Try.ntmps21
  go_wp2
  refine wp_loop_rounds 1 ?_; rw [rounds_succ]
  go_wp2
  go_ret
  exact ⟨rfl, rfl⟩


theorem pick_nil2 (p : Option Addr) (w : World) :
    Calls Try.prog 17 #[.pointer p, .slice none 0 0] w fun e w' => e = .returned (.tuple #[.agg #[.int .i64 0, .int .i64 0, .int .i64 0, .int .u32 0], .bool false]) ∧ Below w.heap.size w w' := by
  cases p with
  | none =>
    go_enter Try.func17, Try.ntmps17
    go_wp2
    exact bodyPost_ret (results_blk_tmp (P := Try.prog) Try.results17 _ _ w.heap.size 45 #[.int .i64 0, .int .i64 0, .int .i64 0, .int .u32 0] _ rfl (Blk.new _ _ _) Try.underlying45 rfl (by kernel_rfl)) rfl ⟨rfl, (Below.refl _ _).alloc (Nat.le_refl _) _⟩
  | some a =>
    go_enter Try.func17, Try.ntmps17
    go_wp2
    exact bodyPost_ret (results_blk_tmp (P := Try.prog) Try.results17 _ _ w.heap.size 45 #[.int .i64 0, .int .i64 0, .int .i64 0, .int .u32 0] _ rfl (Blk.new _ _ _) Try.underlying45 rfl (by kernel_rfl)) rfl ⟨rfl, (Below.refl _ _).alloc (Nat.le_refl _) _⟩
def cdO : Option Cd → Value
  | some z => .agg #[.int .i64 z.slot, .int .i64 z.backend, .int .i64 z.weight, .int .u32 z.load]
  | none => .agg #[.int .i64 0, .int .i64 0, .int .i64 0, .int .u32 0]
/-- What Choose leaves: its choice, the turn's next place, the shares. -/
def ChQ (o : Option Cd) (n' : Int) (R' : List ShR) (cb base : Nat) (sv : Value) (w : World) (e : Ending) (w' : World) : Prop :=
  e = .returned (.tuple #[cdO o, .bool o.isSome]) ∧ ∃ sv', Blk w' cb 35 #[.int .i64 n', sv'] ∧ RowN w' base 72 3 sv' ((R'.map ShR.sh).map Sh.cs) ∧ Kept (fun i => i = cb ∨ sv.ownBlock = some i) w w'
set_option maxRecDepth 100000 in
set_option maxHeartbeats 2000000 in
theorem ch1 (cb base : Nat) (n x y : Int) (sv : Value) (R : List ShR) (w : World) (b off c : Nat) (l : List Cd) (z : Cd) (hB : Blk w cb 35 #[.int .i64 n, sv]) (hR : RowN w base 72 3 sv ((R.map ShR.sh).map Sh.cs)) (h0 : 0 < l.length) (hl : l.length ≤ 30) (hr : rightFrom (-1) l = true) (hc : CellsAt w b off l) (hb : b < w.heap.size) (hz : l[pickI l n]? = some z) :
    Calls Try.prog 12 #[.pointer (some ⟨cb, 0, none⟩), .int .i64 1, .slice (some ⟨b, off, none⟩) l.length c, .int .u32 x, .int .u32 y] w (ChQ (some z) (z.slot + 1) R cb base sv w) := by
  have hlt := hB.lt
  have HB := Lib.hid hB
  have HR := Lib.hid hR
  clear hB hR
  have HZ := Lib.hid hz
  have HC := Lib.hid (pick_any (sv := sv) cb b off c l n (w.alloc (.cells #[.int .i64 0, .int .i64 0, .int .i64 0, .int .u32 0] 45)) h0 (by omega) (fun k hk => by have := hc k hk; exact ⟨(World.cell?_alloc_lt _ _ _ hb).trans this.1, (World.cell?_alloc_lt _ _ _ hb).trans this.2.1, (World.cell?_alloc_lt _ _ _ hb).trans this.2.2.1, (World.cell?_alloc_lt _ _ _ hb).trans this.2.2.2⟩) (fun c hc => by have := rf_mem hr c hc; omega) (by simp; omega) (HB.out.alloc _))
  clear hz hc hr
  go_enter Try.func12, Try.ntmps12
  go_wp2_with fail
  refine HC.out.mono ?_
  rintro e w1 ⟨k, hk, rfl, rfl, hB1, hK1⟩
  have e1 : l[pickI l n] = z := by have := HZ.out; rw [List.getElem?_eq_getElem hk] at this; injection this
  rw [e1] at hB1 ⊢
  have HB1 := Lib.hid hB1
  have HK1 := Lib.hid hK1
  have HR1 := Lib.hid ((HR.out.alloc (.cells #[.int .i64 0, .int .i64 0, .int .i64 0, .int .u32 0] 45)).kept hK1 (fun g hg e => by subst e; exact HR.out.ne HB.out (by decide) hg))
  clear hB1 hK1 e1 hk HC
  have hs1 : w.heap.size + 1 ≤ w1.heap.size := by have := HK1.out.size; simpa using this
  have HRES := Lib.hid (show Blk w1 w.heap.size 45 #[.int .i64 0, .int .i64 0, .int .i64 0, .int .u32 0] from (Blk.new _ _ _).kept HK1.out (by intro h; omega))
  have cR := HRES.out.cell
  have fR := HRES.out.frozen
  have lR := HRES.out.lt
  go_wp2_with fail
  refine bodyPost_ret (results_blk_tmp (P := Try.prog) Try.results12 _ _ w.heap.size 45 #[.int .i64 z.slot, .int .i64 z.backend, .int .i64 z.weight, .int .u32 z.load] _ rfl ?_ Try.underlying45 rfl (by kernel_rfl)) rfl ⟨rfl, sv, ?_, ?_, ?_⟩
  · go_light
    repeat (first | (with_reducible apply Blk.set_to) | ((with_reducible apply Blk.far'); omega) | (with_reducible apply Blk.alloc))
    exact HRES.out
    all_goals rfl
  · go_light
    repeat ((with_reducible apply Blk.far'); omega)
    exact HB1.out
  · go_light
    have hn := HR1.out.ne HRES.out (by decide)
    exact (((HR1.out.far hn).far hn).far hn).far hn
  · go_light
    repeat ((with_reducible apply Kept.setNew); omega)
    exact ((Kept.refl _ _).alloc _).then HK1.out (fun i _ h => .inl h)
set_option maxRecDepth 100000 in
set_option maxHeartbeats 2000000 in
theorem ch1n (cb base : Nat) (n x y : Int) (sv : Value) (R : List ShR) (w : World)  (hB : Blk w cb 35 #[.int .i64 n, sv]) (hR : RowN w base 72 3 sv ((R.map ShR.sh).map Sh.cs))  :
    Calls Try.prog 12 #[.pointer (some ⟨cb, 0, none⟩), .int .i64 1, .slice none 0 0, .int .u32 x, .int .u32 y] w (ChQ none n R cb base sv w) := by
  have hlt := hB.lt
  have HB := Lib.hid hB
  have HR := Lib.hid hR
  clear hB hR
  go_enter Try.func12, Try.ntmps12
  go_wp2_with fail
  refine (pick_nil2 _ _).mono ?_
  rintro e w1 ⟨rfl, hb1⟩
  have HB1 := Lib.hid ((HB.out.alloc (.cells #[.int .i64 0, .int .i64 0, .int .i64 0, .int .u32 0] 45)).below hb1 (by simp; omega))
  have HK1 := Lib.hid (Kept.ofB (S := fun _ => False) hb1)
  have HR1 := Lib.hid ((HR.out.alloc (.cells #[.int .i64 0, .int .i64 0, .int .i64 0, .int .u32 0] 45)).belowAll hb1)
  clear hb1
  have hs1 : w.heap.size + 1 ≤ w1.heap.size := by have := HK1.out.size; simpa using this
  have HRES := Lib.hid (show Blk w1 w.heap.size 45 #[.int .i64 0, .int .i64 0, .int .i64 0, .int .u32 0] from (Blk.new _ _ _).kept HK1.out (fun h => h))
  have cR := HRES.out.cell
  have fR := HRES.out.frozen
  have lR := HRES.out.lt
  go_wp2_with fail
  refine bodyPost_ret (results_blk_tmp (P := Try.prog) Try.results12 _ _ w.heap.size 45 #[.int .i64 0, .int .i64 0, .int .i64 0, .int .u32 0] _ rfl ?_ Try.underlying45 rfl (by kernel_rfl)) rfl ⟨rfl, sv, ?_, ?_, ?_⟩
  · go_light
    repeat (first | (with_reducible apply Blk.set_to) | ((with_reducible apply Blk.far'); omega) | (with_reducible apply Blk.alloc))
    exact HRES.out
    all_goals rfl
  · go_light
    repeat ((with_reducible apply Blk.far'); omega)
    exact HB1.out
  · go_light
    have hn := HR1.out.ne HRES.out (by decide)
    exact (((HR1.out.far hn).far hn).far hn).far hn
  · go_light
    repeat ((with_reducible apply Kept.setNew); omega)
    exact ((Kept.refl _ _).alloc _).then HK1.out (fun i _ h => h.elim)
set_option maxRecDepth 100000 in
set_option maxHeartbeats 2000000 in
theorem ch3n (cb base : Nat) (n x y : Int) (sv : Value) (R : List ShR) (w : World)  (hB : Blk w cb 35 #[.int .i64 n, sv]) (hR : RowN w base 72 3 sv ((R.map ShR.sh).map Sh.cs))  :
    Calls Try.prog 12 #[.pointer (some ⟨cb, 0, none⟩), .int .i64 3, .slice none 0 0, .int .u32 x, .int .u32 y] w (ChQ none n R cb base sv w) := by
  have hlt := hB.lt
  have HB := Lib.hid hB
  have HR := Lib.hid hR
  clear hB hR
  go_enter Try.func12, Try.ntmps12
  go_wp2_with fail
  refine (lpick_nil _ _ _).mono ?_
  rintro e w1 ⟨rfl, hb1⟩
  have HB1 := Lib.hid ((HB.out.alloc (.cells #[.int .i64 0, .int .i64 0, .int .i64 0, .int .u32 0] 45)).below hb1 (by simp; omega))
  have HK1 := Lib.hid (Kept.ofB (S := fun _ => False) hb1)
  have HR1 := Lib.hid ((HR.out.alloc (.cells #[.int .i64 0, .int .i64 0, .int .i64 0, .int .u32 0] 45)).belowAll hb1)
  clear hb1
  have hs1 : w.heap.size + 1 ≤ w1.heap.size := by have := HK1.out.size; simpa using this
  have HRES := Lib.hid (show Blk w1 w.heap.size 45 #[.int .i64 0, .int .i64 0, .int .i64 0, .int .u32 0] from (Blk.new _ _ _).kept HK1.out (fun h => h))
  have cR := HRES.out.cell
  have fR := HRES.out.frozen
  have lR := HRES.out.lt
  go_wp2_with fail
  refine bodyPost_ret (results_blk_tmp (P := Try.prog) Try.results12 _ _ w.heap.size 45 #[.int .i64 0, .int .i64 0, .int .i64 0, .int .u32 0] _ rfl ?_ Try.underlying45 rfl (by kernel_rfl)) rfl ⟨rfl, sv, ?_, ?_, ?_⟩
  · go_light
    repeat (first | (with_reducible apply Blk.set_to) | ((with_reducible apply Blk.far'); omega) | (with_reducible apply Blk.alloc))
    exact HRES.out
    all_goals rfl
  · go_light
    repeat ((with_reducible apply Blk.far'); omega)
    exact HB1.out
  · go_light
    have hn := HR1.out.ne HRES.out (by decide)
    exact (((HR1.out.far hn).far hn).far hn).far hn
  · go_light
    repeat ((with_reducible apply Kept.setNew); omega)
    exact ((Kept.refl _ _).alloc _).then HK1.out (fun i _ h => h.elim)
set_option maxRecDepth 100000 in
set_option maxHeartbeats 2000000 in
theorem ch4n (cb base : Nat) (n x y : Int) (sv : Value) (R : List ShR) (w : World)  (hB : Blk w cb 35 #[.int .i64 n, sv]) (hR : RowN w base 72 3 sv ((R.map ShR.sh).map Sh.cs))  :
    Calls Try.prog 12 #[.pointer (some ⟨cb, 0, none⟩), .int .i64 4, .slice none 0 0, .int .u32 x, .int .u32 y] w (ChQ none n R cb base sv w) := by
  have hlt := hB.lt
  have HB := Lib.hid hB
  have HR := Lib.hid hR
  clear hB hR
  go_enter Try.func12, Try.ntmps12
  go_wp2_with fail
  refine (two_nil _ _ _).mono ?_
  rintro e w1 ⟨rfl, hb1⟩
  have HB1 := Lib.hid ((HB.out.alloc (.cells #[.int .i64 0, .int .i64 0, .int .i64 0, .int .u32 0] 45)).below hb1 (by simp; omega))
  have HK1 := Lib.hid (Kept.ofB (S := fun _ => False) hb1)
  have HR1 := Lib.hid ((HR.out.alloc (.cells #[.int .i64 0, .int .i64 0, .int .i64 0, .int .u32 0] 45)).belowAll hb1)
  clear hb1
  have hs1 : w.heap.size + 1 ≤ w1.heap.size := by have := HK1.out.size; simpa using this
  have HRES := Lib.hid (show Blk w1 w.heap.size 45 #[.int .i64 0, .int .i64 0, .int .i64 0, .int .u32 0] from (Blk.new _ _ _).kept HK1.out (fun h => h))
  have cR := HRES.out.cell
  have fR := HRES.out.frozen
  have lR := HRES.out.lt
  go_wp2_with fail
  refine bodyPost_ret (results_blk_tmp (P := Try.prog) Try.results12 _ _ w.heap.size 45 #[.int .i64 0, .int .i64 0, .int .i64 0, .int .u32 0] _ rfl ?_ Try.underlying45 rfl (by kernel_rfl)) rfl ⟨rfl, sv, ?_, ?_, ?_⟩
  · go_light
    repeat (first | (with_reducible apply Blk.set_to) | ((with_reducible apply Blk.far'); omega) | (with_reducible apply Blk.alloc))
    exact HRES.out
    all_goals rfl
  · go_light
    repeat ((with_reducible apply Blk.far'); omega)
    exact HB1.out
  · go_light
    have hn := HR1.out.ne HRES.out (by decide)
    exact (((HR1.out.far hn).far hn).far hn).far hn
  · go_light
    repeat ((with_reducible apply Kept.setNew); omega)
    exact ((Kept.refl _ _).alloc _).then HK1.out (fun i _ h => h.elim)
set_option maxRecDepth 100000 in
set_option maxHeartbeats 2000000 in
theorem ch3 (cb base : Nat) (n x y : Int) (sv : Value) (R : List ShR) (w : World) (A : Option Addr) (c : Nat) (l : List Cd) (z : Cd) (hB : Blk w cb 35 #[.int .i64 n, sv]) (hR : RowN w base 72 3 sv ((R.map ShR.sh).map Sh.cs)) (h0 : 0 < l.length) (hl : l.length ≤ 30) (hr : rightFrom (-1) l = true) (hc : l.length ≤ c) (hcm : c ≤ maxLen) (hE : ES w w.heap.size A 4 (l.map Cd.cs)) (hz : l[lbTo l l.length]? = some z) :
    Calls Try.prog 12 #[.pointer (some ⟨cb, 0, none⟩), .int .i64 3, .slice A l.length c, .int .u32 x, .int .u32 y] w (ChQ (some z) n R cb base sv w) := by
  have hlt := hB.lt
  have HB := Lib.hid hB
  have HR := Lib.hid hR
  clear hB hR
  have HZ := Lib.hid hz
  have HC := Lib.hid (lpick_any A c l (w.alloc (.cells #[.int .i64 0, .int .i64 0, .int .i64 0, .int .u32 0] 45)) h0 (by omega) hc hcm (fun i j hj hij => rf_lt hr i j hj hij) ((hE.alloc (Nat.le_refl _) _).more (by simp)))
  clear hz hr hE hcm
  go_enter Try.func12, Try.ntmps12
  go_wp2_with fail
  refine HC.out.mono ?_
  rintro e w1 ⟨z', hz', rfl, hb1⟩
  obtain rfl : z = z' := by have := HZ.out.symm.trans hz'; injection this
  clear hz' HC
  have HB1 := Lib.hid ((HB.out.alloc (.cells #[.int .i64 0, .int .i64 0, .int .i64 0, .int .u32 0] 45)).below hb1 (by simp; omega))
  have HK1 := Lib.hid (Kept.ofB (S := fun _ => False) hb1)
  have HR1 := Lib.hid ((HR.out.alloc (.cells #[.int .i64 0, .int .i64 0, .int .i64 0, .int .u32 0] 45)).belowAll hb1)
  clear hb1
  have hs1 : w.heap.size + 1 ≤ w1.heap.size := by have := HK1.out.size; simpa using this
  have HRES := Lib.hid (show Blk w1 w.heap.size 45 #[.int .i64 0, .int .i64 0, .int .i64 0, .int .u32 0] from (Blk.new _ _ _).kept HK1.out (fun h => h))
  have cR := HRES.out.cell
  have fR := HRES.out.frozen
  have lR := HRES.out.lt
  go_wp2_with fail
  refine bodyPost_ret (results_blk_tmp (P := Try.prog) Try.results12 _ _ w.heap.size 45 #[.int .i64 z.slot, .int .i64 z.backend, .int .i64 z.weight, .int .u32 z.load] _ rfl ?_ Try.underlying45 rfl (by kernel_rfl)) rfl ⟨rfl, sv, ?_, ?_, ?_⟩
  · go_light
    repeat (first | (with_reducible apply Blk.set_to) | ((with_reducible apply Blk.far'); omega) | (with_reducible apply Blk.alloc))
    exact HRES.out
    all_goals rfl
  · go_light
    repeat ((with_reducible apply Blk.far'); omega)
    exact HB1.out
  · go_light
    have hn := HR1.out.ne HRES.out (by decide)
    exact (((HR1.out.far hn).far hn).far hn).far hn
  · go_light
    repeat ((with_reducible apply Kept.setNew); omega)
    exact ((Kept.refl _ _).alloc _).then HK1.out (fun i _ h => h.elim)
set_option maxRecDepth 100000 in
set_option maxHeartbeats 2000000 in
theorem ch4 (cb base : Nat) (n x y : Int) (sv : Value) (R : List ShR) (w : World) (g c : Nat) (l : List Cd) (z : Cd) (hB : Blk w cb 35 #[.int .i64 n, sv]) (hR : RowN w base 72 3 sv ((R.map ShR.sh).map Sh.cs)) (h0 : 0 < l.length) (hl : l.length ≤ 30) (hr : rightFrom (-1) l = true) (hc : CellsAt w g 0 l) (hb : g < w.heap.size) (hx : 0 ≤ x) (hx' : x ≤ 4294967295) (hy : 0 ≤ y) (hy' : y ≤ 4294967295) (hz : l[qOf l x y]? = some z) :
    Calls Try.prog 12 #[.pointer (some ⟨cb, 0, none⟩), .int .i64 4, .slice (some ⟨g, 0, none⟩) l.length c, .int .u32 x, .int .u32 y] w (ChQ (some z) n R cb base sv w) := by
  have hlt := hB.lt
  have HB := Lib.hid hB
  have HR := Lib.hid hR
  clear hB hR
  have HC := Lib.hid (two_any g c l x y (qI l x) (qI l y) (qOf l x y) (w.alloc (.cells #[.int .i64 0, .int .i64 0, .int .i64 0, .int .u32 0] 45)) hr (by omega) (fun k hk => by have := hc k hk; exact ⟨(World.cell?_alloc_lt _ _ _ hb).trans this.1, (World.cell?_alloc_lt _ _ _ hb).trans this.2.1, (World.cell?_alloc_lt _ _ _ hb).trans this.2.2.1, (World.cell?_alloc_lt _ _ _ hb).trans this.2.2.2⟩) (by simp; omega) hx hx' hy hy' (qI_lt l x h0) (qI_lt l y h0) (qI_eq l x h0) (qI_eq l y h0) (qOf_lt l x y h0) (by unfold qOf; rw [dif_pos h0]))
  have e1 : l[qOf l x y]'(qOf_lt l x y h0) = z := by have := hz; rw [List.getElem?_eq_getElem (qOf_lt l x y h0)] at this; injection this
  rw [e1] at HC
  clear hz hr hc e1
  go_enter Try.func12, Try.ntmps12
  go_wp2_with fail
  refine HC.out.mono ?_
  rintro e w1 ⟨rfl, hb1⟩
  clear HC
  have HB1 := Lib.hid ((HB.out.alloc (.cells #[.int .i64 0, .int .i64 0, .int .i64 0, .int .u32 0] 45)).below hb1 (by simp; omega))
  have HK1 := Lib.hid (Kept.ofB (S := fun _ => False) hb1)
  have HR1 := Lib.hid ((HR.out.alloc (.cells #[.int .i64 0, .int .i64 0, .int .i64 0, .int .u32 0] 45)).belowAll hb1)
  clear hb1
  have hs1 : w.heap.size + 1 ≤ w1.heap.size := by have := HK1.out.size; simpa using this
  have HRES := Lib.hid (show Blk w1 w.heap.size 45 #[.int .i64 0, .int .i64 0, .int .i64 0, .int .u32 0] from (Blk.new _ _ _).kept HK1.out (fun h => h))
  have cR := HRES.out.cell
  have fR := HRES.out.frozen
  have lR := HRES.out.lt
  go_wp2_with fail
  refine bodyPost_ret (results_blk_tmp (P := Try.prog) Try.results12 _ _ w.heap.size 45 #[.int .i64 z.slot, .int .i64 z.backend, .int .i64 z.weight, .int .u32 z.load] _ rfl ?_ Try.underlying45 rfl (by kernel_rfl)) rfl ⟨rfl, sv, ?_, ?_, ?_⟩
  · go_light
    repeat (first | (with_reducible apply Blk.set_to) | ((with_reducible apply Blk.far'); omega) | (with_reducible apply Blk.alloc))
    exact HRES.out
    all_goals rfl
  · go_light
    repeat ((with_reducible apply Blk.far'); omega)
    exact HB1.out
  · go_light
    have hn := HR1.out.ne HRES.out (by decide)
    exact (((HR1.out.far hn).far hn).far hn).far hn
  · go_light
    repeat ((with_reducible apply Kept.setNew); omega)
    exact ((Kept.refl _ _).alloc _).then HK1.out (fun i _ h => h.elim)
set_option maxRecDepth 100000 in
set_option maxHeartbeats 2000000 in
theorem ch2n (cb base : Nat) (n x y : Int) (sv : Value) (R : List ShR) (w : World) (A : Option Addr) (c : Nat) (l : List Cd) (Bd : Int) (hB : Blk w cb 35 #[.int .i64 n, sv]) (hR : RowN w base 72 3 sv ((R.map ShR.sh).map Sh.cs)) (hl : l.length ≤ 30) (hr : rightFrom (-1) l = true) (hRl : R.length ≤ 30) (hcr : CrB R Bd) (b0 : 0 ≤ Bd) (b1 : Bd ≤ 1000000000) (hbase : base ≤ w.heap.size) (hE : ES w w.heap.size A 4 (l.map Cd.cs)) (hh : heavy l = []) :
    Calls Try.prog 12 #[.pointer (some ⟨cb, 0, none⟩), .int .i64 2, .slice A l.length c, .int .u32 x, .int .u32 y] w (ChQ none n R cb base sv w) := by
  have hlt := hB.lt
  have HB := Lib.hid hB
  have HR := Lib.hid hR
  clear hB hR
  have HC := Lib.hid (spick_any (nx := .int .i64 n) cb base sv (R.map ShR.sh) A c l (w.alloc (.cells #[.int .i64 0, .int .i64 0, .int .i64 0, .int .u32 0] 45)) Bd hl (by simp; omega) (rf_weight hr) hcr.sh b0 b1 (HB.out.alloc _) (HR.out.alloc _) ((hE.alloc (Nat.le_refl _) _).more (by simp)) (by simp; omega))
  clear hr hcr hE
  have HH := Lib.hid hh
  clear hh
  go_enter Try.func12, Try.ntmps12
  go_wp2_with fail
  refine HC.out.mono ?_
  rintro e w1 (⟨-, rfl, hb1⟩ | ⟨h, -⟩)
  rotate_left
  · exact absurd HH.out h
  clear HC
  have HB1 := Lib.hid ((HB.out.alloc (.cells #[.int .i64 0, .int .i64 0, .int .i64 0, .int .u32 0] 45)).below hb1 (by simp; omega))
  have HK1 := Lib.hid (Kept.ofB (S := fun _ => False) hb1)
  have HR1 := Lib.hid ((HR.out.alloc (.cells #[.int .i64 0, .int .i64 0, .int .i64 0, .int .u32 0] 45)).belowAll hb1)
  clear hb1
  have hs1 : w.heap.size + 1 ≤ w1.heap.size := by have := HK1.out.size; simpa using this
  have HRES := Lib.hid (show Blk w1 w.heap.size 45 #[.int .i64 0, .int .i64 0, .int .i64 0, .int .u32 0] from (Blk.new _ _ _).kept HK1.out (fun h => h))
  have cR := HRES.out.cell
  have fR := HRES.out.frozen
  have lR := HRES.out.lt
  go_wp2_with fail
  refine bodyPost_ret (results_blk_tmp (P := Try.prog) Try.results12 _ _ w.heap.size 45 #[.int .i64 0, .int .i64 0, .int .i64 0, .int .u32 0] _ rfl ?_ Try.underlying45 rfl (by kernel_rfl)) rfl ⟨rfl, sv, ?_, ?_, ?_⟩
  · go_light
    repeat (first | (with_reducible apply Blk.set_to) | ((with_reducible apply Blk.far'); omega) | (with_reducible apply Blk.alloc))
    exact HRES.out
    all_goals rfl
  · go_light
    repeat ((with_reducible apply Blk.far'); omega)
    exact HB1.out
  · go_light
    have hn := HR1.out.ne HRES.out (by decide)
    exact (((HR1.out.far hn).far hn).far hn).far hn
  · go_light
    repeat ((with_reducible apply Kept.setNew); omega)
    exact ((Kept.refl _ _).alloc _).then HK1.out (fun i _ h => h.elim)
set_option maxRecDepth 100000 in
set_option maxHeartbeats 2000000 in
theorem ch2 (cb base : Nat) (n x y : Int) (sv : Value) (R : List ShR) (w : World) (A : Option Addr) (c : Nat) (l : List Cd) (Bd : Int) (z : Cd) (hB : Blk w cb 35 #[.int .i64 n, sv]) (hR : RowN w base 72 3 sv ((R.map ShR.sh).map Sh.cs)) (hl : l.length ≤ 30) (hr : rightFrom (-1) l = true) (hRl : R.length ≤ 30) (hcr : CrB R Bd) (b0 : 0 ≤ Bd) (b1 : Bd ≤ 1000000000) (hbase : base ≤ w.heap.size) (hE : ES w w.heap.size A 4 (l.map Cd.cs)) (hz : (heavy l)[stepB (baseS (R.map ShR.sh) (heavy l))]? = some z) :
    Calls Try.prog 12 #[.pointer (some ⟨cb, 0, none⟩), .int .i64 2, .slice A l.length c, .int .u32 x, .int .u32 y] w (ChQ (some z) n (nextR R l) cb base sv w) := by
  have hlt := hB.lt
  have HB := Lib.hid hB
  have HR := Lib.hid hR
  clear hB hR
  have HZ := Lib.hid hz
  have HC := Lib.hid (spick_any (nx := .int .i64 n) cb base sv (R.map ShR.sh) A c l (w.alloc (.cells #[.int .i64 0, .int .i64 0, .int .i64 0, .int .u32 0] 45)) Bd hl (by simp; omega) (rf_weight hr) hcr.sh b0 b1 (HB.out.alloc _) (HR.out.alloc _) ((hE.alloc (Nat.le_refl _) _).more (by simp)) (by simp; omega))
  clear hr hcr hE
  clear hz
  go_enter Try.func12, Try.ntmps12
  go_wp2_with fail
  refine HC.out.mono ?_
  rintro e w1 (⟨h, -⟩ | ⟨hne, k, hk, rfl, rfl, sv', hB1, hR1, hK1⟩)
  · exfalso; have := HZ.out; rw [h] at this; simp at this
  have e1 : (heavy l)[stepB (baseS (R.map ShR.sh) (heavy l))] = z := by have := HZ.out; rw [List.getElem?_eq_getElem hk] at this; injection this
  rw [e1]
  have HB1 := Lib.hid hB1
  have HK1 := Lib.hid hK1
  have HR1 := Lib.hid (show RowN w1 base 72 3 sv' (((nextR R l).map ShR.sh).map Sh.cs) by rw [next_sh]; unfold stp; rw [if_neg hne]; exact hR1)
  have HSV := Lib.hid (fun i (h : sv.ownBlock = some i) => (HR.out.lt i h).2)
  unfold Cd.val
  clear hB1 hK1 hR1 e1 hk HC
  have hs1 : w.heap.size + 1 ≤ w1.heap.size := by have := HK1.out.size; simpa using this
  have HRES := Lib.hid (show Blk w1 w.heap.size 45 #[.int .i64 0, .int .i64 0, .int .i64 0, .int .u32 0] from (Blk.new _ _ _).kept HK1.out (fun h => h.elim (fun h => absurd h (by omega)) (fun h => absurd (HSV.out _ h) (by omega))))
  have cR := HRES.out.cell
  have fR := HRES.out.frozen
  have lR := HRES.out.lt
  go_wp2_with fail
  refine bodyPost_ret (results_blk_tmp (P := Try.prog) Try.results12 _ _ w.heap.size 45 #[.int .i64 z.slot, .int .i64 z.backend, .int .i64 z.weight, .int .u32 z.load] _ rfl ?_ Try.underlying45 rfl (by kernel_rfl)) rfl ⟨rfl, sv', ?_, ?_, ?_⟩
  · go_light
    repeat (first | (with_reducible apply Blk.set_to) | ((with_reducible apply Blk.far'); omega) | (with_reducible apply Blk.alloc))
    exact HRES.out
    all_goals rfl
  · go_light
    repeat ((with_reducible apply Blk.far'); omega)
    exact HB1.out
  · go_light
    have hn := HR1.out.ne HRES.out (by decide)
    exact (((HR1.out.far hn).far hn).far hn).far hn
  · go_light
    repeat ((with_reducible apply Kept.setNew); omega)
    exact ((Kept.refl _ _).alloc _).then HK1.out (fun i _ h => h)
set_option maxRecDepth 100000 in
set_option maxHeartbeats 2000000 in
theorem ch0 (cb base : Nat) (n x y way : Int) (sv v : Value) (R : List ShR) (w : World) (hB : Blk w cb 35 #[.int .i64 n, sv]) (hR : RowN w base 72 3 sv ((R.map ShR.sh).map Sh.cs)) (h1 : ¬ way = 1) (h2 : ¬ way = 2) (h3 : ¬ way = 3) (h4 : ¬ way = 4) :
    Calls Try.prog 12 #[.pointer (some ⟨cb, 0, none⟩), .int .i64 way, v, .int .u32 x, .int .u32 y] w (ChQ none n R cb base sv w) := by
  have HB := Lib.hid hB
  have HR := Lib.hid hR
  have b1 : (way == 1) = false := beq_eq_false_iff_ne.2 h1
  have b2 : (way == 2) = false := beq_eq_false_iff_ne.2 h2
  have b3 : (way == 3) = false := beq_eq_false_iff_ne.2 h3
  have b4 : (way == 4) = false := beq_eq_false_iff_ne.2 h4
  clear hB hR h1 h2 h3 h4
  go_enter Try.func12, Try.ntmps12
  go_wp2_with fail
  exact bodyPost_ret (results_blk_tmp (P := Try.prog) Try.results12 _ _ w.heap.size 45 #[.int .i64 0, .int .i64 0, .int .i64 0, .int .u32 0] _ rfl (Blk.new _ _ _) Try.underlying45 rfl (by kernel_rfl)) rfl ⟨rfl, sv, HB.out.alloc _, HR.out.alloc _, (Kept.refl _ _).alloc _⟩
theorem ch_none (way x y : Int) (v : Value) (w : World) : Calls Try.prog 12 #[.pointer none, .int .i64 way, v, .int .u32 x, .int .u32 y] w fun e w' => e = .returned (.tuple #[.agg #[.int .i64 0, .int .i64 0, .int .i64 0, .int .u32 0], .bool false]) ∧ Below w.heap.size w w' := by
  go_enter Try.func12, Try.ntmps12
  go_wp2_with fail
  exact bodyPost_ret (results_blk_tmp (P := Try.prog) Try.results12 _ _ w.heap.size 45 #[.int .i64 0, .int .i64 0, .int .i64 0, .int .u32 0] _ rfl (Blk.new _ _ _) Try.underlying45 rfl (by kernel_rfl)) rfl ⟨rfl, (Below.refl _ _).alloc (Nat.le_refl _) _⟩
end Go.Proofs.Ytpakfepjfcpjkaa
