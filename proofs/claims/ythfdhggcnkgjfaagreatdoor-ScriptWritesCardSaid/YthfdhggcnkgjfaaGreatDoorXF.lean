/- The document's words by a pattern's letters. -/
import Derived.Test.YthfdhggcnkgjfaaGreatDoorXD
import Derived.Test.YthfdhggcnkgjfaaGreatDoorPlainU
namespace Go.Proofs.YthfdhggcnkgjfaaGreatDoor
open Go.RowKit
set_option linter.unusedVariables false
set_option linter.unusedSimpArgs false
theorem refName_any (k : Nat) (h1 : 1 ≤ k) (h4 : k ≤ 4) (w : World) : Calls Tryz.prog 37 #[.int .i64 (k : Int)] w fun e w' => e = .returned (.string ⟨(wayN k).toArray⟩) ∧ Below w.heap.size w w' := by
  obtain rfl | rfl | rfl | rfl : k = 1 ∨ k = 2 ∨ k = 3 ∨ k = 4 := by omega
  all_goals
    go_enter Tryz.func37, Tryz.ntmps37
    go_wp2_with fail
    go_ret
    exact ⟨rfl, bel1⟩
theorem int_ne {a b : Nat} (h : ¬ a = b) : ((a : Int) == (b : Int)) = false := by
  rw [beq_eq_false_iff_ne]; omega
theorem limit_any (x : UInt8) (w : World) : Calls Tryz.prog 39 #[.int .u8 (x.toNat : Int)] w fun e w' => e = .returned (.int .i64 (limP x : Int)) ∧ w' = w := by
  have hq : ∀ n : UInt8, x.toNat = n.toNat ↔ x = n := fun n => UInt8.toNat_inj
  unfold limP
  by_cases h1 : x = 75
  · subst h1; go_enter Tryz.func39, Tryz.ntmps39; go_wp2_with fail; go_ret; exact ⟨rfl, rfl⟩
  by_cases h2 : x = 70
  · subst h2; go_enter Tryz.func39, Tryz.ntmps39; go_wp2_with fail; go_ret; exact ⟨rfl, rfl⟩
  by_cases h3 : x = 80
  · subst h3; go_enter Tryz.func39, Tryz.ntmps39; go_wp2_with fail; go_ret; exact ⟨rfl, rfl⟩
  by_cases h4 : x = 49
  · subst h4; go_enter Tryz.func39, Tryz.ntmps39; go_wp2_with fail; go_ret; exact ⟨rfl, rfl⟩
  by_cases h5 : x = 57
  · subst h5; go_enter Tryz.func39, Tryz.ntmps39; go_wp2_with fail; go_ret; exact ⟨rfl, rfl⟩
  have q1 : ((x.toNat : Int) == 75) = false := int_ne (b := 75) fun e => h1 ((hq 75).1 e)
  have q2 : ((x.toNat : Int) == 70) = false := int_ne (b := 70) fun e => h2 ((hq 70).1 e)
  have q3 : ((x.toNat : Int) == 80) = false := int_ne (b := 80) fun e => h3 ((hq 80).1 e)
  have q4 : ((x.toNat : Int) == 49) = false := int_ne (b := 49) fun e => h4 ((hq 49).1 e)
  have q5 : ((x.toNat : Int) == 57) = false := int_ne (b := 57) fun e => h5 ((hq 57).1 e)
  rw [if_neg (by simp [h1, h2]), if_neg h3, if_neg h4, if_neg h5]
  clear h1 h2 h3 h4 h5 hq
  go_enter Tryz.func39, Tryz.ntmps39
  go_wp2_with fail
  go_ret
  exact ⟨rfl, rfl⟩
/-! ### Slices of strings that came in -/
def StrAt (w : World) (b off : Nat) (xs : List ByteArray) : Prop := ∀ k (h : k < xs.length), w.cell? ⟨b, off + k, none⟩ = some (.string xs[k])
/-- The address leads to the strings xs; they lie below H, and not where the call's own blocks lie. -/
def SS (w : World) (H : Nat) (A : Option Addr) (xs : List ByteArray) : Prop := xs = [] ∨ ∃ b off, b < H ∧ A = some ⟨b, off, none⟩ ∧ StrAt w b off xs
section
variable {w w' : World} {H : Nat} {A : Option Addr} {xs : List ByteArray} {x : ByteArray}
theorem SS.keep (h : SS w H A xs) (hk : ∀ b o, b < H → w'.cell? ⟨b, o, none⟩ = w.cell? ⟨b, o, none⟩) : SS w' H A xs := by
  rcases h with h | ⟨b, off, hb, h1, h2⟩
  · exact .inl h
  · exact .inr ⟨b, off, hb, h1, fun k hk' => (hk b _ hb).trans (h2 k hk')⟩
theorem SS.below {B : Nat} (hH : H ≤ B) (h : SS w H A xs) (hk : Below B w w') : SS w' H A xs := h.keep fun b o hb => hk.cell (p := ⟨b, o, none⟩) (Nat.lt_of_lt_of_le hb hH)
theorem SS.kept {S : Nat → Prop} (h : SS w H A xs) (hH : H ≤ w.heap.size) (hk : Kept S w w') (hS : ∀ i, i < H → ¬ S i) : SS w' H A xs := h.keep fun b o hb => hk.cell (Nat.lt_of_lt_of_le hb hH) (hS b hb) o
theorem SS.head (h : SS w H A (x :: xs)) : ∃ b off, b < H ∧ A = some ⟨b, off, none⟩ ∧ w.cell? ⟨b, off, none⟩ = some (.string x) ∧ StrAt w b off (x :: xs) := by
  rcases h with h | ⟨b, off, hb, h1, h2⟩
  · cases h
  · exact ⟨b, off, hb, h1, h2 0 (by simp), h2⟩
theorem StrAt.tail {b off : Nat} (h : StrAt w b off (x :: xs)) : StrAt w b (off + 1) xs := fun k hk => by
  have := h (k + 1) (by simpa using hk)
  rw [Nat.add_assoc, Nat.add_comm 1 k]
  exact this
theorem SS.rest {b off c : Nat} (hb : b < H) (h : StrAt w b off (x :: xs)) (hc : xs.length + 1 ≤ c) : SS w H (if c = 1 then some ⟨b, off, none⟩ else some ⟨b, off + 1, none⟩) xs := by
  by_cases h1 : c = 1
  · refine .inl (List.length_eq_zero_iff.1 (by omega))
  · rw [if_neg h1]
    exact .inr ⟨b, off + 1, hb, rfl, h.tail⟩
end
def ics (ns : List Nat) : List Value := ns.map fun (n : Nat) => Value.int .i64 (n : Int)
def FC (lv nv : Value) (f : Fd) : Array Value := #[.int .i64 0, .int .i64 0, .int .i64 0, .int .i64 0, .int .i64 0, .bool false, .int .u64 0, .int .u64 0, .int .u16 0, .int .u8 0, .int .i64 0, .slice none 0 0, .int .i64 0, .int .i64 0, .int .u8 0, lv, .int .u32 0, .int .u32 0, .int .u32 0, .bool false, .int .u64 0, .int .u64 0, .int .u16 0, nv, .bool f.a.six, .int .u64 (f.a.hi : Int), .int .u64 (f.a.lo : Int), .int .i64 (f.po : Int), .int .u8 (f.p : Int), .int .i64 (f.wy : Int), .bool true]
def Z63 : Array Value := #[.int .i64 0, .int .i64 0, .int .i64 0, .int .i64 0, .int .i64 0, .bool false, .int .u64 0, .int .u64 0, .int .u16 0, .int .u8 0, .int .i64 0, .slice none 0 0, .int .i64 0, .int .i64 0, .int .u8 0, .slice none 0 0, .int .u32 0, .int .u32 0, .int .u32 0, .bool false, .int .u64 0, .int .u64 0, .int .u16 0, .slice none 0 0, .bool false, .int .u64 0, .int .u64 0, .int .i64 0, .int .u8 0, .int .i64 0, .bool false]
theorem Blk.thereAt {w : World} {g : Nat} {t : TypeId} {cs : Array Value} (h : Blk w g t cs) {o n : Nat} (hn : o + n ≤ cs.size) : w.there g o n := fun j hj => by
  exact ⟨by rw [h.cell]; simp; omega, h.frozen _⟩
/-- The value v is a slice of bytes, at a block of bytes, that reads as l. -/
def LoadIn (w : World) (v : Value) (l : List UInt8) : Prop := ∃ A c, v = .slice A l.length c ∧ l.length ≤ c ∧ c ≤ maxLen ∧ (l = [] ∨ ∃ g cs fr, w.heap[g]? = some (Obj.cells cs 5 fr) ∧ A = some ⟨g, 0, none⟩ ∧ BytesAt w g 0 l)
theorem lt_of_heap {w : World} {g : Nat} {o : Obj} (h : w.heap[g]? = some o) : g < w.heap.size := by
  rcases Nat.lt_or_ge g w.heap.size with hlt | hge
  · exact hlt
  · rw [Array.getElem?_eq_none hge] at h; cases h
theorem LoadIn.nil (w : World) : LoadIn w (.slice none 0 0) [] := ⟨none, 0, rfl, by simp, by simp, .inl rfl⟩
theorem LoadIn.keep {w w' : World} {v : Value} {l : List UInt8} (h : LoadIn w v l) (hk : ∀ (g : Nat) cs fr, w.heap[g]? = some (Obj.cells cs 5 fr) → w'.heap[g]? = w.heap[g]?) : LoadIn w' v l := by
  obtain ⟨A, c, rfl, h1, h2, h3⟩ := h
  refine ⟨A, c, rfl, h1, h2, ?_⟩
  rcases h3 with h3 | ⟨g, cs, fr, h4, h5, h6⟩
  · exact .inl h3
  · have e := hk g cs fr h4
    exact .inr ⟨g, cs, fr, e.trans h4, h5, h6.keep fun o => World.cell?_of_block (w := w) e⟩
theorem LoadIn.byt {w : World} {v : Value} {l : List UInt8} (h : LoadIn w v l) : Byt w v l := by
  obtain ⟨A, c, rfl, h1, h2, h3⟩ := h
  refine ⟨A, c, rfl, h1, h2, ?_⟩
  rcases h3 with h3 | ⟨g, cs, fr, h4, h5, h6⟩
  · exact .inl h3
  · exact .inr ⟨g, 0, lt_of_heap h4, h5, h6⟩
/-- The bytes of a string, converted. -/
theorem load_conv (w : World) (s : ByteArray) (hs : s.size ≤ 4000) : LoadIn (Lib.bytesWorld w 5 s) (.slice (some ⟨w.heap.size, 0, none⟩) s.size (grownCap w s.size 0 5)) s.data.toList ∧ Kept (fun _ => False) w (Lib.bytesWorld w 5 s) := by
  refine ⟨⟨some ⟨w.heap.size, 0, none⟩, grownCap w s.size 0 5, by rw [Lib.size_eq], by rw [← Lib.size_eq]; exact grownCap_ge _ _ _ _, grownCap_le_maxLen _ _ _ _ (by unfold maxLen; omega), .inr ⟨w.heap.size, _, _, Lib.bytesWorld_at_new w 5 s, rfl, fun k hk => ?_⟩⟩, ⟨rfl, rfl, rfl, by rw [Lib.bytesWorld_size]; omega, fun k hk _ => Lib.bytesWorld_at_old w 5 s k hk⟩⟩
  rw [Nat.zero_add, Lib.bytesWorld_cell w 5 s k (by rw [Lib.size_eq]; exact hk)]
  rw [List.getD_eq_getElem?_getD, List.getElem?_eq_getElem hk]
  rfl
/-- What stands in memory while the words are fit: the field's block, the result's. -/
structure FitSt (w0 w : World) (fb rb : Nat) (lv nv : Value) (f : Fd) : Prop where
  fld : Blk w fb 60 (FC lv nv f)
  res : Blk w rb 60 Z63
  low : LoadIn w lv f.load
  num : Row w w0.heap.size 3 nv (ics f.nums)
  bel : Below w0.heap.size w0 w
section
variable {w0 w w' : World} {fb rb : Nat} {lv nv : Value} {f f' : Fd}
theorem blk_not {w : World} {g t u : Nat} {cs ds : Array Value} {fr : Nat × Nat} (h : Blk w g t cs) (hu : w.heap[g]? = some (Obj.cells ds u fr)) (hne : t ≠ u) : False := by
  unfold Blk at h
  rw [h] at hu
  injection hu with e
  injection e with _ e
  exact hne e
theorem row_not {w : World} {base g t u : Nat} {v : Value} {xs : List Value} {ds : Array Value} {fr : Nat × Nat} (h : Row w base t v xs) (hg : v.ownBlock = some g) (hu : w.heap[g]? = some (Obj.cells ds u fr)) (hne : t ≠ u) : False := by
  rcases h.2 with ⟨rfl, _⟩ | ⟨g', cap, cur, rfl, _, hh, _⟩
  · cases hg
  · injection hg with hg
    subst hg
    rw [hh] at hu
    injection hu with e
    injection e with _ e
    exact hne e
theorem FitSt.there (h : FitSt w0 w fb rb lv nv f) {o n : Nat} (hn : o + n ≤ 31) : w.there fb o n := h.fld.thereAt hn
theorem FitSt.below (h : FitSt w0 w fb rb lv nv f) (hk : Below w.heap.size w w') : FitSt w0 w' fb rb lv nv f :=
  ⟨h.fld.below hk h.fld.lt, h.res.below hk h.res.lt, h.low.keep (fun g _ _ hg => hk.block g (lt_of_heap hg)), h.num.belowAll hk, h.bel.trans (hk.mono h.bel.size)⟩
/-- One of the field's words is turned. -/
theorem FitSt.turn (h : FitSt w0 w fb rb lv nv f) (hne : rb ≠ fb) (hfb : w0.heap.size ≤ fb) (hk : Kept (fun i => i = fb) w w') (hB : Blk w' fb 60 (FC lv nv f')) (hl : f'.load = f.load) (hn : f'.nums = f.nums) : FitSt w0 w' fb rb lv nv f' := by
  refine ⟨hB, h.res.kept hk hne, ?_, ?_, h.bel.trans (hk.below h.bel.size (fun i e => by omega))⟩
  · rw [hl]; exact h.low.keep (fun g cs fr hg => hk.block g (lt_of_heap hg) (fun e => by subst e; exact blk_not h.fld hg (by decide)))
  · rw [hn]; exact h.num.kept hk (fun g hg e => by subst e; exact h.num.ne h.fld (by decide) hg)
/-- The load is turned: new bytes, then the field's word. -/
theorem FitSt.loaded (h : FitSt w0 w fb rb lv nv f) {l : List UInt8} {lv' : Value} (hne : rb ≠ fb) (hfb : w0.heap.size ≤ fb) (hL : LoadIn w lv' l) (hk : Kept (fun i => i = fb) w w') (hB : Blk w' fb 60 (FC lv' nv { f with load := l })) : FitSt w0 w' fb rb lv' nv { f with load := l } := by
  refine ⟨hB, h.res.kept hk hne, ?_, ?_, h.bel.trans (hk.below h.bel.size (fun i e => by omega))⟩
  · exact hL.keep (fun g cs fr hg => hk.block g (lt_of_heap hg) (fun e => by subst e; exact blk_not h.fld hg (by decide)))
  · exact h.num.kept hk (fun g hg e => by subst e; exact h.num.ne h.fld (by decide) hg)
/-- The numbers are turned: the row grows, then the field's word. -/
theorem FitSt.pushed (h : FitSt w0 w fb rb lv nv f) {n : Nat} {nv' : Value} {w1 : World} (hne : rb ≠ fb) (hfb : w0.heap.size ≤ fb) (hg : w.grownBy w1 nv.ownBlock) (hR : Row w1 w0.heap.size 3 nv' (ics (f.nums ++ [n]))) (hk : Kept (fun i => i = fb) w1 w') (hB : Blk w' fb 60 (FC lv nv' { f with nums := f.nums ++ [n] })) : FitSt w0 w' fb rb lv nv' { f with nums := f.nums ++ [n] } := by
  have hfl := h.fld.grown hg (fun e => h.num.ne h.fld (by decide) e.symm)
  have hre := h.res.grown hg (fun e => h.num.ne h.res (by decide) e.symm)
  have hlo : LoadIn w1 lv f.load := h.low.keep (fun g cs fr hg' => hg.block g (lt_of_heap hg') (fun e => row_not h.num e.symm hg' (by decide)))
  refine ⟨hB, hre.kept hk hne, ?_, ?_, ?_⟩
  · exact hlo.keep (fun g cs fr hg => hk.block g (lt_of_heap hg) (fun e => by subst e; exact blk_not hfl hg (by decide)))
  · exact hR.kept hk (fun g hg e => by subst e; exact hR.ne hfl (by decide) hg)
  · exact (h.bel.trans (below_grown hg (fun i hi => (h.num.lt i hi).1) h.bel.size)).trans (hk.below (Nat.le_trans h.bel.size hg.size) (fun i e => by omega))
theorem FitSt.spoil (h : FitSt w0 w fb rb lv nv f) (hne : rb ≠ fb) (hfb : w0.heap.size ≤ fb) (hk : Kept (fun i => i = fb) w w') : Blk w' rb 60 Z63 ∧ Below w0.heap.size w0 w' :=
  ⟨h.res.kept hk hne, h.bel.trans (hk.below h.bel.size (fun i e => by omega))⟩
theorem Blk.set3 {w : World} {g : Nat} {t : TypeId} {cs cs' : Array Value} (h : Blk w g t cs) {o : Nat} {a b c : Value} (e : ((cs.setIfInBounds o a).setIfInBounds (o + 1) b).setIfInBounds (o + 1 + 1) c = cs') : Blk (w.setCells g o [a, b, c]) g t cs' := by
  rw [← e]
  exact ((h.set_ o a).set_ (o + 1) b).set_ (o + 1 + 1) c
end
theorem numRet_eq (o : Option Nat) : NumRet o = .tuple #[.int .i64 ((o.getD 0 : Nat) : Int), .bool o.isSome] := by cases o <;> rfl
def FitRet (w : World) (o : Option Fd) (e : Ending) (w' : World) : Prop := Below w.heap.size w w' ∧ match o with
  | none => e = .returned (.agg Z63)
  | some f => ∃ lv nv, e = .returned (.agg (FC lv nv f)) ∧ LoadIn w' lv f.load ∧ Row w' w.heap.size 3 nv (ics f.nums)
end Go.Proofs.YthfdhggcnkgjfaaGreatDoor
