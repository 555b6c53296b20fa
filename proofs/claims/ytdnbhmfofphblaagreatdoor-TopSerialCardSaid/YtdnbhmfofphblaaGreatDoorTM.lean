/- Maps keyed by flows: laws on a map of no entry or of one. -/
import Derived.Test.YtdnbhmfofphblaaGreatDoorChecked
import Derived.Test.YtdnbhmfofphblaaGreatDoorBase
import Derived.DeepKeys3
import Derived.MapKept
import Derived.KernelRfl
namespace Go.Proofs.YtdnbhmfofphblaaGreatDoor
open Go.WideMaps
set_option maxRecDepth 100000
set_option linter.unusedVariables false
set_option linter.unusedSimpArgs false
section
variable {P : Program}
theorem kl_int (d t : Nat) (q : IntKind) (n : Int) (hu : P.underlying t = some (.int q)) (hw : (Lit.int q n).wf = true) : P.keyLits (d + 1) t [.int q n] = some [.int q n] := by simp [Program.keyLits, hu, hw]
theorem kl_bool (d t : Nat) (b : Bool) (hu : P.underlying t = some .bool) : P.keyLits (d + 1) t [.bool b] = some [.bool b] := by simp [Program.keyLits, hu]
theorem kl_struct (d t : Nat) (fs : Array Field) (cs : List Value) (L : List (List Lit)) (hu : P.underlying t = some (.struct fs)) (hl : cs.length = P.cellsOf t) (hn : fs.all (·.name != "_") = true)
    (h : (fs.toList.mapM fun f => P.keyLits d f.type ((cs.drop f.offset).take (P.cellsOf f.type))) = some L) : P.keyLits (d + 1) t cs = some L.flatten := by
  unfold Program.keyLits
  rw [hu]
  simp only [hl, hn, and_self, if_true, h, Option.map_some]
/-- A map's block. -/
def MapB (w : World) (g : Nat) (es : Array MapEntry) (c : Nat) : Prop := w.heap[g]? = some (.map es c)
theorem MapB.lt {w : World} {g : Nat} {es : Array MapEntry} {c : Nat} (h : MapB w g es c) : g < w.heap.size := by
  rcases Nat.lt_or_ge g w.heap.size with hlt | hge
  · exact hlt
  · unfold MapB at h; rw [Array.getElem?_eq_none hge] at h; cases h
theorem MapB.kept {S : Nat → Prop} {w w' : World} {g : Nat} {es : Array MapEntry} {c : Nat} (h : MapB w g es c) (hk : Kept S w w') (hn : ¬ S g) : MapB w' g es c := (hk.block g h.lt hn).trans h
theorem MapB.new (w : World) : MapB (w.alloc (.map #[] 0)) w.heap.size #[] 0 := heap_alloc_new w _
/-- Nothing is found in an empty map. -/
theorem run_lookup_none {k : TypeId} (K : KeyLaw P k) {w : World} {t e : TypeId} {g c : Nat} {x z : Value} {l : Lit} (ht : P.underlying t = some (.map k e)) (hb : MapB w g #[] c) (hx : keyOf P k x = some l) (hz : (zeroValue e).run P w = .ok z w) :
    (Instr.lookup t (.map (some g)) x false).run P w = .ok z w := by
  have hf : (Instr.findKey k x ([] : List MapEntry)).run P w = .ok none w := by
    rcases K.find w hx [] (by simp) with ⟨h, _⟩ | ⟨j, e', _, h, _⟩
    · exact h
    · simp at h
  simp [Instr.lookup, run_underlying ht, MapKept.run_getObj_map hb, K.check w true hx, hf, hz, Result.andThen]
/-- The one entry's value is found at its key. -/
theorem run_lookup_one {k : TypeId} (K : KeyLaw P k) {w : World} {t e : TypeId} {g c : Nat} {x v : Value} {b : Nat} {l : Lit} (ht : P.underlying t = some (.map k e)) (hb : MapB w g #[⟨x, v, b⟩] c) (hx : keyOf P k x = some l) :
    (Instr.lookup t (.map (some g)) x false).run P w = .ok v w := by
  have hf : ∃ j, (Instr.findKey k x [(⟨x, v, b⟩ : MapEntry)]).run P w = .ok (some (j, v)) w := by
    rcases K.find w hx [(⟨x, v, b⟩ : MapEntry)] (by simp [hx]) with ⟨_, h⟩ | ⟨j, e', h, h2, _⟩
    · exact absurd rfl (h ⟨x, v, b⟩ (by simp))
    · cases j with
      | zero => simp at h2; subst h2; exact ⟨0, h⟩
      | succ j => simp at h2
  obtain ⟨j, hf⟩ := hf
  simp [Instr.lookup, run_underlying ht, MapKept.run_getObj_map hb, K.check w false hx, hf, Result.andThen]
/-- An entry is put into an empty map. -/
theorem run_update_first {k : TypeId} (K : KeyLaw P k) {w : World} {t e : TypeId} {g c : Nat} {x v : Value} {l : Lit} (ht : P.underlying t = some (.map k e)) (hb : MapB w g #[] c) (hx : keyOf P k x = some l) :
    ∃ w', (Instr.mapUpdate t (.map (some g)) x v).run P w = .ok () w' ∧ MapB w' g #[⟨x, v, c⟩] (c + 1) ∧ Kept (fun i => i = g) w w' := by
  have hf : (Instr.findKey k x ([] : List MapEntry)).run P w = .ok none w := by
    rcases K.find w hx [] (by simp) with ⟨h, _⟩ | ⟨j, e', _, h, _⟩
    · exact h
    · simp at h
  have hlt := hb.lt
  refine ⟨{ w with heap := w.heap.setIfInBounds g (.map #[⟨x, v, c⟩] (c + 1)) }, ?_, ?_, ?_⟩
  · simp [Instr.mapUpdate, run_underlying ht, MapKept.run_getObj_map hb, K.check w false hx, hf, MapKept.run_setObj_map _ hb, Result.andThen]
  · unfold MapB
    simp [hlt]
  · exact ⟨rfl, rfl, rfl, by simp, fun i hi hn => by simp [Array.getElem?_setIfInBounds, Ne.symm hn]⟩
end
theorem flowLaw : KeyLaw Tryz.prog 28 := deep_law (m := 3) (by decide) (by kernel_rfl) (by kernel_rfl) (by kernel_rfl)
theorem flowKey (sp dp : Int) (s0 : 0 ≤ sp) (s1 : sp ≤ 65535) (d0 : 0 ≤ dp) (d1 : dp ≤ 65535) : ∃ l, keyOf Tryz.prog 28 (.agg #[.bool false, .int .u64 0, .int .u64 0, .bool false, .int .u64 0, .int .u64 0, .int .u16 sp, .int .u16 dp, .int .u8 6]) = some l := by
  have ws : (Lit.int .u16 sp).wf = true := by simp [Lit.wf, IntKind.min, IntKind.max, IntKind.signed, IntKind.bits]; omega
  have wd : (Lit.int .u16 dp).wf = true := by simp [Lit.wf, IntKind.min, IntKind.max, IntKind.signed, IntKind.bits]; omega
  have c28 : Tryz.prog.cellsOf 28 = 9 := by kernel_rfl
  have c26 : Tryz.prog.cellsOf 26 = 3 := by kernel_rfl
  have c22 : Tryz.prog.cellsOf 22 = 1 := by kernel_rfl
  have c24 : Tryz.prog.cellsOf 24 = 1 := by kernel_rfl
  have c5 : Tryz.prog.cellsOf 5 = 1 := by kernel_rfl
  have c4 : Tryz.prog.cellsOf 4 = 1 := by kernel_rfl
  have ha : ∀ d, Tryz.prog.keyLits (d + 2) 26 [.bool false, .int .u64 0, .int .u64 0] = some [.bool false, .int .u64 0, .int .u64 0] := fun d => by
    have h := kl_struct (P := Tryz.prog) (d + 1) 26 _ [.bool false, .int .u64 0, .int .u64 0] [[.bool false], [.int .u64 0], [.int .u64 0]] Tryz.underlying26 (by rw [c26]; rfl) (by simp) (by
      simp [c4, c24, kl_bool d 4 false Tryz.underlying4, kl_int d 24 .u64 0 Tryz.underlying24 (by decide)])
    simpa using h
  have hf : ∀ d, Tryz.prog.keyLits (d + 3) 28 [.bool false, .int .u64 0, .int .u64 0, .bool false, .int .u64 0, .int .u64 0, .int .u16 sp, .int .u16 dp, .int .u8 6] = some [.bool false, .int .u64 0, .int .u64 0, .bool false, .int .u64 0, .int .u64 0, .int .u16 sp, .int .u16 dp, .int .u8 6] := fun d => by
    have h := kl_struct (P := Tryz.prog) (d + 2) 28 _ [.bool false, .int .u64 0, .int .u64 0, .bool false, .int .u64 0, .int .u64 0, .int .u16 sp, .int .u16 dp, .int .u8 6] [[.bool false, .int .u64 0, .int .u64 0], [.bool false, .int .u64 0, .int .u64 0], [.int .u16 sp], [.int .u16 dp], [.int .u8 6]] Tryz.underlying28 (by rw [c28]; rfl) (by simp) (by
      simp [c26, c22, c5, ha d, kl_int (d + 1) 22 .u16 sp Tryz.underlying22 ws, kl_int (d + 1) 22 .u16 dp Tryz.underlying22 wd, kl_int (d + 1) 5 .u8 6 Tryz.underlying5 (by decide)])
    simpa using h
  have hs : Tryz.prog.types.size + 1 = (Tryz.prog.types.size - 2) + 3 := by
    have : 2 ≤ Tryz.prog.types.size := of_decide_eq_true (by kernel_rfl)
    omega
  have hk : Tryz.prog.keyType 28 = true := by kernel_rfl
  unfold keyOf
  rw [Tryz.underlying28]
  simp only [hk, Bool.true_and]
  rw [if_pos (by unfold Value.formed; rw [Tryz.underlying28]; simp [c28])]
  have h := hf (Tryz.prog.types.size - 2)
  rw [← hs] at h
  exact ⟨_, congrArg (Option.map fun ls => Lit.string (keyBytes ls)) h⟩
end Go.Proofs.YtdnbhmfofphblaaGreatDoor
