/- ScriptSames, at steps that came in. -/
import Derived.Test.YthfdhggcnkgjfaaDoorJ
namespace Go.Proofs.YthfdhggcnkgjfaaDoor
open Go.RowKit
set_option linter.unusedVariables false
set_option maxRecDepth 20000 in
set_option maxHeartbeats 16000000 in
theorem sames_l (a b : St) (w : World) (ha : a.wf w) (hb : b.wf w) : Calls Tryd.prog 4 #[.agg a.cs.toArray, .agg b.cs.toArray] w fun e w' => e = .returned (.bool true) ∧ Below w.heap.size w w' := by
  obtain ⟨fa, ⟨f0, f1, f2, f3, ⟨f4, f5, f6⟩, f7, f8, f9, ⟨MA, mc, ml⟩⟩, fb, fc, fd, ⟨LA, lc, ld⟩, g0, g1, g2, ⟨g3, g4, g5⟩, g6⟩ := a
  obtain ⟨faz, ⟨f0z, f1z, f2z, f3z, ⟨f4z, f5z, f6z⟩, f7z, f8z, f9z, ⟨MAz, mcz, mlz⟩⟩, fbz, fcz, fdz, ⟨LAz, lcz, ldz⟩, g0z, g1z, g2z, ⟨g3z, g4z, g5z⟩, g6z⟩ := b
  obtain ⟨_, ⟨_, _, _, _, _, _, _, _, hm⟩, _, _, _, hl, _⟩ := ha
  obtain ⟨_, ⟨_, _, _, _, _, _, _, _, hmz⟩, _, _, _, hlz, _⟩ := hb
  show Calls Tryd.prog 4 #[.agg #[.int .i64 fa, .int .i64 f0, .int .i64 f1, .int .i64 f2, .int .i64 f3, .bool f4, .int .u64 f5, .int .u64 f6, .int .u16 f7, .int .u8 f8, .int .i64 f9, .slice MA ml.length mc, .int .i64 fb, .int .i64 fc, .int .u8 fd, .slice LA ld.length lc, .int .u32 g0, .int .u32 g1, .int .u32 g2, .bool g3, .int .u64 g4, .int .u64 g5, .int .u16 g6], .agg #[.int .i64 faz, .int .i64 f0z, .int .i64 f1z, .int .i64 f2z, .int .i64 f3z, .bool f4z, .int .u64 f5z, .int .u64 f6z, .int .u16 f7z, .int .u8 f8z, .int .i64 f9z, .slice MAz mlz.length mcz, .int .i64 fbz, .int .i64 fcz, .int .u8 fdz, .slice LAz ldz.length lcz, .int .u32 g0z, .int .u32 g1z, .int .u32 g2z, .bool g3z, .int .u64 g4z, .int .u64 g5z, .int .u16 g6z]] w _
  by_cases h : ml.length ≤ 70 ∧ mlz.length ≤ 70
  · exact sames_any fa faz f0 f0z f1 f1z f2 f2z f3 f3z f4 f4z f5 f5z f6 f6z f7 f7z f8 f8z f9 f9z MA MAz mc mcz ml mlz fb fbz fc fcz fd fdz LA LAz lc lcz ld ldz g0 g0z g1 g1z g2 g2z g3 g3z g4 g4z g5 g5z g6 g6z w h.1 h.2 hm hmz (Nat.le_trans hl.1 hl.2.1) hl.2.2 hlz.2.2
  · exact sames_long fa faz f0 f0z f1 f1z f2 f2z f3 f3z f4 f4z f5 f5z f6 f6z f7 f7z f8 f8z f9 f9z MA MAz mc mcz ml mlz fb fbz fc fcz fd fdz LA LAz lc lcz ld ldz g0 g0z g1 g1z g2 g2z g3 g3z g4 g4z g5 g5z g6 g6z w h
end Go.Proofs.YthfdhggcnkgjfaaDoor
