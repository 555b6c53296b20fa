/- The document's limits; its Field. -/
import Derived.Test.YthfdhggcnkgjfaaDoorXD
namespace Go.Proofs.YthfdhggcnkgjfaaDoor
open Go.RowKit
set_option linter.unusedVariables false
theorem limitP (w : World) : Calls Tryd.prog 29 #[.int .u8 80] w fun e w' => e = .returned (.int .i64 65535) ∧ w' = w := by
  go_enter Tryd.func29, Tryd.ntmps29
  go_wp2_with fail
  go_ret
  exact ⟨rfl, rfl⟩
theorem Tryd.size63 : (Tryd.prog.info? 63).map (fun i => (i.zero, i.size)) = some (some (.agg #[.int .i64 0, .int .i64 0, .int .i64 0, .int .i64 0, .int .i64 0, .bool false, .int .u64 0, .int .u64 0, .int .u16 0, .int .u8 0, .int .i64 0, .slice none 0 0, .int .i64 0, .int .i64 0, .int .u8 0, .slice none 0 0, .int .u32 0, .int .u32 0, .int .u32 0, .bool false, .int .u64 0, .int .u64 0, .int .u16 0, .slice none 0 0, .bool false, .int .u64 0, .int .u64 0, .int .i64 0, .int .u8 0, .int .i64 0, .bool false]), 31) := by kernel_rfl
end Go.Proofs.YthfdhggcnkgjfaaDoor
