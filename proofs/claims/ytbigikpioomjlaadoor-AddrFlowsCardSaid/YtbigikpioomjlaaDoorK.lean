/- AddrFlows at every two flows. -/
import Derived.Test.YtbigikpioomjlaaDoorJ
namespace Go.Proofs.YtbigikpioomjlaaDoor
open Go.RowKit
set_option linter.unusedVariables false
theorem flows_any (f g : Fl) (hf : f.wf) (hg : g.wf) (w : World) : Calls Tryd.prog 3 #[.agg #[.bool f.src.six, .int .u64 f.src.high, .int .u64 f.src.low, .bool f.dst.six, .int .u64 f.dst.high, .int .u64 f.dst.low, .int .u16 f.sp, .int .u16 f.dp, .int .u8 f.pr], .agg #[.bool g.src.six, .int .u64 g.src.high, .int .u64 g.src.low, .bool g.dst.six, .int .u64 g.dst.high, .int .u64 g.dst.low, .int .u16 g.sp, .int .u16 g.dp, .int .u8 g.pr]] w fun e w' => e = .returned (.bool true) ∧ Below w.heap.size w w' := by
  cases r0 : f.src.okB with
  | false => exact flows_bad0 f g w r0
  | true =>
    cases r1 : f.dst.okB with
    | false => exact flows_bad1 f g w r0 r1
    | true =>
      cases r2 : g.src.okB with
      | false => exact flows_bad2 f g w r0 r1 r2
      | true =>
        cases r3 : g.dst.okB with
        | false => exact flows_bad3 f g w r0 r1 r2 r3
        | true => exact flows_good f g w hf hg r0 r1 r2 r3
end Go.Proofs.YtbigikpioomjlaaDoor
