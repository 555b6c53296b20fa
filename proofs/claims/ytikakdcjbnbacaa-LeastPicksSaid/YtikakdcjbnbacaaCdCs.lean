import Derived.Test.YtikakdcjbnbacaaCdRight
import Derived.Outline
import Derived.Deep.Light
namespace Go.Proofs.Ytikakdcjbnbacaa
open Go.RowKit

theorem Try.infoCd : (Try.prog.info? 29).map (fun i => (i.zero, i.size, i.bytes)) = some (some (.agg #[.int .i64 0, .int .i64 0, .int .i64 0, .int .u32 0]), 4, 32) := by kernel_rfl

def Cd.cs (c : Cd) : List Value := [.int .i64 c.slot, .int .i64 c.backend, .int .i64 c.weight, .int .u32 c.load]
end Go.Proofs.Ytikakdcjbnbacaa
