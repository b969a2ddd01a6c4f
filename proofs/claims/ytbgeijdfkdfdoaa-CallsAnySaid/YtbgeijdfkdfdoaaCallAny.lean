/-
  The law CallsAny in the words of its opening: any bytes are a list's, just its, or none's; those that were changed, too. No condition.
-/
import Derived.Test.YtbgeijdfkdfdoaaCallH
import Derived.Test.YtbgeijdfkdfdoaaCallQ
namespace Go.Proofs.Ytbgeijdfkdfdoaa
open Go.RowKit

theorem callsAny_row (vb : Value) (lb : List UInt8) (vl : Value) (l : List CEnt) (at' x : Int) (w : World) (hvb : IsBytes w vb lb) (hvl : IsCalls w vl l) (h2 : (Lit.int .i64 at').wf = true) (h3 : (Lit.int .u8 x).wf = true) :
    Calls Try.prog 14 #[vb, vl, .int .i64 at', .int .u8 x] w (TrueEnd w) := callsAny_any vb lb vl l at' x w hvb hvl h2 h3
end Go.Proofs.Ytbgeijdfkdfdoaa
