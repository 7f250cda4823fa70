/- Words and walks that the kit's print.sh printed for this seat, those that this claim needs. -/
import Derived.Test.YtdngobjcdajogaaT7WInv
import Derived.Test.YtdngobjcdajogaaT7WFootNe
namespace Go.Proofs.YtdngobjcdajogaaW.PrintWords
open Go.RowKit
end Go.Proofs.YtdngobjcdajogaaW.PrintWords
namespace Go.Proofs.YtdngobjcdajogaaW.PrintLast
section
variable {ops : Array Oper} {a : Act} {o og : Oper} {g : Nat} {t : Tmp} {u : Bool}
end
end Go.Proofs.YtdngobjcdajogaaW.PrintLast
