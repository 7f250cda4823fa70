/-
The library's variables that this seat's rows list: a world that holds them, and what the rows' condition gives.
-/
import Derived.Test.YtagokdbpgljgjaaDoorCards
import Derived.Test.YtagokdbpgljgjaaDoorTie
import Derived.Deep.DeepHandedRow
import Derived.Lib.LaidTab
import Derived.Test.YtagokdbpgljgjaaDoorMAZ
import Derived.Test.YtagokdbpgljgjaaDoorMAU
set_option linter.unusedSimpArgs false
set_option linter.unusedVariables false
namespace Go.Proofs.YtagokdbpgljgjaaDoor.Tables
open Go.ChangeShapes Go.WideShapes Go.ChangeAt Go.RowKit Go.Proofs.YtagokdbpgljgjaaDoorW.PrintWords Go.Proofs.YtagokdbpgljgjaaDoorW.PrintLast Go.Proofs.YtagokdbpgljgjaaDoorW.PrintMore Go.Proofs.YtagokdbpgljgjaaDoor.Op Go.Proofs.YtagokdbpgljgjaaDoor.Fr Go.Proofs.YtagokdbpgljgjaaDoor.PGramFirsts
def laidList : List (String × DataW Unit) := [("math/bits.deBruijn32tab", Rows.laid_math_bits_deBruijn32tab), ("math/bits.deBruijn64tab", Rows.laid_math_bits_deBruijn64tab), ("internal/strconv.uint64pow10", Rows.laid_internal_strconv_uint64pow10), ("unicode/utf8.acceptRanges", Rows.laid_unicode_utf8_acceptRanges), ("strconv.ErrRange", Rows.laid_strconv_ErrRange), ("strconv.ErrSyntax", Rows.laid_strconv_ErrSyntax), ("unicode/utf8.first", Rows.laid_unicode_utf8_first)]
def litOf : DataW Unit → Value
  | .lit (.int k z) => .int k z
  | _ => .bool false
/-- The cells that a datum of integers names. -/
def cellsIn : DataW Unit → Array Value
  | .agg ds => (ds.flatMap fun
    | .agg es => es.map litOf
    | d => [litOf d]).toArray
  | _ => #[]
def lay (d : DataW Unit) : Obj → Obj
  | .cells _ t frozen => .cells (cellsIn d) t frozen
  | o => o
def layV (v : Value) : Obj → Obj
  | .cells _ t frozen => .cells #[v] t frozen
  | o => o
noncomputable def bare (os : Os) : World := World.holding Tryd.prog os ⟨#[], #[], []⟩
/-- A world whose variables are laid. -/
noncomputable def world (os : Os) : World :=
  { bare os with heap := ((((((((((bare os).heap.modify 3 (lay Rows.laid_internal_strconv_uint64pow10)).modify 6 (lay Rows.laid_math_bits_deBruijn32tab)).modify 7 (lay Rows.laid_math_bits_deBruijn64tab)).modify 5 (lay Rows.laid_unicode_utf8_acceptRanges)).modify 4 (lay Rows.laid_unicode_utf8_first)).modify 2 (layV (.iface 149 (.pointer (some ⟨(bare os).heap.size, 0, none⟩))))).modify 1 (layV (.iface 149 (.pointer (some ⟨(bare os).heap.size + 1, 0, none⟩))))).push (.cells #[.string ⟨#[118, 97, 108, 117, 101, 32, 111, 117, 116, 32, 111, 102, 32, 114, 97, 110, 103, 101]⟩] 151)).push (.cells #[.string ⟨#[105, 110, 118, 97, 108, 105, 100, 32, 115, 121, 110, 116, 97, 120]⟩] 151)) }
end Go.Proofs.YtagokdbpgljgjaaDoor.Tables
