/-
What came in, opened: a row of tokens, and how many they are.
-/
import Derived.Test.YtagokdbpgljgjaaDoorMBA
import Derived.Test.YtagokdbpgljgjaaDoorMAU
set_option linter.unusedSimpArgs false
set_option linter.unusedVariables false
namespace Go.Proofs.YtagokdbpgljgjaaDoor.Tables
open Go.ChangeShapes Go.WideShapes Go.ChangeAt Go.RowKit Go.Proofs.YtagokdbpgljgjaaDoorW.PrintWords Go.Proofs.YtagokdbpgljgjaaDoorW.PrintLast Go.Proofs.YtagokdbpgljgjaaDoorW.PrintMore Go.Proofs.YtagokdbpgljgjaaDoor.Op Go.Proofs.YtagokdbpgljgjaaDoor.Fr Go.Proofs.YtagokdbpgljgjaaDoor.PGramFirsts Go.Proofs.YtagokdbpgljgjaaDoor.Tok
instance : Inhabited S55 := ⟨z55⟩
theorem mx {W : World} (h : W.ShapedOpen Tryd.prog) : Tok.Mx W := Tryd.laysM145.s1_3 W h
end Go.Proofs.YtagokdbpgljgjaaDoor.Tables
