/-
The table of powers out of the laid variables.
-/
import Derived.Test.YtagokdbpgljgjaaDoorMAW
import Derived.Test.YtagokdbpgljgjaaDoorMAP
set_option linter.unusedSimpArgs false
set_option linter.unusedVariables false
namespace Go.Proofs.YtagokdbpgljgjaaDoor.Tables
open Go.ChangeShapes Go.WideShapes Go.ChangeAt Go.RowKit Go.Proofs.YtagokdbpgljgjaaDoorW.PrintWords
theorem laid_tail {P : Program} {x : String × DataW Unit} {rest : List (String × DataW Unit)} {w : World} (h : laidMet P (x :: rest) w) : laidMet P rest w := by
  obtain ⟨ps, ⟨g, t, cs, fuel, p, q, _, _, _, _, h1, h2⟩, hn, hc⟩ := h
  first
  | (subst h2; exact ⟨q, h1, (List.nodup_append.1 hn).2.1, fun b off hb => hc b off (List.mem_append_right _ hb)⟩)
  | (subst h1; exact ⟨q, h2, (List.nodup_append.1 hn).2.1, fun b off hb => hc b off (List.mem_append_right _ hb)⟩)
set_option maxRecDepth 100000 in
theorem pow_of {W : World} (h : laidMetH Tryd.prog Rows.tokenWritesRow.laid W) : Tok.Pow W := by
  have h2 : laidMet Tryd.prog laidList W := h
  exact Lib.tabIs_of_head (g := 3) (by kernel_rfl) rfl rfl rfl (by kernel_rfl) (by kernel_rfl) (laid_tail (laid_tail h2))
end Go.Proofs.YtagokdbpgljgjaaDoor.Tables
