/-
What came in, opened with its bounds: each slice in it lies within the row's reach.
-/
import Derived.SizedLaws
import Derived.ChangeSlices
import Derived.Test.YtlpmjmanmncmnaaR1XG
import Derived.Test.YtlpmjmanmncmnaaR1Op
set_option linter.unusedSimpArgs false
set_option linter.unusedVariables false
namespace Go.Proofs.Ytlpmjmanmncmnaa.Tab
open Go.ChangeShapes Go.WideShapes Go.ChangeAt Go.RowKit Go.Proofs.YtlpmjmanmncmnaaW.PrintWords Go.Proofs.Ytlpmjmanmncmnaa.Op Go.Proofs.Ytlpmjmanmncmnaa.Fr Go.Proofs.Ytlpmjmanmncmnaa.PT
instance : Inhabited S48 := ⟨z48⟩
theorem opens_move : Opens Try.prog k48 48 (fun x => (Lit.int .i64 x.f0).wf = true ∧ (Lit.int .i64 x.f1).wf = true) :=
  (opens_fields2 (a := Kd.int .i64) (b := Kd.int .i64) Try.underlying48 (by kernel_rfl) rfl (by kernel_rfl) rfl (by kernel_rfl) (opens_int Try.underlying3) (opens_int Try.underlying3)).iso (fun x => ⟨x.1, x.2⟩) (fun _ => rfl) (fun _ h => h)
end Go.Proofs.Ytlpmjmanmncmnaa.Tab
