/-
The law of a table's checks: whatever the table and the three numbers, Defaults and Check answer as the reference does: the law returns true and its argument reads as it did. No condition.
-/
import Derived.Test.YtlpmjmanmncmnaaXQ
import Derived.Test.YtlpmjmanmncmnaaXP
import Derived.Test.YtlpmjmanmncmnaaWSized
namespace Go.Proofs.Ytlpmjmanmncmnaa.RowChecks
open Go.ChangeShapes Go.WideShapes Go.ChangeAt Go.RowKit
open Go.Proofs.YtlpmjmanmncmnaaW.PrintWords Go.Proofs.Ytlpmjmanmncmnaa.Op Go.Proofs.Ytlpmjmanmncmnaa.Fr Go.Proofs.Ytlpmjmanmncmnaa.Tab

set_option maxRecDepth 100000 in
theorem lifted (os : Os) (started : os.Started) (H : Type) (enc : TypeId × Value → H) :
    ReturnsInHanded {} Try.checked os 3 .any (Rows.tableChecksSpec.pre6 enc Try.prog Try.f3 Rows.tableChecksRow.domain false) (Rows.tableChecksSpec.post enc Try.prog Try.f3 false true false false) := by
  refine returnsInHanded_of_change_sized (C := Try.checked) own started (by kernel_rfl) Try.func3
    (ChangeSpec.witness6 (enc := enc) (C := Try.checked) false ⟨#[], #[.agg #[.slice none 0 0, .slice none 0 0, .int .i64 0, .int .i64 0, .int .i64 0]], []⟩ 8 (by kernel_rfl) (by kernel_rfl) (by kernel_rfl) (by kernel_rfl)) ?_
  intro W base args ds gs before hval0 hW _ hsz0 _
  have hsz : (DataW.weightsEach Try.prog (Try.f3.params.toList ++ Rows.tableChecksSpec.plain.varTypes Try.prog) (ds ++ gs)).all (· ≤ reachBytes) = true := hsz0
  have hval : ∀ (j : Nat) t v, Try.f3.params[j]? = some t → args[j]? = some v → Value.okWide Try.prog W .any base t v := hval0
  have hW' := hW
  obtain ⟨p, q, hA0, hV, rfl, _, _⟩ := hW
  have hA : DataW.TrodAll enc Try.prog W 0 (fun _ => true) true Try.f3.params.toList args.toList ds p := hA0
  have hA1 := hA
  rw [Try.params3] at hA hA1 hval hsz
  obtain ⟨v0, vs0, d0, ds0, p0, q0, hargs, rfl, rfl, h0, r0⟩ := trodAll_cons hA
  obtain ⟨rfl, rfl, rfl⟩ := trodAll_nil r0
  obtain rfl : args = #[v0] := by cases args; simp_all
  obtain ⟨rfl, rfl⟩ := trodVars_none hV
  have hw : (d0.weights Try.prog 27).all (· ≤ reachBytes) = true := by
    have h9 := hsz
    simp only [List.cons_append, DataW.weightsEach, List.all_append, Bool.and_eq_true] at h9
    exact h9.1
  obtain ⟨T, A0, A1, c0, c1, kinds, rules, prods, rfl, hT, hO⟩ := given_arg (hval 0 27 v0 rfl rfl) h0 hw
  clear hA0 hval0 hsz0 hsz hw
  refine (checks_calls W T A0 A1 c0 c1 kinds rules prods hT hO).mono fun e W' ⟨he, hF⟩ => ?_
  have bel := hF.to_below
  subst he
  exact ⟨_, rfl, _, _, _, [], _, [], hW', trodAll_mk1 (shut_bool Try.underlying4 _), all_below laidOut bel _ _ _ _ (by kernel_rfl) hA1, rfl, bel.frame _, fun h => by cases h⟩
theorem over : Rows.tableChecksRow.holds Try.pinned (OpenSpec.ofChange Rows.tableChecksSpec) :=
  OpenClaim.holds_of_wide 3 Try.f3 rfl rfl rfl rfl rfl rfl rfl ⟨rfl, rfl, rfl, rfl, rfl⟩ rfl rfl rfl rfl rfl (by kernel_rfl) Try.func3 (by kernel_rfl)
    (of_decide_eq_true (by kernel_rfl)) (by unfold Func.isWrapper; first | (rw [if_pos (by decide +kernel)]; kernel_rfl) | (rw [if_neg (by decide +kernel)]; exact ⟨rfl, rfl⟩))
    (fun os started H enc _ => lifted os started H enc)
theorem proved : Rows.TableChecksSaid := over
end Go.Proofs.Ytlpmjmanmncmnaa.RowChecks
namespace Go.Proofs.Ytlpmjmanmncmnaa
/-- The law of a table's checks. -/
theorem tableChecks_holds : Rows.TableChecksSaid := RowChecks.proved
end Go.Proofs.Ytlpmjmanmncmnaa
