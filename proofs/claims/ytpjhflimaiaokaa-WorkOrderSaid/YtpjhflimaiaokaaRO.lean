/-
The law of the order: whatever the script of pushes, what is popped rises by weight, and by number where weights are one, and nothing comes twice: the law returns true and its argument reads as it did. No condition.
-/
import Derived.Test.YtpjhflimaiaokaaOp
import Derived.Test.YtpjhflimaiaokaaWO
namespace Go.Proofs.Ytpjhflimaiaokaa.RowOrder
open Go.ChangeShapes Go.WideShapes Go.ChangeAt Go.RowKit
open Go.Proofs.YtpjhflimaiaokaaW.PrintWords Go.Proofs.Ytpjhflimaiaokaa.Op Go.Proofs.Ytpjhflimaiaokaa.Lists Go.Proofs.Ytpjhflimaiaokaa.Order

instance : Inhabited Sc := ⟨Sc.z⟩
theorem opens : Opens Try.prog kS 30 (fun _ => True) :=
  (opens_fields3 Try.underlying30 (by kernel_rfl) rfl (by kernel_rfl) rfl (by kernel_rfl) rfl (by kernel_rfl) (opens_bool Try.underlying4) (opens_int Try.underlying3) (opens_int Try.underlying3)).iso (fun x => ⟨x.1, x.2.1, x.2.2⟩) (fun _ => rfl) (fun _ _ => trivial)
set_option maxRecDepth 100000 in
theorem lifted (os : Os) (started : os.Started) (H : Type) (enc : TypeId × Value → H) :
    ReturnsInHanded {} Try.checked os 4 .any (Rows.workOrderSpec.pre6 enc Try.prog Try.f4 Rows.workOrderRow.domain false) (Rows.workOrderSpec.post enc Try.prog Try.f4 false true false false) := by
  refine returnsInHanded_of_change_sized (C := Try.checked) own started (by kernel_rfl) Try.func4
    (ChangeSpec.witness6 (enc := enc) (C := Try.checked) false ⟨#[], #[.slice none 0 0], []⟩ 8 (by kernel_rfl) (by kernel_rfl) (by kernel_rfl) (by kernel_rfl)) ?_
  intro W base args ds gs before hval0 hW _ _ _
  have hval : ∀ (j : Nat) t v, Try.f4.params[j]? = some t → args[j]? = some v → Value.okWide Try.prog W .any base t v := hval0
  have hW' := hW
  obtain ⟨p, q, hA0, hV, rfl, _, _⟩ := hW
  have hA : DataW.TrodAll enc Try.prog W 0 (fun _ => true) true Try.f4.params.toList args.toList ds p := hA0
  have hA1 := hA
  rw [Try.params4] at hA hA1 hval
  obtain ⟨v0, vs0, d0, ds0, p0, q0, hargs, rfl, rfl, h0, r0⟩ := trodAll_cons hA
  obtain ⟨rfl, rfl, rfl⟩ := trodAll_nil r0
  obtain rfl : args = #[v0] := by cases args; simp_all
  obtain ⟨rfl, rfl⟩ := trodVars_none hV
  obtain ⟨A, c, xs, rfl, _, _, _, hC⟩ := slice_arg Try.underlying22 (by kernel_rfl) opens (hval 0 22 v0 rfl rfl) h0
  clear hA0 hval0
  refine (Order.law_calls W A c xs hC).mono fun e W' ⟨he, bel⟩ => ?_
  subst he
  exact ⟨_, rfl, _, _, _, [], _, [], hW', trodAll_mk1 (shut_bool Try.underlying4 _), all_below laidOut bel _ _ _ _ (by kernel_rfl) hA1, rfl, bel.frame _, fun h => by cases h⟩
theorem over : Rows.workOrderRow.holds Try.pinned (OpenSpec.ofChange Rows.workOrderSpec) :=
  OpenClaim.holds_of_wide 4 Try.f4 rfl rfl rfl rfl rfl rfl rfl ⟨rfl, rfl, rfl, rfl, rfl⟩ rfl rfl rfl rfl rfl (by kernel_rfl) Try.func4 (by kernel_rfl)
    (of_decide_eq_true (by kernel_rfl)) (by unfold Func.isWrapper; first | (rw [if_pos (by decide +kernel)]; kernel_rfl) | (rw [if_neg (by decide +kernel)]; exact ⟨rfl, rfl⟩))
    (fun os started H enc _ => lifted os started H enc)
theorem proved : Rows.WorkOrderSaid := over
#print axioms proved
end Go.Proofs.Ytpjhflimaiaokaa.RowOrder
namespace Go.Proofs.Ytpjhflimaiaokaa
/-- The law of the order. -/
theorem workOrder_holds : Rows.WorkOrderSaid := RowOrder.proved
end Go.Proofs.Ytpjhflimaiaokaa
