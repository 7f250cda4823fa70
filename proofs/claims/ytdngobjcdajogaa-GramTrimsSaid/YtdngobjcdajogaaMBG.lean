/-
The law of trimming: whatever the grammar, Trim and Lines answer as the document's do: the law returns true and its argument reads as it did. No condition.
-/
import Derived.Test.YtdngobjcdajogaaMAH
import Derived.Test.YtdngobjcdajogaaMBF
set_option linter.unusedSimpArgs false
set_option linter.unusedVariables false
namespace Go.Proofs.Ytdngobjcdajogaa.RowTrims
open Go.ChangeShapes Go.WideShapes Go.ChangeAt Go.RowKit
open Go.Proofs.YtdngobjcdajogaaW.PrintWords Go.Proofs.Ytdngobjcdajogaa.Op Go.Proofs.Ytdngobjcdajogaa.Fr Go.Proofs.Ytdngobjcdajogaa.Gram Go.Proofs.Ytdngobjcdajogaa.OpPlain
set_option maxRecDepth 100000 in
theorem lifted (os : Os) (started : os.Started) (H : Type) (enc : TypeId × Value → H) :
 ReturnsInHanded {} Try.checked os 7 .any (Rows.gramTrimsSpec.pre6 enc Try.prog Try.f7 Rows.gramTrimsRow.domain false) (Rows.gramTrimsSpec.post enc Try.prog Try.f7 false true false false) := by
 refine returnsInHanded_of_change_sized (C := Try.checked) own started (by kernel_rfl) Try.func7
  (ChangeSpec.witness6 (enc := enc) (C := Try.checked) false ⟨#[], #[.agg #[.slice none 0 0, .slice none 0 0, .slice none 0 0, .slice none 0 0, .int .i64 0]], []⟩ 8 (by kernel_rfl) (by kernel_rfl) (by kernel_rfl) (by kernel_rfl)) ?_
 intro W base args ds gs before hval0 hW _ hsz0 _; have hval : ∀ (j : Nat) t v, Try.f7.params[j]? = some t → args[j]? = some v → Value.okWide Try.prog W .any base t v := hval0; have hW' := hW; obtain ⟨p, q, hA0, hV, rfl, _, _⟩ := hW; have hA : DataW.TrodAll enc Try.prog W 0 (fun _ => true) true Try.f7.params.toList args.toList ds p := hA0; have hA1 := hA; rw [Try.params7] at hA hA1 hval; obtain ⟨v0, vs0, d0, ds0, p0, q0, hargs, rfl, rfl, h0, r0⟩ := trodAll_cons hA; obtain ⟨rfl, rfl, rfl⟩ := trodAll_nil r0; obtain rfl : args = #[v0] := by cases args; simp_all
 obtain ⟨rfl, rfl⟩ := trodVars_none hV; obtain ⟨G, A0, A1, A2, A3, c0, c1, c2, c3, rfl, hG⟩ := plain_arg (hval 0 26 v0 rfl rfl) h0; clear hA0 hval0 hsz0; refine (trims_calls W G A0 A1 A2 A3 c0 c1 c2 c3 hG).mono fun e W' ⟨he, hF⟩ => ?_
 have bel := hF.to_below; subst he; exact ⟨_, rfl, _, _, _, [], _, [], hW', trodAll_mk1 (shut_bool Try.underlying4 _), all_below laidOut bel _ _ _ _ (by kernel_rfl) hA1, rfl, bel.frame _, fun h => by cases h⟩
theorem over : Rows.gramTrimsRow.holds Try.pinned (OpenSpec.ofChange Rows.gramTrimsSpec) :=
 OpenClaim.holds_of_wide 7 Try.f7 rfl rfl rfl rfl rfl rfl rfl ⟨rfl, rfl, rfl, rfl, rfl⟩ rfl rfl rfl rfl rfl (by kernel_rfl) Try.func7 (by kernel_rfl)
  (of_decide_eq_true (by kernel_rfl)) (by unfold Func.isWrapper; first | (rw [if_pos (by decide +kernel)]; kernel_rfl) | (rw [if_neg (by decide +kernel)]; exact ⟨rfl, rfl⟩))
  (fun os started H enc _ => lifted os started H enc)
theorem proved : Rows.GramTrimsSaid := over
end Go.Proofs.Ytdngobjcdajogaa.RowTrims
namespace Go.Proofs.Ytdngobjcdajogaa
theorem gramTrims_holds : Rows.GramTrimsSaid := RowTrims.proved
end Go.Proofs.Ytdngobjcdajogaa
