/-
The law of a sound table: whatever the grammar and the table, Sound answers as the reference does: the law returns true and its arguments read as they did. No condition.
-/
import Derived.SizedLaws
import Derived.ChangeSlices
import Derived.Test.YtlpmjmanmncmnaaMBD
import Derived.Test.YtlpmjmanmncmnaaMBF
import Derived.Test.YtlpmjmanmncmnaaMBG
set_option linter.unusedSimpArgs false
set_option linter.unusedVariables false
namespace Go.Proofs.Ytlpmjmanmncmnaa.Tab
open Go.ChangeShapes Go.WideShapes Go.ChangeAt Go.RowKit Go.Proofs.YtlpmjmanmncmnaaW.PrintWords Go.Proofs.Ytlpmjmanmncmnaa.Op Go.Proofs.Ytlpmjmanmncmnaa.Fr Go.Proofs.Ytlpmjmanmncmnaa.PT
set_option maxRecDepth 100000 in
theorem table_arg {H : Type} {enc : TypeId × Value → H} {W : World} {base b0 : Nat} {sp : Nat → Bool} {hd : Bool} {r : Reach} {v : Value} {x : DataW H} {ps : List MemPlace} (hv : Value.okWide Try.prog W r b0 25 v) (hx : DataW.Trod enc Try.prog W base sp hd 25 v x ps) (hw : (x.weights Try.prog 25).all (· ≤ reachBytes) = true) :
    ∃ (T : Tb) (A0 A1 : Option Addr) (c0 c1 : Nat), v = .agg #[.slice A0 T.mv.length c0, .slice A1 T.gt.length c1] ∧ TAt W T A0 A1 c0 c1 := by
  obtain ⟨cs, rfl, _⟩ := okWide_struct Try.underlying25 hv
  obtain ⟨fuel, hf⟩ := hx
  have hf : DataW.trod enc Try.prog W base sp hd fuel 25 cs.toList = some (x, ps) := hf
  obtain ⟨⟨m, g⟩, ⟨hm, hg⟩, hK⟩ := wopens_table _ _ _ _ _ _ _ _ _ hf hw
  obtain ⟨_, _, e, ⟨A0, c0, rfl, l0, C0⟩, ⟨A1, c1, rfl, l1, C1⟩⟩ := hK
  refine ⟨⟨m, g⟩, A0, A1, c0, c1, ?_, ⟨C0, C1, l0, l1⟩⟩
  congr 1
  apply Array.ext'
  rw [e]
  rfl
end Go.Proofs.Ytlpmjmanmncmnaa.Tab
namespace Go.Proofs.Ytlpmjmanmncmnaa.RowSounds
open Go.ChangeShapes Go.WideShapes Go.ChangeAt Go.RowKit
open Go.Proofs.YtlpmjmanmncmnaaW.PrintWords Go.Proofs.Ytlpmjmanmncmnaa.Op Go.Proofs.Ytlpmjmanmncmnaa.Fr Go.Proofs.Ytlpmjmanmncmnaa.Tab Go.Proofs.Ytlpmjmanmncmnaa.OpPlain
set_option maxRecDepth 100000 in
theorem lifted (os : Os) (started : os.Started) (H : Type) (enc : TypeId × Value → H) :
    ReturnsInHanded {} Try.checked os 9 .any (Rows.tableSoundsSpec.pre6 enc Try.prog Try.f9 Rows.tableSoundsRow.domain false) (Rows.tableSoundsSpec.post enc Try.prog Try.f9 false true false false) := by
  refine returnsInHanded_of_change_sized (C := Try.checked) own started (by kernel_rfl) Try.func9
    (ChangeSpec.witness6 (enc := enc) (C := Try.checked) false ⟨#[], #[.agg #[.slice none 0 0, .slice none 0 0, .slice none 0 0, .slice none 0 0, .int .i64 0], .agg #[.slice none 0 0, .slice none 0 0]], []⟩ 8 (by kernel_rfl) (by kernel_rfl) (by kernel_rfl) (by kernel_rfl)) ?_
  intro W base args ds gs before hval0 hW _ hsz0 _
  have hsz : (DataW.weightsEach Try.prog (Try.f9.params.toList ++ Rows.tableSoundsSpec.plain.varTypes Try.prog) (ds ++ gs)).all (· ≤ reachBytes) = true := hsz0
  have hval : ∀ (j : Nat) t v, Try.f9.params[j]? = some t → args[j]? = some v → Value.okWide Try.prog W .any base t v := hval0
  have hW' := hW
  obtain ⟨p, q, hA0, hV, rfl, _, _⟩ := hW
  have hA : DataW.TrodAll enc Try.prog W 0 (fun _ => true) true Try.f9.params.toList args.toList ds p := hA0
  have hA1 := hA
  rw [Try.params9] at hA hA1 hval hsz
  obtain ⟨v0, vs0, d0, ds0, p0, q0, hargs, rfl, rfl, h0, r0⟩ := trodAll_cons hA
  obtain ⟨v1, vs1, d1, ds1, p1, q1, rfl, rfl, rfl, h1, r1⟩ := trodAll_cons r0
  obtain ⟨rfl, rfl, rfl⟩ := trodAll_nil r1
  obtain rfl : args = #[v0, v1] := by cases args; simp_all
  obtain ⟨rfl, rfl⟩ := trodVars_none hV
  have hw : (d1.weights Try.prog 25).all (· ≤ reachBytes) = true := by
    have h9 := hsz
    simp only [List.cons_append, DataW.weightsEach, List.all_append, Bool.and_eq_true] at h9
    exact h9.2.1
  obtain ⟨G, A0, A1, A2, A3, c0, c1, c2, c3, rfl, hG⟩ := plain_arg (hval 0 72 v0 rfl rfl) h0
  obtain ⟨T, B0, B1, e0, e1, rfl, hT⟩ := table_arg (hval 1 25 v1 rfl rfl) h1 hw
  clear hA0 hval0 hsz0 hsz hw
  refine (sounds_calls W T G B0 B1 e0 e1 hT A0 A1 A2 A3 c0 c1 c2 c3 hG).mono fun e W' ⟨he, hF⟩ => ?_
  have bel := hF.to_below
  subst he
  exact ⟨_, rfl, _, _, _, [], _, [], hW', trodAll_mk1 (shut_bool Try.underlying4 _), all_below laidOut bel _ _ _ _ (by kernel_rfl) hA1, rfl, bel.frame _, fun h => by cases h⟩
theorem over : Rows.tableSoundsRow.holds Try.pinned (OpenSpec.ofChange Rows.tableSoundsSpec) :=
  OpenClaim.holds_of_wide 9 Try.f9 rfl rfl rfl rfl rfl rfl rfl ⟨rfl, rfl, rfl, rfl, rfl⟩ rfl rfl rfl rfl rfl (by kernel_rfl) Try.func9 (by kernel_rfl)
    (of_decide_eq_true (by kernel_rfl)) (by unfold Func.isWrapper; first | (rw [if_pos (by decide +kernel)]; kernel_rfl) | (rw [if_neg (by decide +kernel)]; exact ⟨rfl, rfl⟩))
    (fun os started H enc _ => lifted os started H enc)
theorem proved : Rows.TableSoundsSaid := over
end Go.Proofs.Ytlpmjmanmncmnaa.RowSounds
namespace Go.Proofs.Ytlpmjmanmncmnaa
/-- The law of a sound table. -/
theorem tableSounds_holds : Rows.TableSoundsSaid := RowSounds.proved
end Go.Proofs.Ytlpmjmanmncmnaa
