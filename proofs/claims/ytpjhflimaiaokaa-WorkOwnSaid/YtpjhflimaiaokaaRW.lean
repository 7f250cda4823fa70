/-
The law of what sets share with their caller: numbers that were handed in or answered may be written over without turning a set: the law returns true and its arguments read as they did. No condition.
-/
import Derived.Test.YtpjhflimaiaokaaOp
import Derived.Test.YtpjhflimaiaokaaON
import Derived.Test.YtpjhflimaiaokaaWSized
namespace Go.Proofs.Ytpjhflimaiaokaa.RowOwn
open Go.ChangeShapes Go.WideShapes Go.ChangeAt Go.RowKit
open Go.Proofs.YtpjhflimaiaokaaW.PrintWords Go.Proofs.Ytpjhflimaiaokaa.Op Go.Proofs.Ytpjhflimaiaokaa.SetW Go.Proofs.Ytpjhflimaiaokaa.Fr

theorem first_lt {W : World} {A : Option Addr} {ys : List Int} (h : kI.C W A ys.length ys) : ∀ ad, A = some ad → 0 < ys.length → ad.block < W.heap.size := by
  intro ad e hp
  obtain ⟨ad', e', hc⟩ := Kd.at_int h 0 (by omega) (by omega)
  rw [e] at e'
  injection e' with e'
  subst e'
  have := World.block_lt_of_cell? W _ hc
  rwa [Fr.add_block] at this
set_option maxRecDepth 100000 in
theorem lifted (os : Os) (started : os.Started) (H : Type) (enc : TypeId × Value → H) :
    ReturnsInHanded {} Try.checked os 5 .any (Rows.workOwnSpec.pre6 enc Try.prog Try.f5 Rows.workOwnRow.domain false) (Rows.workOwnSpec.post enc Try.prog Try.f5 false true false false) := by
  refine returnsInHanded_of_change_sized (C := Try.checked) own started (by kernel_rfl) Try.func5
    (ChangeSpec.witness6 (enc := enc) (C := Try.checked) false ⟨#[], #[.slice none 0 0, .slice none 0 0], []⟩ 8 (by kernel_rfl) (by kernel_rfl) (by kernel_rfl) (by kernel_rfl)) ?_
  intro W base args ds gs before hval0 hW _ hsz0 _
  have hsz : (DataW.weightsEach Try.prog (Try.f5.params.toList ++ Rows.workOwnSpec.plain.varTypes Try.prog) (ds ++ gs)).all (· ≤ reachBytes) = true := hsz0
  have hval : ∀ (j : Nat) t v, Try.f5.params[j]? = some t → args[j]? = some v → Value.okWide Try.prog W .any base t v := hval0
  have hW' := hW
  obtain ⟨p, q, hA0, hV, rfl, _, _⟩ := hW
  have hA : DataW.TrodAll enc Try.prog W 0 (fun _ => true) true Try.f5.params.toList args.toList ds p := hA0
  have hA1 := hA
  rw [Try.params5] at hA hA1 hval hsz
  obtain ⟨v0, vs0, d0, ds0, p0, q0, hargs, rfl, rfl, h0, r0⟩ := trodAll_cons hA
  obtain ⟨v1, vs1, d1, ds1, p1, q1, rfl, rfl, rfl, h1, r1⟩ := trodAll_cons r0
  obtain ⟨rfl, rfl, rfl⟩ := trodAll_nil r1
  obtain rfl : args = #[v0, v1] := by cases args; simp_all
  obtain ⟨rfl, rfl⟩ := trodVars_none hV
  obtain ⟨A, c, xs, rfl, _, _, _, hC⟩ := slice_arg Try.underlying50 (by kernel_rfl) (opens_int Try.underlying3) (hval 0 50 v0 rfl rfl) h0
  obtain ⟨A', c', ys, rfl, _, _, _, hC'⟩ := slice_arg Try.underlying50 (by kernel_rfl) (opens_int Try.underlying3) (hval 1 50 v1 rfl rfl) h1
  have y0 : xs.length * 8 ≤ 140737488351232 := sized_ints hsz (j := 0) (t := 50) rfl rfl Try.underlying50 Try.underlying3 (by kernel_rfl) (by kernel_rfl) h0
  clear hA0 hval0 hsz0 hsz
  refine (OwnLaw.law_calls W A c xs A' c' ys hC hC' y0 (first_lt hC')).mono fun e W' ⟨he, bel⟩ => ?_
  subst he
  exact ⟨_, rfl, _, _, _, [], _, [], hW', trodAll_mk1 (shut_bool Try.underlying4 _), all_below laidOut bel _ _ _ _ (by kernel_rfl) hA1, rfl, bel.frame _, fun h => by cases h⟩
theorem over : Rows.workOwnRow.holds Try.pinned (OpenSpec.ofChange Rows.workOwnSpec) :=
  OpenClaim.holds_of_wide 5 Try.f5 rfl rfl rfl rfl rfl rfl rfl ⟨rfl, rfl, rfl, rfl, rfl⟩ rfl rfl rfl rfl rfl (by kernel_rfl) Try.func5 (by kernel_rfl)
    (of_decide_eq_true (by kernel_rfl)) (by unfold Func.isWrapper; first | (rw [if_pos (by decide +kernel)]; kernel_rfl) | (rw [if_neg (by decide +kernel)]; exact ⟨rfl, rfl⟩))
    (fun os started H enc _ => lifted os started H enc)
theorem proved : Rows.WorkOwnSaid := over
#print axioms proved
end Go.Proofs.Ytpjhflimaiaokaa.RowOwn
namespace Go.Proofs.Ytpjhflimaiaokaa
/-- The law of what sets share with their caller. -/
theorem workOwn_holds : Rows.WorkOwnSaid := RowOwn.proved
end Go.Proofs.Ytpjhflimaiaokaa
