/-
The law of lines that are read: whatever kinds, text and lines (together of bulk at most 1048576), both Reads answer the same: the law returns true and its arguments read as they did. The card ties the listed variables to the program's text.
-/
import Derived.Stop.LaidErr
import Derived.Test.YtagokdbpgljgjaaDoorMAZ
import Derived.Test.YtagokdbpgljgjaaDoorMBB
import Derived.Test.YtagokdbpgljgjaaDoorMBC
import Derived.Test.YtagokdbpgljgjaaDoorMAP
set_option linter.unusedSimpArgs false
set_option linter.unusedVariables false
namespace Go.Proofs.YtagokdbpgljgjaaDoor.Tables
open Go.ChangeShapes Go.WideShapes Go.ChangeAt Go.RowKit Go.Proofs.YtagokdbpgljgjaaDoorW.PrintWords
theorem star : "*" ++ "errors.errorString" = "*errors.errorString" := by decide
theorem pes_one (u : TypeId) (h : Tryd.prog.typeName? 3 u = some "*errors.errorString") : u = 149 :=
  typeName_ptr_named (nm := "errors.errorString") (by rw [star]; kernel_rfl) (by kernel_rfl) (by decide) u (by rw [star]; exact h)
set_option maxRecDepth 100000 in
/-- The library's two errors, out of the laid variables. -/
theorem errs_of {W : World} (h : laidMet Tryd.prog laidList W) : Tok.Errs W := by
  have h4 := laid_tail (laid_tail (laid_tail (laid_tail h)))
  obtain ⟨a, _, h1, _⟩ := laid_sentinel h4 (g := 2) (by kernel_rfl) (by kernel_rfl) Tryd.underlying83 pes_one Tryd.underlying149 Tryd.underlying151 rfl rfl Tryd.underlying9 (by kernel_rfl) (by kernel_rfl)
  obtain ⟨b, _, h2, _⟩ := laid_sentinel (laid_tail h4) (g := 1) (by kernel_rfl) (by kernel_rfl) Tryd.underlying83 pes_one Tryd.underlying149 Tryd.underlying151 rfl rfl Tryd.underlying9 (by kernel_rfl) (by kernel_rfl)
  have k1 := World.var?_cell (show Tryd.prog.globalNamed "strconv.ErrRange" = some 2 by kernel_rfl) h1 0
  have k2 := World.var?_cell (show Tryd.prog.globalNamed "strconv.ErrSyntax" = some 1 by kernel_rfl) h2 0
  exact ⟨_, _, k2.trans rfl, .inr ⟨_, _, rfl⟩, k1.trans rfl, .inr ⟨_, _, rfl⟩⟩
end Go.Proofs.YtagokdbpgljgjaaDoor.Tables
namespace Go.Proofs.YtagokdbpgljgjaaDoor.RowReads
open Go.ChangeShapes Go.WideShapes Go.ChangeAt Go.RowKit
open Go.Proofs.YtagokdbpgljgjaaDoorW.PrintWords Go.Proofs.YtagokdbpgljgjaaDoor.Op Go.Proofs.YtagokdbpgljgjaaDoor.Fr Go.Proofs.YtagokdbpgljgjaaDoor.Tables Go.Proofs.YtagokdbpgljgjaaDoor.Tok
set_option maxRecDepth 100000 in
theorem string_barg {H : Type} {enc : TypeId × Value → H} {W : World} {base b0 : Nat} {sp : Nat → Bool} {hd : Bool} {r : Reach} {v : Value} {x : DataW H} {ps : List MemPlace} (hv : Value.okWide Tryd.prog W r b0 9 v) (hx : DataW.Trod enc Tryd.prog W base sp hd 9 v x ps) (hw : Rows.uptoBulk x ≤ 1048576) :
    ∃ s : ByteArray, v = .string s ∧ s.size ≤ 1048576 := by
  obtain ⟨s, rfl⟩ : ∃ s, v = .string s := okWide_string Tryd.underlying9 hv
  obtain ⟨fuel, hf⟩ := hx
  obtain ⟨s', h1, h2, h3⟩ := bopens_string Tryd.underlying9 _ _ _ _ _ _ _ _ _ hf
  have e : [Value.string s] = [Value.string s'] := h3
  injection e with e
  injection e with e
  subst e
  have h2' : s.size + 1 ≤ Rows.uptoBulk x := h2
  exact ⟨_, rfl, by omega⟩
set_option maxRecDepth 100000 in
/-- What the walk gives, for every argument. -/
theorem contract (H : Type) (enc : TypeId × Value → H) (W : World) (base : Nat) (args : Array Value) (ds gs : List (DataW H)) (before : List MemPlace)
    (hval : ∀ (j : Nat) t v, Tryd.f5.params[j]? = some t → args[j]? = some v → Value.okWide Tryd.prog W .any base t v)
    (hW : DataW.Whole enc Tryd.prog Tryd.f5.params.toList Rows.tokenReadsSpec.vars false W args.toList ds gs before)
    (hk : Rows.uptoSmall H (ds ++ gs) = true) (hO : W.ShapedOpen Tryd.prog) (hP : Pow W) (hE : Errs W) :
    Calls Tryd.prog 5 args W fun e W' => ∃ v, e = .returned v ∧ Rows.tokenReadsSpec.post enc Tryd.prog Tryd.f5 false true false false W args v W' := by
  have hkb := bulk_bound hk
  have hW' := hW
  obtain ⟨p, q, hA0, hV, rfl, _, _⟩ := hW
  have hA : DataW.TrodAll enc Tryd.prog W 0 (fun _ => true) true Tryd.f5.params.toList args.toList ds p := hA0
  have hA1 := hA
  rw [Tryd.params5] at hA hA1 hval
  obtain ⟨v0, vs0, d0, ds0, p0, q0, hargs, rfl, rfl, h0, r0⟩ := trodAll_cons hA
  obtain ⟨v1, vs1, d1, ds1, p1, q1, rfl, rfl, rfl, h1, r1⟩ := trodAll_cons r0
  obtain ⟨v2, vs2, d2, ds2, p2, q2, rfl, rfl, rfl, h2, r2⟩ := trodAll_cons r1
  obtain ⟨rfl, rfl, rfl⟩ := trodAll_nil r2
  obtain rfl : args = #[v0, v1, v2] := by cases args; simp_all
  obtain ⟨rfl, rfl⟩ := trodVars_none hV
  simp only [List.append_nil, Rows.uptoBulkAll] at hkb
  obtain ⟨A, c, ns, rfl, hc, _, hs, hC⟩ := slice_barg (d := Kd.string) Tryd.underlying22 (by kernel_rfl) (bopens_string Tryd.underlying9) (hval 0 22 v0 rfl rfl) h0
  obtain ⟨src, rfl, hsr⟩ := string_barg (hval 1 9 v1 rfl rfl) h1 (by omega)
  obtain ⟨X, rfl, hX⟩ := string_barg (hval 2 9 v2 rfl rfl) h2 (by omega)
  clear hA0 hval hk hkb
  refine (reads_calls W ns A c hC hc hs src (by omega) X (by omega) hE hP (Go.Proofs.YtagokdbpgljgjaaDoor.Tables.mx hO)).mono fun e W' ⟨he, hF⟩ => ?_
  have bel := hF.to_below
  subst he
  exact ⟨_, rfl, _, _, _, [], _, [], hW', trodAll_mk1 (shut_bool Tryd.underlying4 _), all_below laidOut bel _ _ _ _ (by kernel_rfl) hA1, rfl, bel.frame _, fun h => by cases h⟩
theorem laid_met (os : Os) : laidMet Tryd.prog laidList ((world os).forCall (fun _ _ => 0) ⟨#[], #[.slice none 0 0, .string ⟨#[]⟩, .string ⟨#[]⟩], []⟩).memory :=
  laidMet_of_run' 8 (by kernel_rfl) (by kernel_rfl)
theorem reads (os : Os) {H : Type} (enc : TypeId × Value → H) : ∃ ds places, DataW.whole enc Tryd.prog ((world os).forCall (fun _ _ => 0) ⟨#[], #[.slice none 0 0, .string ⟨#[]⟩, .string ⟨#[]⟩], []⟩).memory Tryd.f5.params.toList Rows.tokenReadsSpec.vars false #[Value.slice none 0 0, .string ⟨#[]⟩, .string ⟨#[]⟩].toList 8 = some (ds, [], places) ∧ Rows.uptoSmall H ds = true :=
  ⟨[.nil, .lit (.string []), .lit (.string [])], [], by kernel_rfl, by kernel_rfl⟩
set_option maxRecDepth 100000 in
theorem lifted (os : Os) (started : os.Started) (H : Type) (enc : TypeId × Value → H) (F : Stop.Interp) :
    ReturnsInHanded {} Tryd.checked os 5 .any ((Rows.OpenSpec.upto Rows.tokenReadsSpec).preRow enc Tryd.prog Tryd.f5 Rows.tokenReadsUptoRow.domain false Rows.tokenReadsUptoRow.laid) (((Rows.OpenSpec.upto Rows.tokenReadsSpec).at F).post enc Tryd.prog Tryd.f5 false true false false) := by
  obtain ⟨ds, places, hx, hsm⟩ := reads os enc
  refine returnsInHanded_of_row (C := Tryd.checked) (s := Rows.OpenSpec.upto Rows.tokenReadsSpec) own started (by kernel_rfl) Tryd.func5
    (witness_row_at (enc := enc) (C := Tryd.checked) false (world os) #[.slice none 0 0, .string ⟨#[]⟩, .string ⟨#[]⟩] rfl (by kernel_rfl) (by kernel_rfl) (by kernel_rfl)
      (OpenSpec.preRow_of_cond 8 hx (by kernel_rfl) (fun k hk => by cases hk; show Rows.uptoSmall H (ds ++ []) = true; rw [List.append_nil]; exact hsm) (by kernel_rfl) (laid_met os))) ?_
  intro W base args ds gs before hval hW _ hcond _ hL hO _
  exact contract H enc W base args ds gs before hval hW (hcond _ rfl) hO (pow_of hL) (errs_of hL)
set_option maxRecDepth 100000 in
theorem said : Rows.TokenReadsUptoSaid :=
  OpenClaim.holds_of_cond 5 Tryd.f5 rfl rfl rfl rfl rfl rfl rfl ⟨rfl, rfl, rfl, rfl, rfl⟩ rfl rfl rfl rfl rfl (by kernel_rfl) Tryd.func5 (by kernel_rfl)
    (of_decide_eq_true (by kernel_rfl)) (by unfold Func.isWrapper; first | (rw [if_pos (by decide +kernel)]; kernel_rfl) | (rw [if_neg (by decide +kernel)]; exact ⟨rfl, rfl⟩))
    (fun os started H enc _ F => by rw [OpenClaim.pre_eq_preRow]; exact lifted os started H enc F)
theorem plain (f : FuncId) (fn : Func) (hf : Tryd.pinned.checked.prog.funcNamed "quoin/quoinlaw07.TokenReads" = some f) (hfn : Tryd.pinned.checked.prog.funcs[f]? = some fn) :
    true = Tryd.pinned.checked.prog.looks [] ∧ ∀ (j : Nat) t, fn.params[j]? = some t → Tryd.pinned.checked.prog.wantsStandIn t = false := by
  obtain rfl : f = 5 := Option.some.inj ((show Tryd.prog.funcNamed "quoin/quoinlaw07.TokenReads" = some 5 by kernel_rfl).symm.trans hf) |>.symm
  obtain rfl : fn = Tryd.f5 := (Option.some.inj (Tryd.func5.symm.trans hfn)).symm
  refine ⟨by kernel_rfl, fun j t ht => ?_⟩
  rw [Tryd.params5] at ht
  have hm : t = 22 ∨ t = 9 ∨ t = 9 := by simpa using Array.mem_of_getElem? ht
  rcases hm with rfl | rfl | rfl
  · exact (show Tryd.prog.wantsStandIn 22 = false by kernel_rfl)
  · exact (show Tryd.prog.wantsStandIn 9 = false by kernel_rfl)
  · exact (show Tryd.prog.wantsStandIn 9 = false by kernel_rfl)
/-- The card. -/
theorem card : Rows.TokenReadsUptoCardSaid :=
  Claim7.holds_tied_plain_at .later [] _ _ _ _ said (fun _ h => by cases h) (by kernel_rfl) (fun _ h => by cases h) tokenReadsUpto_row_tie rfl ⟨rfl, rfl⟩ (by kernel_rfl) rfl plain (by kernel_rfl)
#print axioms card
end Go.Proofs.YtagokdbpgljgjaaDoor.RowReads
namespace Go.Proofs.YtagokdbpgljgjaaDoor
end Go.Proofs.YtagokdbpgljgjaaDoor
