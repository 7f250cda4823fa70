/-
Two rows that come to a table in one statement, in whatever order: what each step leaves.
-/
import Derived.Test.YtlpmjmanmncmnaaR1XG
import Derived.Test.YtlpmjmanmncmnaaR1TK
set_option linter.unusedSimpArgs false
set_option linter.unusedVariables false
namespace Go.Proofs.Ytlpmjmanmncmnaa.Tab
open Go.RowKit Go.Maps Go.Proofs.YtlpmjmanmncmnaaW.PrintWords Go.Proofs.YtlpmjmanmncmnaaW.PrintLast Go.Proofs.YtlpmjmanmncmnaaW.PrintMore Go.Proofs.Ytlpmjmanmncmnaa.Fr Go.Proofs.Ytlpmjmanmncmnaa.PT
/-- The table's block t as it was, its lists u and v as they have grown, and the rows that come, above bs. -/
structure TwoR (W : World) (t bs : Nat) (vm vg u v : Value) (LM : List (List S48)) (LG : List (List Int)) (VM VG : Value) (ms : List S48) (gs : List Int) : Prop where
  blk : W.heap[t]? = some (.cells #[vm, vg] 25 (0, 0))
  m : (Kd.slice 48 k48).R 38 W (t + 1) (fun k => t + 1 ≤ k) u LM
  g : (Kd.slice 3 (Kd.int .i64)).R 39 W (t + 1) (fun k => t + 1 ≤ k) v LG
  xm : k48.R 48 W (t + 1) (fun k => bs ≤ k) VM ms
  xg : (Kd.int .i64).R 3 W (t + 1) (fun k => bs ≤ k) VG gs
section
variable {W w1 : World} {t bs : Nat} {vm vg u v v1 : Value} {LM LM1 : List (List S48)} {LG LG1 : List (List Int)} {VM VG : Value} {ms : List S48} {gs : List Int}
theorem TwoR.alloc (h : TwoR W t bs vm vg u v LM LG VM VG ms gs) (o : Obj) : TwoR (W.alloc o) t bs vm vg u v LM LG VM VG ms gs :=
  ⟨blk_alloc h.blk o, Kd.R_alloc h.m o, Kd.R_alloc h.g o, Kd.R_alloc h.xm o, Kd.R_alloc h.xg o⟩
theorem TwoR.appM (h : TwoR W t bs vm vg vm v LM LG VM VG ms gs) (hg : W.grownBy w1 vm.ownBlock) (h1 : (Kd.slice 48 k48).R 38 w1 (t + 1) (fun k => t + 1 ≤ k) v1 LM1) (hb : ∀ k, vm.ownBlock = some k → k < bs) : TwoR w1 t bs vm vg v1 v LM1 LG VM VG ms gs :=
  ⟨blk_grown h.blk hg (Kd.R_ne h.m h.blk (by decide)), h1, Kd.R_over h.g h.m neGM hg, Kd.R_step h.xm (fun k hk hl => hg.block k hl (fun e => by have := hb k e.symm; omega)), Kd.R_step h.xg (fun k hk hl => hg.block k hl (fun e => by have := hb k e.symm; omega))⟩
theorem TwoR.appG (h : TwoR W t bs vm vg u vg LM LG VM VG ms gs) (hg : W.grownBy w1 vg.ownBlock) (h1 : (Kd.slice 3 (Kd.int .i64)).R 39 w1 (t + 1) (fun k => t + 1 ≤ k) v1 LG1) (hb : ∀ k, vg.ownBlock = some k → k < bs) : TwoR w1 t bs vm vg u v1 LM LG1 VM VG ms gs :=
  ⟨blk_grown h.blk hg (Kd.R_ne h.g h.blk (by decide)), Kd.R_over h.m h.g neMG hg, h1, Kd.R_step h.xm (fun k hk hl => hg.block k hl (fun e => by have := hb k e.symm; omega)), Kd.R_step h.xg (fun k hk hl => hg.block k hl (fun e => by have := hb k e.symm; omega))⟩
theorem TwoR.cells (h : TwoR W t bs vm vg u v LM LG VM VG ms gs) : W.cell? ⟨t, 0, none⟩ = some vm ∧ W.cell? ⟨t, 1, none⟩ = some vg := ⟨(blk_cell h.blk 0).trans rfl, (blk_cell h.blk 1).trans rfl⟩
/-- Both have come. -/
theorem TwoR.out (h : TwoR W t bs vm vg u v LM LG VM VG ms gs) : Out ((W.setCell ⟨t, 0, none⟩ u).setCell ⟨t, 1, none⟩ v) t (t + 1) u v LM LG := by
  have hb := blk_put h.blk 0 u rfl
  refine ⟨blk_put hb 1 v rfl, ?_, ?_⟩
  · exact Kd.R_set (Kd.R_set h.m h.blk ne25m 0 u) hb ne25m 1 v
  · exact Kd.R_set (Kd.R_set h.g h.blk ne25g 0 u) hb ne25g 1 v
end
/-- A slice of one element, built. -/
theorem reads_one {α : Type} {W : World} {q : Nat} {v : Value} {e : TypeId} {p : α} (h : W.heap[q]? = some (.cells #[v] e (0, 0))) : ReadsRow (fun x cs => x = p ∧ cs = [v]) 1 W (some ⟨q, 0, none⟩) 1 [p] := by
  refine ⟨rfl, by decide, fun _ => ⟨_, rfl, fun j y hj => ⟨[v], rfl, ?_, fun i u hu => ?_⟩⟩⟩
  · cases j with
    | zero => exact ⟨by simpa using hj.symm, rfl⟩
    | succ j => simp at hj
  · have hj0 : j = 0 := by
      cases j with
      | zero => rfl
      | succ j => simp at hj
    subst hj0
    cases i with
    | zero => exact (blk_cell h 0).trans (by simpa using hu)
    | succ i => simp at hu
end Go.Proofs.Ytlpmjmanmncmnaa.Tab
