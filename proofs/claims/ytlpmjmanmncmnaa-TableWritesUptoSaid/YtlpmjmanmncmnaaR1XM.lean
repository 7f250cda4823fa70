/-
table.Move at the packed table of one state.
-/
import Derived.Test.YtlpmjmanmncmnaaR1XK
import Derived.Test.YtlpmjmanmncmnaaR1PTC
set_option linter.unusedSimpArgs false
set_option linter.unusedVariables false
namespace Go.Proofs.Ytlpmjmanmncmnaa.Tab
open Go.RowKit Go.Sort Go.Proofs.YtlpmjmanmncmnaaW.PrintWords Go.Proofs.YtlpmjmanmncmnaaW.PrintLast Go.Proofs.YtlpmjmanmncmnaaW.PrintMore Go.Proofs.Ytlpmjmanmncmnaa.Fr Go.Proofs.Ytlpmjmanmncmnaa.PT
theorem cell_one : table_cell.f 5 [0] [-1, -1, -1] 3 0 2 = some (-1) := by kernel_rfl
set_option maxHeartbeats 8000000 in
set_option maxRecDepth 100000 in
theorem move_one (w : World) (gd cB cC cM : Nat) (cd : Nat) (vB vC gM : Option Addr) (r6 r7 r8 : Value) (hd : Kd.C k48 w (some ⟨gd, 0, none⟩) 1 [⟨2, 0⟩]) (hB : (Kd.int .i64).C w vB 1 [0]) (hcB : 1 ≤ cB) (hC : (Kd.int .i64).C w vC 3 [-1, -1, -1]) (hcC : 3 ≤ cC) :
    Calls Try.prog 21 #[.agg #[.int .i64 3, .int .i64 1, .slice (some ⟨gd, 0, none⟩) 1 cd, .slice vB 1 cB, .slice vC 3 cC, .slice gM 3 cM, r6, r7, r8], .int .i64 0, .int .i64 2] w fun e w' => e = .returned (.agg #[.int .i64 2, .int .i64 0]) ∧ Fr (fun _ => False) w w' := by
  have hu2 := Try.underlying41
  have HC := Aside0.mk hC
  have HB := Aside0.mk hB
  obtain ⟨ad, e1, x0, x1⟩ := at_T48 hd 0 (by omega) (by omega)
  obtain rfl : ad = ⟨gd, 0, none⟩ := by injection e1 with e1; exact e1.symm
  have HX0 := Aside0.mk (show w.cell? ⟨gd, 0, none⟩ = some (.int .i64 2) from x0)
  have HX1 := Aside0.mk (show w.cell? ⟨gd, 1, none⟩ = some (.int .i64 0) from x1)
  clear hd hB hC x0 x1 e1
  go_enter Try.func21, Try.ntmps21
  go_upto_region 1 with (fail)
  have HF0 := Aside0.mk (((Fr.refl (fun _ => False) w).alloc (.cells #[.int .i64 3, .int .i64 1, .slice (some ⟨gd, 0, none⟩) 1 cd, .slice vB 1 cB, .slice vC 3 cC, .slice gM 3 cM, r6, r7, r8] 41)).alloc (.cells #[.int .i64 0, .int .i64 0] 48))
  have HB0 := Aside0.mk (blk_alloc (blk_new w (.cells #[.int .i64 3, .int .i64 1, .slice (some ⟨gd, 0, none⟩) 1 cd, .slice vB 1 cB, .slice vC 3 cC, .slice gM 3 cM, r6, r7, r8] 41)) (.cells #[.int .i64 0, .int .i64 0] 48))
  have HR0 := Aside0.mk (blk_new (w.alloc (.cells #[.int .i64 3, .int .i64 1, .slice (some ⟨gd, 0, none⟩) 1 cd, .slice vB 1 cB, .slice vC 3 cC, .slice gM 3 cM, r6, r7, r8] 41)) (.cells #[.int .i64 0, .int .i64 0] 48))
  rw [World.size_alloc] at HR0
  obtain ⟨q0, hq0⟩ : ∃ q0, w.heap.size = q0 := ⟨_, rfl⟩
  have HQ0 := Aside0.mk hq0
  rw [hq0] at HB0 HR0
  simp only [hq0]
  clear hq0
  generalize (w.alloc (.cells #[.int .i64 3, .int .i64 1, .slice (some ⟨gd, 0, none⟩) 1 cd, .slice vB 1 cB, .slice vC 3 cC, .slice gM 3 cM, r6, r7, r8] 41)).alloc (.cells #[.int .i64 0, .int .i64 0] 48) = W0 at HF0 HB0 HR0 ⊢
  have HCC := Aside0.mk (show Calls Try.prog 43 #[.slice vB 1 cB, .slice vC 3 cC, .int .i64 3, .int .i64 0, .int .i64 2] W0 _ from table_cell.calls 5 vB cB [0] vC cC [-1, -1, -1] 3 0 2 (-1) W0 (Kd.C_below HB.out HF0.out.to_below) hcB (Kd.C_below HC.out HF0.out.to_below) hcC cell_one)
  have p0 := (blk_cell HB0.out 0).trans (show _ = some (Value.int .i64 3) from rfl)
  have p2 := (blk_cell HB0.out 2).trans (show _ = some (Value.slice (some ⟨gd, 0, none⟩) 1 cd) from rfl)
  have p3 := (blk_cell HB0.out 3).trans (show _ = some (Value.slice vB 1 cB) from rfl)
  have p4 := (blk_cell HB0.out 4).trans (show _ = some (Value.slice vC 3 cC) from rfl)
  have p5 := (blk_cell HB0.out 5).trans (show _ = some (Value.slice gM 3 cM) from rfl)
  go_wp2_with (go_at_call 43; refine HCC.out.mono ?_; rintro e W1 ⟨rfl, hd⟩; have HF1 := Aside0.mk (HF0.out.drawn' hd); have hD := Fr.drawn (S := fun _ => False) hd; have HB1 := Aside0.mk (hD.blk HB0.out id); have HR1 := Aside0.mk (hD.blk HR0.out id); clear hd hD p0 p2 p3 p4 p5; have p2 := (blk_cell HB1.out 2).trans (show _ = some (Value.slice (some ⟨gd, 0, none⟩) 1 cd) from rfl); have x0 := HF1.out.cell HX0.out id; have x1 := HF1.out.cell HX1.out id; have r0 := (blk_cell HR1.out 0).trans (show _ = some (Value.int .i64 0) from rfl); have r1 := (blk_cell HR1.out 1).trans (show _ = some (Value.int .i64 0) from rfl); have rf0 := blk_frozen HR1.out 0; have rf1 := blk_frozen HR1.out 1)
  have hqn : ¬ (q0 + 1 < w.heap.size) := by have := HQ0.out; omega
  trace_state
  refine bodyPost_ret (v := .agg #[.int .i64 2, .int .i64 0]) (results_cell_row rfl _ _ (q0 + 1) _ _ _ _ rfl (blk_put (blk_put HR1.out 0 (.int .i64 2) rfl) 1 (.int .i64 0) rfl) Try.underlying48 rfl (by kernel_rfl)) rfl ?_
  exact ⟨rfl, (HF1.out.set (g := q0 + 1) (o := 0) _ (fun h => absurd h hqn)).set (g := q0 + 1) (o := 1) _ (fun h => absurd h hqn)⟩
end Go.Proofs.Ytlpmjmanmncmnaa.Tab
