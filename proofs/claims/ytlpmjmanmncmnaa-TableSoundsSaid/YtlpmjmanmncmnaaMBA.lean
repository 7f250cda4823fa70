/-
table.laid at one row.
-/
import Derived.Deep.DeepMust
import Derived.Outline
import Derived.Test.YtlpmjmanmncmnaaMAZ
set_option linter.unusedSimpArgs false
set_option linter.unusedVariables false
namespace Go.Proofs.Ytlpmjmanmncmnaa.Tab
open Go.RowKit Go.Sort Go.Proofs.YtlpmjmanmncmnaaW.PrintWords Go.Proofs.YtlpmjmanmncmnaaW.PrintLast Go.Proofs.YtlpmjmanmncmnaaW.PrintMore Go.Proofs.Ytlpmjmanmncmnaa.Fr Go.Proofs.Ytlpmjmanmncmnaa.PT
set_option maxHeartbeats 4000000 in
set_option maxRecDepth 100000 in
/-- A row without columns. -/
theorem laid_none (w : World) (A : Nat) (c : Nat) (RA : Option Addr) (rc : Nat) (hA : A < w.heap.size) (ha : w.cell? ⟨A, 0, none⟩ = some (.slice RA 0 rc)) :
    Calls Try.prog 41 #[.slice (some ⟨A, 0, none⟩) 1 c, .int .i64 3] w fun e w' => ∃ vg vc, e = .returned (.tuple #[vg, vc]) ∧ (Kd.int .i64).R 3 w' w.heap.size (fun _ => True) vg [0] ∧ (Kd.int .i64).R 3 w' w.heap.size (fun _ => True) vc [-1, -1, -1] ∧ Fr (fun _ => False) w w' := by
  have hu := Try.underlying23
  go_enter Try.func41, Try.ntmps41
  go_upto_region 1 with (fail)
  have HF0 := Aside0.mk ((Fr.refl (fun _ => False) w).alloc (.cells #[.slice (some ⟨A, 0, none⟩) 1 c] 23))
  have HB0 := Aside0.mk (blk_new w (.cells #[.slice (some ⟨A, 0, none⟩) 1 c] 23))
  obtain ⟨q0, hq0⟩ : ∃ q0, w.heap.size = q0 := ⟨_, rfl⟩
  have HQ0 := Aside0.mk hq0
  have HA := Aside0.mk hA
  have HAC := Aside0.mk ha
  simp only [hq0] at HB0 ⊢
  have hs0 : q0 < (w.alloc (.cells #[.slice (some ⟨A, 0, none⟩) 1 c] 23)).heap.size := by rw [World.size_alloc]; omega
  clear hq0 hA ha
  generalize w.alloc (.cells #[.slice (some ⟨A, 0, none⟩) 1 c] 23) = W0 at HF0 HB0 hs0 ⊢
  have b0 := (blk_cell HB0.out 0).trans (show _ = some (Value.slice (some ⟨A, 0, none⟩) 1 c) from rfl)
  go_upto_region 2 with (at_make; refine Kd.R_make (Kd.int .i64) (w0 := W0) (W := W0) W0.heap.size 3 rfl (N := 15) rfl 39 _ _ rfl (1 : Int) rfl rfl Try.underlying39 (.int .i64 0) 8 info3 rfl (by decide) (by omega) 0 (ok := fun _ => True) (okp := fun _ => True) rfl (fun _ hk => hk) trivial (by omega) (by omega) (Below.refl _ _) (Nat.le_refl _) ?_; intro v1 W1 h1 hB1 hg1 hb1; have HO1 := Aside0.mk (show (Kd.int .i64).R 3 W1 W0.heap.size (fun _ => True) v1 [0] from h1); have HF1 := Aside0.mk (show Fr (fun _ => False) W0 W1 from Fr.of_below hB1); clear h1 hB1 hg1 hb1; obtain ⟨gn, cn, rfl, hgb, hgl⟩ := Kd.R_form HO1.out (by simp); have HGB := Aside0.mk hgb; have HGL := Aside0.mk hgl; clear hgb hgl; rw [show ([0] : List Int).length = 1 from rfl] at HO1 ⊢)
  go_upto_region 5 with (fail)
  have HF2 := Aside0.mk (show Fr (fun _ => False) w (W1.alloc (.cells #[.slice (some ⟨gn, 0, none⟩) 1 cn] 39)) from (HF0.out.trans HF1.out (fun _ _ h => h)).alloc _)
  have HB2 := Aside0.mk ((Fr.refl (fun _ => False) W1).alloc (.cells #[.slice (some ⟨gn, 0, none⟩) 1 cn] 39) |>.blk (HF1.out.blk HB0.out id) id)
  have HC2 := Aside0.mk (blk_new W1 (.cells #[.slice (some ⟨gn, 0, none⟩) 1 cn] 39))
  have HO2 := Aside0.mk (Kd.R_step HO1.out (fun k _ hk => ((Fr.refl (fun _ => False) W1).alloc (.cells #[.slice (some ⟨gn, 0, none⟩) 1 cn] 39)).block k hk id))
  have hs1 : W0.heap.size ≤ W1.heap.size := HF1.out.size
  have hgl := HGL.out.1
  obtain ⟨q2, hq2⟩ : ∃ q2, W1.heap.size = q2 := ⟨_, rfl⟩
  simp only [hq2] at HC2 ⊢
  have hs2 : q2 < (W1.alloc (.cells #[.slice (some ⟨gn, 0, none⟩) 1 cn] 39)).heap.size := by rw [World.size_alloc]; omega
  generalize W1.alloc (.cells #[.slice (some ⟨gn, 0, none⟩) 1 cn] 39) = W2 at HF2 HB2 HC2 HO2 hs2 ⊢
  have HGN := Aside0.mk (show w.heap.size < gn by have := HF0.out.size; have := HQ0.out; have := HGB.out; omega)
  clear HF0 HB0 HF1 HO1
  have c0 := (blk_cell HC2.out 0).trans (show _ = some (Value.slice (some ⟨gn, 0, none⟩) 1 cn) from rfl)
  obtain ⟨g0, gf⟩ := Kd.R_celln (0 : Int) HO2.out 0 (by omega) (by omega)
  simp only [Int.toNat_zero] at g0 gf
  replace g0 : W2.cell? ⟨gn, 0, none⟩ = some (.int .i64 0) := g0
  refine wp_loop_rounds 2 ?_
  rw [rounds_succ]
  go_wp2_with (fail)
  have hgn := HGN.out
  have hgb := HGB.out
  have HX := (Fr.refl (fun k => k = gn) W2).set (g := gn) (o := 0) (Value.int .i64 0) (fun _ => rfl)
  have HF3 := Aside0.mk (HF2.out.set (g := gn) (o := 0) (Value.int .i64 0) (fun h => absurd h (by show ¬ gn < w.heap.size; omega)))
  have HB3 := Aside0.mk (HX.blk HB2.out (by omega))
  have HC3 := Aside0.mk (HX.blk HC2.out (by omega))
  have HO3 := Aside0.mk (Kd.R_putn HO2.out 0 0)
  simp only [Int.toNat_zero] at HO3
  clear HX HF2 HB2 HC2 HO2 c0 b0 g0 gf
  generalize W2.setCell ⟨gn, 0, none⟩ (Value.int .i64 0) = W3 at HF3 HB3 HC3 HO3 ⊢
  rw [rounds_succ]
  have b0 := (blk_cell HB3.out 0).trans (show _ = some (Value.slice (some ⟨A, 0, none⟩) 1 c) from rfl)
  have c0 := (blk_cell HC3.out 0).trans (show _ = some (Value.slice (some ⟨gn, 0, none⟩) 1 cn) from rfl)
  go_upto_region 8 with (go_at_call 56; refine (sort_one _ _ _ _ _ _).mono ?_; rintro e w4 ⟨rfl, os, rfl⟩)
  have HG4 := Aside0.mk (grow_fr W3 os)
  have HF4 := Aside0.mk (HF3.out.trans HG4.out (fun _ _ h => h))
  have HB4 := Aside0.mk (HG4.out.blk HB3.out id)
  have HC4 := Aside0.mk (HG4.out.blk HC3.out id)
  have HO4 := Aside0.mk (Kd.R_step HO3.out (fun k _ hk => HG4.out.block k hk id))
  have hs4 : q2 < (grow W3 os).heap.size := blk_lt HC4.out
  have hgn4 : gn < (grow W3 os).heap.size := (Kd.R_form HO4.out (by simp)).elim fun _ h => h.elim fun _ h => by have e := h.1; injection e with e1 _ _; injection e1 with e2; injection e2 with e3 _ _; subst e3; exact h.2.2.1
  clear HG4 HF3 HB3 HC3 HO3 b0 c0
  generalize grow W3 os = W4 at HF4 HB4 HC4 HO4 hs4 hgn4 ⊢
  have b0 := (blk_cell HB4.out 0).trans (show _ = some (Value.slice (some ⟨A, 0, none⟩) 1 c) from rfl)
  have c0 := (blk_cell HC4.out 0).trans (show _ = some (Value.slice (some ⟨gn, 0, none⟩) 1 cn) from rfl)
  go_upto_region 9 with (at_make; refine Kd.R_make (Kd.int .i64) (w0 := W4) (W := W4) W4.heap.size 3 rfl (N := 32) rfl 39 _ _ rfl (1 : Int) rfl rfl Try.underlying39 (.int .i64 0) 8 info3 rfl (by decide) (by omega) 0 (ok := fun _ => True) (okp := fun _ => True) rfl (fun _ hk => hk) trivial (by omega) (by omega) (Below.refl _ _) (Nat.le_refl _) ?_; intro v5 W5 h1 hB1 hg1 hb1; have HV5 := Aside0.mk (show (Kd.int .i64).R 3 W5 W4.heap.size (fun _ => True) v5 [0] from h1); have HF5 := Aside0.mk (show Fr (fun _ => False) W4 W5 from Fr.of_below hB1); clear h1 hB1 hg1 hb1; obtain ⟨bn, cb, rfl, hbb, hbl⟩ := Kd.R_form HV5.out (by simp); have HBB := Aside0.mk hbb; clear hbb hbl; rw [show ([0] : List Int).length = 1 from rfl] at HV5 ⊢)
  have HF6 := Aside0.mk (HF4.out.trans HF5.out (fun _ _ h => h))
  have HB6 := Aside0.mk (HF5.out.blk HB4.out id)
  have HC6 := Aside0.mk (HF5.out.blk HC4.out id)
  have HO6 := Aside0.mk (Kd.R_step HO4.out (fun k _ hk => HF5.out.block k hk id))
  clear b0 c0 HF4 HB4 HC4 HO4 HF5
  have b0 := (blk_cell HB6.out 0).trans (show _ = some (Value.slice (some ⟨A, 0, none⟩) 1 c) from rfl)
  have c0 := (blk_cell HC6.out 0).trans (show _ = some (Value.slice (some ⟨gn, 0, none⟩) 1 cn) from rfl)
  have a0 := HF6.out.cell HAC.out id
  obtain ⟨g0, gf⟩ := Kd.R_celln (0 : Int) HO6.out 0 (by omega) (by omega)
  obtain ⟨v0, vf⟩ := Kd.R_celln (0 : Int) HV5.out 0 (by omega) (by omega)
  simp only [Int.toNat_zero] at g0 gf v0 vf
  replace g0 : W5.cell? ⟨gn, 0, none⟩ = some (.int .i64 0) := g0
  go_wp2_with (fail)
  refine wp_loop_rounds 2 ?_
  rw [rounds_succ]
  go_wp2_with (fail)
  refine wp_loop_rounds 1 ?_
  rw [rounds_succ]
  go_upto_region 16 with (fail)
  have hbb := HBB.out
  have hq0 := HQ0.out
  have HX := (Fr.refl (fun k => k = bn) W5).set (g := bn) (o := 0) (Value.int .i64 0) (fun _ => rfl)
  have HF7 := Aside0.mk (HF6.out.set (g := bn) (o := 0) (Value.int .i64 0) (fun h => absurd h (by show ¬ bn < w.heap.size; omega)))
  have HB7 := Aside0.mk (HX.blk HB6.out (by omega))
  have HC7 := Aside0.mk (HX.blk HC6.out (by omega))
  have HV7 := Aside0.mk (Kd.R_putn HV5.out 0 0)
  have hs7 : W5.heap.size ≤ (W5.setCell ⟨bn, 0, none⟩ (Value.int .i64 0)).heap.size := HX.size
  simp only [Int.toNat_zero] at HV7
  clear HX HF6 HB6 HC6 HV5 HO6 a0 b0 c0 g0 gf v0 vf
  generalize W5.setCell ⟨bn, 0, none⟩ (Value.int .i64 0) = W7 at HF7 HB7 HC7 HV7 hs7 ⊢
  have b0 := (blk_cell HB7.out 0).trans (show _ = some (Value.slice (some ⟨A, 0, none⟩) 1 c) from rfl)
  have a0 := HF7.out.cell HAC.out id
  go_wp2_with (fail)
  refine wp_loop_rounds 1 ?_
  rw [rounds_succ]
  go_wp2_with (fail)
  rw [rounds_succ]
  go_wp2_with (fail)
  have hF77 := Aside0.mk (Fr.refl (fun _ => False) W7)
  have HN7 := Aside0.mk (show (Kd.int .i64).R 3 W7 W7.heap.size (fun k => W7.heap.size ≤ k) (.slice none 0 0) (List.replicate 0 (-1)) from Kd.R_nil _ _ _ _ _)
  clear b0 a0
  go_loopw [5] (fun a W => ∃ (k : Nat) (RA : Option Addr) (rc : Nat), a = .slice RA k rc ∧ k ≤ 3 ∧ Aside0 ((Kd.int .i64).R 3 W W7.heap.size (fun k => W7.heap.size ≤ k) (.slice RA k rc) (List.replicate k (-1))) ∧ Aside0 (Fr (fun _ => False) W7 W)) (fun a _ => match a with | .slice _ k _ => 3 - k | _ => 0)
  case atStart => exact ⟨0, none, 0, rfl, by omega, HN7, hF77⟩
  case round =>
    clear HN7 hF77
    obtain ⟨k, RA, rc, rfl, hk, HN, HFN⟩ := hrel
    have hsn := HFN.out.size
    have HSN := Aside0.mk hsn
    by_cases hlt : k < 3
    · go_wp2_with (at_builtin; go_must (refine Kd.R_append (Kd.int .i64) (w0 := wr) (W := wr) W7.heap.size rfl (.tmp 91) (.tmp 92) 39 3 (.int .i64 0) 8 rfl Try.underlying39 info3 rfl (by decide) (by decide) (.slice RA k rc) (List.replicate k (-1)) (-1) [.int .i64 (-1)] (fun k => W7.heap.size ≤ k) (fun _ => False) rfl rfl rfl (fun _ hk => hk.elim) (fun _ hk => by have := HSN.out; omega) HN.out (Below.refl _ _) HSN.out (by rw [List.length_replicate]; omega) ?_); intro v8 W8 h8 hB8 hg8 hat8; have HG8 := Aside0.mk (show Fr (fun _ => False) W7 W8 from HFN.out.trans (grown_fr hg8 (b0 := W7.heap.size) (fun j hj => HN.out.1 j hj)) (fun i hi h => by omega)); have HN8 := Aside0.mk h8; clear hg8 hB8 hat8 h8)
      obtain ⟨RA8, rc8, rfl⟩ := Kd.R_slice HN8.out
      have e8 : List.replicate k (-1 : Int) ++ [-1] = List.replicate (k + 1) (-1) := by rw [List.replicate_succ']
      rw [e8] at HN8
      simp only [List.length_replicate, List.length_append, List.length_cons, List.length_nil] at HN8 ⊢
      exact ⟨⟨k + 1, RA8, rc8, rfl, by omega, HN8, HG8⟩, by omega⟩
    · obtain rfl : k = 3 := by omega
      go_wp2_with (fail)
      go_ret2
      exact ⟨_, _, rfl, Kd.R_lower (Kd.R_step HV7.out (fun k _ hk => HFN.out.block k hk id)) (by omega), Kd.R_lower (Kd.R_mono HN.out (fun _ _ => trivial)) (by have := HF7.out.size; have := HQ0.out; omega), HF7.out.trans HFN.out (fun _ _ h => h)⟩
theorem free_one : table_free.f 5 [] [0] 0 = some true := by kernel_rfl
set_option maxHeartbeats 4000000 in
set_option maxRecDepth 100000 in
/-- A row with the column 0. -/
theorem laid_one (w : World) (A : Nat) (c : Nat) (B rc : Nat) (hrc : 1 ≤ rc) (hC : (Kd.int .i64).C w (some ⟨B, 0, none⟩) 1 [0]) (hA : A < w.heap.size) (ha : w.cell? ⟨A, 0, none⟩ = some (.slice (some ⟨B, 0, none⟩) 1 rc)) :
    Calls Try.prog 41 #[.slice (some ⟨A, 0, none⟩) 1 c, .int .i64 1] w fun e w' => ∃ vg vc, e = .returned (.tuple #[vg, vc]) ∧ (Kd.int .i64).R 3 w' w.heap.size (fun _ => True) vg [0] ∧ (Kd.int .i64).R 3 w' w.heap.size (fun _ => True) vc [0] ∧ Fr (fun _ => False) w w' := by
  have hu := Try.underlying23
  go_enter Try.func41, Try.ntmps41
  go_upto_region 1 with (fail)
  have HF0 := Aside0.mk ((Fr.refl (fun _ => False) w).alloc (.cells #[.slice (some ⟨A, 0, none⟩) 1 c] 23))
  have HB0 := Aside0.mk (blk_new w (.cells #[.slice (some ⟨A, 0, none⟩) 1 c] 23))
  obtain ⟨q0, hq0⟩ : ∃ q0, w.heap.size = q0 := ⟨_, rfl⟩
  have HQ0 := Aside0.mk hq0
  have HA := Aside0.mk hA
  have HC := Aside0.mk hC
  obtain ⟨ad, hE, hx⟩ := Kd.at_int hC 0 (by omega) (by omega)
  have HX0 := Aside0.mk (show w.cell? ⟨B, 0, none⟩ = some (.int .i64 0) from by injection hE with hE; subst hE; exact hx)
  clear hC hx hE ad
  have HAC := Aside0.mk ha
  simp only [hq0] at HB0 ⊢
  have hs0 : q0 < (w.alloc (.cells #[.slice (some ⟨A, 0, none⟩) 1 c] 23)).heap.size := by rw [World.size_alloc]; omega
  clear hq0 hA ha
  generalize w.alloc (.cells #[.slice (some ⟨A, 0, none⟩) 1 c] 23) = W0 at HF0 HB0 hs0 ⊢
  have b0 := (blk_cell HB0.out 0).trans (show _ = some (Value.slice (some ⟨A, 0, none⟩) 1 c) from rfl)
  go_upto_region 2 with (at_make; refine Kd.R_make (Kd.int .i64) (w0 := W0) (W := W0) W0.heap.size 3 rfl (N := 15) rfl 39 _ _ rfl (1 : Int) rfl rfl Try.underlying39 (.int .i64 0) 8 info3 rfl (by decide) (by omega) 0 (ok := fun _ => True) (okp := fun _ => True) rfl (fun _ hk => hk) trivial (by omega) (by omega) (Below.refl _ _) (Nat.le_refl _) ?_; intro v1 W1 h1 hB1 hg1 hb1; have HO1 := Aside0.mk (show (Kd.int .i64).R 3 W1 W0.heap.size (fun _ => True) v1 [0] from h1); have HF1 := Aside0.mk (show Fr (fun _ => False) W0 W1 from Fr.of_below hB1); clear h1 hB1 hg1 hb1; obtain ⟨gn, cn, rfl, hgb, hgl⟩ := Kd.R_form HO1.out (by simp); have HGB := Aside0.mk hgb; have HGL := Aside0.mk hgl; clear hgb hgl; rw [show ([0] : List Int).length = 1 from rfl] at HO1 ⊢)
  go_upto_region 5 with (fail)
  have HF2 := Aside0.mk (show Fr (fun _ => False) w (W1.alloc (.cells #[.slice (some ⟨gn, 0, none⟩) 1 cn] 39)) from (HF0.out.trans HF1.out (fun _ _ h => h)).alloc _)
  have HB2 := Aside0.mk ((Fr.refl (fun _ => False) W1).alloc (.cells #[.slice (some ⟨gn, 0, none⟩) 1 cn] 39) |>.blk (HF1.out.blk HB0.out id) id)
  have HC2 := Aside0.mk (blk_new W1 (.cells #[.slice (some ⟨gn, 0, none⟩) 1 cn] 39))
  have HO2 := Aside0.mk (Kd.R_step HO1.out (fun k _ hk => ((Fr.refl (fun _ => False) W1).alloc (.cells #[.slice (some ⟨gn, 0, none⟩) 1 cn] 39)).block k hk id))
  have hs1 : W0.heap.size ≤ W1.heap.size := HF1.out.size
  have hgl := HGL.out.1
  obtain ⟨q2, hq2⟩ : ∃ q2, W1.heap.size = q2 := ⟨_, rfl⟩
  simp only [hq2] at HC2 ⊢
  have hs2 : q2 < (W1.alloc (.cells #[.slice (some ⟨gn, 0, none⟩) 1 cn] 39)).heap.size := by rw [World.size_alloc]; omega
  generalize W1.alloc (.cells #[.slice (some ⟨gn, 0, none⟩) 1 cn] 39) = W2 at HF2 HB2 HC2 HO2 hs2 ⊢
  have HGN := Aside0.mk (show w.heap.size < gn by have := HF0.out.size; have := HQ0.out; have := HGB.out; omega)
  clear HF0 HB0 HF1 HO1
  have c0 := (blk_cell HC2.out 0).trans (show _ = some (Value.slice (some ⟨gn, 0, none⟩) 1 cn) from rfl)
  obtain ⟨g0, gf⟩ := Kd.R_celln (0 : Int) HO2.out 0 (by omega) (by omega)
  simp only [Int.toNat_zero] at g0 gf
  replace g0 : W2.cell? ⟨gn, 0, none⟩ = some (.int .i64 0) := g0
  refine wp_loop_rounds 2 ?_
  rw [rounds_succ]
  go_wp2_with (fail)
  have hgn := HGN.out
  have hgb := HGB.out
  have HX := (Fr.refl (fun k => k = gn) W2).set (g := gn) (o := 0) (Value.int .i64 0) (fun _ => rfl)
  have HF3 := Aside0.mk (HF2.out.set (g := gn) (o := 0) (Value.int .i64 0) (fun h => absurd h (by show ¬ gn < w.heap.size; omega)))
  have HB3 := Aside0.mk (HX.blk HB2.out (by omega))
  have HC3 := Aside0.mk (HX.blk HC2.out (by omega))
  have HO3 := Aside0.mk (Kd.R_putn HO2.out 0 0)
  simp only [Int.toNat_zero] at HO3
  clear HX HF2 HB2 HC2 HO2 c0 b0 g0 gf
  generalize W2.setCell ⟨gn, 0, none⟩ (Value.int .i64 0) = W3 at HF3 HB3 HC3 HO3 ⊢
  rw [rounds_succ]
  have b0 := (blk_cell HB3.out 0).trans (show _ = some (Value.slice (some ⟨A, 0, none⟩) 1 c) from rfl)
  have c0 := (blk_cell HC3.out 0).trans (show _ = some (Value.slice (some ⟨gn, 0, none⟩) 1 cn) from rfl)
  go_upto_region 8 with (go_at_call 56; refine (sort_one _ _ _ _ _ _).mono ?_; rintro e w4 ⟨rfl, os, rfl⟩)
  have HG4 := Aside0.mk (grow_fr W3 os)
  have HF4 := Aside0.mk (HF3.out.trans HG4.out (fun _ _ h => h))
  have HB4 := Aside0.mk (HG4.out.blk HB3.out id)
  have HC4 := Aside0.mk (HG4.out.blk HC3.out id)
  have HO4 := Aside0.mk (Kd.R_step HO3.out (fun k _ hk => HG4.out.block k hk id))
  have hs4 : q2 < (grow W3 os).heap.size := blk_lt HC4.out
  have hgn4 : gn < (grow W3 os).heap.size := (Kd.R_form HO4.out (by simp)).elim fun _ h => h.elim fun _ h => by have e := h.1; injection e with e1 _ _; injection e1 with e2; injection e2 with e3 _ _; subst e3; exact h.2.2.1
  clear HG4 HF3 HB3 HC3 HO3 b0 c0
  generalize grow W3 os = W4 at HF4 HB4 HC4 HO4 hs4 hgn4 ⊢
  have b0 := (blk_cell HB4.out 0).trans (show _ = some (Value.slice (some ⟨A, 0, none⟩) 1 c) from rfl)
  have c0 := (blk_cell HC4.out 0).trans (show _ = some (Value.slice (some ⟨gn, 0, none⟩) 1 cn) from rfl)
  go_upto_region 9 with (at_make; refine Kd.R_make (Kd.int .i64) (w0 := W4) (W := W4) W4.heap.size 3 rfl (N := 32) rfl 39 _ _ rfl (1 : Int) rfl rfl Try.underlying39 (.int .i64 0) 8 info3 rfl (by decide) (by omega) 0 (ok := fun _ => True) (okp := fun _ => True) rfl (fun _ hk => hk) trivial (by omega) (by omega) (Below.refl _ _) (Nat.le_refl _) ?_; intro v5 W5 h1 hB1 hg1 hb1; have HV5 := Aside0.mk (show (Kd.int .i64).R 3 W5 W4.heap.size (fun _ => True) v5 [0] from h1); have HF5 := Aside0.mk (show Fr (fun _ => False) W4 W5 from Fr.of_below hB1); clear h1 hB1 hg1 hb1; obtain ⟨bn, cb, rfl, hbb, hbl⟩ := Kd.R_form HV5.out (by simp); have HBB := Aside0.mk hbb; clear hbb hbl; rw [show ([0] : List Int).length = 1 from rfl] at HV5 ⊢)
  have HF6 := Aside0.mk (HF4.out.trans HF5.out (fun _ _ h => h))
  have HB6 := Aside0.mk (HF5.out.blk HB4.out id)
  have HC6 := Aside0.mk (HF5.out.blk HC4.out id)
  have HO6 := Aside0.mk (Kd.R_step HO4.out (fun k _ hk => HF5.out.block k hk id))
  clear b0 c0 HF4 HB4 HC4 HO4 HF5
  have b0 := (blk_cell HB6.out 0).trans (show _ = some (Value.slice (some ⟨A, 0, none⟩) 1 c) from rfl)
  have c0 := (blk_cell HC6.out 0).trans (show _ = some (Value.slice (some ⟨gn, 0, none⟩) 1 cn) from rfl)
  have a0 := HF6.out.cell HAC.out id
  obtain ⟨g0, gf⟩ := Kd.R_celln (0 : Int) HO6.out 0 (by omega) (by omega)
  obtain ⟨v0, vf⟩ := Kd.R_celln (0 : Int) HV5.out 0 (by omega) (by omega)
  simp only [Int.toNat_zero] at g0 gf v0 vf
  replace g0 : W5.cell? ⟨gn, 0, none⟩ = some (.int .i64 0) := g0
  have HFC := Aside0.mk (show Calls Try.prog 58 #[.slice none 0 0, .slice (some ⟨B, 0, none⟩) 1 rc, .int .i64 0] W5 _ from table_free.calls 5 none 0 [] (some ⟨B, 0, none⟩) rc [0] 0 true W5 (Kd.C_nil _ _) (Nat.le_refl 0) (Kd.C_below HC.out HF6.out.to_below) (by show 1 ≤ rc; omega) free_one)
  go_wp2_with (fail)
  refine wp_loop_rounds 2 ?_
  rw [rounds_succ]
  go_wp2_with (fail)
  refine wp_loop_rounds 1 ?_
  rw [rounds_succ]
  go_upto_region 16 with (go_at_call 58; refine HFC.out.mono ?_; rintro e w6 ⟨rfl, ⟨nq, rfl⟩⟩)
  have hbb := HBB.out
  have hq0 := HQ0.out
  have HD := (Fr.refl (fun k => k = bn) W5).drewN nq
  have HX := HD.set (g := bn) (o := 0) (Value.int .i64 0) (fun _ => rfl)
  have HF7 := Aside0.mk ((HF6.out.drewN nq).set (g := bn) (o := 0) (Value.int .i64 0) (fun h => absurd h (by show ¬ bn < w.heap.size; omega)))
  have HB7 := Aside0.mk (HX.blk HB6.out (by omega))
  have HC7 := Aside0.mk (HX.blk HC6.out (by omega))
  have HV7 := Aside0.mk (Kd.R_putn (Kd.R_step HV5.out (fun k _ hk => ((Fr.refl (fun _ => False) W5).drewN nq).block k hk id)) 0 0)
  have hs7 : W5.heap.size ≤ ((W5.drewN nq).setCell ⟨bn, 0, none⟩ (Value.int .i64 0)).heap.size := HX.size
  simp only [Int.toNat_zero] at HV7
  clear HX HD HFC HF6 HB6 HC6 HV5 HO6 a0 b0 c0 g0 gf v0 vf
  generalize (W5.drewN nq).setCell ⟨bn, 0, none⟩ (Value.int .i64 0) = W7 at HF7 HB7 HC7 HV7 hs7 ⊢
  have b0 := (blk_cell HB7.out 0).trans (show _ = some (Value.slice (some ⟨A, 0, none⟩) 1 c) from rfl)
  have a0 := HF7.out.cell HAC.out id
  have x0 := HF7.out.cell HX0.out id
  go_wp2_with (fail)
  refine wp_loop_rounds 2 ?_
  rw [rounds_succ]
  go_wp2_with (fail)
  refine wp_loop_rounds 2 ?_
  rw [rounds_succ]
  go_wp2_with (at_builtin; go_must (refine Kd.R_append (Kd.int .i64) (w0 := W7) (W := W7) W7.heap.size rfl (.tmp 76) (.tmp 77) 39 3 (.int .i64 0) 8 rfl Try.underlying39 info3 rfl (by decide) (by decide) (.slice none 0 0) [] (-1) [.int .i64 (-1)] (fun k => W7.heap.size ≤ k) (fun _ => False) rfl rfl rfl (fun _ hk => hk.elim) (fun _ hk => hk) (Kd.R_nil _ _ _ _ _) (Below.refl _ _) (Nat.le_refl _) (by decide) ?_); intro v8 W8 h8 hB8 hg8 hat8; have HG8 := Aside0.mk (show Fr (fun _ => False) W7 W8 from Fr.of_below hB8); have HN8 := Aside0.mk (show (Kd.int .i64).R 3 W8 W7.heap.size (fun k => W7.heap.size ≤ k) v8 [-1] from h8); clear hg8 hB8 hat8 h8; obtain ⟨hn, ch, rfl, hhb, _⟩ := Kd.R_form HN8.out (by simp); have HHB := Aside0.mk hhb; clear hhb; rw [show ([-1] : List Int).length = 1 from rfl] at HN8 ⊢)
  have hhb := HHB.out
  obtain ⟨y0, yf⟩ := Kd.R_celln (0 : Int) HN8.out 0 (by omega) (by omega)
  simp only [Int.toNat_zero] at y0 yf
  clear b0 a0 x0
  rw [rounds_succ]
  go_upto_region 22 with (fail)
  have HX := (Fr.refl (fun k => k = hn) W8).set (g := hn) (o := 0) (Value.int .i64 0) (fun _ => rfl)
  have HF9 := Aside0.mk ((HG8.out.set (g := hn) (o := 0) (Value.int .i64 0) (fun h => absurd h (by show ¬ hn < W7.heap.size; omega))))
  have HN9 := Aside0.mk (Kd.R_putn HN8.out 0 0)
  simp only [Int.toNat_zero] at HN9
  clear HX HG8 HN8 y0 yf
  generalize W8.setCell ⟨hn, 0, none⟩ (Value.int .i64 0) = W9 at HF9 HN9 ⊢
  go_wp2_with (fail)
  rw [rounds_succ]
  go_wp2_with (fail)
  rw [rounds_succ]
  go_wp2_with (fail)
  refine wp_loop_rounds 1 ?_
  rw [rounds_succ]
  go_wp2_with (fail)
  go_ret2
  exact ⟨_, _, rfl, Kd.R_lower (Kd.R_step HV7.out (fun k _ hk => HF9.out.block k hk id)) (by omega), Kd.R_lower (Kd.R_mono HN9.out (fun _ _ => trivial)) (by have := HF7.out.size; omega), HF7.out.trans HF9.out (fun _ _ h => h)⟩
end Go.Proofs.Ytlpmjmanmncmnaa.Tab
