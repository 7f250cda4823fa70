/-
The law's own table is alive: alive, walked.
-/
import Derived.Test.YtlpmjmanmncmnaaMBB
import Derived.Test.YtlpmjmanmncmnaaMAI
set_option linter.unusedSimpArgs false
set_option linter.unusedVariables false
namespace Go.Proofs.Ytlpmjmanmncmnaa.Tab
open Go.RowKit Go.Sort Go.Proofs.YtlpmjmanmncmnaaW.PrintWords Go.Proofs.YtlpmjmanmncmnaaW.PrintLast Go.Proofs.YtlpmjmanmncmnaaW.PrintMore Go.Proofs.Ytlpmjmanmncmnaa.Fr Go.Proofs.Ytlpmjmanmncmnaa.PT
theorem tAt_one (W : World) (r1 r2 r3 r4 : Nat) (h1 : W.heap[r1]? = some (.cells #[.int .i64 2, .int .i64 0, .int .i64 0, .int .i64 0, .int .i64 2, .int .i64 0] 48)) (h2 : W.heap[r2]? = some (.cells #[.slice (some ⟨r1, 0, none⟩) 3 3] 38))
    (h3 : W.heap[r3]? = some (.cells #[.int .i64 0] 3)) (h4 : W.heap[r4]? = some (.cells #[.slice (some ⟨r3, 0, none⟩) 1 1] 39)) : TAt W tOne (some ⟨r2, 0, none⟩) (some ⟨r4, 0, none⟩) 1 1 := by
  have c1 : Kd.C k48 W (some ⟨r1, 0, none⟩) 3 [mOne, ⟨0, 0⟩, mOne] := by
    refine ⟨rfl, by decide, fun _ => ⟨_, rfl, fun j p hp => ?_⟩⟩
    refine ⟨[.int .i64 p.f0, .int .i64 p.f1], rfl, ⟨_, _, rfl, rfl, rfl⟩, fun i u hu => ?_⟩
    have hb := blk_cell h1 (0 + (j * 2 + i))
    have hj : j = 0 ∨ j = 1 ∨ j = 2 := by have := (List.getElem?_eq_some_iff.1 hp).1; simp at this; omega
    have hi : i = 0 ∨ i = 1 := by have := (List.getElem?_eq_some_iff.1 hu).1; simp at this; omega
    rcases hj with rfl | rfl | rfl <;> rcases hi with rfl | rfl <;> (injection hp with hp; subst hp; injection hu with hu; subst hu; exact hb.trans rfl)
  have c3 : (Kd.int .i64).C W (some ⟨r3, 0, none⟩) 1 [0] := by
    refine Kd.C_of_reads (d := (0 : Int)) ⟨rfl, by decide, fun _ => ⟨_, rfl, fun j hj => ?_⟩⟩
    obtain rfl : j = 0 := by omega
    exact (blk_cell h3 0).trans (show _ = some (Value.int .i64 0) from rfl)
  refine ⟨⟨rfl, by decide, fun _ => ⟨_, rfl, fun j p hp => ?_⟩⟩, ⟨rfl, by decide, fun _ => ⟨_, rfl, fun j p hp => ?_⟩⟩, Nat.le_refl _, Nat.le_refl _⟩
  · obtain rfl : j = 0 := by have := (List.getElem?_eq_some_iff.1 hp).1; simp [tOne] at this; omega
    injection hp with hp; subst hp
    refine ⟨[.slice (some ⟨r1, 0, none⟩) 3 3], rfl, ⟨_, _, rfl, by decide, c1⟩, fun i u hu => ?_⟩
    obtain rfl : i = 0 := by have := (List.getElem?_eq_some_iff.1 hu).1; simp at this; omega
    injection hu with hu; subst hu
    exact (blk_cell h2 0).trans rfl
  · obtain rfl : j = 0 := by have := (List.getElem?_eq_some_iff.1 hp).1; simp [tOne] at this; omega
    injection hp with hp; subst hp
    refine ⟨[.slice (some ⟨r3, 0, none⟩) 1 1], rfl, ⟨_, _, rfl, by decide, c3⟩, fun i u hu => ?_⟩
    obtain rfl : i = 0 := by have := (List.getElem?_eq_some_iff.1 hu).1; simp at this; omega
    injection hu with hu; subst hu
    exact (blk_cell h4 0).trans rfl
theorem tOk_one : TOk tOne := by
  refine ⟨by decide, by decide, fun s hs => ?_, fun s hs => ?_⟩
  · obtain rfl : s = 0 := by have : s < 1 := hs; omega
    exact ⟨by decide, fun x hx => one_wf x hx⟩
  · obtain rfl : s = 0 := by have : s < 1 := hs; omega
    decide
theorem def_mOne {D : List (List S48)} (h : IsDef tOne.mv D) : D = [[mOne, mOne, mOne]] := by
  refine def_one h ⟨rfl, fun s hs => ?_⟩
  obtain rfl : s = 0 := by have : s < 1 := hs; omega
  exact ⟨mOne, one_usual, rfl⟩
theorem goto_one : table_Goto.f 9 3 1 [mOne] [0] [-1, -1, -1] [⟨0, 0⟩, ⟨0, 0⟩, ⟨0, 0⟩] [0] [0] [0] 0 0 = some 0 := by kernel_rfl
theorem even_one : Even tOne := by
  refine ⟨by decide, by decide, rfl, fun s hs => ?_⟩
  obtain rfl : s = 0 := by have : s < 1 := hs; omega
  exact ⟨rfl, rfl⟩
theorem six (w : World) (x0 : Array Value) (t0 : Nat) (x1 : Array Value) (t1 : Nat) (x2 : Array Value) (t2 : Nat) (x3 : Array Value) (t3 : Nat) (x4 : Array Value) (t4 : Nat) (x5 : Array Value) (t5 : Nat) :
    ((((((w.alloc (.cells x0 t0)).alloc (.cells x1 t1)).alloc (.cells x2 t2)).alloc (.cells x3 t3)).alloc (.cells x4 t4)).alloc (.cells x5 t5)).heap[w.heap.size]? = some (.cells x0 t0) ∧ ((((((w.alloc (.cells x0 t0)).alloc (.cells x1 t1)).alloc (.cells x2 t2)).alloc (.cells x3 t3)).alloc (.cells x4 t4)).alloc (.cells x5 t5)).heap[w.heap.size + 1]? = some (.cells x1 t1) ∧ ((((((w.alloc (.cells x0 t0)).alloc (.cells x1 t1)).alloc (.cells x2 t2)).alloc (.cells x3 t3)).alloc (.cells x4 t4)).alloc (.cells x5 t5)).heap[w.heap.size + 1 + 1]? = some (.cells x2 t2) ∧ ((((((w.alloc (.cells x0 t0)).alloc (.cells x1 t1)).alloc (.cells x2 t2)).alloc (.cells x3 t3)).alloc (.cells x4 t4)).alloc (.cells x5 t5)).heap[w.heap.size + 1 + 1 + 1]? = some (.cells x3 t3) ∧ ((((((w.alloc (.cells x0 t0)).alloc (.cells x1 t1)).alloc (.cells x2 t2)).alloc (.cells x3 t3)).alloc (.cells x4 t4)).alloc (.cells x5 t5)).heap[w.heap.size + 1 + 1 + 1 + 1]? = some (.cells x4 t4) ∧ ((((((w.alloc (.cells x0 t0)).alloc (.cells x1 t1)).alloc (.cells x2 t2)).alloc (.cells x3 t3)).alloc (.cells x4 t4)).alloc (.cells x5 t5)).heap[w.heap.size + 1 + 1 + 1 + 1 + 1]? = some (.cells x5 t5) ∧ Fr (fun _ => False) w ((((((w.alloc (.cells x0 t0)).alloc (.cells x1 t1)).alloc (.cells x2 t2)).alloc (.cells x3 t3)).alloc (.cells x4 t4)).alloc (.cells x5 t5)) := by
  have h0 := blk_new w (.cells x0 t0)
  have h1 := blk_new (w.alloc (.cells x0 t0)) (.cells x1 t1)
  simp only [World.size_alloc] at h1
  have h2 := blk_new ((w.alloc (.cells x0 t0)).alloc (.cells x1 t1)) (.cells x2 t2)
  simp only [World.size_alloc] at h2
  have h3 := blk_new (((w.alloc (.cells x0 t0)).alloc (.cells x1 t1)).alloc (.cells x2 t2)) (.cells x3 t3)
  simp only [World.size_alloc] at h3
  have h4 := blk_new ((((w.alloc (.cells x0 t0)).alloc (.cells x1 t1)).alloc (.cells x2 t2)).alloc (.cells x3 t3)) (.cells x4 t4)
  simp only [World.size_alloc] at h4
  have h5 := blk_new (((((w.alloc (.cells x0 t0)).alloc (.cells x1 t1)).alloc (.cells x2 t2)).alloc (.cells x3 t3)).alloc (.cells x4 t4)) (.cells x5 t5)
  simp only [World.size_alloc] at h5
  exact ⟨(blk_alloc (blk_alloc (blk_alloc (blk_alloc (blk_alloc h0 _) _) _) _) _), (blk_alloc (blk_alloc (blk_alloc (blk_alloc h1 _) _) _) _), (blk_alloc (blk_alloc (blk_alloc h2 _) _) _), (blk_alloc (blk_alloc h3 _) _), (blk_alloc h4 _), h5, (((((((Fr.refl (fun _ => False) w).alloc (.cells x0 t0)).alloc (.cells x1 t1)).alloc (.cells x2 t2)).alloc (.cells x3 t3)).alloc (.cells x4 t4)).alloc (.cells x5 t5))⟩
set_option maxHeartbeats 8000000 in
set_option maxRecDepth 100000 in
theorem alive_calls (w : World) : Calls Try.prog 15 #[] w fun e w' => e = .returned (.bool true) ∧ Fr (fun _ => False) w w' := by
  have hu := Try.underlying25
  have hu2 := Try.underlying41
  have HF0 := Aside0.mk (Fr.refl (fun _ => False) w)
  go_enter Try.func15, Try.ntmps15
  go_upto_region 3 with (fail)
  have hsix := six w #[.int .i64 2, .int .i64 0] 48 #[.int .i64 2, .int .i64 0, .int .i64 0, .int .i64 0, .int .i64 2, .int .i64 0] 48 #[.slice (some ⟨w.heap.size + 1, 0, none⟩) 3 3] 38 #[.int .i64 0] 3 #[.slice (some ⟨w.heap.size + 1 + 1 + 1, 0, none⟩) 1 1] 39 #[.slice (some ⟨w.heap.size + 1 + 1, 0, none⟩) 1 1, .slice (some ⟨w.heap.size + 1 + 1 + 1 + 1, 0, none⟩) 1 1] 25
  obtain ⟨s0, s1, s2, s3, s4, s5, sF⟩ := hsix
  have HT := Aside0.mk (tAt_one _ _ _ _ _ s1 s2 s3 s4)
  have HM := Aside0.mk s0
  have HB := Aside0.mk s5
  have HF := Aside0.mk sF
  clear s0 s1 s2 s3 s4 s5 sF HF0
  generalize (((((w.alloc (.cells #[.int .i64 2, .int .i64 0] 48)).alloc (.cells #[.int .i64 2, .int .i64 0, .int .i64 0, .int .i64 0, .int .i64 2, .int .i64 0] 48)).alloc (.cells #[.slice (some ⟨w.heap.size + 1, 0, none⟩) 3 3] 38)).alloc (.cells #[.int .i64 0] 3)).alloc (.cells #[.slice (some ⟨w.heap.size + 1 + 1 + 1, 0, none⟩) 1 1] 39)).alloc (.cells #[.slice (some ⟨w.heap.size + 1 + 1, 0, none⟩) 1 1, .slice (some ⟨w.heap.size + 1 + 1 + 1 + 1, 0, none⟩) 1 1] 25) = W0 at HT HM HB HF ⊢
  generalize w.heap.size + 1 + 1 + 1 + 1 + 1 = q5 at HB ⊢
  generalize w.heap.size + 1 + 1 + 1 + 1 = q4 at HB HT ⊢
  generalize w.heap.size + 1 + 1 = q2 at HB HT ⊢
  obtain ⟨q0, hq0⟩ : ∃ q0, w.heap.size = q0 := ⟨_, rfl⟩
  simp only [hq0] at HM ⊢
  clear hq0
  have b0 := (blk_cell HB.out 0).trans (show _ = some (Value.slice (some ⟨q2, 0, none⟩) 1 1) from rfl)
  have b1 := (blk_cell HB.out 1).trans (show _ = some (Value.slice (some ⟨q4, 0, none⟩) 1 1) from rfl)
  have HDC := Aside0.mk (show Calls Try.prog 10 #[.agg #[.slice (some ⟨q2, 0, none⟩) 1 1, .slice (some ⟨q4, 0, none⟩) 1 1]] W0 (DefPost W0 tOne) from defaults_calls W0 tOne _ _ 1 1 HT.out tOk_one)
  go_upto_region 4 with (go_at_call 10; refine HDC.out.mono ?_; rintro e W1 (⟨h, _⟩ | ⟨_, vm, vg, D, hD, rfl, hvm, hvg, hF1⟩); exact absurd even_one h; obtain rfl := def_mOne hD; clear hD; have HK1 := Aside0.mk hF1; have HVM := Aside0.mk hvm; have HVG := Aside0.mk hvg; clear hvm hvg hF1; obtain ⟨gm, cm, rfl, hg1, _⟩ := Kd.R_form HVM.out (by simp); obtain ⟨gg, cg, rfl, hg2, _⟩ := Kd.R_form HVG.out (by show 0 < 1; omega); clear hg1 hg2; rw [show ([[mOne, mOne, mOne]] : List (List S48)).length = 1 from rfl, show tOne.gt.length = 1 from rfl])
  clear b0 b1
  have HF1 := Aside0.mk ((HF.out.trans HK1.out (fun _ _ h => h)).alloc (.cells #[.slice (some ⟨gm, 0, none⟩) 1 cm, .slice (some ⟨gg, 0, none⟩) 1 cg] 25))
  have hy := HK1.out.alloc (.cells #[.slice (some ⟨gm, 0, none⟩) 1 cm, .slice (some ⟨gg, 0, none⟩) 1 cg] 25)
  have HT1 := Aside0.mk (HT.out.fr hy)
  have HM1 := Aside0.mk (hy.blk HM.out id)
  have HB1 := Aside0.mk (hy.blk HB.out id)
  have HD1 := Aside0.mk (blk_new W1 (.cells #[.slice (some ⟨gm, 0, none⟩) 1 cm, .slice (some ⟨gg, 0, none⟩) 1 cg] 25))
  have hz := (Fr.refl (fun _ => False) W1).alloc (.cells #[.slice (some ⟨gm, 0, none⟩) 1 cm, .slice (some ⟨gg, 0, none⟩) 1 cg] 25)
  have HN1 := Aside0.mk (Kd.R_step HVM.out (fun k _ hk => hz.block k hk id))
  clear hy hz HF HT HM HB HVM HVG HK1 HDC
  obtain ⟨qD, hqD⟩ : ∃ q, W1.heap.size = q := ⟨_, rfl⟩
  rw [hqD] at HD1
  simp only [hqD]
  clear hqD
  generalize W1.alloc (.cells #[.slice (some ⟨gm, 0, none⟩) 1 cm, .slice (some ⟨gg, 0, none⟩) 1 cg] 25) = W2 at HF1 HT1 HM1 HB1 HD1 HN1 ⊢
  have b0 := (blk_cell HB1.out 0).trans (show _ = some (Value.slice (some ⟨q2, 0, none⟩) 1 1) from rfl)
  have b1 := (blk_cell HB1.out 1).trans (show _ = some (Value.slice (some ⟨q4, 0, none⟩) 1 1) from rfl)
  have HPC := Aside0.mk (pack_one W2 (some ⟨q2, 0, none⟩) (some ⟨q4, 0, none⟩) 1 1 HT1.out)
  go_upto_region 5 with (go_at_call 16; refine HPC.out.mono ?_; rintro e W3 ⟨vD, vB, vC, vM, v6, v7, v8, rfl, hd, hb, hc, hm, h6, h7, h8, hF⟩; have HK3 := Aside0.mk hF; have HVD := Aside0.mk hd; have HVB := Aside0.mk hb; have HVC := Aside0.mk hc; have HVM2 := Aside0.mk hm; have HV6 := Aside0.mk h6; have HV7 := Aside0.mk h7; have HV8 := Aside0.mk h8; clear hd hb hc hm h6 h7 h8 hF; obtain ⟨gd, cd, rfl, hg1, _⟩ := Kd.R_form HVD.out (by simp); clear hg1; obtain ⟨AB, cB, rfl⟩ := Kd.R_slice HVB.out; obtain ⟨AC, cC, rfl⟩ := Kd.R_slice HVC.out; obtain ⟨AM, cM, rfl⟩ := Kd.R_slice HVM2.out; obtain ⟨A6, c6, rfl⟩ := Kd.R_slice HV6.out; obtain ⟨A7, c7, rfl⟩ := Kd.R_slice HV7.out; obtain ⟨A8, c8, rfl⟩ := Kd.R_slice HV8.out; simp only [List.length_cons, List.length_nil, Nat.zero_add, Nat.reduceAdd] at HVD HVB HVC HVM2 HV6 HV7 HV8 ⊢)
  clear b0 b1
  have hy := HK3.out.alloc (.cells #[.int .i64 3, .int .i64 1, .slice (some ⟨gd, 0, none⟩) 1 cd, .slice AB 1 cB, .slice AC 3 cC, .slice AM 3 cM, .slice A6 1 c6, .slice A7 1 c7, .slice A8 1 c8] 41)
  have hz := (Fr.refl (fun _ => False) W3).alloc (.cells #[.int .i64 3, .int .i64 1, .slice (some ⟨gd, 0, none⟩) 1 cd, .slice AB 1 cB, .slice AC 3 cC, .slice AM 3 cM, .slice A6 1 c6, .slice A7 1 c7, .slice A8 1 c8] 41)
  have HF4 := Aside0.mk (HF1.out.trans hy (fun _ _ h => h))
  have HT4 := Aside0.mk (HT1.out.fr hy)
  have HM4 := Aside0.mk (hy.blk HM1.out id)
  have HB4 := Aside0.mk (hy.blk HB1.out id)
  have HD4 := Aside0.mk (hy.blk HD1.out id)
  have HN4 := Aside0.mk (Kd.R_step HN1.out (fun k _ hk => hy.block k hk id))
  have HP4 := Aside0.mk (blk_new W3 (.cells #[.int .i64 3, .int .i64 1, .slice (some ⟨gd, 0, none⟩) 1 cd, .slice AB 1 cB, .slice AC 3 cC, .slice AM 3 cM, .slice A6 1 c6, .slice A7 1 c7, .slice A8 1 c8] 41))
  have HVD4 := Aside0.mk (Kd.R_step HVD.out (fun k _ hk => hz.block k hk id))
  have HVB4 := Aside0.mk (Kd.R_step HVB.out (fun k _ hk => hz.block k hk id))
  have HVC4 := Aside0.mk (Kd.R_step HVC.out (fun k _ hk => hz.block k hk id))
  have HVM4 := Aside0.mk (Kd.R_step HVM2.out (fun k _ hk => hz.block k hk id))
  have HV64 := Aside0.mk (Kd.R_step HV6.out (fun k _ hk => hz.block k hk id))
  have HV74 := Aside0.mk (Kd.R_step HV7.out (fun k _ hk => hz.block k hk id))
  have HV84 := Aside0.mk (Kd.R_step HV8.out (fun k _ hk => hz.block k hk id))
  clear hy hz HF1 HT1 HM1 HB1 HD1 HN1 HVD HVB HVC HVM2 HV6 HV7 HV8 HK3 HPC
  obtain ⟨qP, hqP⟩ : ∃ q, W3.heap.size = q := ⟨_, rfl⟩
  rw [hqP] at HP4
  simp only [hqP]
  clear hqP
  generalize W3.alloc (.cells #[.int .i64 3, .int .i64 1, .slice (some ⟨gd, 0, none⟩) 1 cd, .slice AB 1 cB, .slice AC 3 cC, .slice AM 3 cM, .slice A6 1 c6, .slice A7 1 c7, .slice A8 1 c8] 41) = W4 at HF4 HT4 HM4 HB4 HD4 HN4 HP4 HVD4 HVB4 HVC4 HVM4 HV64 HV74 HV84 ⊢
  --REGION
  obtain ⟨cR, _, hR, hcR, _⟩ := Kd.R_elem HN4.out [] 0 (by omega) (by decide)
  obtain ⟨vR, rfl, hvR⟩ := hR
  obtain ⟨gi, ci, rfl, _, _⟩ := Kd.R_form hvR (by simp)
  have hrow : W4.cell? ⟨gm, 0, none⟩ = some (.slice (some ⟨gi, 0, none⟩) 3 ci) := hcR 0 _ rfl
  obtain ⟨ae, e2, hr2, hr3⟩ := at_T48 (Kd.R_reads' hvR).2.2 1 (by omega) (by show (1 : Int) < 3; omega)
  obtain rfl : ae = ⟨gi, 0, none⟩ := by injection e2 with e2; exact e2.symm
  replace hr2 : W4.cell? ⟨gi, 2, none⟩ = some (.int .i64 2) := hr2
  replace hr3 : W4.cell? ⟨gi, 3, none⟩ = some (.int .i64 0) := hr3
  clear e2 hvR hcR
  have cD := Aside0.mk (show Kd.C k48 W4 (some ⟨gd, 0, none⟩) 1 [mOne] from (Kd.R_reads' HVD4.out).2.2)
  have cBB := Aside0.mk (show (Kd.int .i64).C W4 AB 1 [0] ∧ 1 ≤ cB from ⟨(Kd.R_reads' HVB4.out).2.2, (Kd.R_reads' HVB4.out).2.1⟩)
  have cCC := Aside0.mk (show (Kd.int .i64).C W4 AC 3 [-1, -1, -1] ∧ 3 ≤ cC from ⟨(Kd.R_reads' HVC4.out).2.2, (Kd.R_reads' HVC4.out).2.1⟩)
  have HMV := Aside0.mk (show Calls Try.prog 21 #[.agg #[.int .i64 3, .int .i64 1, .slice (some ⟨gd, 0, none⟩) 1 cd, .slice AB 1 cB, .slice AC 3 cC, .slice AM 3 cM, .slice A6 1 c6, .slice A7 1 c7, .slice A8 1 c8], .int .i64 0, .int .i64 2] W4.drew _ from move_one W4.drew gd cB cC cM cd AB AC AM (.slice A6 1 c6) (.slice A7 1 c7) (.slice A8 1 c8) (Kd.C_drew cD.out) (Kd.C_drew cBB.out.1) cBB.out.2 (Kd.C_drew cCC.out.1) cCC.out.2)
  have cMM := Aside0.mk (show Kd.C k48 W4 AM 3 [⟨0, 0⟩, ⟨0, 0⟩, ⟨0, 0⟩] ∧ 3 ≤ cM from ⟨(Kd.R_reads' HVM4.out).2.2, (Kd.R_reads' HVM4.out).2.1⟩)
  have c66 := Aside0.mk (show (Kd.int .i64).C W4 A6 1 [0] ∧ 1 ≤ c6 from ⟨(Kd.R_reads' HV64.out).2.2, (Kd.R_reads' HV64.out).2.1⟩)
  have c77 := Aside0.mk (show (Kd.int .i64).C W4 A7 1 [0] ∧ 1 ≤ c7 from ⟨(Kd.R_reads' HV74.out).2.2, (Kd.R_reads' HV74.out).2.1⟩)
  have c88 := Aside0.mk (show (Kd.int .i64).C W4 A8 1 [0] ∧ 1 ≤ c8 from ⟨(Kd.R_reads' HV84.out).2.2, (Kd.R_reads' HV84.out).2.1⟩)
  have cDc := Aside0.mk (show 1 ≤ cd from (Kd.R_reads' HVD4.out).2.1)
  have HGV := Aside0.mk (show ∀ W, Fr (fun _ => False) W4 W → Calls Try.prog 23 #[.agg #[.int .i64 3, .int .i64 1, .slice (some ⟨gd, 0, none⟩) 1 cd, .slice AB 1 cB, .slice AC 3 cC, .slice AM 3 cM, .slice A6 1 c6, .slice A7 1 c7, .slice A8 1 c8], .int .i64 0, .int .i64 0] W (fun e w' => e = .returned (.int .i64 0) ∧ Below W.heap.size W w') from fun W hF => table_Goto.calls 9 3 1 (some ⟨gd, 0, none⟩) cd [mOne] AB cB [0] AC cC [-1, -1, -1] AM cM [⟨0, 0⟩, ⟨0, 0⟩, ⟨0, 0⟩] A6 c6 [0] A7 c7 [0] A8 c8 [0] 0 0 0 W (Kd.C_below cD.out hF.to_below) cDc.out (Kd.C_below cBB.out.1 hF.to_below) cBB.out.2 (Kd.C_below cCC.out.1 hF.to_below) cCC.out.2 (Kd.C_below cMM.out.1 hF.to_below) cMM.out.2 (Kd.C_below c66.out.1 hF.to_below) c66.out.2 (Kd.C_below c77.out.1 hF.to_below) c77.out.2 (Kd.C_below c88.out.1 hF.to_below) c88.out.2 goto_one)
  have HCV := Aside0.mk (show ∀ W, Fr (fun _ => False) W4 W → Calls Try.prog 12 #[.agg #[.slice (some ⟨q2, 0, none⟩) 1 1, .slice (some ⟨q4, 0, none⟩) 1 1], .int .i64 3, .int .i64 1, .int .i64 1] W (ChkPost W tOne 3 1 1) from fun W hF => check_calls W tOne (some ⟨q2, 0, none⟩) (some ⟨q4, 0, none⟩) 1 1 (HT4.out.fr hF) 3 1 1)
  have HS := Aside0.mk (show (fun w' => w'.cell? ⟨qD, 0, none⟩ = some (.slice (some ⟨gm, 0, none⟩) 1 cm) ∧ w'.cell? ⟨gm, 0, none⟩ = some (.slice (some ⟨gi, 0, none⟩) 3 ci) ∧ w'.cell? ⟨gi, 2, none⟩ = some (.int .i64 2) ∧ w'.cell? ⟨gi, 3, none⟩ = some (.int .i64 0) ∧ w'.cell? ⟨q0, 0, none⟩ = some (.int .i64 2) ∧ w'.cell? ⟨q0, 1, none⟩ = some (.int .i64 0) ∧ w'.cell? ⟨qP, 0, none⟩ = some (.int .i64 3) ∧ w'.cell? ⟨qP, 1, none⟩ = some (.int .i64 1) ∧ w'.cell? ⟨qP, 2, none⟩ = some (.slice (some ⟨gd, 0, none⟩) 1 cd) ∧ w'.cell? ⟨qP, 3, none⟩ = some (.slice AB 1 cB) ∧ w'.cell? ⟨qP, 4, none⟩ = some (.slice AC 3 cC) ∧ w'.cell? ⟨qP, 5, none⟩ = some (.slice AM 3 cM) ∧ w'.cell? ⟨qP, 6, none⟩ = some (.slice A6 1 c6) ∧ w'.cell? ⟨qP, 7, none⟩ = some (.slice A7 1 c7) ∧ w'.cell? ⟨qP, 8, none⟩ = some (.slice A8 1 c8) ∧ w'.cell? ⟨q5, 0, none⟩ = some (.slice (some ⟨q2, 0, none⟩) 1 1) ∧ w'.cell? ⟨q5, 1, none⟩ = some (.slice (some ⟨q4, 0, none⟩) 1 1)) W4 from ⟨(blk_cell HD4.out 0).trans rfl, hrow, hr2, hr3, (blk_cell HM4.out 0).trans rfl, (blk_cell HM4.out 1).trans rfl, (blk_cell HP4.out 0).trans rfl, (blk_cell HP4.out 1).trans rfl, (blk_cell HP4.out 2).trans rfl, (blk_cell HP4.out 3).trans rfl, (blk_cell HP4.out 4).trans rfl, (blk_cell HP4.out 5).trans rfl, (blk_cell HP4.out 6).trans rfl, (blk_cell HP4.out 7).trans rfl, (blk_cell HP4.out 8).trans rfl, (blk_cell HB4.out 0).trans rfl, (blk_cell HB4.out 1).trans rfl⟩)
  have HSF := Aside0.mk (show ∀ W, Fr (fun _ => False) W4 W → (fun w' => w'.cell? ⟨qD, 0, none⟩ = some (.slice (some ⟨gm, 0, none⟩) 1 cm) ∧ w'.cell? ⟨gm, 0, none⟩ = some (.slice (some ⟨gi, 0, none⟩) 3 ci) ∧ w'.cell? ⟨gi, 2, none⟩ = some (.int .i64 2) ∧ w'.cell? ⟨gi, 3, none⟩ = some (.int .i64 0) ∧ w'.cell? ⟨q0, 0, none⟩ = some (.int .i64 2) ∧ w'.cell? ⟨q0, 1, none⟩ = some (.int .i64 0) ∧ w'.cell? ⟨qP, 0, none⟩ = some (.int .i64 3) ∧ w'.cell? ⟨qP, 1, none⟩ = some (.int .i64 1) ∧ w'.cell? ⟨qP, 2, none⟩ = some (.slice (some ⟨gd, 0, none⟩) 1 cd) ∧ w'.cell? ⟨qP, 3, none⟩ = some (.slice AB 1 cB) ∧ w'.cell? ⟨qP, 4, none⟩ = some (.slice AC 3 cC) ∧ w'.cell? ⟨qP, 5, none⟩ = some (.slice AM 3 cM) ∧ w'.cell? ⟨qP, 6, none⟩ = some (.slice A6 1 c6) ∧ w'.cell? ⟨qP, 7, none⟩ = some (.slice A7 1 c7) ∧ w'.cell? ⟨qP, 8, none⟩ = some (.slice A8 1 c8) ∧ w'.cell? ⟨q5, 0, none⟩ = some (.slice (some ⟨q2, 0, none⟩) 1 1) ∧ w'.cell? ⟨q5, 1, none⟩ = some (.slice (some ⟨q4, 0, none⟩) 1 1)) W from fun W hF => ⟨hF.cell HS.out.1 id, hF.cell HS.out.2.1 id, hF.cell HS.out.2.2.1 id, hF.cell HS.out.2.2.2.1 id, hF.cell HS.out.2.2.2.2.1 id, hF.cell HS.out.2.2.2.2.2.1 id, hF.cell HS.out.2.2.2.2.2.2.1 id, hF.cell HS.out.2.2.2.2.2.2.2.1 id, hF.cell HS.out.2.2.2.2.2.2.2.2.1 id, hF.cell HS.out.2.2.2.2.2.2.2.2.2.1 id, hF.cell HS.out.2.2.2.2.2.2.2.2.2.2.1 id, hF.cell HS.out.2.2.2.2.2.2.2.2.2.2.2.1 id, hF.cell HS.out.2.2.2.2.2.2.2.2.2.2.2.2.1 id, hF.cell HS.out.2.2.2.2.2.2.2.2.2.2.2.2.2.1 id, hF.cell HS.out.2.2.2.2.2.2.2.2.2.2.2.2.2.2.1 id, hF.cell HS.out.2.2.2.2.2.2.2.2.2.2.2.2.2.2.2.1 id, hF.cell HS.out.2.2.2.2.2.2.2.2.2.2.2.2.2.2.2.2 id⟩)
  clear hrow hr2 hr3
  refine wp_region_last_drew (S := fun w' => w'.cell? ⟨qD, 0, none⟩ = some (.slice (some ⟨gm, 0, none⟩) 1 cm) ∧ w'.cell? ⟨gm, 0, none⟩ = some (.slice (some ⟨gi, 0, none⟩) 3 ci) ∧ w'.cell? ⟨gi, 2, none⟩ = some (.int .i64 2) ∧ w'.cell? ⟨gi, 3, none⟩ = some (.int .i64 0) ∧ w'.cell? ⟨q0, 0, none⟩ = some (.int .i64 2) ∧ w'.cell? ⟨q0, 1, none⟩ = some (.int .i64 0) ∧ w'.cell? ⟨qP, 0, none⟩ = some (.int .i64 3) ∧ w'.cell? ⟨qP, 1, none⟩ = some (.int .i64 1) ∧ w'.cell? ⟨qP, 2, none⟩ = some (.slice (some ⟨gd, 0, none⟩) 1 cd) ∧ w'.cell? ⟨qP, 3, none⟩ = some (.slice AB 1 cB) ∧ w'.cell? ⟨qP, 4, none⟩ = some (.slice AC 3 cC) ∧ w'.cell? ⟨qP, 5, none⟩ = some (.slice AM 3 cM) ∧ w'.cell? ⟨qP, 6, none⟩ = some (.slice A6 1 c6) ∧ w'.cell? ⟨qP, 7, none⟩ = some (.slice A7 1 c7) ∧ w'.cell? ⟨qP, 8, none⟩ = some (.slice A8 1 c8) ∧ w'.cell? ⟨q5, 0, none⟩ = some (.slice (some ⟨q2, 0, none⟩) 1 1) ∧ w'.cell? ⟨q5, 1, none⟩ = some (.slice (some ⟨q4, 0, none⟩) 1 1)) (ds := []) (by kernel_rfl) HS.out (fun hHeld => ?_)
  have HFd := Aside0.mk ((Fr.refl (fun _ => False) W4).drew)
  generalize W4.drew = Wd at hHeld HFd HMV ⊢
  refine tk 0 ?_
  refine tk (v := .bool true) 1 ?_
  refine tk 2 ?_
  refine tk 3 ?_
  refine tk (v := .bool true) 4 ?_
  refine tk 5 ?_
  refine tk 6 ?_
  refine tk 7 ?_
  refine tk 8 ?_
  refine tk 9 ?_
  refine tk (v := .bool true) 10 ?_
  refine tk 11 ?_
  refine tk 12 ?_
  refine tk 13 ?_
  refine tk 14 ?_
  refine tk 15 ?_
  refine tk 16 ?_
  refine tk 17 ?_
  refine tk (v := .bool true) 18 ?_
  refine tk 19 ?_
  refine tk 20 ?_
  refine tk 21 ?_
  refine tk 22 ?_
  refine tk 23 ?_
  refine tk 24 ?_
  refine tk 25 ?_
  refine tk 26 ?_
  refine tk 27 ?_
  refine tk (v := .bool true) 28 ?_
  refine tk 29 ?_
  refine tk 30 ?_
  refine tk 31 ?_
  refine tk 33 ?_
  refine on 32 (fun K hK => ?_)
  go_simp
  refine HMV.out.mono ?_
  rintro e W5 ⟨rfl, hF⟩
  have HF5 := Aside0.mk (HFd.out.trans hF (fun _ _ h => h))
  clear hF
  refine hK.out _ _ (HSF.out _ HF5.out) (fun hHeld => ?_)
  clear hK K
  try simp only [Act.put, List.setIfInBounds_toArray, List.set_cons_zero, List.set_cons_succ]
  refine tk (v := .bool true) 34 ?_
  refine tk 35 ?_
  refine tk 36 ?_
  refine tk 37 ?_
  refine on 38 (fun K hK => ?_)
  go_simp
  refine (HGV.out W5 HF5.out).mono ?_
  rintro e W6 ⟨rfl, hb⟩
  have HF6 := Aside0.mk (HF5.out.trans (Fr.of_below (S := fun _ => False) hb) (fun _ _ h => h))
  clear hb
  refine hK.out _ _ (HSF.out _ HF6.out) (fun hHeld => ?_)
  clear hK K
  try simp only [Act.put, List.setIfInBounds_toArray, List.set_cons_zero, List.set_cons_succ]
  refine tk (v := .bool true) 39 ?_
  refine tk 40 ?_
  refine tk 41 ?_
  refine tk 42 ?_
  refine on 43 (fun K hK => ?_)
  go_simp
  refine (HCV.out W6 HF6.out).mono ?_
  rintro e W7 ⟨r, rfl, hr, hF⟩
  obtain rfl := one_chk hr
  have HF7 := Aside0.mk (HF6.out.trans hF (fun _ _ h => h))
  clear hF hr
  refine hK.out _ _ (HSF.out _ HF7.out) (fun hHeld => ?_)
  clear hK K
  try simp only [Act.put, List.setIfInBounds_toArray, List.set_cons_zero, List.set_cons_succ]
  refine tk (v := .bool true) 44 ?_
  refine tk 45 ?_
  refine tk 46 ?_
  refine dn ?_
  go_wp2_with (fail)
  go_ret
  exact ⟨rfl, HF4.out.trans HF7.out (fun _ _ h => h)⟩
end Go.Proofs.Ytlpmjmanmncmnaa.Tab
