/-
The law TableChecks, walked.
-/
import Derived.Test.YtlpmjmanmncmnaaXN
import Derived.Test.YtlpmjmanmncmnaaXO
namespace Go.Proofs.Ytlpmjmanmncmnaa.Tab
open Go.RowKit Go.Sort Go.Proofs.YtlpmjmanmncmnaaW.PrintWords Go.Proofs.YtlpmjmanmncmnaaW.PrintLast Go.Proofs.YtlpmjmanmncmnaaW.PrintMore Go.Proofs.Ytlpmjmanmncmnaa.Fr Go.Proofs.Ytlpmjmanmncmnaa.PT

/-- What Defaults answers at a table: always the same. -/
structure DefForm (T : Tb) (Dm : List (List S48)) (Dg : List (List Int)) (code : Int) : Prop where
  post : ∀ w e w', DefPost w T e w' → ∃ Am cm Ag cg, e = .returned (.tuple #[.agg #[.slice Am Dm.length cm, .slice Ag Dg.length cg], .int .i64 code]) ∧ Kd.C (Kd.slice 48 k48) w' Am Dm.length Dm ∧ Dm.length ≤ cm ∧ Kd.C (Kd.slice 3 (Kd.int .i64)) w' Ag Dg.length Dg ∧ Dg.length ≤ cg ∧ Fr (fun _ => False) w w'
  m : Dm.length ≤ 9223372036854775807
  g : Dg.length ≤ 9223372036854775807
  ms : ∀ i : Nat, i < Dm.length → (rd_L2 Dm i).length ≤ 9223372036854775807
  gs : ∀ i : Nat, i < Dg.length → (rd_L3 Dg i).length ≤ 9223372036854775807
theorem def_form (T : Tb) (ht : TOk T) : ∃ Dm Dg code, DefForm T Dm Dg code := by
  by_cases hE : Even T
  · by_cases hx : ∃ D, IsDef T.mv D
    · obtain ⟨D, hD⟩ := hx
      refine ⟨D, T.gt, 0, ?_, by have := hD.1; have := ht.m; omega, by have := ht.g; omega, fun i hi => ?_, fun i hi => by have := ht.gos i hi; omega⟩
      · rintro w e w' (⟨h, _⟩ | ⟨_, vm, vg, D', hD', rfl, hm, hg, hF⟩)
        · exact absurd hE h
        · obtain rfl := def_one hD hD'
          obtain ⟨Am, cm, rfl, lm, Cm⟩ := Kd.R_reads hm
          obtain ⟨Ag, cg, rfl, lg, Cg⟩ := Kd.R_reads hg
          exact ⟨Am, cm, Ag, cg, rfl, Cm, lm, Cg, lg, hF⟩
      · obtain ⟨m, _, e⟩ := hD.2 i (by have := hD.1; omega)
        rw [e, withD_len]
        have := (ht.rows i (by have := hD.1; omega)).1
        omega
    · refine ⟨[], [], 0, ?_, by simp, by simp, fun i hi => by simp at hi, fun i hi => by simp at hi⟩
      rintro w e w' (⟨h, _⟩ | ⟨_, vm, vg, D', hD', rfl, hm, hg, hF⟩)
      · exact absurd hE h
      · exact absurd ⟨D', hD'⟩ hx
  · refine ⟨[], [], 170, ?_, by simp, by simp, fun i hi => by simp at hi, fun i hi => by simp at hi⟩
    rintro w e w' (⟨_, rfl, hF⟩ | ⟨h, _⟩)
    · exact ⟨none, 0, none, 0, rfl, Kd.C_nil _ _, Nat.le_refl 0, Kd.C_nil _ _, Nat.le_refl 0, hF⟩
    · exact absurd h hE
set_option maxHeartbeats 8000000 in
set_option maxRecDepth 100000 in
theorem checks_calls (w : World) (T : Tb) (A0 A1 : Option Addr) (c0 c1 : Nat) (kinds rules prods : Int) (h : TAt w T A0 A1 c0 c1) (ht : TOk T) :
    Calls Try.prog 3 #[.agg #[.slice A0 T.mv.length c0, .slice A1 T.gt.length c1, .int .i64 kinds, .int .i64 rules, .int .i64 prods]] w fun e w' => e = .returned (.bool true) ∧ Fr (fun _ => False) w w' := by
  have hu := Try.underlying25
  have hug := Try.underlying27
  have HT := Aside0.mk h
  have HO := Aside0.mk ht
  clear h ht
  have hm0 := HO.out.m
  have hm1 := HO.out.g
  have HF0 := Aside0.mk ((Fr.refl (fun _ => False) w).alloc (.cells #[.slice A0 T.mv.length c0, .slice A1 T.gt.length c1, .int .i64 kinds, .int .i64 rules, .int .i64 prods] 27))
  have HB0 := Aside0.mk (blk_new w (.cells #[.slice A0 T.mv.length c0, .slice A1 T.gt.length c1, .int .i64 kinds, .int .i64 rules, .int .i64 prods] 27))
  go_enter Try.func3, Try.ntmps3
  go_upto_region 1 with (fail)
  obtain ⟨Dm, Dg, code, hdf⟩ := def_form T HO.out
  have HDF := Aside0.mk hdf
  clear hdf
  obtain ⟨q0, hq0⟩ : ∃ q, w.heap.size = q := ⟨_, rfl⟩
  simp only [hq0] at HB0 ⊢
  clear hq0
  generalize w.alloc (.cells #[.slice A0 T.mv.length c0, .slice A1 T.gt.length c1, .int .i64 kinds, .int .i64 rules, .int .i64 prods] 27) = W0 at HF0 HB0 ⊢
  have b0 := (blk_cell HB0.out 0).trans (show _ = some (Value.slice A0 T.mv.length c0) from rfl)
  have b1 := (blk_cell HB0.out 1).trans (show _ = some (Value.slice A1 T.gt.length c1) from rfl)
  have HC := Aside0.mk (defaults_calls W0 T A0 A1 c0 c1 (HT.out.fr HF0.out) HO.out)
  go_upto_region 2 with (go_at_call 10; refine HC.out.mono ?_; intro e X hp; obtain ⟨Am1, cm1, Ag1, cg1, rfl, hcm, hlm, hcg, hlg, hF⟩ := HDF.out.post _ _ _ hp; have HK := Aside0.mk hF; have HCM1 := Aside0.mk hcm; have HCG1 := Aside0.mk hcg; have HLM1 := Aside0.mk hlm; have HLG1 := Aside0.mk hlg; clear hp hF hcm hcg hlm hlg)
  clear b0 b1 HC
  have hy := HK.out.alloc (.cells #[.slice Am1 Dm.length cm1, .slice Ag1 Dg.length cg1] 25)
  have hz := (Fr.refl (fun _ => False) X).alloc (.cells #[.slice Am1 Dm.length cm1, .slice Ag1 Dg.length cg1] 25)
  have HF1 := Aside0.mk (HF0.out.trans hy (fun _ _ h => h))
  have HB1 := Aside0.mk (hy.blk HB0.out id)
  have HR1 := Aside0.mk (blk_new X (.cells #[.slice Am1 Dm.length cm1, .slice Ag1 Dg.length cg1] 25))
  replace HCM1 := Aside0.mk (Kd.C_below HCM1.out hz.to_below)
  replace HCG1 := Aside0.mk (Kd.C_below HCG1.out hz.to_below)
  clear hy hz HK HF0 HB0
  obtain ⟨q1, hq1⟩ : ∃ q, X.heap.size = q := ⟨_, rfl⟩
  rw [hq1] at HR1
  simp only [hq1]
  clear hq1
  generalize X.alloc (.cells #[.slice Am1 Dm.length cm1, .slice Ag1 Dg.length cg1] 25) = W1 at HF1 HB1 HR1 HCM1 HCG1 ⊢
  clear X
  have b0 := (blk_cell HB1.out 0).trans (show _ = some (Value.slice A0 T.mv.length c0) from rfl)
  have b1 := (blk_cell HB1.out 1).trans (show _ = some (Value.slice A1 T.gt.length c1) from rfl)
  have HC := Aside0.mk (refdefaults_calls W1 T A0 A1 c0 c1 (HT.out.fr HF1.out) HO.out)
  go_upto_region 3 with (go_at_call 11; refine HC.out.mono ?_; intro e X hp; obtain ⟨Am2, cm2, Ag2, cg2, rfl, hcm, hlm, hcg, hlg, hF⟩ := HDF.out.post _ _ _ hp; have HK := Aside0.mk hF; have HCM2 := Aside0.mk hcm; have HCG2 := Aside0.mk hcg; have HLM2 := Aside0.mk hlm; have HLG2 := Aside0.mk hlg; clear hp hF hcm hcg hlm hlg)
  clear b0 b1 HC
  have hy := HK.out.alloc (.cells #[.slice Am2 Dm.length cm2, .slice Ag2 Dg.length cg2] 25)
  have hz := (Fr.refl (fun _ => False) X).alloc (.cells #[.slice Am2 Dm.length cm2, .slice Ag2 Dg.length cg2] 25)
  have HF2 := Aside0.mk (HF1.out.trans hy (fun _ _ h => h))
  have HB2 := Aside0.mk (hy.blk HB1.out id)
  have HR2 := Aside0.mk (blk_new X (.cells #[.slice Am2 Dm.length cm2, .slice Ag2 Dg.length cg2] 25))
  replace HCM2 := Aside0.mk (Kd.C_below HCM2.out hz.to_below)
  replace HCG2 := Aside0.mk (Kd.C_below HCG2.out hz.to_below)
  have HR21 := Aside0.mk (hy.blk HR1.out id)
  have HCM21 := Aside0.mk (Kd.C_below HCM1.out hy.to_below)
  have HCG21 := Aside0.mk (Kd.C_below HCG1.out hy.to_below)
  clear HR1 HCM1 HCG1
  clear hy hz HK HF1 HB1
  obtain ⟨q2, hq2⟩ : ∃ q, X.heap.size = q := ⟨_, rfl⟩
  rw [hq2] at HR2
  simp only [hq2]
  clear hq2
  generalize X.alloc (.cells #[.slice Am2 Dm.length cm2, .slice Ag2 Dg.length cg2] 25) = W2 at HF2 HB2 HR2 HR21 HCM2 HCG2 HCM21 HCG21 ⊢
  clear X
  --REGION
  have HS := Aside0.mk (show (fun w' => w'.cell? ⟨q0, 0, none⟩ = some (.slice A0 T.mv.length c0) ∧ w'.cell? ⟨q0, 1, none⟩ = some (.slice A1 T.gt.length c1) ∧ w'.cell? ⟨q0, 2, none⟩ = some (.int .i64 kinds) ∧ w'.cell? ⟨q0, 3, none⟩ = some (.int .i64 rules) ∧ w'.cell? ⟨q0, 4, none⟩ = some (.int .i64 prods) ∧ w'.cell? ⟨q1, 0, none⟩ = some (.slice Am1 Dm.length cm1) ∧ w'.cell? ⟨q1, 1, none⟩ = some (.slice Ag1 Dg.length cg1) ∧ w'.cell? ⟨q2, 0, none⟩ = some (.slice Am2 Dm.length cm2) ∧ w'.cell? ⟨q2, 1, none⟩ = some (.slice Ag2 Dg.length cg2)) W2 from ⟨(blk_cell HB2.out 0).trans rfl, (blk_cell HB2.out 1).trans rfl, (blk_cell HB2.out 2).trans rfl, (blk_cell HB2.out 3).trans rfl, (blk_cell HB2.out 4).trans rfl, (blk_cell HR21.out 0).trans rfl, (blk_cell HR21.out 1).trans rfl, (blk_cell HR2.out 0).trans rfl, (blk_cell HR2.out 1).trans rfl⟩)
  have HSF := Aside0.mk (show ∀ W, Fr (fun _ => False) W2 W → (fun w' => w'.cell? ⟨q0, 0, none⟩ = some (.slice A0 T.mv.length c0) ∧ w'.cell? ⟨q0, 1, none⟩ = some (.slice A1 T.gt.length c1) ∧ w'.cell? ⟨q0, 2, none⟩ = some (.int .i64 kinds) ∧ w'.cell? ⟨q0, 3, none⟩ = some (.int .i64 rules) ∧ w'.cell? ⟨q0, 4, none⟩ = some (.int .i64 prods) ∧ w'.cell? ⟨q1, 0, none⟩ = some (.slice Am1 Dm.length cm1) ∧ w'.cell? ⟨q1, 1, none⟩ = some (.slice Ag1 Dg.length cg1) ∧ w'.cell? ⟨q2, 0, none⟩ = some (.slice Am2 Dm.length cm2) ∧ w'.cell? ⟨q2, 1, none⟩ = some (.slice Ag2 Dg.length cg2)) W from fun W hF => ⟨hF.cell HS.out.1 id, hF.cell HS.out.2.1 id, hF.cell HS.out.2.2.1 id, hF.cell HS.out.2.2.2.1 id, hF.cell HS.out.2.2.2.2.1 id, hF.cell HS.out.2.2.2.2.2.1 id, hF.cell HS.out.2.2.2.2.2.2.1 id, hF.cell HS.out.2.2.2.2.2.2.2.1 id, hF.cell HS.out.2.2.2.2.2.2.2.2 id⟩)
  have HCV := Aside0.mk (show ∀ W, Fr (fun _ => False) W2 W → Calls Try.prog 12 #[.agg #[.slice A0 T.mv.length c0, .slice A1 T.gt.length c1], .int .i64 kinds, .int .i64 rules, .int .i64 prods] W (ChkPost W T kinds rules prods) from fun W hF => check_calls W T A0 A1 c0 c1 (HT.out.fr (HF2.out.trans hF (fun _ _ h => h))) kinds rules prods)
  have HRV := Aside0.mk (show ∀ W r, Fr (fun _ => False) W2 W → IsChk T kinds rules prods r → Calls Try.prog 13 #[.agg #[.slice A0 T.mv.length c0, .slice A1 T.gt.length c1], .int .i64 kinds, .int .i64 rules, .int .i64 prods] W (fun e w' => e = .returned (.int .i64 r) ∧ Below W.heap.size W w') from fun W r hF hr => by
    have hT := HT.out.fr (HF2.out.trans hF (fun _ _ h => h))
    obtain ⟨k, hk⟩ := refchk_some T kinds rules prods r hr (fun i hi => ⟨Kd.C_max (at_L2 hT.mv (i : Int) (by omega) (by omega)).choose_spec.choose_spec.choose_spec.2.2.2, by
      by_cases hg : i < T.gt.length
      · exact Kd.C_max (at_L3 hT.gt (i : Int) (by omega) (by omega)).choose_spec.choose_spec.choose_spec.2.2.2
      · simp [rd_L3, List.getD_eq_getElem?_getD, List.getElem?_eq_none (Nat.le_of_not_lt hg)]⟩)
    exact quoinref17_Check.calls k A0 c0 T.mv A1 c1 T.gt kinds rules prods r W hT.mv hT.l0 hT.gt hT.l1 hk)
  have HSV := Aside0.mk (show ∀ W, Fr (fun _ => False) W2 W → Calls Try.prog 14 #[.agg #[.slice Am1 Dm.length cm1, .slice Ag1 Dg.length cg1], .agg #[.slice Am2 Dm.length cm2, .slice Ag2 Dg.length cg2]] W (fun e w' => e = .returned (.bool true) ∧ Below W.heap.size W w') from fun W hF => by
    obtain ⟨k, hk⟩ := same_some Dm Dg HDF.out.m HDF.out.g HDF.out.ms HDF.out.gs
    exact quoinref17_Same.calls k Am1 cm1 Dm Ag1 cg1 Dg Am2 cm2 Dm Ag2 cg2 Dg true W (Kd.C_below HCM21.out hF.to_below) HLM1.out (Kd.C_below HCG21.out hF.to_below) HLG1.out (Kd.C_below HCM2.out hF.to_below) HLM2.out (Kd.C_below HCG2.out hF.to_below) HLG2.out hk)
  refine wp_region_last_drew (S := fun w' => w'.cell? ⟨q0, 0, none⟩ = some (.slice A0 T.mv.length c0) ∧ w'.cell? ⟨q0, 1, none⟩ = some (.slice A1 T.gt.length c1) ∧ w'.cell? ⟨q0, 2, none⟩ = some (.int .i64 kinds) ∧ w'.cell? ⟨q0, 3, none⟩ = some (.int .i64 rules) ∧ w'.cell? ⟨q0, 4, none⟩ = some (.int .i64 prods) ∧ w'.cell? ⟨q1, 0, none⟩ = some (.slice Am1 Dm.length cm1) ∧ w'.cell? ⟨q1, 1, none⟩ = some (.slice Ag1 Dg.length cg1) ∧ w'.cell? ⟨q2, 0, none⟩ = some (.slice Am2 Dm.length cm2) ∧ w'.cell? ⟨q2, 1, none⟩ = some (.slice Ag2 Dg.length cg2)) (ds := []) (by kernel_rfl) HS.out (fun hHeld => ?_)
  have HFd := Aside0.mk ((Fr.refl (fun _ => False) W2).drew)
  generalize W2.drew = Wd at hHeld HFd ⊢
  refine tk 0 ?_
  refine tk 1 ?_
  refine tk 2 ?_
  refine tk 3 ?_
  refine tk 4 ?_
  refine tk 5 ?_
  refine tk 6 ?_
  refine tk 7 ?_
  refine tk 9 ?_
  refine tk 10 ?_
  refine tk 11 ?_
  refine tk 12 ?_
  refine tk 13 ?_
  refine tk 14 ?_
  refine tk 15 ?_
  refine tk 16 ?_
  refine on 8 (fun K hK => ?_)
  go_simp
  refine (HCV.out Wd HFd.out).mono ?_
  rintro e W5 ⟨r, rfl, hr, hF⟩
  have HF5 := Aside0.mk (HFd.out.trans hF (fun _ _ h => h))
  refine hK.out _ _ (HSF.out _ HF5.out) (fun hHeld => ?_)
  clear hK K
  try simp only [Act.put, List.setIfInBounds_toArray, List.set_cons_zero, List.set_cons_succ]
  have HR := Aside0.mk hr
  clear hr hF
  refine on 17 (fun K hK => ?_)
  go_simp
  refine (HRV.out W5 r HF5.out HR.out).mono ?_
  rintro e W6 ⟨rfl, hb⟩
  have HF6 := Aside0.mk (HF5.out.trans (Fr.of_below (S := fun _ => False) hb) (fun _ _ h => h))
  refine hK.out _ _ (HSF.out _ HF6.out) (fun hHeld => ?_)
  clear hK K
  try simp only [Act.put, List.setIfInBounds_toArray, List.set_cons_zero, List.set_cons_succ]
  clear hb
  refine tk (v := .bool true) 18 ?_
  refine tk 19 ?_
  refine tk 20 ?_
  refine tk 21 ?_
  refine on 22 (fun K hK => ?_)
  go_simp
  refine (HSV.out W6 HF6.out).mono ?_
  rintro e W7 ⟨rfl, hb⟩
  have HF7 := Aside0.mk (HF6.out.trans (Fr.of_below (S := fun _ => False) hb) (fun _ _ h => h))
  refine hK.out _ _ (HSF.out _ HF7.out) (fun hHeld => ?_)
  clear hK K
  try simp only [Act.put, List.setIfInBounds_toArray, List.set_cons_zero, List.set_cons_succ]
  clear hb
  refine tk 23 ?_
  refine tk 24 ?_
  refine tk 25 ?_
  refine tk 26 ?_
  refine tk (v := .bool true) 27 ?_
  refine tk 28 ?_
  refine tk 29 ?_
  refine on 30 (fun K hK => ?_)
  go_simp
  refine (alive_calls W7).mono ?_
  rintro e W8 ⟨rfl, hF⟩
  have HF8 := Aside0.mk (HF7.out.trans hF (fun _ _ h => h))
  refine hK.out _ _ (HSF.out _ HF8.out) (fun hHeld => ?_)
  clear hK K
  try simp only [Act.put, List.setIfInBounds_toArray, List.set_cons_zero, List.set_cons_succ]
  clear hF
  refine tk 31 ?_
  refine tk 32 ?_
  refine dn ?_
  go_wp2_with (fail)
  go_ret
  exact ⟨rfl, HF2.out.trans HF8.out (fun _ _ h => h)⟩
end Go.Proofs.Ytlpmjmanmncmnaa.Tab
