/-
The law TableWrites, walked.
-/
import Derived.Test.YtlpmjmanmncmnaaR1XZ
import Derived.Test.YtlpmjmanmncmnaaR1XN
import Derived.Test.YtlpmjmanmncmnaaR1XO
set_option linter.unusedSimpArgs false
set_option linter.unusedVariables false
namespace Go.Proofs.Ytlpmjmanmncmnaa.Tab
open Go.RowKit Go.Maps Go.Proofs.YtlpmjmanmncmnaaW.PrintWords Go.Proofs.YtlpmjmanmncmnaaW.PrintLast Go.Proofs.YtlpmjmanmncmnaaW.PrintMore Go.Proofs.Ytlpmjmanmncmnaa.Fr Go.Proofs.Ytlpmjmanmncmnaa.PT
def mvOf : Option Tb → List (List S48)
  | some T => T.mv
  | none => []
def gtOf : Option Tb → List (List Int)
  | some T => T.gt
  | none => []
def whyOf : Option Tb → Int
  | some _ => 0
  | none => 170
/-- Two slices, readable. -/
structure TwoC (w : World) (Am : Option Addr) (cm : Nat) (Ag : Option Addr) (cg : Nat) (Lm : List (List S48)) (Lg : List (List Int)) : Prop where
  m : Kd.C (Kd.slice 48 k48) w Am Lm.length Lm
  lm : Lm.length ≤ cm
  g : Kd.C (Kd.slice 3 (Kd.int .i64)) w Ag Lg.length Lg
  lg : Lg.length ≤ cg
theorem TwoC.fr {w w1 : World} {Am Ag : Option Addr} {cm cg : Nat} {Lm : List (List S48)} {Lg : List (List Int)} (h : TwoC w Am cm Ag cg Lm Lg) (hF : Fr (fun _ => False) w w1) : TwoC w1 Am cm Ag cg Lm Lg :=
  ⟨Kd.C_below h.m hF.to_below, h.lm, Kd.C_below h.g hF.to_below, h.lg⟩
theorem read_form {w : World} {b : List Int} {e : Ending} {w' : World} (h : ReadPost w b e w') : ∃ (r : Option Tb) (Am : Option Addr) (cm : Nat) (Ag : Option Addr) (cg : Nat), IsRead b r ∧ e = .returned (.tuple #[.agg #[.slice Am (mvOf r).length cm, .slice Ag (gtOf r).length cg], .agg #[.int .i64 (whyOf r), .int .i64 0]]) ∧ TwoC w' Am cm Ag cg (mvOf r) (gtOf r) ∧ Fr (fun _ => False) w w' := by
  obtain ⟨hF, ⟨h1, h2⟩ | ⟨T, vm, vg, h1, h2, h3, h4⟩⟩ := h
  · exact ⟨none, none, 0, none, 0, h1, h2, ⟨Kd.C_nil _ _, Nat.le_refl _, Kd.C_nil _ _, Nat.le_refl _⟩, hF⟩
  · obtain ⟨Am, cm, rfl⟩ := Kd.R_slice h3
    obtain ⟨Ag, cg, rfl⟩ := Kd.R_slice h4
    exact ⟨some T, Am, cm, Ag, cg, h1, h2, ⟨(Kd.R_reads' h3).2.2, (Kd.R_reads' h3).2.1, (Kd.R_reads' h4).2.2, (Kd.R_reads' h4).2.1⟩, hF⟩
theorem rread_form {w : World} {b : List Int} {e : Ending} {w' : World} (h : RReadPost w b e w') : ∃ (r : Option Tb) (Am : Option Addr) (cm : Nat) (Ag : Option Addr) (cg : Nat), IsRead b r ∧ e = .returned (.tuple #[.agg #[.slice Am (mvOf r).length cm, .slice Ag (gtOf r).length cg], .bool r.isSome]) ∧ TwoC w' Am cm Ag cg (mvOf r) (gtOf r) ∧ Fr (fun _ => False) w w' := by
  obtain ⟨hF, ⟨h1, h2⟩ | ⟨T, vm, vg, h1, h2, h3, h4⟩⟩ := h
  · exact ⟨none, none, 0, none, 0, h1, h2, ⟨Kd.C_nil _ _, Nat.le_refl _, Kd.C_nil _ _, Nat.le_refl _⟩, hF⟩
  · obtain ⟨Am, cm, rfl⟩ := Kd.R_slice h3
    obtain ⟨Ag, cg, rfl⟩ := Kd.R_slice h4
    exact ⟨some T, Am, cm, Ag, cg, h1, h2, ⟨(Kd.R_reads' h3).2.2, (Kd.R_reads' h3).2.1, (Kd.R_reads' h4).2.2, (Kd.R_reads' h4).2.1⟩, hF⟩
/-- Same at two readings of one table. -/
theorem same_calls2 {w : World} {Am Ag Am2 Ag2 : Option Addr} {cm cg cm2 cg2 : Nat} {Lm : List (List S48)} {Lg : List (List Int)} (h : TwoC w Am cm Ag cg Lm Lg) (k : TwoC w Am2 cm2 Ag2 cg2 Lm Lg) :
    Calls Try.prog 14 #[.agg #[.slice Am Lm.length cm, .slice Ag Lg.length cg], .agg #[.slice Am2 Lm.length cm2, .slice Ag2 Lg.length cg2]] w (fun e w' => e = .returned (.bool true) ∧ Below w.heap.size w w') := by
  obtain ⟨n, hn⟩ := same_some Lm Lg (Kd.C_max h.m) (Kd.C_max h.g) (fun i hi => Kd.C_max (at_L2 h.m (i : Int) (by omega) (by omega)).choose_spec.choose_spec.choose_spec.2.2.2) (fun i hi => Kd.C_max (at_L3 h.g (i : Int) (by omega) (by omega)).choose_spec.choose_spec.choose_spec.2.2.2)
  exact quoinref17_Same.calls n Am cm Lm Ag cg Lg Am2 cm2 Lm Ag2 cg2 Lg true w h.m h.lm h.g h.lg k.m k.lm k.g k.lg hn
set_option maxHeartbeats 8000000 in
set_option maxRecDepth 100000 in
theorem writes_calls (w : World) (T : Tb) (A0 A1 : Option Addr) (c0 c1 : Nat) (h : TAt w T A0 A1 c0 c1) (ho : TOk T) (hE : (encT T).length < 140737488355328) (b : List Int) (A : Option Addr) (c : Nat) (hC : Kd.C (Kd.int .u8) w A b.length b) (hc : b.length ≤ c) (hb : Bts b) (hbl : b.length + 15 < 140737488355328) :
    Calls Try.prog 7 #[.agg #[.slice A0 T.mv.length c0, .slice A1 T.gt.length c1], .slice A b.length c] w (fun e w' => e = .returned (.bool true) ∧ Fr (fun _ => False) w w') := by
  have hu := Try.underlying25
  have hu2 := Try.underlying60
  obtain ⟨⟨cb, ce⟩, hR⟩ := bytes_some T
  obtain ⟨k1, hk1⟩ := (bytes_fin hR hE ho).get
  obtain ⟨k2, hk2⟩ := (refbytes_fin hR hE ho).get
  have HT := Aside0.mk h
  have HK1 := Aside0.mk hk1
  have HK2 := Aside0.mk hk2
  have HC := Aside0.mk hC
  have HB := Aside0.mk hb
  have HBL := Aside0.mk hbl
  have HF0 := Aside0.mk ((Fr.refl (fun _ => False) w).alloc (.cells #[.slice A0 T.mv.length c0, .slice A1 T.gt.length c1] 25))
  have HB0 := Aside0.mk (blk_new w (.cells #[.slice A0 T.mv.length c0, .slice A1 T.gt.length c1] 25))
  clear h ho hE hR hk1 hk2 hC hb hbl
  go_enter Try.func7, Try.ntmps7
  go_upto_region 1 with (fail)
  obtain ⟨q0, hq0⟩ : ∃ q, w.heap.size = q := ⟨_, rfl⟩
  simp only [hq0] at HB0 ⊢
  clear hq0
  generalize w.alloc (.cells #[.slice A0 T.mv.length c0, .slice A1 T.gt.length c1] 25) = W0 at HF0 HB0 ⊢
  have b0 := (blk_cell HB0.out 0).trans (show _ = some (Value.slice A0 T.mv.length c0) from rfl)
  have b1 := (blk_cell HB0.out 1).trans (show _ = some (Value.slice A1 T.gt.length c1) from rfl)
  have hT0 := HT.out.fr HF0.out
  have HQ := Aside0.mk (table_Bytes.calls k1 A0 c0 T.mv A1 c1 T.gt cb ce W0 hT0.mv hT0.l0 hT0.gt hT0.l1 HK1.out)
  clear hT0
  go_wp2_with (fail)
  refine HQ.out.mono ?_
  rintro e W1 ⟨vb, rfl, hvb, hbl⟩
  obtain ⟨CA, cc, rfl⟩ := Kd.R_slice hvb
  have HV1 := Aside0.mk (Kd.R_reads' hvb)
  have hF := Fr.of_below (S := fun _ => False) hbl
  have HF1 := Aside0.mk (HF0.out.trans hF (fun _ _ h => h))
  have HB1 := Aside0.mk (hF.blk HB0.out id)
  obtain ⟨cn, hcn⟩ : ∃ cn, cb.length = cn := ⟨_, rfl⟩
  have HCN := Aside0.mk hcn
  simp only [hcn]
  clear HQ b0 b1 hvb hbl hF HF0 HB0 hcn
  have b0 := (blk_cell HB1.out 0).trans (show _ = some (Value.slice A0 T.mv.length c0) from rfl)
  have b1 := (blk_cell HB1.out 1).trans (show _ = some (Value.slice A1 T.gt.length c1) from rfl)
  have hT1 := HT.out.fr HF1.out
  have HQ := Aside0.mk (quoinref17_Bytes.calls k2 A0 c0 T.mv A1 c1 T.gt cb ce W1 hT1.mv hT1.l0 hT1.gt hT1.l1 HK2.out)
  clear hT1
  go_wp2_with (fail)
  refine HQ.out.mono ?_
  rintro e W2 ⟨vb, rfl, hvb, hbl⟩
  obtain ⟨CB, cd, rfl⟩ := Kd.R_slice hvb
  have HV2 := Aside0.mk (Kd.R_reads' hvb)
  have hF := Fr.of_below (S := fun _ => False) hbl
  have HF2 := Aside0.mk (HF1.out.trans hF (fun _ _ h => h))
  have HV12 := Aside0.mk (Kd.C_below HV1.out.2.2 hF.to_below)
  simp only [HCN.out]
  clear HQ b0 b1 hvb hbl hF HF1 HB1
  have HQ := Aside0.mk (read_calls W2 b A c (Kd.C_below HC.out HF2.out.to_below) hc HB.out)
  go_wp2_with (fail)
  refine HQ.out.mono ?_
  rintro e W3 hp
  obtain ⟨r, Am, cm, Ag, cg, hir, rfl, htc, hF⟩ := read_form hp
  have HIR := Aside0.mk hir
  have HF3 := Aside0.mk (HF2.out.trans hF (fun _ _ h => h))
  have HTC := Aside0.mk htc
  have HV13 := Aside0.mk (Kd.C_below HV12.out hF.to_below)
  have HV23 := Aside0.mk (Kd.C_below HV2.out.2.2 hF.to_below)
  clear HQ hp hir htc hF HF2 HV12
  obtain ⟨mn, hmn⟩ : ∃ mn, (mvOf r).length = mn := ⟨_, rfl⟩
  obtain ⟨gn, hgn⟩ : ∃ gn, (gtOf r).length = gn := ⟨_, rfl⟩
  obtain ⟨wy, hwy⟩ : ∃ wy, whyOf r = wy := ⟨_, rfl⟩
  have HMN := Aside0.mk hmn
  have HGN := Aside0.mk hgn
  have HWY := Aside0.mk hwy
  simp only [hmn, hgn, hwy]
  clear hmn hgn hwy
  go_upto_region 4 with (fail)
  have HQ1 := Aside0.mk (blk_alloc (blk_new W3 (.cells #[.slice Am mn cm, .slice Ag gn cg] 25)) (.cells #[.int .i64 wy, .int .i64 0] 60))
  have HQ2 := Aside0.mk (blk_new (W3.alloc (.cells #[.slice Am mn cm, .slice Ag gn cg] 25)) (.cells #[.int .i64 wy, .int .i64 0] 60))
  have hF := ((Fr.refl (fun _ => False) W3).alloc (.cells #[.slice Am mn cm, .slice Ag gn cg] 25)).alloc (.cells #[.int .i64 wy, .int .i64 0] 60)
  have HF4 := Aside0.mk (HF3.out.trans hF (fun _ _ h => h))
  have HTC4 := Aside0.mk (HTC.out.fr hF)
  have HV14 := Aside0.mk (Kd.C_below HV13.out hF.to_below)
  have HV24 := Aside0.mk (Kd.C_below HV23.out hF.to_below)
  clear hF HF3 HTC HV13 HV23
  obtain ⟨q1, hq1⟩ : ∃ q, W3.heap.size = q := ⟨_, rfl⟩
  rw [World.size_alloc, hq1] at HQ2
  rw [hq1] at HQ1
  simp only [hq1]
  obtain ⟨q2, hq2⟩ : ∃ q, q1 + 1 = q := ⟨_, rfl⟩
  rw [hq2] at HQ2
  simp only [hq2]
  clear hq1 hq2
  generalize (W3.alloc (.cells #[.slice Am mn cm, .slice Ag gn cg] 25)).alloc (.cells #[.int .i64 wy, .int .i64 0] 60) = W4 at HQ1 HQ2 HF4 HTC4 HV14 HV24 ⊢
  have HQ := Aside0.mk (refread_calls W4 b A c (Kd.C_below HC.out HF4.out.to_below) hc HB.out HBL.out)
  go_wp2_with (fail)
  refine HQ.out.mono ?_
  rintro e W5 hp
  obtain ⟨r2, Am2, cm2, Ag2, cg2, hir, rfl, htc, hF⟩ := rread_form hp
  obtain rfl := read_one HIR.out hir
  have HF5 := Aside0.mk (HF4.out.trans hF (fun _ _ h => h))
  have HTC5 := Aside0.mk (HTC4.out.fr hF)
  have HTD5 := Aside0.mk htc
  have HV15 := Aside0.mk (Kd.C_below HV14.out hF.to_below)
  have HV25 := Aside0.mk (Kd.C_below HV24.out hF.to_below)
  have HQ15 := Aside0.mk (hF.blk HQ1.out id)
  have HQ25 := Aside0.mk (hF.blk HQ2.out id)
  clear HQ hp hir htc hF HF4 HTC4 HV14 HV24 HQ1 HQ2
  simp only [HMN.out, HGN.out]
  go_upto_region 5 with (fail)
  have HQ3 := Aside0.mk (blk_new W5 (.cells #[.slice Am2 mn cm2, .slice Ag2 gn cg2] 25))
  have hF := ((Fr.refl (fun _ => False) W5).alloc (.cells #[.slice Am2 mn cm2, .slice Ag2 gn cg2] 25))
  have HF6 := Aside0.mk (HF5.out.trans hF (fun _ _ h => h))
  have HTC6 := Aside0.mk (HTC5.out.fr hF)
  have HTD6 := Aside0.mk (HTD5.out.fr hF)
  have HV16 := Aside0.mk (Kd.C_below HV15.out hF.to_below)
  have HV26 := Aside0.mk (Kd.C_below HV25.out hF.to_below)
  have HQ16 := Aside0.mk (hF.blk HQ15.out id)
  have HQ26 := Aside0.mk (hF.blk HQ25.out id)
  clear hF HF5 HTC5 HTD5 HV15 HV25 HQ15 HQ25
  generalize hq3 : W5.heap.size = q3 at HQ3 ⊢
  clear hq3
  generalize W5.alloc (.cells #[.slice Am2 mn cm2, .slice Ag2 gn cg2] 25) = W6 at HQ3 HF6 HTC6 HTD6 HV16 HV26 HQ16 HQ26 ⊢
  have HEQ := Aside0.mk (show Calls Try.prog 29 #[.slice CA cn cc, .slice CB cn cd] W6 (fun e w' => e = .returned (.bool true) ∧ Fr (fun _ => False) W6 w') from by
    rw [← HCN.out]
    refine (bytes_Equal.calls CA cc cb CB cd cb true W6 HV16.out HV1.out.2.1 HV26.out HV2.out.2.1 (by simp [bytes_Equal.f])).mono ?_
    rintro e w' ⟨rfl, hd⟩
    exact ⟨rfl, Fr.drawn hd⟩)
  have HSM := Aside0.mk (show ∀ W, Fr (fun _ => False) W6 W → Calls Try.prog 14 #[.agg #[.slice Am mn cm, .slice Ag gn cg], .agg #[.slice Am2 mn cm2, .slice Ag2 gn cg2]] W (fun e w' => e = .returned (.bool true) ∧ Below W.heap.size W w') from fun W hF => by
    rw [← HMN.out, ← HGN.out]
    exact same_calls2 (HTC6.out.fr hF) (HTD6.out.fr hF))
  clear HV16 HV26 HTC6 HTD6 HV1 HV2
  go_wp2_with (fail)
  refine HEQ.out.mono ?_
  rintro e W7 ⟨rfl, hF⟩
  have HF7 := Aside0.mk hF
  have HQ17 := Aside0.mk (hF.blk HQ16.out id)
  have HQ27 := Aside0.mk (hF.blk HQ26.out id)
  have HQ37 := Aside0.mk (hF.blk HQ3.out id)
  clear hF HEQ HQ16 HQ26 HQ3
  have k10 := (blk_cell HQ17.out 0).trans (show _ = some (Value.slice Am mn cm) from rfl)
  have k11 := (blk_cell HQ17.out 1).trans (show _ = some (Value.slice Ag gn cg) from rfl)
  have k30 := (blk_cell HQ37.out 0).trans (show _ = some (Value.slice Am2 mn cm2) from rfl)
  have k31 := (blk_cell HQ37.out 1).trans (show _ = some (Value.slice Ag2 gn cg2) from rfl)
  go_wp2_with (fail)
  refine (HSM.out W7 HF7.out).mono ?_
  rintro e W8 ⟨rfl, hb8⟩
  have hF := Fr.of_below (S := fun _ => False) hb8
  have HF8 := Aside0.mk (HF7.out.trans hF (fun _ _ h => h))
  have HQ28 := Aside0.mk (hF.blk HQ27.out id)
  clear hF hb8 HSM k10 k11 k30 k31 HQ17 HQ27 HQ37
  have k20 := (blk_cell HQ28.out 0).trans (show _ = some (Value.int .i64 wy) from rfl)
  have k21 := (blk_cell HQ28.out 1).trans (show _ = some (Value.int .i64 0) from rfl)
  have HWY2 := HWY
  cases r with
  | some T' =>
    obtain rfl : wy = 0 := HWY.out.symm
    clear HWY HWY2
    go_wp2_with (fail)
    refine (alive_calls W8).mono ?_
    rintro e W9 ⟨rfl, hF⟩
    have HF9 := Aside0.mk (HF6.out.trans (HF8.out.trans hF (fun _ _ h => h)) (fun _ _ h => h))
    clear hF
    go_wp2_with (fail)
    go_ret
    exact ⟨rfl, HF9.out⟩
  | none =>
    obtain rfl : wy = 170 := HWY.out.symm
    clear HWY HWY2
    go_wp2_with (fail)
    refine (alive_calls W8).mono ?_
    rintro e W9 ⟨rfl, hF⟩
    have HF9 := Aside0.mk (HF6.out.trans (HF8.out.trans hF (fun _ _ h => h)) (fun _ _ h => h))
    clear hF
    go_wp2_with (fail)
    go_ret
    exact ⟨rfl, HF9.out⟩
end Go.Proofs.Ytlpmjmanmncmnaa.Tab
