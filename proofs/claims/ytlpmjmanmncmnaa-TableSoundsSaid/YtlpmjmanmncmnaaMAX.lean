/-
Whether a table is sound for a grammar: the reference's way, walked (its beginning).
-/
import Derived.Deep.LoopGhost
import Derived.Deep.RegionLaw
import Derived.Deep.CutRange
import Derived.Test.YtlpmjmanmncmnaaMAT
import Derived.Test.YtlpmjmanmncmnaaMAJ
import Derived.Test.YtlpmjmanmncmnaaMAW
set_option linter.unusedSimpArgs false
set_option linter.unusedVariables false
namespace Go.Proofs.Ytlpmjmanmncmnaa.Tab
open Go.RowKit Go.Maps Go.Proofs.YtlpmjmanmncmnaaW.PrintWords Go.Proofs.YtlpmjmanmncmnaaW.PrintLast Go.Proofs.YtlpmjmanmncmnaaW.PrintMore Go.Proofs.Ytlpmjmanmncmnaa.Fr Go.Proofs.Ytlpmjmanmncmnaa.PT
open Go.Proofs.Ytlpmjmanmncmnaa.Gram (Gr GAt CheckOk base_true)
theorem R_new (W : World) (base n : Nat) (hb : base ≤ W.heap.size) (hn : n ≤ maxLen) : Kd.bool.R 4 (W.alloc (.cells (madeCells #[.bool false] n) 4)) base (fun _ => True) (.slice (some ⟨W.heap.size, 0, none⟩) n n) (List.replicate n false) := by
  refine ⟨fun _ _ => trivial, (madeCells #[Value.bool false] n).toList, ?_, ?_⟩
  · have h2 := World.ownsRow_lit (base := base) (e := 4) (size := 1) W (madeCells #[Value.bool false] n) n hb hn (by simp [size_madeCells])
    show (W.alloc (.cells (madeCells #[.bool false] n) 4)).ownsRow base 4 1 (.slice (some ⟨W.heap.size, 0, none⟩) n n) (List.replicate n false).length (madeCells #[Value.bool false] n).toList
    simpa using h2
  · have h3 := Kd.reps_made (R := Kd.bool.M (W.alloc (.cells (madeCells #[.bool false] n) 4)) base (fun k => True ∧ some k ≠ (Value.slice (some ⟨W.heap.size, 0, none⟩) n n).ownBlock)) (z := .bool false) (size := 1) (z0 := false) rfl (by decide) rfl n
    rw [Nat.mul_one] at h3
    exact h3
section
variable (W : World) (n : Nat) (v0 v1 v2 v3 v4 v5 v6 : Value)
theorem wy_start1 (hn : n ≤ maxLen) : WyS (((W.alloc (.cells (madeCells #[.bool false] n) 4)).alloc (.cells #[v0, v1, v2, v3, v4, v5, v6, .slice none 0 0, .slice (some ⟨W.heap.size, 0, none⟩) n n] 112)).drew) W.heap.size (W.heap.size + 1) W.heap.size n n v0 v1 v2 v3 v4 v5 v6 (.slice none 0 0) [] (List.replicate n false) := by
  refine ⟨?_, Kd.R_nil _ _ _ _ _, Kd.R_drew (Kd.R_alloc (R_new W W.heap.size n (Nat.le_refl _) hn) _), by omega⟩
  have h := blk_new (W.alloc (.cells (madeCells #[.bool false] n) 4)) (.cells #[v0, v1, v2, v3, v4, v5, v6, .slice none 0 0, .slice (some ⟨W.heap.size, 0, none⟩) n n] 112)
  rw [World.size_alloc] at h
  exact h
theorem wy_start2 (hn : n ≤ maxLen) : WyS (((W.alloc (.cells #[v0, v1, v2, v3, v4, v5, v6, .slice none 0 0, .slice (some ⟨W.heap.size + 1, 0, none⟩) n n] 112)).alloc (.cells (madeCells #[.bool false] n) 4)).drew) W.heap.size W.heap.size (W.heap.size + 1) n n v0 v1 v2 v3 v4 v5 v6 (.slice none 0 0) [] (List.replicate n false) := by
  refine ⟨blk_alloc (blk_new W _) _, Kd.R_nil _ _ _ _ _, ?_, Nat.le_refl _⟩
  have h := R_new (W.alloc (.cells #[v0, v1, v2, v3, v4, v5, v6, .slice none 0 0, .slice (some ⟨W.heap.size + 1, 0, none⟩) n n] 112)) W.heap.size n (by rw [World.size_alloc]; omega) hn
  rw [World.size_alloc] at h
  exact Kd.R_drew h
end
theorem neRBo : ∀ q, q ∈ 115 :: k115.E → q ≠ 4 := (show ∀ q, q ∈ [115] → q ≠ 4 by decide)
section
variable {W W1 : World} {base u gm cm n : Nat} {v0 v1 v2 v3 v4 v5 v6 ve : Value} {EL : List S115} {RE RE1 : List Bool}
/-- The marks have turned. -/
theorem WyS.marked (h : WyS W base u gm cm n v0 v1 v2 v3 v4 v5 v6 ve EL RE) (hF : Fr (fun k => k = gm) W W1) (hR : Kd.bool.R 4 W1 base (fun _ => True) (.slice (some ⟨gm, 0, none⟩) n cm) RE1) : WyS W1 base u gm cm n v0 v1 v2 v3 v4 v5 v6 ve EL RE1 := by
  obtain ⟨cells, hgc⟩ := Kd.R_typed h.rre gm rfl
  refine ⟨hF.blk h.blk (typed_ne2 h.blk hgc (by decide)), Kd.R_mono (hF.R (Kd.R_mono (Kd.R_bound h.rel) (fun k hk => (show k ≠ gm from fun e => ?_))) (fun k hk => hk)) (fun _ _ => trivial), hR, h.lu⟩
  obtain ⟨_, _, _, q, hq, c2, hc2⟩ := hk
  rw [e, hgc] at hc2
  injection hc2 with hc2
  injection hc2 with _ hc2
  exact neRBo q hq hc2.symm
end
theorem EnW.goB {w W2 W : World} {vp vt : Array Value} {b2 : Nat} (h : EnW w W2 vp vt) (hb : W2.heap.size = b2) (hF : Fr (fun k => b2 ≤ k) W2 W) : EnW w W vp vt := by
  have h1 := h.gt
  exact ⟨h.fr.trans hF (fun k hk e => by omega), hF.blk h.b0 (by omega), hF.blk h.b1 (by omega)⟩
theorem chk_ex (T : Tb) (kinds rules prods : Int) : ∃ r, IsChk T kinds rules prods r := by
  by_cases b1 : bad1 kinds rules prods
  · exact ⟨1, chk_1 b1⟩
  · by_cases b2 : bad2 T
    · exact ⟨170, chk_2 b1 b2⟩
    · by_cases b3 : ∀ s : Nat, s < T.mv.length → StOk T kinds rules prods s
      · exact ⟨0, chk_3 b1 b2 b3⟩
      · obtain ⟨s, hs⟩ := Classical.not_forall.1 b3
        obtain ⟨hs, hn⟩ := Classical.not_imp.1 hs
        exact ⟨170, chk_4 b1 b2 hs hn⟩
/-- The reference's Check of a table. -/
theorem rtcheck_calls (w : World) (T : Tb) (A0 A1 : Option Addr) (c0 c1 : Nat) (hT : TAt w T A0 A1 c0 c1) (kinds rules prods : Int) :
    Calls Try.prog 13 #[.agg #[.slice A0 T.mv.length c0, .slice A1 T.gt.length c1], .int .i64 kinds, .int .i64 rules, .int .i64 prods] w (ChkPost w T kinds rules prods) := by
  obtain ⟨r, hr⟩ := chk_ex T kinds rules prods
  obtain ⟨k, hk⟩ := refchk_some T kinds rules prods r hr (fun i hi => ⟨Kd.C_max (at_L2 hT.mv (i : Int) (by omega) (by omega)).choose_spec.choose_spec.choose_spec.2.2.2, by
    by_cases hg : i < T.gt.length
    · exact Kd.C_max (at_L3 hT.gt (i : Int) (by omega) (by omega)).choose_spec.choose_spec.choose_spec.2.2.2
    · simp [rd_L3, List.getD_eq_getElem?_getD, List.getElem?_eq_none (Nat.le_of_not_lt hg)]⟩)
  refine (quoinref17_Check.calls k A0 c0 T.mv A1 c1 T.gt kinds rules prods r w hT.mv hT.l0 hT.gt hT.l1 hk).mono ?_
  rintro e w' ⟨rfl, hB⟩
  exact ⟨r, rfl, hr, Fr.of_below hB⟩
set_option maxHeartbeats 8000000 in
set_option maxRecDepth 100000 in
theorem rsound_calls (w : World) (T : Tb) (G : Gr) (B0 B1 : Option Addr) (d0 d1 : Nat) (hT : TAt w T B0 B1 d0 d1) (A0 A1 A2 A3 : Option Addr) (c0 c1 c2 c3 : Nat) (hG : GAt w G A0 A1 A2 A3 c0 c1 c2 c3) :
    Calls Try.prog 31 #[.agg #[.slice A0 G.kinds.length c0, .slice A1 G.precs.length c1, .slice A2 G.rules.length c2, .slice A3 G.prods.length c3, .int .i64 G.start], .agg #[.slice B0 T.mv.length d0, .slice B1 T.gt.length d1]] w (SndPost w G T) := by
  have hu := Try.underlying72
  have hu2 := Try.underlying25
  have hm0 := Kd.C_max hG.kinds
  have hm2 := Kd.C_max hG.rules
  have hm3 := Kd.C_max hG.prods
  have HT := Aside0.mk hT
  have HG := Aside0.mk hG
  clear hT hG
  obtain ⟨vp, hvp⟩ : ∃ vp, (#[.slice A0 G.kinds.length c0, .slice A1 G.precs.length c1, .slice A2 G.rules.length c2, .slice A3 G.prods.length c3, .int .i64 G.start] : Array Value) = vp := ⟨_, rfl⟩
  obtain ⟨vt, hvt⟩ : ∃ vt, (#[.slice B0 T.mv.length d0, .slice B1 T.gt.length d1] : Array Value) = vt := ⟨_, rfl⟩
  have HW0 := Aside0.mk (EnW.new w vp vt)
  rw [← hvp, ← hvt] at HW0
  have HVP := Aside0.mk hvp
  have HVT := Aside0.mk hvt
  clear hvp hvt
  go_enter Try.func31, Try.ntmps31
  go_upto_region 1 with (fail)
  obtain ⟨W0, hW0⟩ : ∃ W0, ((w.alloc (.cells #[.slice A0 G.kinds.length c0, .slice A1 G.precs.length c1, .slice A2 G.rules.length c2, .slice A3 G.prods.length c3, .int .i64 G.start] 72)).alloc (.cells #[.slice B0 T.mv.length d0, .slice B1 T.gt.length d1] 25)) = W0 := ⟨_, rfl⟩
  rw [hW0] at HW0
  simp only [hW0]
  clear hW0
  rw [HVP.out, HVT.out] at HW0
  obtain ⟨p0, hp0⟩ : ∃ p0, w.heap.size = p0 := ⟨_, rfl⟩
  have HP0 := Aside0.mk hp0
  simp only [hp0]
  obtain ⟨p1, hp1⟩ : ∃ p1, p0 + 1 = p1 := ⟨_, rfl⟩
  have HP1 := Aside0.mk hp1
  simp only [hp1]
  clear hp0 hp1
  have HBX := Aside0.mk (show ∀ W, EnW w W vp vt → (W.cell? ⟨p0, 0, none⟩ = some (.slice A0 G.kinds.length c0) ∧ W.cell? ⟨p0, 1, none⟩ = some (.slice A1 G.precs.length c1) ∧ W.cell? ⟨p0, 2, none⟩ = some (.slice A2 G.rules.length c2) ∧ W.cell? ⟨p0, 3, none⟩ = some (.slice A3 G.prods.length c3) ∧ W.cell? ⟨p0, 4, none⟩ = some (.int .i64 G.start)) ∧ W.cell? ⟨p1, 0, none⟩ = some (.slice B0 T.mv.length d0) ∧ W.cell? ⟨p1, 1, none⟩ = some (.slice B1 T.gt.length d1) from fun W h => by
    have h0 := h.b0
    have h1 := h.b1
    rw [HP0.out, ← HVP.out] at h0
    rw [HP0.out, HP1.out, ← HVT.out] at h1
    exact ⟨⟨(blk_cell h0 0).trans rfl, (blk_cell h0 1).trans rfl, (blk_cell h0 2).trans rfl, (blk_cell h0 3).trans rfl, (blk_cell h0 4).trans rfl⟩, (blk_cell h1 0).trans rfl, (blk_cell h1 1).trans rfl⟩)
  obtain ⟨⟨k0, k1, k2, k3, k4⟩, l0, l1⟩ := HBX.out _ HW0.out
  have HC1 := Aside0.mk (Gram.refcheck_calls W0 G A0 A1 A2 A3 c0 c1 c2 c3 (HG.out.go HW0.out.fr))
  go_wp2_with (fail)
  refine HC1.out.mono ?_
  rintro e W1 ⟨⟨e1, rfl, hz1, hv1⟩, hF1⟩
  have HW1 := Aside0.mk (HW0.out.go hF1)
  have HZ1 := Aside0.mk hz1
  clear hF1 HC1 HW0 k0 k1 k2 k3 k4 l0 l1 hz1
  by_cases he1 : e1 = 0
  case neg =>
    have HN := Aside0.mk (fun h => he1 (HZ1.out.2 h))
    go_wp2_with (fail)
    go_ret2
    exact ⟨0, 130, rfl, ⟨fun _ => ⟨rfl, rfl⟩, fun h => absurd h HN.out, fun h => absurd h HN.out, fun h => absurd h HN.out⟩, HW1.out.fr⟩
  case pos =>
  subst he1
  have HOK := Aside0.mk (HZ1.out.1 rfl)
  obtain ⟨⟨k0, k1, k2, k3, k4⟩, l0, l1⟩ := HBX.out _ HW1.out
  clear hv1 HZ1
  have HC2 := Aside0.mk (rtcheck_calls W1 T B0 B1 d0 d1 (HT.out.fr HW1.out.fr) G.kinds.length G.rules.length G.prods.length)
  go_wp2_with (fail)
  refine HC2.out.mono ?_
  rintro e W2 ⟨e2, rfl, hz2, hF2⟩
  have HW2 := Aside0.mk (HW1.out.go hF2)
  have HZ2 := Aside0.mk (chk_iff hz2)
  clear hF2 HC2 HW1 k0 k1 k2 k3 k4 l0 l1 hz2
  by_cases he2 : e2 = 0
  case neg =>
    have HN := Aside0.mk (fun h => he2 (HZ2.out.2 h))
    go_wp2_with (fail)
    go_ret2
    exact ⟨0, 170, rfl, ⟨fun h => absurd HOK.out h, fun _ _ => ⟨rfl, rfl⟩, fun _ h => absurd h HN.out, fun _ h => absurd h HN.out⟩, HW2.out.fr⟩
  case pos =>
  subst he2
  have HTO := Aside0.mk (HZ2.out.1 rfl)
  have HCK := Aside0.mk HTO.out.chk
  have hnk : G.kinds.length ≤ 1048576 := by have := HOK.out.kinds.max; omega
  have hrl := (base_true HOK.out.base).2.2.1
  have hs0 := (base_true HOK.out.base).2.2.2.1
  have hs1 := (base_true HOK.out.base).2.2.2.2.1
  have hn1 := HCK.out.one
  have hn2 := HCK.out.max
  clear HZ2
  obtain ⟨⟨k0, k1, k2, k3, k4⟩, l0, l1⟩ := HBX.out _ HW2.out
  have hsz2 := HW2.out.gt
  go_upto_region 5 with (fail)
  obtain ⟨b2, hb2⟩ : ∃ b, W2.heap.size = b := ⟨_, rfl⟩
  have HB2 := Aside0.mk hb2
  clear hb2
  go_cut [6] from 28 to 34 (fun o wx => ∃ (u gm cm : Nat), o = .pointer (some ⟨u, 0, none⟩) ∧ b2 ≤ u ∧ Aside0 (WyS wx b2 u gm cm T.mv.length (.slice A0 G.kinds.length c0) (.slice A1 G.precs.length c1) (.slice A2 G.rules.length c2) (.slice A3 G.prods.length c3) (.int .i64 G.start) (.slice B0 T.mv.length d0) (.slice B1 T.gt.length d1) (.slice none 0 0) [] (List.replicate T.mv.length false)) ∧ Aside0 (Fr (fun _ => False) W2 wx))
  case first =>
    obtain ⟨MC, hMC⟩ : ∃ MC, madeCells #[Value.bool false] T.mv.length = MC := ⟨_, rfl⟩
    have HMC := Aside0.mk hMC
    have hmk : ∀ W, (Instr.makeSlice 106 (.int .i64 (T.mv.length : Int)) (.int .i64 (T.mv.length : Int))).run Try.prog W = .ok (.slice (some ⟨W.heap.size, 0, none⟩) T.mv.length T.mv.length) (W.alloc (.cells MC 4)) := fun W => by
      rw [← hMC]
      exact run_make_row' 106 4 (.bool false) 1 Try.underlying106 info4 rfl .i64 .i64 T.mv.length (by omega) (by omega) W
    have HFz := (Fr.refl (fun _ => False) W2).alloc (.cells #[.slice none 0 0, .slice none 0 0, .slice none 0 0, .slice none 0 0, .int .i64 0, .slice none 0 0, .slice none 0 0, .slice none 0 0, .slice none 0 0] 112)
    have q0 := HFz.cell k0 id
    have q1 := HFz.cell k1 id
    have q2 := HFz.cell k2 id
    have q3 := HFz.cell k3 id
    have q4 := HFz.cell k4 id
    have q5 := HFz.cell l0 id
    have q6 := HFz.cell l1 id
    have HFm := (Fr.refl (fun _ => False) W2).alloc (.cells MC 4)
    have r0 := HFm.cell k0 id
    have r1 := HFm.cell k1 id
    have r2 := HFm.cell k2 id
    have r3 := HFm.cell k3 id
    have r4 := HFm.cell k4 id
    have r5 := HFm.cell l0 id
    have r6 := HFm.cell l1 id
    have HFa := HFz.alloc (.cells MC 4)
    have s0 := HFa.cell k0 id
    have s1 := HFa.cell k1 id
    have s2 := HFa.cell k2 id
    have s3 := HFa.cell k3 id
    have s4 := HFa.cell k4 id
    have s5 := HFa.cell l0 id
    have s6 := HFa.cell l1 id
    have HFb := HFm.alloc (.cells #[.slice none 0 0, .slice none 0 0, .slice none 0 0, .slice none 0 0, .int .i64 0, .slice none 0 0, .slice none 0 0, .slice none 0 0, .slice none 0 0] 112)
    have t0 := HFb.cell k0 id
    have t1 := HFb.cell k1 id
    have t2 := HFb.cell k2 id
    have t3 := HFb.cell k3 id
    have t4 := HFb.cell k4 id
    have t5 := HFb.cell l0 id
    have t6 := HFb.cell l1 id
    clear HFz HFm HFa HFb hMC
    go_region
    · go_wp2_with (fail)
      go_meet
      refine ⟨_, W2.heap.size, T.mv.length, rfl, by have := HB2.out; omega, ⟨?_⟩, ⟨(((Fr.refl (fun _ => False) W2).alloc _).alloc _).drew⟩⟩
      rw [← HMC.out, ← HB2.out]
      exact wy_start1 W2 T.mv.length _ _ _ _ _ _ _ (by unfold maxLen; omega)
    · go_wp2_with (fail)
      go_meet
      refine ⟨_, W2.heap.size + 1, T.mv.length, rfl, by have := HB2.out; omega, ⟨?_⟩, ⟨(((Fr.refl (fun _ => False) W2).alloc _).alloc _).drew⟩⟩
      rw [← HMC.out, ← HB2.out]
      exact wy_start2 W2 T.mv.length _ _ _ _ _ _ _ (by unfold maxLen; omega)
  case rest =>
    clear k0 k1 k2 k3 k4 l0 l1
    obtain ⟨u, gm, cm, rfl, hbu, HY, HF⟩ := hcut
    have j8 := (blk_cell HY.out.blk 8).trans (show _ = some (Value.slice (some ⟨gm, 0, none⟩) T.mv.length cm) from rfl)
    have hnz : (0 : Int) < (T.mv.length : Int) := by omega
    obtain ⟨m1, m2⟩ := Kd.R_celln false HY.out.rre (0 : Int) (by omega) hnz
    rw [rdOf_no] at m1
    simp only [Int.toNat_zero] at m1 m2
    have hgb : b2 ≤ gm := Kd.R_base HY.out.rre gm rfl
    go_upto_region 7 with (fail)
    have HR1 := (Kd.R_putg HY.out.rre (0 : Int) true).1
    simp only [Int.toNat_zero] at HR1
    have HY1 := Aside0.mk (HY.out.marked ((Fr.refl (fun k => k = gm) wc).set (g := gm) (o := 0) (.bool true) (fun _ => rfl)) HR1)
    have HF1 := Aside0.mk ((HF.out.mono (T := fun k => b2 ≤ k) (fun _ h => h.elim)).set (g := gm) (o := 0) (.bool true) (fun _ => hgb))
    have HM1 := Aside0.mk (Mk.start HCK.out)
    obtain ⟨W3, hW3⟩ : ∃ W, wc.setCell ⟨gm, 0, none⟩ (.bool true) = W := ⟨_, rfl⟩
    rw [hW3] at HY1 HF1
    simp only [hW3]
    obtain ⟨RE, hRE⟩ : ∃ RE, (List.replicate T.mv.length false).set 0 true = RE := ⟨_, rfl⟩
    rw [hRE] at HY1 HM1
    have HOLD := Aside0.mk (show ∀ W, Fr (fun k => b2 ≤ k) W2 W → Fr (fun _ => False) w W from fun W h => HW2.out.fr.trans h (fun k hk e => by have := HB2.out; have := HW2.out.gt; omega))
    have HSZ := Aside0.mk (show ∀ RE, Mk T G.kinds.length RE → RE.count true ≤ T.mv.length from fun RE h => h.le)
    clear hW3 hRE HR1 m1 m2 j8 HY HF
    go_wp2_with (fail)
    go_loopg [7] (2 * T.mv.length + 1) (fun k a W => ∃ (fresh : Bool) (RE : List Bool), a = .bool fresh ∧ 2 * (T.mv.length - RE.count true) + (if fresh = true then 1 else 0) ≤ k ∧ Aside0 (WyS W b2 u gm cm T.mv.length (.slice A0 G.kinds.length c0) (.slice A1 G.precs.length c1) (.slice A2 G.rules.length c2) (.slice A3 G.prods.length c3) (.int .i64 G.start) (.slice B0 T.mv.length d0) (.slice B1 T.gt.length d1) (.slice none 0 0) [] RE) ∧ Aside0 (Fr (fun k => b2 ≤ k) W2 W) ∧ Aside0 (Mk T G.kinds.length RE) ∧ Aside0 (fresh = false → ∀ q : Nat, rdOf false RE (q : Int) = true ↔ Rc T G.kinds.length q))
    case atStart => exact ⟨true, RE, rfl, by simp; omega, HY1, HF1, HM1, ⟨fun h => (by cases h)⟩⟩
    case round =>
      clear HY1 HF1 HM1
      obtain ⟨fresh, RE, rfl, hk, HY, HF, HM, HRC⟩ := hrel
      cases fresh with
      | false =>
        have HRC2 := Aside0.mk (HRC.out rfl)
        have HN0 := Aside0.mk (WyN.start (w := G.kinds.length + G.rules.length) HCK.out)
        clear HRC hk
        go_wp2_with (fail)
        go_loopw [9] (fun a W => ∃ (i : Nat) (ve : Value) (EL : List S115), a = .int .i64 i ∧ i ≤ T.mv.length ∧ Aside0 (WyS W b2 u gm cm T.mv.length (.slice A0 G.kinds.length c0) (.slice A1 G.precs.length c1) (.slice A2 G.rules.length c2) (.slice A3 G.prods.length c3) (.int .i64 G.start) (.slice B0 T.mv.length d0) (.slice B1 T.gt.length d1) ve EL RE) ∧ Aside0 (Fr (fun k => b2 ≤ k) W2 W) ∧ Aside0 (WyN T G.kinds.length (G.kinds.length + G.rules.length) i 0 EL)) (fun a _ => T.mv.length - (intOf a).toNat)
        case atStart => exact ⟨0, _, [], rfl, Nat.zero_le _, HY, HF, HN0⟩
        case round =>
          clear HY HF HN0
          obtain ⟨i, ve, EL, rfl, hi, HY, HF, HN⟩ := hrel
          obtain ⟨⟨k0, k1, k2, k3, k4⟩, l0, l1⟩ := HBX.out _ (HW2.out.goB HB2.out HF.out)
          by_cases hlt : i < T.mv.length
          case neg =>
            obtain rfl : i = T.mv.length := by omega
            have HWY := Aside0.mk (HN.out.done HCK.out)
            obtain ⟨EA, ec, rfl⟩ := Kd.R_slice HY.out.rel
            have HAL := Aside0.mk (show ∀ s : Nat, s < 0 → Rc T G.kinds.length s → StSound T G.kinds.length G s from fun s hs => absurd hs (by omega))
            clear HN hi hlt
            go_wp2_with (fail)
            go_loopw [12] (fun a W => ∃ i : Nat, a = .int .i64 i ∧ i ≤ T.mv.length ∧ Aside0 (WyS W b2 u gm cm T.mv.length (.slice A0 G.kinds.length c0) (.slice A1 G.precs.length c1) (.slice A2 G.rules.length c2) (.slice A3 G.prods.length c3) (.int .i64 G.start) (.slice B0 T.mv.length d0) (.slice B1 T.gt.length d1) (.slice EA EL.length ec) EL RE) ∧ Aside0 (Fr (fun k => b2 ≤ k) W2 W) ∧ Aside0 (∀ s : Nat, s < i → Rc T G.kinds.length s → StSound T G.kinds.length G s)) (fun a _ => T.mv.length - (intOf a).toNat)
            case atStart => exact ⟨0, rfl, Nat.zero_le _, HY, HF, HAL⟩
            case round =>
              clear HY HF HAL k0 k1 k2 k3 k4 l0 l1
              obtain ⟨i, rfl, hi, HY, HF, HAL⟩ := hrel
              obtain ⟨_, l0, l1⟩ := HBX.out _ (HW2.out.goB HB2.out HF.out)
              by_cases hlt : i < T.mv.length
              case neg =>
                obtain rfl : i = T.mv.length := by omega
                have HFE := Aside0.mk (HOLD.out _ HF.out)
                go_wp2_with (fail)
                go_ret2
                exact ⟨0, 0, rfl, ⟨fun h => absurd HOK.out h, fun _ h => absurd HTO.out h, fun _ _ _ => ⟨rfl, rfl⟩, fun _ _ s hr hn _ => absurd (HAL.out s (HCK.out.rc hr) hr) hn⟩, HFE.out⟩
              case pos =>
              have hi0 : (0 : Int) ≤ (i : Int) := by omega
              have hi1 : (i : Int) < (T.mv.length : Int) := by omega
              have j8 := (blk_cell HY.out.blk 8).trans (show _ = some (Value.slice (some ⟨gm, 0, none⟩) T.mv.length cm) from rfl)
              have m1 := (Kd.R_celln false HY.out.rre (i : Int) hi0 hi1).1
              simp only [Int.toNat_natCast] at m1
              obtain ⟨z, hz⟩ : ∃ z, rdOf false RE (i : Int) = z := ⟨_, rfl⟩
              have HZ := Aside0.mk hz
              rw [hz] at m1
              clear hz
              cases z with
              | false =>
                have HNX := Aside0.mk (show ∀ s : Nat, s < i + 1 → Rc T G.kinds.length s → StSound T G.kinds.length G s from fun s hs hr => by
                  by_cases e : s = i
                  · subst e
                    have h1 := (HRC2.out s).2 hr
                    rw [HZ.out] at h1
                    cases h1
                  · exact HAL.out s (by omega) hr)
                go_wp2_with (fail)
                exact ⟨⟨i + 1, by go_num, by omega, HY, HF, HNX⟩, by simp [intOf]; omega⟩
              | true =>
              have HRI := Aside0.mk ((HRC2.out i).1 HZ.out)
              have HCL := Aside0.mk (right_calls wr u G T A0 A1 A2 A3 B0 B1 EA c0 c1 c2 c3 d0 d1 ec EL _ ⟨HY.out.blk, HT.out.fr (HOLD.out _ HF.out), HG.out.go (HOLD.out _ HF.out), (Kd.R_reads' HY.out.rel).2.2, (Kd.R_reads' HY.out.rel).2.1⟩ G.rules.length HCK.out HWY.out hnk hs0 (by omega) (fun p hp => ⟨(HOK.out.prods p hp).l0, (HOK.out.prods p hp).l1⟩) i HRI.out)
              go_wp2_with (fail)
              refine HCL.out.mono ?_
              rintro e W4 ⟨b, rfl, hiff, hF4⟩
              have HY4 := Aside0.mk (HY.out.fr hF4)
              have HF4 := Aside0.mk (HF.out.trans hF4 (fun _ _ h => h.elim))
              have HIF := Aside0.mk hiff
              clear hiff hF4 HCL HY HF m1 j8 l0 l1
              cases b with
              | false =>
                have HFE := Aside0.mk (HOLD.out _ HF4.out)
                go_wp2_with (fail)
                go_ret2
                have hno : ¬ StSound T G.kinds.length G i := fun h => by have h1 := HIF.out.2 h; cases h1
                refine ⟨i, 170, rfl, ⟨fun h => absurd HOK.out h, fun _ h => absurd HTO.out h, fun _ _ h => absurd (h i HRI.out) hno, fun _ _ s hr hn hl => ?_⟩, HFE.out⟩
                have h1 : ¬ s < i := fun h => hn (HAL.out s h hr)
                have h2 : ¬ i < s := fun h => hno (hl i h HRI.out)
                exact ⟨by omega, rfl⟩
              | true =>
                have HNX := Aside0.mk (show ∀ s : Nat, s < i + 1 → Rc T G.kinds.length s → StSound T G.kinds.length G s from fun s hs hr => by
                  by_cases e : s = i
                  · subst e
                    exact HIF.out.1 rfl
                  · exact HAL.out s (by omega) hr)
                go_wp2_with (fail)
                exact ⟨⟨i + 1, by go_num, by omega, HY4, HF4, HNX⟩, by simp [intOf]; omega⟩
          case pos =>
          have hi0 : (0 : Int) ≤ (i : Int) := by omega
          have hi1 : (i : Int) < (T.mv.length : Int) := by omega
          have j8 := (blk_cell HY.out.blk 8).trans (show _ = some (Value.slice (some ⟨gm, 0, none⟩) T.mv.length cm) from rfl)
          have m1 := (Kd.R_celln false HY.out.rre (i : Int) hi0 hi1).1
          simp only [Int.toNat_natCast] at m1
          obtain ⟨z, hz⟩ : ∃ z, rdOf false RE (i : Int) = z := ⟨_, rfl⟩
          have HZ := Aside0.mk hz
          rw [hz] at m1
          clear hz
          cases z with
          | false =>
            have HN2 := Aside0.mk (HN.out.out HCK.out (fun h => by have h1 := (HRC2.out i).2 h; rw [HZ.out] at h1; cases h1))
            go_wp2_with (fail)
            exact ⟨⟨i + 1, ve, EL, by go_num, by omega, HY, HF, HN2⟩, by simp [intOf]; omega⟩
          | true =>
          have HRI := Aside0.mk ((HRC2.out i).1 HZ.out)
          obtain ⟨wide1, wide2⟩ := HCK.out.wide hlt
          have HWD := Aside0.mk (show (rd_L2 T.mv (i : Int)).length = G.kinds.length ∧ (rd_L3 T.gt (i : Int)).length = G.rules.length from ⟨wide1, wide2⟩)
          have hmul : i * (G.kinds.length + G.rules.length) ≤ 4096 * 2097152 := Nat.mul_le_mul (by omega) (by omega)
          have HTW := Aside0.mk (show ∀ W, Fr (fun k => b2 ≤ k) W2 W → TAt W T B0 B1 d0 d1 from fun W h => HT.out.fr (HOLD.out _ h))
          clear wide1 wide2
          go_wp2_with (fail)
          go_loopw [10] (fun a W => ∃ (k : Nat) (ve : Value) (EL : List S115), a = .int .i64 k ∧ k ≤ G.kinds.length ∧ Aside0 (WyS W b2 u gm cm T.mv.length (.slice A0 G.kinds.length c0) (.slice A1 G.precs.length c1) (.slice A2 G.rules.length c2) (.slice A3 G.prods.length c3) (.int .i64 G.start) (.slice B0 T.mv.length d0) (.slice B1 T.gt.length d1) ve EL RE) ∧ Aside0 (Fr (fun k => b2 ≤ k) W2 W) ∧ Aside0 (WyN T G.kinds.length (G.kinds.length + G.rules.length) i k EL)) (fun a _ => G.kinds.length - (intOf a).toNat)
          case atStart => exact ⟨0, ve, EL, rfl, Nat.zero_le _, HY, HF, HN⟩
          case round =>
            clear HY HF HN m1 j8 k0 k1 k2 k3 k4 l0 l1
            obtain ⟨k, ve, EL, rfl, hkk, HY, HF, HN⟩ := hrel
            obtain ⟨⟨k0, k1, k2, k3, k4⟩, l0, l1⟩ := HBX.out _ (HW2.out.goB HB2.out HF.out)
            by_cases hkl : k < G.kinds.length
            case neg =>
              obtain rfl : k = G.kinds.length := by omega
              have HN0 := Aside0.mk (show WyN T G.kinds.length (G.kinds.length + G.rules.length) i ((G.kinds.length : Int) + ((0 : Nat) : Int)) EL from by have h := HN.out; rwa [show (G.kinds.length : Int) + ((0 : Nat) : Int) = (G.kinds.length : Int) by omega])
              clear hkk hkl
              go_wp2_with (fail)
              go_loopw [11] (fun a W => ∃ (r : Nat) (ve : Value) (EL : List S115), a = .int .i64 r ∧ r ≤ G.rules.length ∧ Aside0 (WyS W b2 u gm cm T.mv.length (.slice A0 G.kinds.length c0) (.slice A1 G.precs.length c1) (.slice A2 G.rules.length c2) (.slice A3 G.prods.length c3) (.int .i64 G.start) (.slice B0 T.mv.length d0) (.slice B1 T.gt.length d1) ve EL RE) ∧ Aside0 (Fr (fun k => b2 ≤ k) W2 W) ∧ Aside0 (WyN T G.kinds.length (G.kinds.length + G.rules.length) i ((G.kinds.length : Int) + (r : Int)) EL)) (fun a _ => G.rules.length - (intOf a).toNat)
              case atStart => exact ⟨0, ve, EL, rfl, Nat.zero_le _, HY, HF, HN0⟩
              case round =>
                clear HY HF HN HN0 k0 k1 k2 k3 k4 l0 l1
                obtain ⟨r, ve, EL, rfl, hrr, HY, HF, HN⟩ := hrel
                obtain ⟨⟨k0, k1, k2, k3, k4⟩, l0, l1⟩ := HBX.out _ (HW2.out.goB HB2.out HF.out)
                by_cases hrl2 : r < G.rules.length
                case neg =>
                  obtain rfl : r = G.rules.length := by omega
                  have HN2 := Aside0.mk (HN.out.next HCK.out)
                  go_wp2_with (fail)
                  exact ⟨⟨i + 1, ve, EL, by go_num, by omega, HY, HF, HN2⟩, by simp [intOf]; omega⟩
                case pos =>
                have hgi : (i : Int) < (T.gt.length : Int) := by have := HCK.out.len; omega
                obtain ⟨adg, M, mc, hB1, x0, hmc, hGr⟩ := at_L3 (HTW.out _ (Fr.refl _ W2)).gt (i : Int) hi0 hgi
                subst hB1
                simp only [Int.toNat_natCast] at x0
                rw [HWD.out.2] at x0 hmc hGr
                obtain ⟨ade, hade, e0⟩ := Kd.at_int hGr (r : Int) (by omega) (by omega)
                subst hade
                obtain ⟨x, hx⟩ : ∃ x, rd (rd_L3 T.gt (i : Int)) (r : Int) = x := ⟨_, rfl⟩
                have HXE := Aside0.mk hx
                simp only [Int.toNat_natCast, hx] at e0
                have HXF := Aside0.mk (show ∀ W, Fr (fun k => b2 ≤ k) W2 W → W.cell? (adg.add i) = some (.slice (some ade) G.rules.length mc) ∧ W.cell? (ade.add r) = some (.int .i64 x) from fun W h => ⟨h.cell x0 (by have h1 := World.block_lt_of_cell? _ _ x0; have h2 := HB2.out; show ¬ b2 ≤ _; omega), h.cell e0 (by have h1 := World.block_lt_of_cell? _ _ e0; have h2 := HB2.out; show ¬ b2 ≤ _; omega)⟩)
                clear hx hGr x0 e0
                obtain ⟨x0, e0⟩ := HXF.out _ HF.out
                by_cases hx0 : 0 ≤ x
                case neg =>
                  have HN2 := Aside0.mk (show WyN T G.kinds.length (G.kinds.length + G.rules.length) i ((G.kinds.length : Int) + ((r + 1 : Nat) : Int)) EL from by
                    have h := HN.out.skip (by omega) (fun q he => by
                      rcases he with ⟨k', e, h1, h2, _⟩ | ⟨r', e, h1, h2⟩
                      · rw [HWD.out.1] at h1
                        omega
                      · obtain rfl : r = r' := by omega
                        rw [HXE.out] at h2
                        omega)
                    rwa [show (G.kinds.length : Int) + (r : Int) + 1 = (G.kinds.length : Int) + ((r + 1 : Nat) : Int) by omega] at h)
                  go_wp2_with (fail)
                  exact ⟨⟨r + 1, ve, EL, by go_num, by omega, HY, HF, HN2⟩, by simp [intOf]; omega⟩
                case pos =>
                obtain ⟨q, rfl⟩ := Int.eq_ofNat_of_zero_le hx0
                have HN2 := Aside0.mk (show WyN T G.kinds.length (G.kinds.length + G.rules.length) i ((G.kinds.length : Int) + ((r + 1 : Nat) : Int)) (EL ++ [⟨i, (G.kinds.length : Int) + (r : Int), q⟩]) from by
                  have h := HN.out.step HCK.out (by omega) HRI.out (.inr ⟨r, rfl, by rw [HWD.out.2]; exact hrl2, HXE.out⟩)
                  rwa [show (G.kinds.length : Int) + (r : Int) + 1 = (G.kinds.length : Int) + ((r + 1 : Nat) : Int) by omega] at h)
                have hcn := HN.out.cnt
                have hl : EL.length < 1099511627776 := by omega
                clear hcn HN
                obtain ⟨A, c, hve⟩ := Kd.R_slice HY.out.rel
                obtain ⟨el, hel⟩ : ∃ n, EL.length = n := ⟨_, rfl⟩
                rw [hel] at hve hl
                have HEL := Aside0.mk hel
                subst hve
                clear hel
                have HFz := (Fr.refl (fun _ => False) wr).alloc (.cells #[.int .i64 i, .int .i64 ((G.kinds.length : Int) + (r : Int)), .int .i64 q] 115)
                have k7 := (blk_cell HY.out.blk 7).trans (show _ = some (Value.slice A el c) from rfl)
                have y7 := HFz.cell k7 id
                clear HFz
                have HD := Aside0.mk (HY.out.fr ((Fr.refl (fun _ => False) wr).drew))
                have hB2 : b2 ≤ wr.drew.heap.size := by have h := HF.out.size; have := HB2.out; show b2 ≤ wr.heap.size; omega
                have hwr : IntKind.i64.wrap ((G.kinds.length : Int) + (r : Int)) = (G.kinds.length : Int) + (r : Int) := by rw [IntKind.wrap_i64]; omega
                go_upto_region 27 with (fail)
                refine wp_region_last_drew (S := fun w' => w'.cell? ⟨u, 7, none⟩ = some (.slice A el c) ∧ w'.cell? ⟨p0, 0, none⟩ = some (.slice A0 G.kinds.length c0) ∧ w'.cell? ⟨p1, 1, none⟩ = some (.slice (some adg) T.gt.length d1) ∧ w'.cell? (adg.add i) = some (.slice (some ade) G.rules.length mc) ∧ w'.cell? (ade.add r) = some (.int .i64 q)) (ds := [20]) (by kernel_rfl) ⟨k7, k0, l1, x0, e0⟩ (fun hHeld => ?_)
                have HFd := Aside0.mk (HF.out.drew)
                generalize hWd : wr.drew = Wd at HD HFd hB2 hHeld ⊢
                have hFA := (Fr.refl (fun _ => False) Wd).alloc (.cells #[.int .i64 i, .int .i64 ((G.kinds.length : Int) + (r : Int)), .int .i64 q] 115)
                refine tk 0 ?_
                refine tk 1 ?_
                refine tk 2 ?_
                refine tk 3 ?_
                refine tk 4 ?_
                refine tk 5 ?_
                refine tk 6 ?_
                refine tk 7 ?_
                refine tk 8 ?_
                refine tk 9 ?_
                refine tk 10 ?_
                refine tk 11 ?_
                refine tk 12 ?_
                refine tk 13 ?_
                refine tk 14 ?_
                refine tk 15 ?_
                refine tk 16 ?_
                refine on 17 (fun K hK => ?_)
                go_simp
                refine hK.out _ _ ⟨hFA.cell hHeld.1 id, hFA.cell hHeld.2.1 id, hFA.cell hHeld.2.2.1 id, hFA.cell hHeld.2.2.2.1 id, hFA.cell hHeld.2.2.2.2 id⟩ (fun hHeld2 => ?_)
                clear hK K hHeld2
                try simp only [Act.put, List.setIfInBounds_toArray, List.set_cons_zero, List.set_cons_succ]
                refine on 18 (fun K hK => ?_)
                refine Kd.R_append_step k115 (w0 := Wd) (W := Wd) b2 (by rfl) (.tmp 103) (.tmp 119) 110 115 (.agg #[(.int .i64 0), (.int .i64 0), (.int .i64 0)]) 24 rfl Try.underlying110 info115 rfl (by decide) (by decide) (.slice A el c) EL ⟨i, (G.kinds.length : Int) + (r : Int), q⟩ [.int .i64 i, .int .i64 ((G.kinds.length : Int) + (r : Int)), .int .i64 q] (fun _ => True) (fun _ => False) rfl rfl (k115_mkM _ _ _ ⟨i, (G.kinds.length : Int) + (r : Int), q⟩) (fun _ hf => hf.elim) (fun _ _ => trivial) HD.out.rel (Below.refl _ _) hB2 (by rw [HEL.out]; omega) ?_
                intro vx wx hR hBl hG _
                obtain ⟨A9, k9, rfl⟩ := Kd.R_slice hR
                have hb1 := blk_grown HD.out.blk hG HD.out.ne
                have z7 := (blk_cell hb1 7).trans (show _ = some (Value.slice A el c) from rfl)
                have f7 := blk_frozen hb1 7
                obtain ⟨hP, hPF⟩ := HD.out.push hG hR
                generalize h9 : (EL ++ [(⟨i, (G.kinds.length : Int) + (r : Int), q⟩ : S115)]).length = el9 at hP hPF ⊢
                have HP := Aside0.mk hP
                have HFP := Aside0.mk (HFd.out.trans hPF (fun _ _ h => h))
                have HOL := Aside0.mk (show Fr (fun k => b2 ≤ k) Wd wx from (Fr.refl (fun k => b2 ≤ k) Wd).grown hG (fun k hk _ => Kd.R_base HD.out.rel k hk))
                have HGO := Aside0.mk (HFd.out.trans HOL.out (fun _ _ h => h))
                obtain ⟨⟨n0, _⟩, _, n6⟩ := HBX.out _ (HW2.out.goB HB2.out HGO.out)
                obtain ⟨x2, e2⟩ := HXF.out _ HGO.out
                refine hK.out _ _ ⟨z7, n0, n6, x2, e2⟩ (fun hHeld3 => ?_)
                clear hK K hP hPF hR hBl hG h9
                try simp only [Act.put, List.setIfInBounds_toArray, List.set_cons_zero, List.set_cons_succ]
                refine tk 19 ?_
                refine onl 20 (fun K hK => ?_)
                go_simp
                refine hK.out _ _ ?_
                clear hK K
                try simp only [Act.put]
                refine dn ?_
                generalize hW9 : wx.setCell ⟨u, 7, none⟩ (.slice A9 el9 k9) = W9 at HP HFP ⊢
                clear hW9 hHeld3 hHeld HOL HGO HFd HD HXF
                go_wp2_with (fail)
                exact ⟨⟨r + 1, _, _, by go_num, by omega, HP, HFP, HN2⟩, by simp [intOf]; omega⟩
            case pos =>
            obtain ⟨adm, M, mc, hB0, x0, hmc, hMr⟩ := at_L2 (HTW.out _ HF.out).mv (i : Int) hi0 hi1
            subst hB0
            simp only [Int.toNat_natCast] at x0
            rw [HWD.out.1] at x0 hmc hMr
            obtain ⟨ade, hade, e0, e1⟩ := at_T48 hMr (k : Int) (by omega) (by omega)
            subst hade
            obtain ⟨ee, hee⟩ : ∃ e, rd_T48 (rd_L2 T.mv (i : Int)) (k : Int) = e := ⟨_, rfl⟩
            have HEE := Aside0.mk hee
            simp only [Int.toNat_natCast, hee] at e0 e1
            clear hee hMr
            obtain ⟨f, m⟩ := ee
            simp only at e0 e1
            have hcn := HN.out.cnt
            have HNN := Aside0.mk (show WyN T G.kinds.length (G.kinds.length + G.rules.length) i ((k + 1 : Nat) : Int) (if f = 1 then EL ++ [⟨i, k, m⟩] else EL) from by
              by_cases hf : f = 1
              · subst hf
                rw [if_pos rfl]
                have hsh := HCK.out.shift hlt hkl (by rw [HEE.out])
                rw [HEE.out] at hsh
                simp only at hsh
                obtain ⟨q, rfl⟩ := Int.eq_ofNat_of_zero_le hsh.1
                exact HN.out.step HCK.out (by omega) HRI.out (.inl ⟨k, rfl, by rw [HWD.out.1]; exact hkl, by rw [HEE.out], by rw [HEE.out]⟩)
              · rw [if_neg hf]
                exact HN.out.skip (by omega) (fun q he => by
                  rcases he with ⟨k', e, h1, h2, _⟩ | ⟨r', e, h1, h2⟩
                  · obtain rfl : k = k' := by omega
                    rw [HEE.out] at h2
                    exact hf h2
                  · omega))
            have HCL := Aside0.mk (known_calls wr b2 u gm cm T.mv.length _ _ _ _ _ _ _ ve EL RE HY.out (by have := HF.out.size; have := HB2.out; omega) (by omega) i k f m)
            clear hcn
            go_wp2_with (fail)
            refine HCL.out.mono ?_
            rintro e W5 ⟨rfl, hF5, ve5, hY5⟩
            have HY5 := Aside0.mk hY5
            have HF5 := Aside0.mk (HF.out.trans hF5 (fun k _ e => e))
            clear hY5 hF5 HCL HY HF HN k0 k1 k2 k3 k4 l0 l1 x0 e0 e1
            go_wp2_with (fail)
            exact ⟨⟨k + 1, ve5, _, by go_num, by omega, HY5, HF5, HNN⟩, by simp [intOf]; omega⟩
      | true =>
      have HPS := Aside0.mk (Ps.start HM.out)
      go_wp2_with (fail)
      go_loopw [7, 8] (fun f a W => ∃ (b : Bool) (i : Nat) (RE1 : List Bool), f = .bool b ∧ a = .int .i64 i ∧ i ≤ T.mv.length ∧ Aside0 (WyS W b2 u gm cm T.mv.length (.slice A0 G.kinds.length c0) (.slice A1 G.precs.length c1) (.slice A2 G.rules.length c2) (.slice A3 G.prods.length c3) (.int .i64 G.start) (.slice B0 T.mv.length d0) (.slice B1 T.gt.length d1) (.slice none 0 0) [] RE1) ∧ Aside0 (Fr (fun k => b2 ≤ k) W2 W) ∧ Aside0 (Ps T G.kinds.length RE i b RE1)) (fun _ a _ => T.mv.length - (intOf a).toNat)
      case atStart => exact ⟨false, 0, RE, rfl, rfl, Nat.zero_le _, HY, HF, HPS⟩
      case round =>
        clear HY HF HM HPS HRC
        obtain ⟨b, i, RE1, rfl, rfl, hi, HY, HF, HPS⟩ := hrel
        obtain ⟨_, l0, l1⟩ := HBX.out _ (HW2.out.goB HB2.out HF.out)
        by_cases hlt : i < T.mv.length
        case neg =>
          obtain rfl : i = T.mv.length := by omega
          have hle := HSZ.out _ HPS.out.marks
          have HMS := Aside0.mk (show 2 * (T.mv.length - RE1.count true) + (if b = true then 1 else 0) < 2 * (T.mv.length - RE.count true) + 1 from by
            cases b with
            | true => have := HPS.out.yes rfl; simp only [if_true]; omega
            | false => have := (HPS.out.no rfl).1; rw [this]; simp)
          have HM2 := Aside0.mk HPS.out.marks
          have HRC2 := Aside0.mk (show b = false → ∀ q : Nat, rdOf false RE1 (q : Int) = true ↔ Rc T G.kinds.length q from fun e q => by subst e; exact HPS.out.done rfl q)
          go_wp2_with (fail)
          go_roundg (2 * (T.mv.length - RE1.count true) + (if b = true then 1 else 0))
          case measure => have := HMS.out; simp only [if_true] at hk; omega
          case rel => exact ⟨b, RE1, rfl, Nat.le_refl _, HY, HF, HM2, HRC2⟩
        case pos =>
        have hi0 : (0 : Int) ≤ (i : Int) := by omega
        have hi1 : (i : Int) < (T.mv.length : Int) := by omega
        have j8 := (blk_cell HY.out.blk 8).trans (show _ = some (Value.slice (some ⟨gm, 0, none⟩) T.mv.length cm) from rfl)
        have m1 := (Kd.R_celln false HY.out.rre (i : Int) hi0 hi1).1
        simp only [Int.toNat_natCast] at m1
        obtain ⟨z, hz⟩ : ∃ z, rdOf false RE1 (i : Int) = z := ⟨_, rfl⟩
        have HZ := Aside0.mk hz
        rw [hz] at m1
        clear hz
        cases z with
        | false =>
          have HP2 := Aside0.mk (HPS.out.skip HZ.out)
          go_wp2_with (fail)
          exact ⟨⟨b, i + 1, RE1, rfl, by go_num, by omega, HY, HF, HP2⟩, by simp [intOf]; omega⟩
        | true =>
        have HCL := Aside0.mk (from_calls wr b2 u gm cm T G.kinds.length G.rules.length G.prods.length HCK.out B0 B1 d0 d1 _ _ _ _ _ _ HY.out.blk (fun W h => HT.out.fr ((HOLD.out _ HF.out).trans h (fun k hk e => by have := HB2.out; have := HW2.out.gt; omega))) RE1 HY.out.rre i hlt)
        go_wp2_with (fail)
        refine HCL.out.mono ?_
        rintro e W5 ⟨b1, RE2, rfl, hl, hins, hno, hyes, hF5, hR5⟩
        have HY5 := Aside0.mk (HY.out.marked hF5 hR5)
        have HF5 := Aside0.mk (HF.out.trans hF5 (fun k _ e => by omega))
        have HP5 := Aside0.mk (HPS.out.step HZ.out hl hins hno hyes)
        clear hl hins hno hyes hF5 hR5 HCL HY HF HPS m1 j8 l0 l1
        cases b1 with
        | true =>
          go_wp2_with (fail)
          exact ⟨⟨_, i + 1, RE2, rfl, by go_num, by omega, HY5, HF5, HP5⟩, by simp [intOf]; omega⟩
        | false =>
          go_wp2_with (fail)
          exact ⟨⟨_, i + 1, RE2, rfl, by go_num, by omega, HY5, HF5, HP5⟩, by simp [intOf]; omega⟩
end Go.Proofs.Ytlpmjmanmncmnaa.Tab
