/-
The law TableSounds, walked.
-/
import Derived.Test.YtlpmjmanmncmnaaMAX
import Derived.Test.YtlpmjmanmncmnaaMBC
set_option linter.unusedSimpArgs false
set_option linter.unusedVariables false
namespace Go.Proofs.Ytlpmjmanmncmnaa.Tab
open Go.RowKit Go.Maps Go.Proofs.YtlpmjmanmncmnaaW.PrintWords Go.Proofs.YtlpmjmanmncmnaaW.PrintLast Go.Proofs.YtlpmjmanmncmnaaW.PrintMore Go.Proofs.Ytlpmjmanmncmnaa.Fr Go.Proofs.Ytlpmjmanmncmnaa.PT
open Go.Proofs.Ytlpmjmanmncmnaa.Gram (Gr GAt)
set_option maxHeartbeats 8000000 in
set_option maxRecDepth 100000 in
theorem sounds_calls (w : World) (T : Tb) (G : Gr) (B0 B1 : Option Addr) (d0 d1 : Nat) (hT : TAt w T B0 B1 d0 d1) (A0 A1 A2 A3 : Option Addr) (c0 c1 c2 c3 : Nat) (hG : GAt w G A0 A1 A2 A3 c0 c1 c2 c3) :
    Calls Try.prog 9 #[.agg #[.slice A0 G.kinds.length c0, .slice A1 G.precs.length c1, .slice A2 G.rules.length c2, .slice A3 G.prods.length c3, .int .i64 G.start], .agg #[.slice B0 T.mv.length d0, .slice B1 T.gt.length d1]] w (fun e w' => e = .returned (.bool true) ∧ Fr (fun _ => False) w w') := by
  have hu := Try.underlying72
  have hu2 := Try.underlying25
  have HT := Aside0.mk hT
  have HG := Aside0.mk hG
  clear hT hG
  obtain ⟨vp, hvp⟩ : ∃ vp, (#[.slice A0 G.kinds.length c0, .slice A1 G.precs.length c1, .slice A2 G.rules.length c2, .slice A3 G.prods.length c3, .int .i64 G.start] : Array Value) = vp := ⟨_, rfl⟩
  obtain ⟨vt, hvt⟩ : ∃ vt, (#[.slice B0 T.mv.length d0, .slice B1 T.gt.length d1] : Array Value) = vt := ⟨_, rfl⟩
  have HW0 := Aside0.mk (EnW.new w vp vt)
  rw [← hvp, ← hvt] at HW0
  have HVP := Aside0.mk hvp
  have HVT := Aside0.mk hvt
  clear hvp hvt
  go_enter Try.func9, Try.ntmps9
  go_upto_region 1 with (fail)
  obtain ⟨W0, hW0⟩ : ∃ W0, ((w.alloc (.cells #[.slice A0 G.kinds.length c0, .slice A1 G.precs.length c1, .slice A2 G.rules.length c2, .slice A3 G.prods.length c3, .int .i64 G.start] 72)).alloc (.cells #[.slice B0 T.mv.length d0, .slice B1 T.gt.length d1] 25)) = W0 := ⟨_, rfl⟩
  rw [hW0] at HW0
  simp only [hW0]
  clear hW0
  rw [HVP.out, HVT.out] at HW0
  obtain ⟨p0, hp0⟩ : ∃ p0, w.heap.size = p0 := ⟨_, rfl⟩
  have HP0 := Aside0.mk hp0
  simp only [hp0]
  obtain ⟨p1, hp1⟩ : ∃ p1, p0 + 1 = p1 := ⟨_, rfl⟩
  have HP1 := Aside0.mk hp1
  simp only [hp1]
  clear hp0 hp1
  have HBX := Aside0.mk (show ∀ W, EnW w W vp vt → (W.cell? ⟨p0, 0, none⟩ = some (.slice A0 G.kinds.length c0) ∧ W.cell? ⟨p0, 1, none⟩ = some (.slice A1 G.precs.length c1) ∧ W.cell? ⟨p0, 2, none⟩ = some (.slice A2 G.rules.length c2) ∧ W.cell? ⟨p0, 3, none⟩ = some (.slice A3 G.prods.length c3) ∧ W.cell? ⟨p0, 4, none⟩ = some (.int .i64 G.start)) ∧ W.cell? ⟨p1, 0, none⟩ = some (.slice B0 T.mv.length d0) ∧ W.cell? ⟨p1, 1, none⟩ = some (.slice B1 T.gt.length d1) from fun W h => by
    have h0 := h.b0
    have h1 := h.b1
    rw [HP0.out, ← HVP.out] at h0
    rw [HP0.out, HP1.out, ← HVT.out] at h1
    exact ⟨⟨(blk_cell h0 0).trans rfl, (blk_cell h0 1).trans rfl, (blk_cell h0 2).trans rfl, (blk_cell h0 3).trans rfl, (blk_cell h0 4).trans rfl⟩, (blk_cell h1 0).trans rfl, (blk_cell h1 1).trans rfl⟩)
  obtain ⟨⟨k0, k1, k2, k3, k4⟩, l0, l1⟩ := HBX.out _ HW0.out
  have HC1 := Aside0.mk (tsound_calls W0 T G B0 B1 d0 d1 (HT.out.fr HW0.out.fr) A0 A1 A2 A3 c0 c1 c2 c3 (HG.out.go HW0.out.fr))
  go_upto_region 2 with (go_at_call 30; refine HC1.out.mono ?_; rintro e W1 ⟨r, f, rfl, hz1, hF1⟩; have HZ1 := Aside0.mk hz1; have HW1 := Aside0.mk (HW0.out.go hF1); clear hz1 hF1)
  clear k0 k1 k2 k3 k4 l0 l1 HC1
  obtain ⟨⟨k0, k1, k2, k3, k4⟩, l0, l1⟩ := HBX.out _ HW1.out
  have HC2 := Aside0.mk (rsound_calls W1 T G B0 B1 d0 d1 (HT.out.fr HW1.out.fr) A0 A1 A2 A3 c0 c1 c2 c3 (HG.out.go HW1.out.fr))
  go_upto_region 3 with (go_at_call 31; refine HC2.out.mono ?_; rintro e W2 ⟨r2, f2, rfl, hz2, hF2⟩; have HZ2 := Aside0.mk hz2; have HW2 := Aside0.mk (HW1.out.go hF2); clear hz2 hF2)
  clear k0 k1 k2 k3 k4 l0 l1 HC2
  obtain ⟨rfl, rfl⟩ := HZ1.out.one HZ2.out
  have HC3 := Aside0.mk (alive_calls W2)
  go_wp2_with (go_at_call 15; refine HC3.out.mono ?_; rintro e W3 ⟨rfl, hF3⟩; have HF3 := Aside0.mk hF3; clear hF3)
  go_ret
  exact ⟨rfl, HW2.out.fr.trans HF3.out (fun _ _ h => h)⟩
end Go.Proofs.Ytlpmjmanmncmnaa.Tab
