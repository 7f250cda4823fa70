/-
table.Pack at the table of one state.
-/
import Derived.StillTailTactics
import Derived.Test.YtlpmjmanmncmnaaMBA
import Derived.Test.YtlpmjmanmncmnaaMAZ
set_option linter.unusedSimpArgs false
set_option linter.unusedVariables false
namespace Go.Proofs.Ytlpmjmanmncmnaa.Tab
open Go.RowKit Go.Sort Go.Proofs.YtlpmjmanmncmnaaW.PrintWords Go.Proofs.YtlpmjmanmncmnaaW.PrintLast Go.Proofs.YtlpmjmanmncmnaaW.PrintMore Go.Proofs.Ytlpmjmanmncmnaa.Fr Go.Proofs.Ytlpmjmanmncmnaa.PT
/-- The table of one state, and the same without its default. -/
def mOne : S48 := ⟨2, 0⟩
def tOne : Tb := ⟨[[mOne, ⟨0, 0⟩, mOne]], [[0]]⟩
theorem one_usual : IsUsual [mOne, ⟨0, 0⟩, mOne] mOne := by
  right
  refine ⟨rfl, by decide, fun n hn => ?_⟩
  right
  have h : n = 0 := by
    obtain ⟨x, hx, h2, h3⟩ := cnt_mem hn
    have hx' : x = ⟨2, 0⟩ ∨ x = ⟨0, 0⟩ ∨ x = ⟨2, 0⟩ := by simpa [mOne] using hx
    rcases hx' with rfl | rfl | rfl
    · exact h3.symm
    · cases h2
    · exact h3.symm
  subst h
  exact ⟨rfl, by decide⟩
theorem one_ok : ∀ s : Nat, s < tOne.mv.length → StOk tOne 3 1 1 s := by
  intro s hs
  obtain rfl : s = 0 := by have : s < 1 := hs; omega
  refine ⟨⟨by decide, fun i hi => ?_⟩, ?_⟩
  · have hi3 : i < 3 := hi
    have : i = 0 ∨ i = 1 ∨ i = 2 := by omega
    rcases this with rfl | rfl | rfl <;> decide
  · refine ⟨by decide, fun i hi => ?_⟩
    obtain rfl : i = 0 := by have : i < 1 := hi; omega
    decide
theorem one_chk {r : Int} (h : IsChk tOne 3 1 1 r) : r = 0 := h.ok (by rintro (h | h | h) <;> revert h <;> decide) (by rintro (h | h | h) <;> revert h <;> decide) one_ok
theorem R_set2 {α : Type} {d : Kd α} {e base : Nat} {ok : Nat → Prop} {W : World} {v : Value} {xs : List α} (h : d.R e W base ok v xs) {g t : Nat} {cells : Array Value} (hb : W.heap[g]? = some (.cells cells t (0, 0))) (ht : ∀ q, q ∈ e :: d.E → q ≠ t) (i j : Nat) (u1 u2 : Value) :
    d.R e ((W.setCell ⟨g, i, none⟩ u1).setCell ⟨g, j, none⟩ u2) base ok v xs := Kd.R_set (Kd.R_set h hb ht i u1) (blk_put hb i u1 rfl) ht j u2
theorem ne41i : ∀ q, q ∈ 3 :: (Kd.int .i64).E → q ≠ 41 := (show ∀ q, q ∈ [3] → q ≠ 41 by decide)
theorem ne41m : ∀ q, q ∈ 48 :: k48.E → q ≠ 41 := by decide
theorem ne41s : ∀ q, q ∈ 39 :: (Kd.slice 3 (Kd.int .i64)).E → q ≠ 41 := (show ∀ q, q ∈ [39, 3] → q ≠ 41 by decide)
theorem fr_row {S : Nat → Prop} {w w1 : World} (h : Fr S w w1) {q : Nat} (cs : Array Value) (hq : q < w.heap.size → S q) : Fr S w (w1.setRow q cs) :=
  h.trans (T := fun i => i = q) ⟨rfl, rfl, rfl, by rw [setRow_size]; exact Nat.le_refl _, fun i _ hn => setRow_other w1 q i cs hn⟩ (fun i hi e => by subst e; exact hq hi)
theorem R_row {α : Type} {d : Kd α} {e base : Nat} {ok : Nat → Prop} {W : World} {v : Value} {xs : List α} (h : d.R e W base ok v xs) {q t : Nat} {old : Array Value} (hq : W.heap[q]? = some (.cells old t (0, 0))) (ht : ∀ k, k ∈ e :: d.E → k ≠ t) (cs : Array Value) : d.R e (W.setRow q cs) base ok v xs := by
  have h2 := Kd.R_types h hq ht
  exact Kd.R_mono (Kd.R_step h2 (fun k hk _ => setRow_other W q k cs hk.2)) (fun _ hk => hk.1)
theorem one_wf : ∀ x, x ∈ [mOne, ⟨0, 0⟩, mOne] → (Lit.int .i64 x.f1).wf = true := by
  intro x hx
  have hx' : x = ⟨2, 0⟩ ∨ x = ⟨0, 0⟩ ∨ x = ⟨2, 0⟩ := by simpa [mOne] using hx
  rcases hx' with rfl | rfl | rfl <;> decide
abbrev zT : Array Value := #[.int .i64 3, .int .i64 1, .slice none 0 0, .slice none 0 0, .slice none 0 0, .slice none 0 0, .slice none 0 0, .slice none 0 0, .slice none 0 0]
abbrev zP : Array Value := #[.int .i64 0, .int .i64 0, .slice none 0 0, .slice none 0 0, .slice none 0 0, .slice none 0 0, .slice none 0 0, .slice none 0 0, .slice none 0 0]
theorem wrap0 : IntKind.i64.wrap 0 = 0 := rfl
attribute [local go_sem] wrap0
set_option maxHeartbeats 8000000 in
set_option maxRecDepth 100000 in
theorem pack_one (w : World) (A0 A1 : Option Addr) (c0 c1 : Nat) (h : TAt w tOne A0 A1 c0 c1) :
    Calls Try.prog 16 #[.agg #[.slice A0 1 c0, .slice A1 1 c1], .int .i64 3, .int .i64 1, .int .i64 1] w fun e w' => ∃ vD vB vC vM gB gC gM, e = .returned (.tuple #[.agg #[.int .i64 3, .int .i64 1, vD, vB, vC, vM, gB, gC, gM], .int .i64 0]) ∧
      k48.R 48 w' w.heap.size (fun _ => True) vD [mOne] ∧ (Kd.int .i64).R 3 w' w.heap.size (fun _ => True) vB [0] ∧ (Kd.int .i64).R 3 w' w.heap.size (fun _ => True) vC [-1, -1, -1] ∧ k48.R 48 w' w.heap.size (fun _ => True) vM [⟨0, 0⟩, ⟨0, 0⟩, ⟨0, 0⟩] ∧
      (Kd.int .i64).R 3 w' w.heap.size (fun _ => True) gB [0] ∧ (Kd.int .i64).R 3 w' w.heap.size (fun _ => True) gC [0] ∧ (Kd.int .i64).R 3 w' w.heap.size (fun _ => True) gM [0] ∧ Fr (fun _ => False) w w' := by
  have hu := Try.underlying25
  have hu2 := Try.underlying41
  have HT := Aside0.mk h
  clear h
  go_enter Try.func16, Try.ntmps16
  go_upto_region 1 with (fail)
  have HF0 := Aside0.mk (((Fr.refl (fun _ => False) w).alloc (.cells #[.slice A0 1 c0, .slice A1 1 c1] 25)).alloc (.cells zP 41))
  have HB0 := Aside0.mk (blk_alloc (blk_new w (.cells #[.slice A0 1 c0, .slice A1 1 c1] 25)) (.cells zP 41))
  have HR0 := Aside0.mk (blk_new (w.alloc (.cells #[.slice A0 1 c0, .slice A1 1 c1] 25)) (.cells zP 41))
  rw [World.size_alloc] at HR0
  obtain ⟨q0, hq0⟩ : ∃ q0, w.heap.size = q0 := ⟨_, rfl⟩
  have HQ0 := Aside0.mk hq0
  rw [hq0] at HB0 HR0
  simp only [hq0]
  clear hq0
  have hz : (w.alloc (.cells #[.slice A0 1 c0, .slice A1 1 c1] 25)).alloc (.cells zP 41) = (w.alloc (.cells #[.slice A0 1 c0, .slice A1 1 c1] 25)).alloc (.cells zP 41) := rfl
  unfold zP at HF0 HB0 HR0
  generalize (w.alloc (.cells #[.slice A0 1 c0, .slice A1 1 c1] 25)).alloc (.cells #[.int .i64 0, .int .i64 0, .slice none 0 0, .slice none 0 0, .slice none 0 0, .slice none 0 0, .slice none 0 0, .slice none 0 0, .slice none 0 0] 41) = W0 at HF0 HB0 HR0 ⊢
  clear hz
  have b0 := (blk_cell HB0.out 0).trans (show _ = some (Value.slice A0 1 c0) from rfl)
  have b1 := (blk_cell HB0.out 1).trans (show _ = some (Value.slice A1 1 c1) from rfl)
  go_upto_region 4 with (go_at_call 12; refine (check_calls W0 tOne A0 A1 c0 c1 (HT.out.fr HF0.out) 3 1 1).mono ?_; rintro e W1 ⟨r, rfl, hr, hF1⟩; obtain rfl := one_chk hr; clear hr; have HF1 := Aside0.mk hF1; clear hF1)
  clear b0 b1
  have HB1 := Aside0.mk (HF1.out.blk HB0.out id)
  have HR1 := Aside0.mk (HF1.out.blk HR0.out id)
  have HFA := Aside0.mk (HF0.out.trans HF1.out (fun _ _ h => h))
  clear HB0 HR0 HF0 HF1
  go_upto_region 6 with (fail)
  have HF2 := Aside0.mk (HFA.out.alloc (.cells zT 41))
  have HB2 := Aside0.mk (blk_alloc HB1.out (.cells zT 41))
  have HR2 := Aside0.mk (blk_alloc HR1.out (.cells zT 41))
  have HP2 := Aside0.mk (blk_new W1 (.cells zT 41))
  have hq1 : q0 + 1 < W1.heap.size := blk_lt HR1.out
  obtain ⟨qT, hqT⟩ : ∃ q, W1.heap.size = q := ⟨_, rfl⟩
  rw [hqT] at hq1 HP2
  simp only [hqT]
  clear hqT HFA HB1 HR1
  unfold zT at HF2 HB2 HR2 HP2
  generalize W1.alloc (.cells #[.int .i64 3, .int .i64 1, .slice none 0 0, .slice none 0 0, .slice none 0 0, .slice none 0 0, .slice none 0 0, .slice none 0 0, .slice none 0 0] 41) = W2 at HF2 HB2 HR2 HP2 ⊢
  have b0 := (blk_cell HB2.out 0).trans (show _ = some (Value.slice A0 1 c0) from rfl)
  have b1 := (blk_cell HB2.out 1).trans (show _ = some (Value.slice A1 1 c1) from rfl)
  go_wp2_with (fail)
  obtain ⟨ad, AR, cr, rfl, hx, hlr, hCR⟩ := at_L2 HT.out.mv 0 (by omega) (by decide)
  have HCR := Aside0.mk (show Kd.C k48 w AR 3 [mOne, ⟨0, 0⟩, mOne] from hCR)
  clear hCR
  replace hx : w.cell? ad = some (.slice AR 3 cr) := hx
  have HX := Aside0.mk hx
  replace hx := HF2.out.cell hx id
  replace hlr : 3 ≤ cr := hlr
  have HUC := Aside0.mk (show Calls Try.prog 33 #[.slice AR 3 cr] W2 (UsualPost W2 [mOne, ⟨0, 0⟩, mOne]) from usual_calls W2 [mOne, ⟨0, 0⟩, mOne] AR cr (Kd.C_below HCR.out HF2.out.to_below) (by decide) one_wf)
  refine wp_loop_rounds 2 ?_
  rw [rounds_succ]
  go_upto_region 10 with (go_at_call 33; refine HUC.out.mono ?_; rintro e W3 ⟨m, rfl, hm, hF3⟩; obtain rfl := usual_one hm one_usual; clear hm; have HF3 := Aside0.mk hF3; clear hF3)
  have HUC0 := HUC
  clear HUC0 HUC b0 b1 hx
  have HFm := Aside0.mk (HF3.out.alloc (.cells #[.int .i64 2, .int .i64 0] 48))
  have HF4 := Aside0.mk (HF2.out.trans HFm.out (fun _ _ h => h))
  have HB4 := Aside0.mk (HFm.out.blk HB2.out id)
  have HR4 := Aside0.mk (HFm.out.blk HR2.out id)
  have HP4 := Aside0.mk (HFm.out.blk HP2.out id)
  have HU4 := Aside0.mk (blk_new W3 (.cells #[.int .i64 2, .int .i64 0] 48))
  have hqu : qT < W3.heap.size := blk_lt (HF3.out.blk HP2.out id)
  obtain ⟨qU, hqU⟩ : ∃ q, W3.heap.size = q := ⟨_, rfl⟩
  rw [hqU] at hqu HU4
  simp only [hqU, show mOne.f0 = 2 from rfl, show mOne.f1 = 0 from rfl]
  clear hqU HB2 HR2 HP2 HF3 HFm
  generalize W3.alloc (.cells #[.int .i64 2, .int .i64 0] 48) = W4 at HF4 HB4 HR4 HP4 HU4 ⊢
  have u0 := (blk_cell HU4.out 0).trans (show _ = some (Value.int .i64 2) from rfl)
  have u1 := (blk_cell HU4.out 1).trans (show _ = some (Value.int .i64 0) from rfl)
  have p2 := (blk_cell HP4.out 2).trans (show _ = some (Value.slice none 0 0) from rfl)
  have hs4 : qU < W4.heap.size := blk_lt HU4.out
  go_upto_region 11 with (at_builtin; go_must (refine Kd.R_append k48 (w0 := W4) (W := W4) W4.heap.size rfl (.tmp 50) (.tmp 52) 38 48 (.agg #[(.int .i64 0), (.int .i64 0)]) 16 rfl Try.underlying38 info48 rfl (by decide) (by decide) (.slice none 0 0) [] mOne [.int .i64 2, .int .i64 0] (fun _ => True) (fun _ => False) rfl rfl (k48_mkM _ _ _ mOne) (fun _ h => h.elim) (fun _ _ => trivial) (Kd.R_nil _ _ _ _ _) (Below.refl _ _) (Nat.le_refl _) (by decide) ?_); intro vD W5 h5 hB5 hg5 hat5; have HD5 := Aside0.mk (show k48.R 48 W5 W4.heap.size (fun _ => True) vD [mOne] from h5); have HF5 := Aside0.mk (show Fr (fun _ => False) W4 W5 from Fr.of_below hB5); clear h5 hB5 hg5 hat5; obtain ⟨gd, cd, rfl, hgd, hgl⟩ := Kd.R_form HD5.out (by simp); rw [show ([mOne] : List S48).length = 1 from rfl] at HD5 ⊢; have HGD := Aside0.mk hgd; clear hgd hgl; have HP5 := Aside0.mk (HF5.out.blk HP4.out id); have pf2 := blk_frozen HP5.out 2; have p2' := (blk_cell HP5.out 2).trans (show _ = some (Value.slice none 0 0) from rfl))
  clear u0 u1 p2 pf2 p2'
  have HSX := (Fr.refl (fun k => k = qT) W5).set (g := qT) (o := 2) (.slice (some ⟨gd, 0, none⟩) 1 cd) (fun _ => rfl)
  have HF6 := Aside0.mk ((HF4.out.trans HF5.out (fun _ _ h => h)).set (g := qT) (o := 2) (.slice (some ⟨gd, 0, none⟩) 1 cd) (fun h => absurd h (by show ¬ qT < w.heap.size; have := HQ0.out; omega)))
  have HB6 := Aside0.mk (HSX.blk (HF5.out.blk HB4.out id) (by omega))
  have HR6 := Aside0.mk (HSX.blk (HF5.out.blk HR4.out id) (by omega))
  have HU6 := Aside0.mk (HSX.blk (HF5.out.blk HU4.out id) (by omega))
  have HP6 := Aside0.mk (blk_put HP5.out 2 (.slice (some ⟨gd, 0, none⟩) 1 cd) rfl)
  have HD6 := Aside0.mk (Kd.R_set HD5.out HP5.out (show ∀ q, q ∈ 48 :: k48.E → q ≠ 41 by decide) 2 (.slice (some ⟨gd, 0, none⟩) 1 cd))
  replace HP6 : Aside0 ((W5.setCell ⟨qT, 2, none⟩ (.slice (some ⟨gd, 0, none⟩) 1 cd)).heap[qT]? = some (.cells #[.int .i64 3, .int .i64 1, .slice (some ⟨gd, 0, none⟩) 1 cd, .slice none 0 0, .slice none 0 0, .slice none 0 0, .slice none 0 0, .slice none 0 0, .slice none 0 0] 41)) := HP6
  have hs6 : W4.heap.size ≤ (W5.setCell ⟨qT, 2, none⟩ (.slice (some ⟨gd, 0, none⟩) 1 cd)).heap.size := Nat.le_trans HF5.out.size HSX.size
  clear HF4 HB4 HR4 HP4 HU4 HD5 HF5 HP5 HSX
  generalize W5.setCell ⟨qT, 2, none⟩ (.slice (some ⟨gd, 0, none⟩) 1 cd) = W6 at HF6 HB6 HR6 HU6 HP6 HD6 hs6 ⊢
  have u0 := (blk_cell HU6.out 0).trans (show _ = some (Value.int .i64 2) from rfl)
  have u1 := (blk_cell HU6.out 1).trans (show _ = some (Value.int .i64 0) from rfl)
  obtain ⟨ae, rfl, x0, x1⟩ := at_T48 HCR.out 0 (by omega) (by omega)
  obtain ⟨ae', e2, y0, y1⟩ := at_T48 HCR.out 1 (by omega) (by omega)
  obtain rfl : ae = ae' := by injection e2
  obtain ⟨ae', e3, z0, z1⟩ := at_T48 HCR.out 2 (by omega) (by omega)
  obtain rfl : ae = ae' := by injection e3
  clear e2 e3
  have HX0 := Aside0.mk (show w.cell? ae = some (.int .i64 2) from x0)
  have HX1 := Aside0.mk (show w.cell? ⟨ae.block, ae.off + 1, none⟩ = some (.int .i64 0) from x1)
  have HY0 := Aside0.mk (show w.cell? ⟨ae.block, ae.off + 2, none⟩ = some (.int .i64 0) from y0)
  have HY1 := Aside0.mk (show w.cell? ⟨ae.block, ae.off + 2 + 1, none⟩ = some (.int .i64 0) from y1)
  have HZ0 := Aside0.mk (show w.cell? ⟨ae.block, ae.off + 4, none⟩ = some (.int .i64 2) from z0)
  have HZ1 := Aside0.mk (show w.cell? ⟨ae.block, ae.off + 4 + 1, none⟩ = some (.int .i64 0) from z1)
  clear x0 x1 y0 y1 z0 z1 u0 u1
  go_wp2_with (fail)
  refine wp_loop_rounds 4 ?_
  rw [rounds_succ]
  have x0 := HF6.out.cell HX0.out id
  have x1 := HF6.out.cell HX1.out id
  go_upto_region 15 with (fail)
  clear x0 x1
  have HF7 := Aside0.mk (HF6.out.alloc (.cells #[.int .i64 2, .int .i64 0] 48))
  have HK7 := (Fr.refl (fun _ => False) W6).alloc (.cells #[.int .i64 2, .int .i64 0] 48)
  have HB7 := Aside0.mk (HK7.blk HB6.out id)
  have HR7 := Aside0.mk (HK7.blk HR6.out id)
  have HU7 := Aside0.mk (HK7.blk HU6.out id)
  have HP7 := Aside0.mk (HK7.blk HP6.out id)
  have HD7 := Aside0.mk (Kd.R_step HD6.out (fun k _ hk => HK7.block k hk id))
  have HE7 := blk_new W6 (.cells #[.int .i64 2, .int .i64 0] 48)
  clear HK7 HF6 HB6 HR6 HU6 HP6 HD6
  obtain ⟨qE7, hqE7⟩ : ∃ q, W6.heap.size = q := ⟨_, rfl⟩
  rw [hqE7] at HE7
  simp only [hqE7]
  generalize W6.alloc (.cells #[.int .i64 2, .int .i64 0] 48) = W7 at HF7 HB7 HR7 HU7 HP7 HD7 HE7 ⊢
  have u0 := (blk_cell HU7.out 0).trans (show _ = some (Value.int .i64 2) from rfl)
  have u1 := (blk_cell HU7.out 1).trans (show _ = some (Value.int .i64 0) from rfl)
  have e0 := (blk_cell HE7 0).trans (show _ = some (Value.int .i64 2) from rfl)
  have e1 := (blk_cell HE7 1).trans (show _ = some (Value.int .i64 0) from rfl)
  go_wp2_with (fail)
  clear u0 u1 e0 e1 HE7
  rw [rounds_succ]
  have x0 := HF7.out.cell HY0.out id
  have x1 := HF7.out.cell HY1.out id
  go_upto_region 15 with (fail)
  clear x0 x1
  have HF8 := Aside0.mk (HF7.out.alloc (.cells #[.int .i64 0, .int .i64 0] 48))
  have HK8 := (Fr.refl (fun _ => False) W7).alloc (.cells #[.int .i64 0, .int .i64 0] 48)
  have HB8 := Aside0.mk (HK8.blk HB7.out id)
  have HR8 := Aside0.mk (HK8.blk HR7.out id)
  have HU8 := Aside0.mk (HK8.blk HU7.out id)
  have HP8 := Aside0.mk (HK8.blk HP7.out id)
  have HD8 := Aside0.mk (Kd.R_step HD7.out (fun k _ hk => HK8.block k hk id))
  have HE8 := blk_new W7 (.cells #[.int .i64 0, .int .i64 0] 48)
  clear HK8 HF7 HB7 HR7 HU7 HP7 HD7
  obtain ⟨qE8, hqE8⟩ : ∃ q, W7.heap.size = q := ⟨_, rfl⟩
  rw [hqE8] at HE8
  simp only [hqE8]
  generalize W7.alloc (.cells #[.int .i64 0, .int .i64 0] 48) = W8 at HF8 HB8 HR8 HU8 HP8 HD8 HE8 ⊢
  have u0 := (blk_cell HU8.out 0).trans (show _ = some (Value.int .i64 2) from rfl)
  have u1 := (blk_cell HU8.out 1).trans (show _ = some (Value.int .i64 0) from rfl)
  have e0 := (blk_cell HE8 0).trans (show _ = some (Value.int .i64 0) from rfl)
  have e1 := (blk_cell HE8 1).trans (show _ = some (Value.int .i64 0) from rfl)
  go_wp2_with (fail)
  clear u0 u1 e0 e1 HE8
  rw [rounds_succ]
  have x0 := HF8.out.cell HZ0.out id
  have x1 := HF8.out.cell HZ1.out id
  go_upto_region 15 with (fail)
  clear x0 x1
  have HF9 := Aside0.mk (HF8.out.alloc (.cells #[.int .i64 2, .int .i64 0] 48))
  have HK9 := (Fr.refl (fun _ => False) W8).alloc (.cells #[.int .i64 2, .int .i64 0] 48)
  have HB9 := Aside0.mk (HK9.blk HB8.out id)
  have HR9 := Aside0.mk (HK9.blk HR8.out id)
  have HU9 := Aside0.mk (HK9.blk HU8.out id)
  have HP9 := Aside0.mk (HK9.blk HP8.out id)
  have HD9 := Aside0.mk (Kd.R_step HD8.out (fun k _ hk => HK9.block k hk id))
  have HE9 := blk_new W8 (.cells #[.int .i64 2, .int .i64 0] 48)
  clear HK9 HF8 HB8 HR8 HU8 HP8 HD8
  obtain ⟨qE9, hqE9⟩ : ∃ q, W8.heap.size = q := ⟨_, rfl⟩
  rw [hqE9] at HE9
  simp only [hqE9]
  generalize W8.alloc (.cells #[.int .i64 2, .int .i64 0] 48) = W9 at HF9 HB9 HR9 HU9 HP9 HD9 HE9 ⊢
  have u0 := (blk_cell HU9.out 0).trans (show _ = some (Value.int .i64 2) from rfl)
  have u1 := (blk_cell HU9.out 1).trans (show _ = some (Value.int .i64 0) from rfl)
  have e0 := (blk_cell HE9 0).trans (show _ = some (Value.int .i64 2) from rfl)
  have e1 := (blk_cell HE9 1).trans (show _ = some (Value.int .i64 0) from rfl)
  go_wp2_with (fail)
  clear u0 u1 e0 e1 HE9
  rw [rounds_succ]
  obtain ⟨ag, AG, cg, rfl, hg, hlg, hCG⟩ := at_L3 HT.out.gt 0 (by omega) (by decide)
  have HGR := Aside0.mk (show w.cell? ag = some (.slice AG 1 cg) from hg)
  have HCG := Aside0.mk (show (Kd.int .i64).C w AG 1 [0] from hCG)
  obtain ⟨ah, rfl, hh⟩ := Kd.at_int HCG.out 0 (by omega) (by omega)
  have HGX := Aside0.mk (show w.cell? ah = some (.int .i64 0) from hh)
  have HLG := Aside0.mk (show 1 ≤ cg from hlg)
  clear hg hCG hh hlg
  have b1 := (blk_cell HB9.out 1).trans (show _ = some (Value.slice (some ag) 1 c1) from rfl)
  have g0 := HF9.out.cell HGR.out id
  have h0 := HF9.out.cell HGX.out id
  go_wp2_with (fail)
  refine wp_loop_rounds 2 ?_
  rw [rounds_succ]
  go_wp2_with (at_builtin; go_must (refine Kd.R_append (Kd.int .i64) (w0 := W9) (W := W9) W9.heap.size rfl (.tmp 88) (.tmp 90) 39 3 (.int .i64 0) 8 rfl Try.underlying39 info3 rfl (by decide) (by decide) (.slice none 0 0) [] 0 [.int .i64 0] (fun _ => True) (fun _ => False) rfl rfl rfl (fun _ hk => hk.elim) (fun _ _ => trivial) (Kd.R_nil _ _ _ _ _) (Below.refl _ _) (Nat.le_refl _) (by decide) ?_); intro v10 W10 h10 hB10 hg10 hat10; have HK10 := Aside0.mk (show Fr (fun _ => False) W9 W10 from Fr.of_below hB10); have HN10 := Aside0.mk (show (Kd.int .i64).R 3 W10 W9.heap.size (fun _ => True) v10 [0] from h10); clear h10 hB10 hg10 hat10; obtain ⟨gc, cc, rfl, hgc, hgcl⟩ := Kd.R_form HN10.out (by simp); have HGC := Aside0.mk hgc; clear hgc hgcl; rw [show ([0] : List Int).length = 1 from rfl] at HN10 ⊢)
  clear b1 g0 h0
  rw [rounds_succ]
  have HF10 := Aside0.mk (HF9.out.trans HK10.out (fun _ _ h => h))
  have HB10 := Aside0.mk (HK10.out.blk HB9.out id)
  have HR10 := Aside0.mk (HK10.out.blk HR9.out id)
  have HP10 := Aside0.mk (HK10.out.blk HP9.out id)
  have HD10 := Aside0.mk (Kd.R_step HD9.out (fun k _ hk => HK10.out.block k hk id))
  clear HF9 HB9 HR9 HU9 HP9 HD9
  have hs10 : W9.heap.size ≤ W10.heap.size := HK10.out.size
  go_upto_region 26 with (first
    | (at_builtin; (refine Kd.R_append (Kd.slice 3 (Kd.int .i64)) (w0 := W10) (W := W10) W10.heap.size rfl (.tmp 93) (.tmp 95) 23 39 (.slice none 0 0) 24 rfl Try.underlying23 info39 rfl (by decide) (by decide) (.slice none 0 0) [] [] [.slice none 0 0] (fun _ => True) (fun _ => True) rfl rfl ⟨_, rfl, Kd.R_nil _ _ _ _ _⟩ (fun _ _ => ⟨trivial, by simp [Value.ownBlock]⟩) (fun _ _ => trivial) (Kd.R_nil _ _ _ _ _) (Below.refl _ _) (Nat.le_refl _) (by decide) ?_); intro v11 W11 h11 hB11 hg11 hat11; have HK11 := Aside0.mk (show Fr (fun _ => False) W10 W11 from Fr.of_below hB11); have HN11 := Aside0.mk (show (Kd.slice 3 (Kd.int .i64)).R 39 W11 W10.heap.size (fun _ => True) v11 [[]] from h11); clear h11 hB11 hg11 hat11; obtain ⟨gr, cs, rfl, hgr, hgrl⟩ := Kd.R_form HN11.out (by simp); clear hgr hgrl; rw [show ([[]] : List (List Int)).length = 1 from rfl] at HN11 ⊢; have HC11 := Aside0.mk (Kd.R_step HN10.out (fun k _ hk => HK11.out.block k hk id)))
    | (at_builtin; go_must (refine Kd.R_append (Kd.slice 3 (Kd.int .i64)) (w0 := W11) (W := W11) W9.heap.size rfl (.tmp 97) (.tmp 99) 23 39 (.slice none 0 0) 24 rfl Try.underlying23 info39 rfl (by decide) (by decide) (.slice none 0 0) [] [0] [.slice (some ⟨gc, 0, none⟩) 1 cc] (fun _ => True) (fun _ => True) rfl rfl ⟨_, rfl, Kd.R_mono HC11.out (fun _ _ => trivial)⟩ (fun _ _ => ⟨trivial, by simp [Value.ownBlock]⟩) (fun _ _ => trivial) (Kd.R_nil _ _ _ _ _) (Below.refl _ _) (Nat.le_trans hs10 HK11.out.size) (by decide) ?_); intro v12 W12 h12 hB12 hg12 hat12; have HK12 := Aside0.mk (show Fr (fun _ => False) W11 W12 from (Fr.refl (fun _ => False) W11).trans (grown_fr hg12 (b0 := W11.heap.size) (fun k hk => by simp [Value.ownBlock] at hk)) (fun i hi h => by omega)); have HN12 := Aside0.mk (show (Kd.slice 3 (Kd.int .i64)).R 39 W12 W9.heap.size (fun _ => True) v12 [[0]] from h12); clear h12 hB12 hg12 hat12; obtain ⟨gk, ck, rfl, hgk, hgkl⟩ := Kd.R_form HN12.out (by simp); clear hgk hgkl; rw [show ([[0]] : List (List Int)).length = 1 from rfl] at HN12 ⊢))
  have HF12 := Aside0.mk ((HF10.out.trans HK11.out (fun _ _ h => h)).trans HK12.out (fun _ _ h => h))
  have HKK := Aside0.mk (HK11.out.trans HK12.out (fun _ _ h => h))
  have HB12 := Aside0.mk (HKK.out.blk HB10.out id)
  have HR12 := Aside0.mk (HKK.out.blk HR10.out id)
  have HP12 := Aside0.mk (HKK.out.blk HP10.out id)
  have HD12 := Aside0.mk (Kd.R_step HD10.out (fun k _ hk => HKK.out.block k hk id))
  have HM12 := Aside0.mk (Kd.R_step HN11.out (fun k _ hk => HK12.out.block k hk id))
  clear HF10 HB10 HR10 HP10 HD10 HN11 HK11 HK12 HKK HC11 HN10 HK10
  have hgrl : gr < W12.heap.size := by obtain ⟨g, _, e, _, h, _⟩ := Kd.R_form HM12.out (by simp); injection e with e1 _ _; injection e1 with e2; injection e2 with e3 _ _; subst e3; exact h
  obtain ⟨cN, _, hM, hcN, _⟩ := Kd.R_elem HM12.out [] 0 (by omega) (by omega)
  obtain ⟨vN, rfl, hvN⟩ := hM
  obtain ⟨AN, nN, rfl⟩ := Kd.R_slice hvN
  have HL1 := Aside0.mk (laid_none W12 gr cs AN nN hgrl (hcN 0 _ rfl))
  clear hvN hcN
  rw [rounds_succ]
  go_upto_region 27 with (go_at_call 41; refine HL1.out.mono ?_; rintro e W13 ⟨vB, vC, rfl, hvB, hvC, hF13⟩; have HK13 := Aside0.mk hF13; have HVB := Aside0.mk hvB; have HVC := Aside0.mk hvC; clear hF13 hvB hvC; obtain ⟨gB, cB, rfl, hg1, _⟩ := Kd.R_form HVB.out (by simp); obtain ⟨gC, cC, rfl, hg2, _⟩ := Kd.R_form HVC.out (by simp); clear hg1 hg2; rw [show ([0] : List Int).length = 1 from rfl] at HVB ⊢; rw [show ([-1, -1, -1] : List Int).length = 3 from rfl] at HVC ⊢; have HP13 := Aside0.mk (HK13.out.blk HP12.out id); have pf3 := blk_frozen HP13.out 3; have p3 := (blk_cell HP13.out 3).trans (show _ = some (Value.slice none 0 0) from rfl); have pf4 := blk_frozen HP13.out 4; have p4 := (blk_cell HP13.out 4).trans (show _ = some (Value.slice none 0 0) from rfl))
  clear pf3 p3 pf4 p4
  have HSX := ((Fr.refl (fun k => k = qT) W13).set (g := qT) (o := 3) (.slice (some ⟨gB, 0, none⟩) 1 cB) (fun _ => rfl)).set (g := qT) (o := 4) (.slice (some ⟨gC, 0, none⟩) 3 cC) (fun _ => rfl)
  have HF14 := Aside0.mk (((HF12.out.trans HK13.out (fun _ _ h => h)).set (g := qT) (o := 3) (.slice (some ⟨gB, 0, none⟩) 1 cB) (fun h => absurd h (by show ¬ qT < w.heap.size; have := HQ0.out; omega))).set (g := qT) (o := 4) (.slice (some ⟨gC, 0, none⟩) 3 cC) (fun h => absurd h (by show ¬ qT < w.heap.size; have := HQ0.out; omega)))
  have HB14 := Aside0.mk (HSX.blk (HK13.out.blk HB12.out id) (by omega))
  have HR14 := Aside0.mk (HSX.blk (HK13.out.blk HR12.out id) (by omega))
  have HP14 := Aside0.mk (blk_put (blk_put HP13.out 3 (.slice (some ⟨gB, 0, none⟩) 1 cB) rfl) 4 (.slice (some ⟨gC, 0, none⟩) 3 cC) rfl)
  have HD14 := Aside0.mk (R_set2 (Kd.R_step HD12.out (fun k _ hk => HK13.out.block k hk id)) HP13.out ne41m 3 4 (.slice (some ⟨gB, 0, none⟩) 1 cB) (.slice (some ⟨gC, 0, none⟩) 3 cC))
  have HN14 := Aside0.mk (R_set2 (Kd.R_step HN12.out (fun k _ hk => HK13.out.block k hk id)) HP13.out ne41s 3 4 (.slice (some ⟨gB, 0, none⟩) 1 cB) (.slice (some ⟨gC, 0, none⟩) 3 cC))
  have HV14 := Aside0.mk (R_set2 HVB.out HP13.out ne41i 3 4 (.slice (some ⟨gB, 0, none⟩) 1 cB) (.slice (some ⟨gC, 0, none⟩) 3 cC))
  have HC14 := Aside0.mk (R_set2 HVC.out HP13.out ne41i 3 4 (.slice (some ⟨gB, 0, none⟩) 1 cB) (.slice (some ⟨gC, 0, none⟩) 3 cC))
  have hs14 : W13.heap.size ≤ ((W13.setCell ⟨qT, 3, none⟩ (.slice (some ⟨gB, 0, none⟩) 1 cB)).setCell ⟨qT, 4, none⟩ (.slice (some ⟨gC, 0, none⟩) 3 cC)).heap.size := HSX.size
  have hs13 : W12.heap.size ≤ W13.heap.size := HK13.out.size
  have hs12 : w.heap.size ≤ W12.heap.size := HF12.out.size
  clear HF12 HB12 HR12 HP12 HD12 HN12 HM12 HP13 HVB HVC HK13 HSX HL1
  generalize (W13.setCell ⟨qT, 3, none⟩ (.slice (some ⟨gB, 0, none⟩) 1 cB)).setCell ⟨qT, 4, none⟩ (.slice (some ⟨gC, 0, none⟩) 3 cC) = W14 at HF14 HB14 HR14 HP14 HD14 HN14 HV14 HC14 hs14 ⊢
  replace HP14 : Aside0 (W14.heap[qT]? = some (.cells #[.int .i64 3, .int .i64 1, .slice (some ⟨gd, 0, none⟩) 1 cd, .slice (some ⟨gB, 0, none⟩) 1 cB, .slice (some ⟨gC, 0, none⟩) 3 cC, .slice none 0 0, .slice none 0 0, .slice none 0 0, .slice none 0 0] 41)) := HP14
  have hgkl : gk < W14.heap.size := by obtain ⟨g, _, e, _, h, _⟩ := Kd.R_form HN14.out (by simp); injection e with e1 _ _; injection e1 with e2; injection e2 with e3 _ _; subst e3; exact h
  obtain ⟨cM, _, hM, hcM, _⟩ := Kd.R_elem HN14.out [] 0 (by omega) (by omega)
  obtain ⟨vM, rfl, hvM⟩ := hM
  obtain ⟨gX, nX, rfl, _, _⟩ := Kd.R_form hvM (by simp)
  have HL2 := Aside0.mk (laid_one W14 gk ck gX nX (Kd.R_reads' hvM).2.1 (Kd.R_reads' hvM).2.2 hgkl (hcM 0 _ rfl))
  clear hvM hcM
  go_upto_region 28 with (go_at_call 41; refine HL2.out.mono ?_; rintro e W15 ⟨vG, vK, rfl, hvB, hvC, hF13⟩; have HK15 := Aside0.mk hF13; have HVG := Aside0.mk hvB; have HVK := Aside0.mk hvC; clear hF13 hvB hvC; obtain ⟨gG, cG, rfl, hg1, _⟩ := Kd.R_form HVG.out (by simp); obtain ⟨gK, cK, rfl, hg2, _⟩ := Kd.R_form HVK.out (by simp); clear hg1 hg2; rw [show ([0] : List Int).length = 1 from rfl] at HVG HVK ⊢; have HP15 := Aside0.mk (HK15.out.blk HP14.out id); have pf3 := blk_frozen HP15.out 6; have p3 := (blk_cell HP15.out 6).trans (show _ = some (Value.slice none 0 0) from rfl); have pf4 := blk_frozen HP15.out 7; have p4 := (blk_cell HP15.out 7).trans (show _ = some (Value.slice none 0 0) from rfl))
  clear pf3 p3 pf4 p4
  have HSX := ((Fr.refl (fun k => k = qT) W15).set (g := qT) (o := 6) (.slice (some ⟨gG, 0, none⟩) 1 cG) (fun _ => rfl)).set (g := qT) (o := 7) (.slice (some ⟨gK, 0, none⟩) 1 cK) (fun _ => rfl)
  have HF16 := Aside0.mk (((HF14.out.trans HK15.out (fun _ _ h => h)).set (g := qT) (o := 6) (.slice (some ⟨gG, 0, none⟩) 1 cG) (fun h => absurd h (by show ¬ qT < w.heap.size; have := HQ0.out; omega))).set (g := qT) (o := 7) (.slice (some ⟨gK, 0, none⟩) 1 cK) (fun h => absurd h (by show ¬ qT < w.heap.size; have := HQ0.out; omega)))
  have HB16 := Aside0.mk (HSX.blk (HK15.out.blk HB14.out id) (by omega))
  have HR16 := Aside0.mk (HSX.blk (HK15.out.blk HR14.out id) (by omega))
  have HP16 := Aside0.mk (blk_put (blk_put HP15.out 6 (.slice (some ⟨gG, 0, none⟩) 1 cG) rfl) 7 (.slice (some ⟨gK, 0, none⟩) 1 cK) rfl)
  have HD16 := Aside0.mk (R_set2 (Kd.R_step HD14.out (fun k _ hk => HK15.out.block k hk id)) HP15.out ne41m 6 7 (.slice (some ⟨gG, 0, none⟩) 1 cG) (.slice (some ⟨gK, 0, none⟩) 1 cK))
  have HV16 := Aside0.mk (R_set2 (Kd.R_step HV14.out (fun k _ hk => HK15.out.block k hk id)) HP15.out ne41i 6 7 (.slice (some ⟨gG, 0, none⟩) 1 cG) (.slice (some ⟨gK, 0, none⟩) 1 cK))
  have HC16 := Aside0.mk (R_set2 (Kd.R_step HC14.out (fun k _ hk => HK15.out.block k hk id)) HP15.out ne41i 6 7 (.slice (some ⟨gG, 0, none⟩) 1 cG) (.slice (some ⟨gK, 0, none⟩) 1 cK))
  have HG16 := Aside0.mk (R_set2 HVG.out HP15.out ne41i 6 7 (.slice (some ⟨gG, 0, none⟩) 1 cG) (.slice (some ⟨gK, 0, none⟩) 1 cK))
  have HK16 := Aside0.mk (R_set2 HVK.out HP15.out ne41i 6 7 (.slice (some ⟨gG, 0, none⟩) 1 cG) (.slice (some ⟨gK, 0, none⟩) 1 cK))
  have hs16 : W15.heap.size ≤ ((W15.setCell ⟨qT, 6, none⟩ (.slice (some ⟨gG, 0, none⟩) 1 cG)).setCell ⟨qT, 7, none⟩ (.slice (some ⟨gK, 0, none⟩) 1 cK)).heap.size := HSX.size
  have hs15 : W14.heap.size ≤ W15.heap.size := HK15.out.size
  clear HF14 HB14 HR14 HP14 HD14 HN14 HV14 HC14 HP15 HVG HVK HK15 HSX HL2
  generalize (W15.setCell ⟨qT, 6, none⟩ (.slice (some ⟨gG, 0, none⟩) 1 cG)).setCell ⟨qT, 7, none⟩ (.slice (some ⟨gK, 0, none⟩) 1 cK) = W16 at HF16 HB16 HR16 HP16 HD16 HV16 HC16 HG16 HK16 hs16 ⊢
  replace HP16 : Aside0 (W16.heap[qT]? = some (.cells #[.int .i64 3, .int .i64 1, .slice (some ⟨gd, 0, none⟩) 1 cd, .slice (some ⟨gB, 0, none⟩) 1 cB, .slice (some ⟨gC, 0, none⟩) 3 cC, .slice none 0 0, .slice (some ⟨gG, 0, none⟩) 1 cG, .slice (some ⟨gK, 0, none⟩) 1 cK, .slice none 0 0] 41)) := HP16
  have p4 := (blk_cell HP16.out 4).trans (show _ = some (Value.slice (some ⟨gC, 0, none⟩) 3 cC) from rfl)
  go_upto_region 29 with (at_make; refine Kd.R_make k48 (w0 := W16) (W := W16) W16.heap.size 48 rfl (N := 121) rfl 38 _ _ rfl (3 : Int) rfl rfl Try.underlying38 (.agg #[(.int .i64 0), (.int .i64 0)]) 16 info48 rfl (by decide) (by decide) ⟨0, 0⟩ (ok := fun _ => True) (okp := fun _ => True) (k48_mkM _ _ _ ⟨0, 0⟩) (fun _ hk => hk) trivial (by omega) (by omega) (Below.refl _ _) (Nat.le_refl _) ?_; intro v1 W17 h1 hB1 hg1 hb1; have HM17 := Aside0.mk (show k48.R 48 W17 W16.heap.size (fun _ => True) v1 [⟨0, 0⟩, ⟨0, 0⟩, ⟨0, 0⟩] from h1); have HK17 := Aside0.mk (show Fr (fun _ => False) W16 W17 from Fr.of_below hB1); clear h1 hB1 hg1 hb1; obtain ⟨gM, cM, rfl, hg1, _⟩ := Kd.R_form HM17.out (by simp); clear hg1; rw [show ([⟨0, 0⟩, ⟨0, 0⟩, ⟨0, 0⟩] : List S48).length = 3 from rfl] at HM17 ⊢; have HP17 := Aside0.mk (HK17.out.blk HP16.out id); have pf5 := blk_frozen HP17.out 5; have p5 := (blk_cell HP17.out 5).trans (show _ = some (Value.slice none 0 0) from rfl))
  clear p4 pf5 p5
  have HSX := (Fr.refl (fun k => k = qT) W17).set (g := qT) (o := 5) (.slice (some ⟨gM, 0, none⟩) 3 cM) (fun _ => rfl)
  have HF18 := Aside0.mk ((HF16.out.trans HK17.out (fun _ _ h => h)).set (g := qT) (o := 5) (.slice (some ⟨gM, 0, none⟩) 3 cM) (fun h => absurd h (by show ¬ qT < w.heap.size; have := HQ0.out; omega)))
  have HB18 := Aside0.mk (HSX.blk (HK17.out.blk HB16.out id) (by omega))
  have HR18 := Aside0.mk (HSX.blk (HK17.out.blk HR16.out id) (by omega))
  have HP18 := Aside0.mk (blk_put HP17.out 5 (.slice (some ⟨gM, 0, none⟩) 3 cM) rfl)
  have HD18 := Aside0.mk (Kd.R_set (Kd.R_step HD16.out (fun k _ hk => HK17.out.block k hk id)) HP17.out ne41m 5 (.slice (some ⟨gM, 0, none⟩) 3 cM))
  have HV18 := Aside0.mk (Kd.R_set (Kd.R_step HV16.out (fun k _ hk => HK17.out.block k hk id)) HP17.out ne41i 5 (.slice (some ⟨gM, 0, none⟩) 3 cM))
  have HC18 := Aside0.mk (Kd.R_set (Kd.R_step HC16.out (fun k _ hk => HK17.out.block k hk id)) HP17.out ne41i 5 (.slice (some ⟨gM, 0, none⟩) 3 cM))
  have HG18 := Aside0.mk (Kd.R_set (Kd.R_step HG16.out (fun k _ hk => HK17.out.block k hk id)) HP17.out ne41i 5 (.slice (some ⟨gM, 0, none⟩) 3 cM))
  have HK18 := Aside0.mk (Kd.R_set (Kd.R_step HK16.out (fun k _ hk => HK17.out.block k hk id)) HP17.out ne41i 5 (.slice (some ⟨gM, 0, none⟩) 3 cM))
  have HM18 := Aside0.mk (Kd.R_set HM17.out HP17.out ne41m 5 (.slice (some ⟨gM, 0, none⟩) 3 cM))
  have hs18 : W17.heap.size ≤ (W17.setCell ⟨qT, 5, none⟩ (.slice (some ⟨gM, 0, none⟩) 3 cM)).heap.size := HSX.size
  have hs17 : W16.heap.size ≤ W17.heap.size := HK17.out.size
  clear HF16 HB16 HR16 HP16 HD16 HV16 HC16 HG16 HK16 HP17 HM17 HK17 HSX
  generalize W17.setCell ⟨qT, 5, none⟩ (.slice (some ⟨gM, 0, none⟩) 3 cM) = W18 at HF18 HB18 HR18 HP18 HD18 HV18 HC18 HG18 HK18 HM18 hs18 ⊢
  replace HP18 : Aside0 (W18.heap[qT]? = some (.cells #[.int .i64 3, .int .i64 1, .slice (some ⟨gd, 0, none⟩) 1 cd, .slice (some ⟨gB, 0, none⟩) 1 cB, .slice (some ⟨gC, 0, none⟩) 3 cC, .slice (some ⟨gM, 0, none⟩) 3 cM, .slice (some ⟨gG, 0, none⟩) 1 cG, .slice (some ⟨gK, 0, none⟩) 1 cK, .slice none 0 0] 41)) := HP18
  replace HV18 := Aside0.mk (Kd.R_mono (Kd.R_bound HV18.out) (ok' := fun k => k < W18.heap.size) (fun k hk => hk.2.2.1))
  replace HC18 := Aside0.mk (Kd.R_mono (Kd.R_bound HC18.out) (ok' := fun k => k < W18.heap.size) (fun k hk => hk.2.2.1))
  replace HG18 := Aside0.mk (Kd.R_mono (Kd.R_bound HG18.out) (ok' := fun k => k < W18.heap.size) (fun k hk => hk.2.2.1))
  replace HK18 := Aside0.mk (Kd.R_mono (Kd.R_bound HK18.out) (ok' := fun k => k < W18.heap.size) (fun k hk => hk.2.2.1))
  replace HD18 := Aside0.mk (Kd.R_mono (Kd.R_bound HD18.out) (ok' := fun k => k < W18.heap.size) (fun k hk => hk.2.2.1))
  replace HM18 := Aside0.mk (Kd.R_mono (Kd.R_bound HM18.out) (ok' := fun k => k < W18.heap.size) (fun k hk => hk.2.2.1))
  have hpt18 : qT < W18.heap.size := blk_lt HP18.out
  have p4 := (blk_cell HP18.out 4).trans (show _ = some (Value.slice (some ⟨gC, 0, none⟩) 3 cC) from rfl)
  obtain ⟨d0, _⟩ := Kd.R_celln (0 : Int) HC18.out 0 (by omega) (by omega)
  obtain ⟨d1, _⟩ := Kd.R_celln (0 : Int) HC18.out 1 (by omega) (by omega)
  obtain ⟨d2, _⟩ := Kd.R_celln (0 : Int) HC18.out 2 (by omega) (by omega)
  replace d0 : W18.cell? ⟨gC, 0, none⟩ = some (.int .i64 (-1)) := d0
  replace d1 : W18.cell? ⟨gC, 1, none⟩ = some (.int .i64 (-1)) := d1
  replace d2 : W18.cell? ⟨gC, 2, none⟩ = some (.int .i64 (-1)) := d2
  go_wp2_with (fail)
  refine wp_loop_rounds 4 ?_
  rw [rounds_succ]
  go_wp2_with (fail)
  rw [rounds_succ]
  go_wp2_with (fail)
  rw [rounds_succ]
  go_wp2_with (fail)
  rw [rounds_succ]
  clear d0 d1 d2 p4
  have p7 := (blk_cell HP18.out 7).trans (show _ = some (Value.slice (some ⟨gK, 0, none⟩) 1 cK) from rfl)
  go_upto_region 36 with (at_make; refine Kd.R_make (Kd.int .i64) (w0 := W18) (W := W18) W18.heap.size 3 rfl (N := 155) rfl 39 _ _ rfl (1 : Int) rfl rfl Try.underlying39 (.int .i64 0) 8 info3 rfl (by decide) (by decide) 0 (ok := fun _ => True) (okp := fun _ => True) rfl (fun _ hk => hk) trivial (by omega) (by omega) (Below.refl _ _) (Nat.le_refl _) ?_; intro v1 W19 h1 hB1 hg1 hb1; have HR19 := Aside0.mk (show (Kd.int .i64).R 3 W19 W18.heap.size (fun _ => True) v1 [0] from h1); have HK19 := Aside0.mk (show Fr (fun _ => False) W18 W19 from Fr.of_below hB1); clear h1 hB1 hg1 hb1; obtain ⟨gR, cR, rfl, hg1, _⟩ := Kd.R_form HR19.out (by simp); have HGR1 := Aside0.mk hg1; clear hg1; rw [show ([0] : List Int).length = 1 from rfl] at HR19 ⊢; have HP19 := Aside0.mk (HK19.out.blk HP18.out id); have pf8 := blk_frozen HP19.out 8; have p8 := (blk_cell HP19.out 8).trans (show _ = some (Value.slice none 0 0) from rfl))
  clear p7 pf8 p8
  have HSX := (Fr.refl (fun k => k = qT) W19).set (g := qT) (o := 8) (.slice (some ⟨gR, 0, none⟩) 1 cR) (fun _ => rfl)
  have HF20 := Aside0.mk ((HF18.out.trans HK19.out (fun _ _ h => h)).set (g := qT) (o := 8) (.slice (some ⟨gR, 0, none⟩) 1 cR) (fun h => absurd h (by show ¬ qT < w.heap.size; have := HQ0.out; omega)))
  have HB20 := Aside0.mk (HSX.blk (HK19.out.blk HB18.out id) (by omega))
  have HW20 := Aside0.mk (HSX.blk (HK19.out.blk HR18.out id) (by omega))
  have HP20 := Aside0.mk (blk_put HP19.out 8 (.slice (some ⟨gR, 0, none⟩) 1 cR) rfl)
  have HD20 := Aside0.mk (Kd.R_set (Kd.R_step HD18.out (fun k _ hk => HK19.out.block k hk id)) HP19.out ne41m 8 (.slice (some ⟨gR, 0, none⟩) 1 cR))
  have HV20 := Aside0.mk (Kd.R_set (Kd.R_step HV18.out (fun k _ hk => HK19.out.block k hk id)) HP19.out ne41i 8 (.slice (some ⟨gR, 0, none⟩) 1 cR))
  have HC20 := Aside0.mk (Kd.R_set (Kd.R_step HC18.out (fun k _ hk => HK19.out.block k hk id)) HP19.out ne41i 8 (.slice (some ⟨gR, 0, none⟩) 1 cR))
  have HG20 := Aside0.mk (Kd.R_set (Kd.R_step HG18.out (fun k _ hk => HK19.out.block k hk id)) HP19.out ne41i 8 (.slice (some ⟨gR, 0, none⟩) 1 cR))
  have HK20 := Aside0.mk (Kd.R_set (Kd.R_step HK18.out (fun k _ hk => HK19.out.block k hk id)) HP19.out ne41i 8 (.slice (some ⟨gR, 0, none⟩) 1 cR))
  have HM20 := Aside0.mk (Kd.R_set (Kd.R_step HM18.out (fun k _ hk => HK19.out.block k hk id)) HP19.out ne41m 8 (.slice (some ⟨gR, 0, none⟩) 1 cR))
  have HR20 := Aside0.mk (Kd.R_set HR19.out HP19.out ne41i 8 (.slice (some ⟨gR, 0, none⟩) 1 cR))
  have hs20 : W19.heap.size ≤ (W19.setCell ⟨qT, 8, none⟩ (.slice (some ⟨gR, 0, none⟩) 1 cR)).heap.size := HSX.size
  have hs19 : W18.heap.size ≤ W19.heap.size := HK19.out.size
  clear HF18 HB18 HR18 HP18 HD18 HV18 HC18 HG18 HK18 HM18 HP19 HR19 HK19 HSX
  generalize W19.setCell ⟨qT, 8, none⟩ (.slice (some ⟨gR, 0, none⟩) 1 cR) = W20 at HF20 HB20 HW20 HP20 HD20 HV20 HC20 HG20 HK20 HM20 HR20 hs20 ⊢
  replace HP20 : Aside0 (W20.heap[qT]? = some (.cells #[.int .i64 3, .int .i64 1, .slice (some ⟨gd, 0, none⟩) 1 cd, .slice (some ⟨gB, 0, none⟩) 1 cB, .slice (some ⟨gC, 0, none⟩) 3 cC, .slice (some ⟨gM, 0, none⟩) 3 cM, .slice (some ⟨gG, 0, none⟩) 1 cG, .slice (some ⟨gK, 0, none⟩) 1 cK, .slice (some ⟨gR, 0, none⟩) 1 cR] 41)) := HP20
  have p7 := (blk_cell HP20.out 7).trans (show _ = some (Value.slice (some ⟨gK, 0, none⟩) 1 cK) from rfl)
  obtain ⟨d0, _⟩ := Kd.R_celln (0 : Int) HK20.out 0 (by omega) (by omega)
  replace d0 : W20.cell? ⟨gK, 0, none⟩ = some (.int .i64 0) := d0
  go_wp2_with (fail)
  refine wp_loop_rounds 2 ?_
  rw [rounds_succ]
  go_wp2_with (fail)
  clear d0 p7
  have b1 := (blk_cell HB20.out 1).trans (show _ = some (Value.slice (some ag) 1 c1) from rfl)
  have p6 := (blk_cell HP20.out 6).trans (show _ = some (Value.slice (some ⟨gG, 0, none⟩) 1 cG) from rfl)
  have p8 := (blk_cell HP20.out 8).trans (show _ = some (Value.slice (some ⟨gR, 0, none⟩) 1 cR) from rfl)
  have g0 := HF20.out.cell HGR.out id
  have h0 := HF20.out.cell HGX.out id
  obtain ⟨d0, _⟩ := Kd.R_celln (0 : Int) HG20.out 0 (by omega) (by omega)
  replace d0 : W20.cell? ⟨gG, 0, none⟩ = some (.int .i64 0) := d0
  obtain ⟨r0, rf⟩ := Kd.R_celln (0 : Int) HR20.out 0 (by omega) (by omega)
  replace r0 : W20.cell? ⟨gR, 0, none⟩ = some (.int .i64 0) := r0
  replace rf : W20.frozen? ⟨gR, 0, none⟩ = false := rf
  go_still_tail 18, (by kernel_rfl)
  change wpList _ _ _ _ _ W20.drew

  have HY := (Fr.refl (fun _ => False) W20).drew
  have HF21 := Aside0.mk (HF20.out.drew)
  have HB21 := Aside0.mk (HY.blk HB20.out id)
  have HW21 := Aside0.mk (HY.blk HW20.out id)
  have HP21 := Aside0.mk (HY.blk HP20.out id)
  have HD21 := Aside0.mk (Kd.R_step HD20.out (fun k _ hk => HY.block k hk id))
  have HV21 := Aside0.mk (Kd.R_step HV20.out (fun k _ hk => HY.block k hk id))
  have HC21 := Aside0.mk (Kd.R_step HC20.out (fun k _ hk => HY.block k hk id))
  have HG21 := Aside0.mk (Kd.R_step HG20.out (fun k _ hk => HY.block k hk id))
  have HK21 := Aside0.mk (Kd.R_step HK20.out (fun k _ hk => HY.block k hk id))
  have HM21 := Aside0.mk (Kd.R_step HM20.out (fun k _ hk => HY.block k hk id))
  have HR21 := Aside0.mk (Kd.R_step HR20.out (fun k _ hk => HY.block k hk id))
  clear b1 p6 p8 g0 h0 d0 r0 rf HF20 HB20 HW20 HP20 HD20 HV20 HC20 HG20 HK20 HM20 HR20 HY
  generalize W20.drew = W21 at HF21 HB21 HW21 HP21 HD21 HV21 HC21 HG21 HK21 HM21 HR21 ⊢
  obtain ⟨r0, rf⟩ := Kd.R_celln (0 : Int) HR21.out 0 (by omega) (by omega)
  replace r0 : W21.cell? ⟨gR, 0, none⟩ = some (.int .i64 0) := r0
  replace rf : W21.frozen? ⟨gR, 0, none⟩ = false := rf
  have hgr1 := HGR1.out
  have hq0 := HQ0.out
  have hqr : qT ≠ gR := by omega
  go_upto_region 41 with (fail)
  have HX := (Fr.refl (fun k => k = gR) W21).set (g := gR) (o := 0) (.int .i64 0) (fun _ => rfl)
  have HF22 := Aside0.mk (HF21.out.set (g := gR) (o := 0) (.int .i64 0) (fun h => absurd h (by show ¬ gR < w.heap.size; omega)))
  have HP22 := Aside0.mk (HX.blk HP21.out hqr)
  have HW22 := Aside0.mk (HX.blk HW21.out (by omega))
  have HD22 := Aside0.mk (Kd.R_step HD21.out (fun k hk hl => HX.block k hl (fun e => by omega)))
  have HV22 := Aside0.mk (Kd.R_step HV21.out (fun k hk hl => HX.block k hl (fun e => by omega)))
  have HC22 := Aside0.mk (Kd.R_step HC21.out (fun k hk hl => HX.block k hl (fun e => by omega)))
  have HG22 := Aside0.mk (Kd.R_step HG21.out (fun k hk hl => HX.block k hl (fun e => by omega)))
  have HK22 := Aside0.mk (Kd.R_step HK21.out (fun k hk hl => HX.block k hl (fun e => by omega)))
  have HM22 := Aside0.mk (Kd.R_step HM21.out (fun k hk hl => HX.block k hl (fun e => by omega)))
  have HR22 := Aside0.mk (Kd.R_putn HR21.out 0 0)
  have hs22 : W21.heap.size ≤ (W21.setCell ⟨gR, 0, none⟩ (.int .i64 0)).heap.size := HX.size
  simp only [Int.toNat_zero] at HR22
  clear HX HF21 HB21 HP21 HW21 HD21 HV21 HC21 HG21 HK21 HM21 HR21 r0 rf
  generalize W21.setCell ⟨gR, 0, none⟩ (.int .i64 0) = W22 at HF22 HP22 HW22 HD22 HV22 HC22 HG22 HK22 HM22 HR22 hs22 ⊢
  have p7 := (blk_cell HP22.out 7).trans (show _ = some (Value.slice (some ⟨gK, 0, none⟩) 1 cK) from rfl)
  go_wp2_with (fail)
  rw [rounds_succ]
  go_wp2_with (first
    | (refine gate_ (.load 41 (.tmp 11)) rfl ?_; refine wpList_load_row rfl 41 (.tmp 11) rfl qT rfl 41 #[.int .i64 3, .int .i64 1, .slice (some ⟨gd, 0, none⟩) 1 cd, .slice (some ⟨gB, 0, none⟩) 1 cB, .slice (some ⟨gC, 0, none⟩) 3 cC, .slice (some ⟨gM, 0, none⟩) 3 cM, .slice (some ⟨gG, 0, none⟩) 1 cG, .slice (some ⟨gK, 0, none⟩) 1 cK, .slice (some ⟨gR, 0, none⟩) 1 cR] (0, 0) _ HP22.out hu2 (by rfl) (by kernel_rfl) ?_)
    | (refine gate_ (.store 41 (.tmp 8) (.tmp 186)) rfl ?_; go_must (refine wpList_store_row rfl 41 (.tmp 8) (.tmp 186) rfl (q0 + 1) #[.int .i64 3, .int .i64 1, .slice (some ⟨gd, 0, none⟩) 1 cd, .slice (some ⟨gB, 0, none⟩) 1 cB, .slice (some ⟨gC, 0, none⟩) 3 cC, .slice (some ⟨gM, 0, none⟩) 3 cM, .slice (some ⟨gG, 0, none⟩) 1 cG, .slice (some ⟨gK, 0, none⟩) 1 cK, .slice (some ⟨gR, 0, none⟩) 1 cR] rfl rfl 41 zP HW22.out (by kernel_rfl) rfl (by simp [Value.oneCell']) ?_)))
  have hqn : ¬ (q0 + 1 < w.heap.size) := by omega
  have hlo : w.heap.size ≤ W18.heap.size := by omega
  refine bodyPost_ret (v := .tuple #[.agg #[.int .i64 3, .int .i64 1, .slice (some ⟨gd, 0, none⟩) 1 cd, .slice (some ⟨gB, 0, none⟩) 1 cB, .slice (some ⟨gC, 0, none⟩) 3 cC, .slice (some ⟨gM, 0, none⟩) 3 cM, .slice (some ⟨gG, 0, none⟩) 1 cG, .slice (some ⟨gK, 0, none⟩) 1 cK, .slice (some ⟨gR, 0, none⟩) 1 cR], .int .i64 0]) ((results_cell_row_tmp (p := 8) (u := 9) (ty := 41) (by rfl) _ _ (q0 + 1) 41 #[.int .i64 3, .int .i64 1, .slice (some ⟨gd, 0, none⟩) 1 cd, .slice (some ⟨gB, 0, none⟩) 1 cB, .slice (some ⟨gC, 0, none⟩) 3 cC, .slice (some ⟨gM, 0, none⟩) 3 cM, .slice (some ⟨gG, 0, none⟩) 1 cG, .slice (some ⟨gK, 0, none⟩) 1 cK, .slice (some ⟨gR, 0, none⟩) 1 cR] (0, 0) _ (by rfl) (setRow_heap _ _ _ _ _ _ HW22.out) hu2 (by rfl) (by kernel_rfl)).trans (by rfl)) rfl ?_
  refine ⟨_, _, _, _, _, _, _, rfl, R_row (Kd.R_lower (Kd.R_mono HD22.out (fun _ _ => trivial)) ?_) HW22.out ne41m _, R_row (Kd.R_lower (Kd.R_mono HV22.out (fun _ _ => trivial)) ?_) HW22.out ne41i _, R_row (Kd.R_lower (Kd.R_mono HC22.out (fun _ _ => trivial)) ?_) HW22.out ne41i _, R_row (Kd.R_lower (Kd.R_mono HM22.out (fun _ _ => trivial)) ?_) HW22.out ne41m _, R_row (Kd.R_lower (Kd.R_mono HG22.out (fun _ _ => trivial)) ?_) HW22.out ne41i _, R_row (Kd.R_lower (Kd.R_mono HK22.out (fun _ _ => trivial)) ?_) HW22.out ne41i _, R_row (Kd.R_lower (Kd.R_mono HR22.out (fun _ _ => trivial)) ?_) HW22.out ne41i _, fr_row HF22.out _ (fun h => absurd h hqn)⟩
  all_goals first | exact Nat.le_refl _ | omega
end Go.Proofs.Ytlpmjmanmncmnaa.Tab
/-
table.Move at the packed table of one state.
-/
set_option linter.unusedSimpArgs false
set_option linter.unusedVariables false
namespace Go.Proofs.Ytlpmjmanmncmnaa.Tab
open Go.RowKit Go.Sort Go.Proofs.YtlpmjmanmncmnaaW.PrintWords Go.Proofs.YtlpmjmanmncmnaaW.PrintLast Go.Proofs.YtlpmjmanmncmnaaW.PrintMore Go.Proofs.Ytlpmjmanmncmnaa.Fr Go.Proofs.Ytlpmjmanmncmnaa.PT
theorem cell_one : table_cell.f 5 [0] [-1, -1, -1] 3 0 2 = some (-1) := by kernel_rfl
set_option maxHeartbeats 8000000 in
set_option maxRecDepth 100000 in
theorem move_one (w : World) (gd cB cC cM : Nat) (cd : Nat) (vB vC gM : Option Addr) (r6 r7 r8 : Value) (hd : Kd.C k48 w (some ⟨gd, 0, none⟩) 1 [⟨2, 0⟩]) (hB : (Kd.int .i64).C w vB 1 [0]) (hcB : 1 ≤ cB) (hC : (Kd.int .i64).C w vC 3 [-1, -1, -1]) (hcC : 3 ≤ cC) :
    Calls Try.prog 21 #[.agg #[.int .i64 3, .int .i64 1, .slice (some ⟨gd, 0, none⟩) 1 cd, .slice vB 1 cB, .slice vC 3 cC, .slice gM 3 cM, r6, r7, r8], .int .i64 0, .int .i64 2] w fun e w' => e = .returned (.agg #[.int .i64 2, .int .i64 0]) ∧ Fr (fun _ => False) w w' := by
  have hu2 := Try.underlying41
  have HC := Aside0.mk hC
  have HB := Aside0.mk hB
  obtain ⟨ad, e1, x0, x1⟩ := at_T48 hd 0 (by omega) (by omega)
  obtain rfl : ad = ⟨gd, 0, none⟩ := by injection e1 with e1; exact e1.symm
  have HX0 := Aside0.mk (show w.cell? ⟨gd, 0, none⟩ = some (.int .i64 2) from x0)
  have HX1 := Aside0.mk (show w.cell? ⟨gd, 1, none⟩ = some (.int .i64 0) from x1)
  clear hd hB hC x0 x1 e1
  go_enter Try.func21, Try.ntmps21
  go_upto_region 1 with (fail)
  have HF0 := Aside0.mk (((Fr.refl (fun _ => False) w).alloc (.cells #[.int .i64 3, .int .i64 1, .slice (some ⟨gd, 0, none⟩) 1 cd, .slice vB 1 cB, .slice vC 3 cC, .slice gM 3 cM, r6, r7, r8] 41)).alloc (.cells #[.int .i64 0, .int .i64 0] 48))
  have HB0 := Aside0.mk (blk_alloc (blk_new w (.cells #[.int .i64 3, .int .i64 1, .slice (some ⟨gd, 0, none⟩) 1 cd, .slice vB 1 cB, .slice vC 3 cC, .slice gM 3 cM, r6, r7, r8] 41)) (.cells #[.int .i64 0, .int .i64 0] 48))
  have HR0 := Aside0.mk (blk_new (w.alloc (.cells #[.int .i64 3, .int .i64 1, .slice (some ⟨gd, 0, none⟩) 1 cd, .slice vB 1 cB, .slice vC 3 cC, .slice gM 3 cM, r6, r7, r8] 41)) (.cells #[.int .i64 0, .int .i64 0] 48))
  rw [World.size_alloc] at HR0
  obtain ⟨q0, hq0⟩ : ∃ q0, w.heap.size = q0 := ⟨_, rfl⟩
  have HQ0 := Aside0.mk hq0
  rw [hq0] at HB0 HR0
  simp only [hq0]
  clear hq0
  generalize (w.alloc (.cells #[.int .i64 3, .int .i64 1, .slice (some ⟨gd, 0, none⟩) 1 cd, .slice vB 1 cB, .slice vC 3 cC, .slice gM 3 cM, r6, r7, r8] 41)).alloc (.cells #[.int .i64 0, .int .i64 0] 48) = W0 at HF0 HB0 HR0 ⊢
  have HCC := Aside0.mk (show Calls Try.prog 43 #[.slice vB 1 cB, .slice vC 3 cC, .int .i64 3, .int .i64 0, .int .i64 2] W0 _ from table_cell.calls 5 vB cB [0] vC cC [-1, -1, -1] 3 0 2 (-1) W0 (Kd.C_below HB.out HF0.out.to_below) hcB (Kd.C_below HC.out HF0.out.to_below) hcC cell_one)
  have p0 := (blk_cell HB0.out 0).trans (show _ = some (Value.int .i64 3) from rfl)
  have p2 := (blk_cell HB0.out 2).trans (show _ = some (Value.slice (some ⟨gd, 0, none⟩) 1 cd) from rfl)
  have p3 := (blk_cell HB0.out 3).trans (show _ = some (Value.slice vB 1 cB) from rfl)
  have p4 := (blk_cell HB0.out 4).trans (show _ = some (Value.slice vC 3 cC) from rfl)
  have p5 := (blk_cell HB0.out 5).trans (show _ = some (Value.slice gM 3 cM) from rfl)
  go_wp2_with (go_at_call 43; refine HCC.out.mono ?_; rintro e W1 ⟨rfl, hd⟩; have HF1 := Aside0.mk (HF0.out.drawn' hd); have hD := Fr.drawn (S := fun _ => False) hd; have HB1 := Aside0.mk (hD.blk HB0.out id); have HR1 := Aside0.mk (hD.blk HR0.out id); clear hd hD p0 p2 p3 p4 p5; have p2 := (blk_cell HB1.out 2).trans (show _ = some (Value.slice (some ⟨gd, 0, none⟩) 1 cd) from rfl); have x0 := HF1.out.cell HX0.out id; have x1 := HF1.out.cell HX1.out id; have r0 := (blk_cell HR1.out 0).trans (show _ = some (Value.int .i64 0) from rfl); have r1 := (blk_cell HR1.out 1).trans (show _ = some (Value.int .i64 0) from rfl); have rf0 := blk_frozen HR1.out 0; have rf1 := blk_frozen HR1.out 1)
  have hqn : ¬ (q0 + 1 < w.heap.size) := by have := HQ0.out; omega
  trace_state
  refine bodyPost_ret (v := .agg #[.int .i64 2, .int .i64 0]) (results_cell_row rfl _ _ (q0 + 1) _ _ _ _ rfl (blk_put (blk_put HR1.out 0 (.int .i64 2) rfl) 1 (.int .i64 0) rfl) Try.underlying48 rfl (by kernel_rfl)) rfl ?_
  exact ⟨rfl, (HF1.out.set (g := q0 + 1) (o := 0) _ (fun h => absurd h hqn)).set (g := q0 + 1) (o := 1) _ (fun h => absurd h hqn)⟩
end Go.Proofs.Ytlpmjmanmncmnaa.Tab
