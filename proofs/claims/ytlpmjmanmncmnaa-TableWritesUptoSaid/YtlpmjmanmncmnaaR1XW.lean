/-
How a table is read: table.Read, walked.
-/
import Derived.Test.YtlpmjmanmncmnaaR1XV
import Derived.Test.YtlpmjmanmncmnaaR1XH
import Derived.Test.YtlpmjmanmncmnaaR1TX
import Derived.Test.YtlpmjmanmncmnaaR1TW
set_option linter.unusedSimpArgs false
set_option linter.unusedVariables false
namespace Go.Proofs.Ytlpmjmanmncmnaa.Tab
open Go.RowKit Go.Maps Go.Proofs.YtlpmjmanmncmnaaW.PrintWords Go.Proofs.YtlpmjmanmncmnaaW.PrintLast Go.Proofs.YtlpmjmanmncmnaaW.PrintMore Go.Proofs.Ytlpmjmanmncmnaa.Fr Go.Proofs.Ytlpmjmanmncmnaa.PT
theorem InAt.fr {w w1 : World} {g : Nat} {l : List Int} {bad : Bool} {S : Nat → Prop} (h : InAt w g l bad) (hF : Fr S w w1) (hS : ∀ k, k ≤ g → ¬ S k) : InAt w1 g l bad := by
  obtain ⟨A, c, h1, h2, h3, h4⟩ := h
  exact ⟨A, c, hF.blk h1 (hS g (Nat.le_refl _)), hF.C 0 h2 (fun ad e hp => hS _ (Nat.le_of_lt (h4 ad e hp))), h3, h4⟩
def NumPost2 (w : World) (g : Nat) (l : List Int) (bad : Bool) (e : Ending) (w' : World) : Prop :=
  ∃ (v : Nat) (r : List Int) (bad' : Bool), e = .returned (.int .i64 v) ∧ v ≤ 2147483647 ∧ InAt w' g r bad' ∧ Bts r ∧ r.length ≤ l.length ∧ NumRel l bad v r bad' ∧ Fr (fun k => k = g) w w'
theorem number_calls2 (w : World) (g : Nat) (l : List Int) (bad : Bool) (h : InAt w g l bad) (hb : Bts l) :
    Calls Try.prog 47 #[.pointer (some ⟨g, 0, none⟩)] w (NumPost2 w g l bad) := by
  refine (number_calls w g l bad h hb).mono ?_
  rintro e w' ⟨⟨v, r, h1, rfl, h2⟩ | ⟨h1, rfl, h2⟩, hF⟩
  · obtain ⟨n, rfl, h3, h4⟩ := numOf_some hb h1
    simp only [mostN] at h3
    exact ⟨n, r, bad, rfl, by omega, h2, by rw [h4] at hb; exact hb.right, by rw [h4, List.length_append]; omega, by cases bad with
      | true => exact .inl ⟨rfl, .inl rfl⟩
      | false => exact .inr ⟨rfl, rfl, h1⟩, hF⟩
  · exact ⟨0, l, true, rfl, by omega, h2, hb, Nat.le_refl _, .inl ⟨rfl, .inr h1⟩, hF⟩
def ReadPost (w : World) (b : List Int) (e : Ending) (w' : World) : Prop :=
  Fr (fun _ => False) w w' ∧ ((IsRead b none ∧ e = .returned (.tuple #[.agg #[.slice none 0 0, .slice none 0 0], .agg #[.int .i64 170, .int .i64 0]])) ∨
    ∃ (T : Tb) (vm vg : Value), IsRead b (some T) ∧ e = .returned (.tuple #[.agg #[vm, vg], .agg #[.int .i64 0, .int .i64 0]]) ∧ (Kd.slice 48 k48).R 38 w' w.heap.size (fun _ => True) vm T.mv ∧ (Kd.slice 3 (Kd.int .i64)).R 39 w' w.heap.size (fun _ => True) vg T.gt)
theorem InAt.setBad {w : World} {g : Nat} {l : List Int} {bad : Bool} (h : InAt w g l bad) (b' : Bool) : InAt (w.setCell ⟨g, 1, none⟩ (.bool b')) g l b' := by
  obtain ⟨A, c, h1, h2, h3, h4⟩ := h
  exact ⟨A, c, blk_put h1 1 (.bool b') rfl, ((Fr.refl (fun k => k = g) w).set (g := g) (o := 1) _ (fun _ => rfl)).C 0 h2 (fun ad e hp => Nat.ne_of_lt (h4 ad e hp)), h3, h4⟩
theorem Out.far {W W1 : World} {t : Nat} {vm vg : Value} {Lm : List (List S48)} {Lg : List (List Int)} {S : Nat → Prop} (h : Out W t (t + 1) vm vg Lm Lg) (hF : Fr S W W1) (hS : ∀ k, S k → k < t) : Out W1 t (t + 1) vm vg Lm Lg :=
  ⟨hF.blk h.blk (fun e => by have := hS _ e; omega), Kd.R_step h.m (fun k hk hl => hF.block k hl (fun e => by have := hS _ e; omega)), Kd.R_step h.g (fun k hk hl => hF.block k hl (fun e => by have := hS _ e; omega))⟩
theorem two_blocks {W : World} {q0 q1 t0 t1 : Nat} {a b c d : Value} (h0 : W.heap[q0]? = some (.cells #[a, b] t0 (0, 0))) (h1 : W.heap[q1]? = some (.cells #[c, d] t1 (0, 0))) (hne : q0 ≠ q1) (x y u v : Value) :
    ((((W.setCell ⟨q0, 0, none⟩ x).setCell ⟨q0, 1, none⟩ y).setCell ⟨q1, 0, none⟩ u).setCell ⟨q1, 1, none⟩ v).heap[q0]? = some (.cells #[x, y] t0 (0, 0)) ∧ ((((W.setCell ⟨q0, 0, none⟩ x).setCell ⟨q0, 1, none⟩ y).setCell ⟨q1, 0, none⟩ u).setCell ⟨q1, 1, none⟩ v).heap[q1]? = some (.cells #[u, v] t1 (0, 0)) :=
  ⟨blk_far (blk_far (blk_put (blk_put h0 0 x rfl) 1 y rfl) hne u) hne v, blk_put (blk_put (blk_far (blk_far h1 (Ne.symm hne) x) (Ne.symm hne) y) 0 u rfl) 1 v rfl⟩
theorem results_cells2 {P : Program} {fn : Func} {p u : Tmp} {ty ty2 : TypeId} (h : fn.results = #[.cell p ty, .cell u ty2]) (tmps : Array Value) (w : World) (g g2 : Nat) (t t2 : TypeId) (cs cs2 : Array Value) (fr fr2 : Nat × Nat) (d d2 : TypeDesc)
    (hp : tmps.getD p undef = .pointer (some ⟨g, 0, none⟩)) (hg : w.heap[g]? = some (.cells cs t fr))
    (hu : P.underlying ty = some d) (hd : (match d with | .struct _ | .array _ _ => true | _ => false) = true) (hi : (P.info? ty).map (·.size) = some cs.size)
    (hp2 : tmps.getD u undef = .pointer (some ⟨g2, 0, none⟩)) (hg2 : w.heap[g2]? = some (.cells cs2 t2 fr2))
    (hu2 : P.underlying ty2 = some d2) (hd2 : (match d2 with | .struct _ | .array _ _ => true | _ => false) = true) (hi2 : (P.info? ty2).map (·.size) = some cs2.size) :
    (results fn tmps).run P w = .ok (.tuple #[.agg cs, .agg cs2]) w := by
  have hp' : tmps[p]?.getD undef = .pointer (some ⟨g, 0, none⟩) := by simpa using hp
  have hp2' : tmps[u]?.getD undef = .pointer (some ⟨g2, 0, none⟩) := by simpa using hp2
  simp [results, h, hp', hp2', asAddr, run_loadVar_row w g t ty cs fr d hg hu hd hi, run_loadVar_row w g2 t2 ty2 cs2 fr2 d2 hg2 hu2 hd2 hi2]
set_option maxHeartbeats 8000000 in
set_option maxRecDepth 100000 in
theorem read_calls (w : World) (b : List Int) (A : Option Addr) (c : Nat) (hC : Kd.C (Kd.int .u8) w A b.length b) (hc : b.length ≤ c) (hb : Bts b) :
    Calls Try.prog 27 #[.slice A b.length c] w (ReadPost w b) := by
  have hu := Try.underlying25
  have hu2 := Try.underlying60
  have hA : ∀ ad, A = some ad → 0 < b.length → ad.block < w.heap.size := fun ad e hp => by
    subst e
    exact Kd.C_lt hC hp (by decide)
  have HB := Aside0.mk hb
  have HF0 := Aside0.mk ((((Fr.refl (fun _ => False) w).alloc (.cells #[.slice none 0 0, .slice none 0 0] 25)).alloc (.cells #[.int .i64 0, .int .i64 0] 60)).alloc (.cells #[.slice A b.length c, .bool false] 100))
  go_enter Try.func27, Try.ntmps27
  go_upto_region 3 with (fail)
  have HI := Aside0.mk (show InAt ((((w.alloc (.cells #[.slice none 0 0, .slice none 0 0] 25)).alloc (.cells #[.int .i64 0, .int .i64 0] 60)).alloc (.cells #[.slice A b.length c, .bool false] 100)).alloc (.cells #[.slice none 0 0, .slice none 0 0] 25)) (w.heap.size + 1 + 1) b false from by
    refine ⟨A, c, ?_, Kd.C_below hC (HF0.out.alloc _).to_below, hc, fun ad e hp => by have := hA ad e hp; omega⟩
    have h := blk_alloc (blk_new ((w.alloc (.cells #[.slice none 0 0, .slice none 0 0] 25)).alloc (.cells #[.int .i64 0, .int .i64 0] 60)) (.cells #[.slice A b.length c, .bool false] 100)) (.cells #[.slice none 0 0, .slice none 0 0] 25)
    rwa [World.size_alloc, World.size_alloc] at h)
  have HR0 := Aside0.mk (blk_alloc (blk_alloc (blk_alloc (blk_new w (.cells #[.slice none 0 0, .slice none 0 0] 25)) (.cells #[.int .i64 0, .int .i64 0] 60)) (.cells #[.slice A b.length c, .bool false] 100)) (.cells #[.slice none 0 0, .slice none 0 0] 25))
  have HR1 := Aside0.mk (show ((((w.alloc (.cells #[.slice none 0 0, .slice none 0 0] 25)).alloc (.cells #[.int .i64 0, .int .i64 0] 60)).alloc (.cells #[.slice A b.length c, .bool false] 100)).alloc (.cells #[.slice none 0 0, .slice none 0 0] 25)).heap[w.heap.size + 1]? = some (.cells #[.int .i64 0, .int .i64 0] 60) from by
    have h := blk_alloc (blk_alloc (blk_new (w.alloc (.cells #[.slice none 0 0, .slice none 0 0] 25)) (.cells #[.int .i64 0, .int .i64 0] 60)) (.cells #[.slice A b.length c, .bool false] 100)) (.cells #[.slice none 0 0, .slice none 0 0] 25)
    rwa [World.size_alloc] at h)
  have HT := Aside0.mk (show Out ((((w.alloc (.cells #[.slice none 0 0, .slice none 0 0] 25)).alloc (.cells #[.int .i64 0, .int .i64 0] 60)).alloc (.cells #[.slice A b.length c, .bool false] 100)).alloc (.cells #[.slice none 0 0, .slice none 0 0] 25)) (w.heap.size + 1 + 1 + 1) (w.heap.size + 1 + 1 + 1 + 1) (.slice none 0 0) (.slice none 0 0) [] [] from by
    refine ⟨?_, Kd.R_nil _ _ _ _ _, Kd.R_nil _ _ _ _ _⟩
    have h := blk_new (((w.alloc (.cells #[.slice none 0 0, .slice none 0 0] 25)).alloc (.cells #[.int .i64 0, .int .i64 0] 60)).alloc (.cells #[.slice A b.length c, .bool false] 100)) (.cells #[.slice none 0 0, .slice none 0 0] 25)
    rwa [World.size_alloc, World.size_alloc, World.size_alloc] at h)
  have HF := Aside0.mk (HF0.out.alloc (.cells #[.slice none 0 0, .slice none 0 0] 25))
  have hsz : ((((w.alloc (.cells #[.slice none 0 0, .slice none 0 0] 25)).alloc (.cells #[.int .i64 0, .int .i64 0] 60)).alloc (.cells #[.slice A b.length c, .bool false] 100)).alloc (.cells #[.slice none 0 0, .slice none 0 0] 25)).heap.size = w.heap.size + 1 + 1 + 1 + 1 := by simp only [World.size_alloc]
  obtain ⟨W0, hW0⟩ : ∃ W0, ((((w.alloc (.cells #[.slice none 0 0, .slice none 0 0] 25)).alloc (.cells #[.int .i64 0, .int .i64 0] 60)).alloc (.cells #[.slice A b.length c, .bool false] 100)).alloc (.cells #[.slice none 0 0, .slice none 0 0] 25)) = W0 := ⟨_, rfl⟩
  rw [hW0] at HI HR0 HR1 HT HF hsz
  simp only [hW0]
  clear hW0 HF0
  obtain ⟨q0, hq0⟩ : ∃ q0, w.heap.size = q0 := ⟨_, rfl⟩
  have HQ0 := Aside0.mk hq0
  rw [hq0] at HI HR0 HR1 HT hsz hA
  simp only [hq0]
  obtain ⟨g, hg⟩ : ∃ g, q0 + 1 + 1 = g := ⟨_, rfl⟩
  have HG := Aside0.mk hg
  rw [hg] at HI HT hsz
  simp only [hg]
  obtain ⟨q1, hq1⟩ : ∃ q1, q0 + 1 = q1 := ⟨_, rfl⟩
  have HQ1 := Aside0.mk hq1
  rw [hq1] at HR1
  simp only [hq1]
  obtain ⟨t, ht⟩ : ∃ t, g + 1 = t := ⟨_, rfl⟩
  have HGT := Aside0.mk ht
  rw [ht] at HT hsz
  simp only [ht]
  clear hq0 hg hq1 ht hC hA
  go_wp2_with (fail)
  refine (number_calls2 W0 g b false HI.out HB.out).mono ?_
  rintro e W1 ⟨v1, r1, b1, rfl, hv1, hI1, hB1, hl1, hN1, hF1⟩
  have HI1 := Aside0.mk hI1
  have HB1 := Aside0.mk hB1
  have HN1 := Aside0.mk hN1
  have HF1 := Aside0.mk hF1
  clear hI1 hB1 hN1 hF1
  go_wp2_with (fail)
  refine (number_calls2 W1 g r1 b1 HI1.out HB1.out).mono ?_
  rintro e W2 ⟨v2, r2, b2, rfl, hv2, hI2, hB2, hl2, hN2, hF2⟩
  have HI2 := Aside0.mk hI2
  have HB2 := Aside0.mk hB2
  have HN2 := Aside0.mk hN2
  have HF2 := Aside0.mk (HF1.out.trans hF2 (fun _ _ h => h))
  clear hI2 hB2 hN2 hF2
  go_wp2_with (fail)
  refine (number_calls2 W2 g r2 b2 HI2.out HB2.out).mono ?_
  rintro e W3 ⟨v3, r3, b3, rfl, hv3, hI3, hB3, hl3, hN3, hF3⟩
  have HI3 := Aside0.mk hI3
  have HB3 := Aside0.mk hB3
  have HRL := Aside0.mk (RwRel.start (P := fun s => v2 = 0 → s = 0) (fun _ => rfl) HN1.out HN2.out hN3)
  have HF3 := Aside0.mk (HF2.out.trans hF3 (fun _ _ h => h))
  clear hI3 hB3 hN3 hF3 hl1 hl2 hl3 HI1 HB1 HN1 HF1 HI2 HB2 HN2 HF2 HI
  have HS3 := Aside0.mk (show t < W0.heap.size from by omega)
  have HT3 := Aside0.mk (show Out W3 t (t + 1) (.slice none 0 0) (.slice none 0 0) [] [] from by
    refine ⟨HF3.out.blk HT.out.blk (by have := HGT.out; omega), Kd.R_nil _ _ _ _ _, Kd.R_nil _ _ _ _ _⟩)
  have HFW := Aside0.mk (HF3.out.mono (T := fun k => g ≤ k) (fun k h => by omega))
  clear HF3 HT
  go_wp2_with (fail)
  go_loopw [9] (fun a W => ∃ (s : Nat) (vm vg : Value) (Lm : List (List S48)) (Lg : List (List Int)) (rest : List Int) (bad : Bool), a = .int .i64 s ∧ s ≤ 2147483647 ∧ Aside0 (InAt W g rest bad) ∧ Aside0 (Bts rest) ∧ Aside0 (Out W t (t + 1) vm vg Lm Lg) ∧ Aside0 (RwRel (fun s => v2 = 0 → s = 0) b v1 v2 v3 s Lm Lg rest bad) ∧ Aside0 (Fr (fun k => g ≤ k) W0 W)) (fun a _ => v1 - (intOf a).toNat)
  case atStart => exact ⟨0, _, _, [], [], r3, b3, rfl, by omega, HI3, HB3, HT3, HRL, HFW⟩
  case round =>
    clear HI3 HB3 HT3 HRL HFW
    obtain ⟨s, vm, vg, Lm, Lg, rest, bad, rfl, hs, HI, HBR, HO, HRL, HFW⟩ := hrel
    obtain ⟨A5, c5, hblk5, hC5, hc5, hA5⟩ := HI.out
    have k1 := (blk_cell hblk5 1).trans (show _ = some (Value.bool bad) from rfl)
    clear hblk5 hC5 hc5 hA5
    by_cases hgo : s < v1 ∧ bad = false
    case neg =>
      have HGO := Aside0.mk hgo
      clear hgo
      go_upto_region 5 with (fail)
      go_cut [34] from 25 to 99 (fun o wx => o = .bool false ∧ wx = wr)
      case first =>
        by_cases hn2 : s < v1
        · have hb2 : bad = true := by
            cases bad with
            | true => rfl
            | false => exact absurd ⟨hn2, rfl⟩ HGO.out
          subst hb2
          go_wp2_with (fail)
          go_meet
          exact ⟨rfl, rfl⟩
        · go_wp2_with (fail)
          go_meet
          exact ⟨rfl, rfl⟩
      case rest =>
      obtain ⟨rfl, rfl⟩ := hcut
      have HDF := Aside0.mk (show bad = true ∧ Dead b ∨ bad = false ∧ readP b = some (⟨Lm, Lg⟩, rest) from by
        cases bad with
        | true =>
          rcases HRL.out with ⟨_, h⟩ | ⟨h, _⟩
          · exact .inl ⟨rfl, h⟩
          · cases h
        | false =>
          have hM := HRL.out
          have h2 := hM
          rcases h2 with ⟨h, _⟩ | ⟨_, _, _, h, _⟩
          · cases h
          · have hn3 : ¬ s < v1 := fun h3 => HGO.out ⟨h3, rfl⟩
            have hn4 : s = v1 := by omega
            rw [hn4] at hM
            exact .inr ⟨rfl, hM.fin⟩)
      have hgt := HGT.out
      have hgq := HG.out
      have hq1 := HQ1.out
      have HRB := Aside0.mk (HFW.out.blk HR0.out (by omega))
      have HFBK := Aside0.mk (HFW.out.blk HR1.out (by omega))
      have hne : q0 ≠ q1 := by omega
      have HTWO := Aside0.mk (fun W (hF : Fr (fun _ => False) wc W) x y u v => two_blocks (hF.blk HRB.out id) (hF.blk HFBK.out id) hne x y u v)
      have HFF := Aside0.mk (fun W (hF : Fr (fun _ => False) wc W) x y u v => show Fr (fun _ => False) w ((((W.setCell ⟨q0, 0, none⟩ x).setCell ⟨q0, 1, none⟩ y).setCell ⟨q1, 0, none⟩ u).setCell ⟨q1, 1, none⟩ v) from
        (((((HF.out.trans HFW.out (fun k hk h => by have := HQ0.out; omega)).trans hF (fun _ _ h => h)).set _ (fun h => by have := HQ0.out; omega)).set _ (fun h => by have := HQ0.out; omega)).set _ (fun h => by have := HQ0.out; omega)).set _ (fun h => by have := HQ0.out; omega))
      obtain ⟨A5, c5, hblk5, hC5, hc5, hA5⟩ := HI.out
      have k0 := (blk_cell hblk5 0).trans (show _ = some (Value.slice A5 rest.length c5) from rfl)
      have k1 := (blk_cell hblk5 1).trans (show _ = some (Value.bool bad) from rfl)
      have rr0 := (blk_cell HRB.out 0).trans (show _ = some (Value.slice none 0 0) from rfl)
      have rr1 := (blk_cell HRB.out 1).trans (show _ = some (Value.slice none 0 0) from rfl)
      have rf0 := blk_frozen HRB.out 0
      have rf1 := blk_frozen HRB.out 1
      have fr0 := (blk_cell HFBK.out 0).trans (show _ = some (Value.int .i64 0) from rfl)
      have fr1 := (blk_cell HFBK.out 1).trans (show _ = some (Value.int .i64 0) from rfl)
      have ff0 := blk_frozen HFBK.out 0
      have ff1 := blk_frozen HFBK.out 1
      clear hblk5 hC5 hc5 hA5
      have HFAULT := Aside0.mk (fun W (hF : Fr (fun _ => False) wc W) (hd : Dead b) => show ReadPost w b (.returned (.tuple #[.agg #[.slice none 0 0, .slice none 0 0], .agg #[.int .i64 170, .int .i64 0]])) ((((W.setCell ⟨q0, 0, none⟩ (.slice none 0 0)).setCell ⟨q0, 1, none⟩ (.slice none 0 0)).setCell ⟨q1, 0, none⟩ (.int .i64 170)).setCell ⟨q1, 1, none⟩ (.int .i64 0)) from
        ⟨HFF.out W hF _ _ _ _, .inl ⟨isRead_none HB.out hd, rfl⟩⟩)
      cases bad with
      | true =>
        have HDD := Aside0.mk (show Dead b from by
          rcases HDF.out with ⟨_, h⟩ | ⟨h, _⟩
          · exact h
          · cases h)
        go_wp2_with (fail)
        refine bodyPost_ret (v := .tuple #[.agg #[.slice none 0 0, .slice none 0 0], .agg #[.int .i64 170, .int .i64 0]]) ((results_cells2 (p := 2) (u := 3) (ty := 25) (ty2 := 60) (by rfl) _ _ q0 q1 25 60 #[.slice none 0 0, .slice none 0 0] #[.int .i64 170, .int .i64 0] (0, 0) (0, 0) _ _ (by rfl) (HTWO.out _ (Fr.refl _ _) _ _ _ _).1 hu (by rfl) (by kernel_rfl) (by rfl) (HTWO.out _ (Fr.refl _ _) _ _ _ _).2 hu2 (by rfl) (by kernel_rfl)).trans (by rfl)) rfl ?_
        exact HFAULT.out _ (Fr.refl _ _) HDD.out
      | false =>
      have HRP := Aside0.mk (show readP b = some (⟨Lm, Lg⟩, rest) from by
        rcases HDF.out with ⟨h, _⟩ | ⟨_, h⟩
        · cases h
        · exact h)
      by_cases hlr : 0 < rest.length
      · have HDD := Aside0.mk (show Dead b from fun T l h he => by
          rw [HRP.out] at h
          injection h with h
          injection h with _ h
          have := he.1
          simp only at this
          rw [← h] at this
          rw [this] at hlr
          simp at hlr)
        go_wp2_with (fail)
        refine bodyPost_ret (v := .tuple #[.agg #[.slice none 0 0, .slice none 0 0], .agg #[.int .i64 170, .int .i64 0]]) ((results_cells2 (p := 2) (u := 3) (ty := 25) (ty2 := 60) (by rfl) _ _ q0 q1 25 60 #[.slice none 0 0, .slice none 0 0] #[.int .i64 170, .int .i64 0] (0, 0) (0, 0) _ _ (by rfl) (HTWO.out _ (Fr.refl _ _) _ _ _ _).1 hu (by rfl) (by kernel_rfl) (by rfl) (HTWO.out _ (Fr.refl _ _) _ _ _ _).2 hu2 (by rfl) (by kernel_rfl)).trans (by rfl)) rfl ?_
        exact HFAULT.out _ (Fr.refl _ _) HDD.out
      obtain rfl : rest = [] := List.length_eq_zero_iff.1 (by omega)
      have hgs : Lm.length ≤ 2147483647 := by
        rcases HRL.out with ⟨h, _⟩ | ⟨_, h, _⟩
        · cases h
        · omega
      obtain ⟨r, hr, hf, _⟩ := even_some ⟨Lm, Lg⟩ (by simp only; omega)
      obtain ⟨ke, hke⟩ := hf.get
      have HKE := Aside0.mk hke
      have HR := Aside0.mk hr
      obtain ⟨VA, vc, hvm⟩ := Kd.R_slice HO.out.m
      obtain ⟨VG, gc, hvg⟩ := Kd.R_slice HO.out.g
      subst hvm hvg
      have o0 := (blk_cell HO.out.blk 0).trans (show _ = some (Value.slice VA Lm.length vc) from rfl)
      have o1 := (blk_cell HO.out.blk 1).trans (show _ = some (Value.slice VG Lg.length gc) from rfl)
      clear hf hke hr hlr hgs
      obtain ⟨mn, hmn⟩ : ∃ mn, Lm.length = mn := ⟨_, rfl⟩
      obtain ⟨gn, hgn⟩ : ∃ gn, Lg.length = gn := ⟨_, rfl⟩
      have HMN := Aside0.mk hmn
      have HGN := Aside0.mk hgn
      rw [hmn] at o0
      rw [hgn] at o1
      clear hmn hgn
      have HEV := Aside0.mk (show Calls Try.prog 32 #[.agg #[.slice VA mn vc, .slice VG gn gc]] wc (fun e w' => e = .returned (.bool r) ∧ Below wc.heap.size wc w') from by
        rw [← HMN.out, ← HGN.out]
        exact table_even.calls ke VA vc Lm VG gc Lg r wc (Kd.R_reads' HO.out.m).2.2 (Kd.R_reads' HO.out.m).2.1 (Kd.R_reads' HO.out.g).2.2 (Kd.R_reads' HO.out.g).2.1 HKE.out)
      go_wp2_with (fail)
      refine HEV.out.mono ?_
      rintro e W9 ⟨rfl, hb9⟩
      have HF9 := Aside0.mk (Fr.of_below (S := fun _ => False) hb9)
      have HRB9 := Aside0.mk (HF9.out.blk HRB.out id)
      have HFBK9 := Aside0.mk (HF9.out.blk HFBK.out id)
      have HO9 := Aside0.mk (HO.out.fr HF9.out (fun _ _ => id))
      clear hb9 k0 k1 rr0 rr1 rf0 rf1 fr0 fr1 ff0 ff1 o0 o1
      have rr0 := (blk_cell HRB9.out 0).trans (show _ = some (Value.slice none 0 0) from rfl)
      have rr1 := (blk_cell HRB9.out 1).trans (show _ = some (Value.slice none 0 0) from rfl)
      have rf0 := blk_frozen HRB9.out 0
      have rf1 := blk_frozen HRB9.out 1
      have fr0 := (blk_cell HFBK9.out 0).trans (show _ = some (Value.int .i64 0) from rfl)
      have fr1 := (blk_cell HFBK9.out 1).trans (show _ = some (Value.int .i64 0) from rfl)
      have ff0 := blk_frozen HFBK9.out 0
      have ff1 := blk_frozen HFBK9.out 1
      cases r with
      | false =>
        have HDD := Aside0.mk (show Dead b from fun T l h he => by
          have h0 := he.1
          simp only at h0
          subst h0
          have hg := (readP_good HB.out T).1 ⟨h, he⟩
          rw [HRP.out] at h
          injection h with h
          injection h with h _
          rw [← h] at hg
          have := HR.out.2 hg.1.1
          cases this)
        go_wp2_with (fail)
        refine bodyPost_ret (v := .tuple #[.agg #[.slice none 0 0, .slice none 0 0], .agg #[.int .i64 170, .int .i64 0]]) ((results_cells2 (p := 2) (u := 3) (ty := 25) (ty2 := 60) (by rfl) _ _ q0 q1 25 60 #[.slice none 0 0, .slice none 0 0] #[.int .i64 170, .int .i64 0] (0, 0) (0, 0) _ _ (by rfl) (HTWO.out _ HF9.out _ _ _ _).1 hu (by rfl) (by kernel_rfl) (by rfl) (HTWO.out _ HF9.out _ _ _ _).2 hu2 (by rfl) (by kernel_rfl)).trans (by rfl)) rfl ?_
        exact HFAULT.out _ HF9.out HDD.out
      | true =>
        have o0 := (blk_cell HO9.out.blk 0).trans (show _ = some (Value.slice VA mn vc) from by rw [← HMN.out]; rfl)
        have o1 := (blk_cell HO9.out.blk 1).trans (show _ = some (Value.slice VG gn gc) from by rw [← HGN.out]; rfl)
        have HIS := Aside0.mk (show IsRead b (some ⟨Lm, Lg⟩) from isRead_some HB.out HRP.out ⟨rfl, (HR.out.1 rfl).1, (HR.out.1 rfl).2.1⟩)
        have hlow : w.heap.size ≤ t + 1 := by have := HQ0.out; omega
        have HRV := Aside0.mk (show ∀ x y u v, (Kd.slice 48 k48).R 38 ((((W9.setCell ⟨q0, 0, none⟩ x).setCell ⟨q0, 1, none⟩ y).setCell ⟨q1, 0, none⟩ u).setCell ⟨q1, 1, none⟩ v) w.heap.size (fun _ => True) (.slice VA Lm.length vc) Lm ∧ (Kd.slice 3 (Kd.int .i64)).R 39 ((((W9.setCell ⟨q0, 0, none⟩ x).setCell ⟨q0, 1, none⟩ y).setCell ⟨q1, 0, none⟩ u).setCell ⟨q1, 1, none⟩ v) w.heap.size (fun _ => True) (.slice VG Lg.length gc) Lg from fun x y u v => by
          have hF : Fr (fun k => k < t) W9 ((((W9.setCell ⟨q0, 0, none⟩ x).setCell ⟨q0, 1, none⟩ y).setCell ⟨q1, 0, none⟩ u).setCell ⟨q1, 1, none⟩ v) := ((((Fr.refl _ W9).set _ (fun _ => by omega)).set _ (fun _ => by omega)).set _ (fun _ => by omega)).set _ (fun _ => by omega)
          have h := HO9.out.far hF (fun _ h => h)
          exact ⟨Kd.R_mono (Kd.R_lower h.m hlow) (fun _ _ => trivial), Kd.R_mono (Kd.R_lower h.g hlow) (fun _ _ => trivial)⟩)
        have HFIN := Aside0.mk (show ReadPost w b (.returned (.tuple #[.agg #[.slice VA mn vc, .slice VG gn gc], .agg #[.int .i64 0, .int .i64 0]])) ((((W9.setCell ⟨q0, 0, none⟩ (.slice VA mn vc)).setCell ⟨q0, 1, none⟩ (.slice VG gn gc)).setCell ⟨q1, 0, none⟩ (.int .i64 0)).setCell ⟨q1, 1, none⟩ (.int .i64 0)) from by
          rw [← HMN.out, ← HGN.out]
          exact ⟨HFF.out W9 HF9.out _ _ _ _, .inr ⟨⟨Lm, Lg⟩, _, _, HIS.out, rfl, (HRV.out _ _ _ _).1, (HRV.out _ _ _ _).2⟩⟩)
        go_wp2_with (fail)
        refine bodyPost_ret (v := .tuple #[.agg #[.slice VA mn vc, .slice VG gn gc], .agg #[.int .i64 0, .int .i64 0]]) ((results_cells2 (p := 2) (u := 3) (ty := 25) (ty2 := 60) (by rfl) _ _ q0 q1 25 60 #[.slice VA mn vc, .slice VG gn gc] #[.int .i64 0, .int .i64 0] (0, 0) (0, 0) _ _ (by rfl) (HTWO.out _ HF9.out _ _ _ _).1 hu (by rfl) (by kernel_rfl) (by rfl) (HTWO.out _ HF9.out _ _ _ _).2 hu2 (by rfl) (by kernel_rfl)).trans (by rfl)) rfl ?_
        exact HFIN.out
    case pos =>
    obtain ⟨hlt, rfl⟩ := hgo
    go_wp2_with (fail)
    obtain ⟨Ws, hWs⟩ : ∃ Ws, Ws = wr := ⟨_, rfl⟩
    subst hWs
    obtain ⟨bs, hbs⟩ : ∃ bs, Ws.heap.size = bs := ⟨_, rfl⟩
    have HBS := Aside0.mk hbs
    have hgs : g < bs := by have := HFW.out.size; have := HS3.out; have := HGT.out; omega
    have HFB := Aside0.mk (Fr.refl (fun k => k = g ∨ bs ≤ k) Ws)
    have HVN := Aside0.mk (Kd.R_nil k48 48 Ws bs (fun k => bs ≤ k))
    have HM0 := Aside0.mk (MvRel.start (Dead b) v2 rest)
    clear hbs
    go_loopw [10, 12] (fun a k W => ∃ (n : Nat) (vM : Value) (ms : List S48) (rest' : List Int) (bad' : Bool), a = vM ∧ k = .int .i64 n ∧ n ≤ 2147483647 ∧ Aside0 (InAt W g rest' bad') ∧ Aside0 (Bts rest') ∧ Aside0 (k48.R 48 W bs (fun k => bs ≤ k) vM ms) ∧ Aside0 (MvRel (Dead b) v2 rest n ms rest' bad') ∧ Aside0 (Fr (fun k => k = g ∨ bs ≤ k) Ws W)) (fun _ k _ => v2 - (intOf k).toNat)
    case atStart => exact ⟨0, _, [], rest, false, rfl, rfl, by omega, HI, HBR, HVN, HM0, HFB⟩
    case round =>
      clear HFB HVN HM0 k1
      obtain ⟨n, vM, ms, rest', bad', rfl, rfl, hn, HI', HBR', HV, HM, HFB⟩ := hrel
      obtain ⟨A5, c5, hblk5, hC5, hc5, hA5⟩ := HI'.out
      have k1 := (blk_cell hblk5 1).trans (show _ = some (Value.bool bad') from rfl)
      clear hblk5 hC5 hc5 hA5
      by_cases hgo : n < v2 ∧ bad' = false
      case neg =>
        have HGO := Aside0.mk hgo
        clear hgo
        go_upto_region 9 with (fail)
        go_cut [46] from 37 to 58 (fun o wx => o = .bool false ∧ wx = wr)
        case first =>
          by_cases hn2 : n < v2
          · have hb2 : bad' = true := by
              cases bad' with
              | true => rfl
              | false => exact absurd ⟨hn2, rfl⟩ HGO.out
            subst hb2
            go_wp2_with (fail)
            go_meet
            exact ⟨rfl, rfl⟩
          · go_wp2_with (fail)
            go_meet
            exact ⟨rfl, rfl⟩
        case rest =>
        obtain ⟨rfl, rfl⟩ := hcut
        have HMF := Aside0.mk (show bad' = true ∧ Dead b ∨ bad' = false ∧ pM v2 rest = some (ms, rest') from by
          cases bad' with
          | true =>
            rcases HM.out with ⟨_, h⟩ | ⟨h, _⟩
            · exact .inl ⟨rfl, h⟩
            · cases h
          | false =>
            have hM := HM.out
            have h2 := hM
            rcases h2 with ⟨h, _⟩ | ⟨_, _, h, _⟩
            · cases h
            · have hn3 : ¬ n < v2 := fun h3 => HGO.out ⟨h3, rfl⟩
              have hn4 : n = v2 := by omega
              rw [hn4] at hM
              exact .inr ⟨rfl, hM.fin⟩)
        go_wp2_with (fail)
        obtain ⟨Wg, hWg⟩ : ∃ Wg, Wg = wc := ⟨_, rfl⟩
        subst hWg
        obtain ⟨bg, hbg⟩ : ∃ bg, Wg.heap.size = bg := ⟨_, rfl⟩
        have HBG := Aside0.mk hbg
        have hsg : bs ≤ bg := by have := HFB.out.size; have := HBS.out; omega
        have HVM := Aside0.mk (Kd.R_mono (Kd.R_bound HV.out) (fun k hk => (⟨hk.1, by rw [← hbg]; exact hk.2.2.1⟩ : bs ≤ k ∧ k < bg)))
        have HFG := Aside0.mk (Fr.refl (fun k => k = g ∨ bg ≤ k) Wg)
        have HVN := Aside0.mk (Kd.R_nil (Kd.int .i64) 3 Wg bg (fun k => bg ≤ k))
        have HG0 := Aside0.mk (show GtRel (Dead b) v3 rest' 0 [] rest' bad' from by
          rcases HMF.out with ⟨h, hd⟩ | ⟨h, _⟩
          · exact .inl ⟨h, hd⟩
          · rw [h]
            exact GtRel.start _ _ _)
        clear hbg HV HM k1 HGO
        go_loopw [11, 14] (fun a k W => ∃ (n : Nat) (vG : Value) (gs : List Int) (rest2 : List Int) (bad2 : Bool), a = vG ∧ k = .int .i64 n ∧ n ≤ 2147483647 ∧ Aside0 (InAt W g rest2 bad2) ∧ Aside0 (Bts rest2) ∧ Aside0 ((Kd.int .i64).R 3 W bg (fun k => bg ≤ k) vG gs) ∧ Aside0 (bad2 = false → bad' = false) ∧ Aside0 (GtRel (Dead b) v3 rest' n gs rest2 bad2) ∧ Aside0 (Fr (fun k => k = g ∨ bg ≤ k) Wg W)) (fun _ k _ => v3 - (intOf k).toNat)
        case atStart => exact ⟨0, _, [], rest', bad', rfl, rfl, by omega, HI', HBR', HVN, ⟨id⟩, HG0, HFG⟩
        case round =>
          clear HFG HVN HG0
          obtain ⟨m, vG, gs, rest2, bad2, rfl, rfl, hm, HI2, HBR2, HVG, HBB, HGR, HFG⟩ := hrel
          obtain ⟨A6, c6, hblk6, hC6, hc6, hA6⟩ := HI2.out
          have k1 := (blk_cell hblk6 1).trans (show _ = some (Value.bool bad2) from rfl)
          clear hblk6 hC6 hc6 hA6
          by_cases hgo : m < v3 ∧ bad2 = false
          case neg =>
            have HGO := Aside0.mk hgo
            clear hgo
            go_upto_region 15 with (fail)
            go_cut [68] from 59 to 76 (fun o wx => o = .bool false ∧ wx = wr)
            case first =>
              by_cases hn2 : m < v3
              · have hb2 : bad2 = true := by
                  cases bad2 with
                  | true => rfl
                  | false => exact absurd ⟨hn2, rfl⟩ HGO.out
                subst hb2
                go_wp2_with (fail)
                go_meet
                exact ⟨rfl, rfl⟩
              · go_wp2_with (fail)
                go_meet
                exact ⟨rfl, rfl⟩
            case rest =>
            obtain ⟨rfl, rfl⟩ := hcut
            have HRF := Aside0.mk (show RwRel (fun s => v2 = 0 → s = 0) b v1 v2 v3 (s + 1) (Lm ++ [ms]) (Lg ++ [gs]) rest2 (bad2 || (v2 == 0)) from by
              refine HRL.out.step hlt rfl (l1 := rest') ?_
              cases bad2 with
              | true =>
                rcases HGR.out with ⟨_, h⟩ | ⟨h, _⟩
                · exact .inl ⟨rfl, h⟩
                · cases h
              | false =>
                have hM := HGR.out
                have h2 := hM
                rcases h2 with ⟨h, _⟩ | ⟨_, _, h, _⟩
                · cases h
                · have hn3 : ¬ m < v3 := fun h3 => HGO.out ⟨h3, rfl⟩
                  have hn4 : m = v3 := by omega
                  rw [hn4] at hM
                  rcases HMF.out with ⟨hb, _⟩ | ⟨hb, hf⟩
                  · rw [HBB.out (by first | rfl | trivial)] at hb
                    cases hb
                  · exact .inr ⟨rfl, hf, hM.fin⟩)
            have HLM := Aside0.mk (show Lm.length = s from by
              rcases HRL.out with ⟨h, _⟩ | ⟨_, h, _⟩
              · cases h
              · exact h)
            have HLG := Aside0.mk (show Lg.length = s from by
              rcases HRL.out with ⟨h, _⟩ | ⟨_, _, h, _⟩
              · cases h
              · exact h)
            have HFX := Aside0.mk (HFB.out.trans (HFG.out.mono (T := fun k => k = g ∨ bs ≤ k) (fun k h => by omega)) (fun k _ h => h))
            have hgt := HGT.out
            have htb : t + 1 ≤ bs := by have h1 := HFW.out.size; have h2 := HBS.out; omega
            have HBT := Aside0.mk htb
            have HVMB := Aside0.mk (show ∀ k, vm.ownBlock = some k → k < bs from fun k hk => by have := Kd.R_lt HO.out.m k hk; have := HBS.out; omega)
            have HVGB := Aside0.mk (show ∀ k, vg.ownBlock = some k → k < bs from fun k hk => by have := Kd.R_lt HO.out.g k hk; have := HBS.out; omega)
            obtain ⟨A2, c2, hvM⟩ := Kd.R_slice HVM.out
            obtain ⟨A3, c3, hvG⟩ := Kd.R_slice HVG.out
            generalize hml : ms.length = ml at hvM
            generalize hgl : gs.length = gl at hvG
            clear hml hgl
            subst hvM hvG
            obtain ⟨Wh, hWh⟩ : ∃ Wh, Wh = wc := ⟨_, rfl⟩
            subst hWh
            obtain ⟨VA, vc, hvm⟩ := Kd.R_slice HO.out.m
            obtain ⟨VGA, gvc, hvg⟩ := Kd.R_slice HO.out.g
            generalize hvn : Lm.length = vn at hvm
            generalize hgvn : Lg.length = gvn at hvg
            clear hvn hgvn
            subst hvm hvg
            have HTW := Aside0.mk (show TwoR Wh t bs (.slice VA vn vc) (.slice VGA gvn gvc) (.slice VA vn vc) (.slice VGA gvn gvc) Lm Lg (.slice A2 ml c2) (.slice A3 gl c3) ms gs from
              ⟨HFX.out.blk HO.out.blk (by omega), Kd.R_step HO.out.m (fun k hk hl => HFX.out.block k hl (by have := HBS.out; omega)), Kd.R_step HO.out.g (fun k hk hl => HFX.out.block k hl (by have := HBS.out; omega)),
                Kd.R_mono (Kd.R_lower (HFG.out.R HVM.out (fun k hk => by omega)) htb) (fun k hk => hk.1), Kd.R_mono (Kd.R_lower HVG.out (by omega)) (fun k hk => by omega)⟩)
            have hbW : bs ≤ Wh.heap.size := by have h1 := HFX.out.size; have h2 := HBS.out; omega
            clear HVM HVG k1
            go_upto_region 18 with (fail)
            go_cut [79] from 25 to 99 (fun _ wx => ∃ u v, Aside0 (Out wx t (t + 1) u v (Lm ++ [ms]) (Lg ++ [gs])) ∧ Aside0 (Fr (fun k => t ≤ k) Wh wx))
            case first =>
              have HFD := Aside0.mk (Fr.refl (fun k => t ≤ k) Wh).drew
              have HT0 := Aside0.mk (show TwoR Wh.drew t bs (.slice VA vn vc) (.slice VGA gvn gvc) (.slice VA vn vc) (.slice VGA gvn gvc) Lm Lg (.slice A2 ml c2) (.slice A3 gl c3) ms gs from
                ⟨blk_drew HTW.out.blk, Kd.R_drew HTW.out.m, Kd.R_drew HTW.out.g, Kd.R_drew HTW.out.xm, Kd.R_drew HTW.out.xg⟩)
              refine wp_region_last_drew (S := fun w' => w'.cell? ⟨t, 0, none⟩ = some (.slice VA vn vc) ∧ w'.cell? ⟨t, 1, none⟩ = some (.slice VGA gvn gvc)) (ds := [11, 12, 13]) (by kernel_rfl) HT0.out.cells (fun hHeld => ?_)
              obtain ⟨Wd, hWd⟩ : ∃ Wd, Wh.drew = Wd := ⟨_, rfl⟩
              rw [hWd] at HFD HT0 hHeld
              simp only [hWd]
              have HBW := Aside0.mk (show bs ≤ Wd.heap.size from by rw [← hWd]; exact hbW)
              have HF0 := Aside0.mk (Fr.refl (fun k => t ≤ k) Wd)
              clear hWd
              refine tk 0 ?_
              refine tk 1 ?_
              refine tk 2 ?_
              refine tk 5 ?_
              refine tk 6 ?_
              refine tk 7 ?_
              refine on2 3 8 (fun K hK => ?_) (fun K hK => ?_)
              · go_simp
                have HT1 := Aside0.mk (HT0.out.alloc (.cells #[(.slice A2 ml c2)] 38))
                have HF2 := Aside0.mk (HF0.out.alloc (.cells #[(.slice A2 ml c2)] 38))
                have HE3 := Aside0.mk (blk_new Wd (.cells #[(.slice A2 ml c2)] 38))
                have hz4 := World.size_alloc Wd (.cells #[(.slice A2 ml c2)] 38)
                refine hK.out _ _ HT1.out.cells (fun hHeld => ?_)
                clear hK K
                try simp only [Act.put, List.setIfInBounds_toArray, List.set_cons_zero, List.set_cons_succ]
                obtain ⟨q5, hq7⟩ : ∃ q, Wd.heap.size = q := ⟨_, rfl⟩
                obtain ⟨Wt6, hw8⟩ : ∃ W, Wd.alloc (.cells #[(.slice A2 ml c2)] 38) = W := ⟨_, rfl⟩
                simp only [hw8] at HT1 HF2 HE3 hz4 ⊢
                simp only [hq7] at HE3 hz4 ⊢
                have hs9 : t < q5 ∧ bs ≤ q5 ∧ q5 < Wt6.heap.size := by have h1 := blk_lt HT0.out.blk; have h2 := HF0.out.size; have h3 := HBW.out; omega
                clear hq7 hw8 hz4
                refine on2 4 8 (fun K hK => ?_) (fun K hK => ?_)
                · refine Kd.R_append_rows_step (Kd.slice 48 k48) (Rr := fun x cs => x = ms ∧ cs = [(.slice A2 ml c2)]) (w0 := Wt6) (W := Wt6) (t + 1) (by rfl) (.tmp 78) (.tmp 80) 22 38 (.slice none 0 0) 24 rfl Try.underlying22 info38 rfl (by decide) (by decide) (.slice VA vn vc) Lm [ms] (some ⟨q5, 0, none⟩) 1 1 (fun k => t + 1 ≤ k) (fun k => bs ≤ k) rfl rfl HT1.out.m (reads_one HE3.out) (fun x cs h => by obtain ⟨rfl, rfl⟩ := h; exact ⟨_, rfl, HT1.out.xm⟩) (fun k hk => ⟨by have := HBT.out; omega, fun e => by have := HVMB.out k e.symm; omega⟩) (fun k hk => by have := blk_lt HT1.out.blk; omega) (Below.refl _ _) (by have := blk_lt HT1.out.blk; omega) (by rw [HLM.out]; omega) ?_
                  intro v10 Wt11 h1 hb h2 _
                  obtain ⟨NA12, nc13, rfl⟩ := Kd.R_slice h1
                  generalize h9 : (Lm ++ [ms]).length = nl14 at h1 ⊢
                  clear h9
                  have HT15 := Aside0.mk (HT1.out.appM h2 h1 HVMB.out)
                  have HF16 := Aside0.mk (HF2.out.trans (grown_fr (b0 := t) h2 (fun k hk => by have := Kd.R_base HT1.out.m k hk; omega)) (fun k _ h => h))
                  refine hK.out _ _ HT15.out.cells (fun hHeld => ?_)
                  clear hK K h1 hb h2
                  try simp only [Act.put, List.setIfInBounds_toArray, List.set_cons_zero, List.set_cons_succ]
                  refine tk 10 ?_
                  refine on 8 (fun K hK => ?_)
                  go_simp
                  have HT17 := Aside0.mk (HT15.out.alloc (.cells #[(.slice A3 gl c3)] 39))
                  have HF18 := Aside0.mk (HF16.out.alloc (.cells #[(.slice A3 gl c3)] 39))
                  have HE19 := Aside0.mk (blk_new Wt11 (.cells #[(.slice A3 gl c3)] 39))
                  have hz20 := World.size_alloc Wt11 (.cells #[(.slice A3 gl c3)] 39)
                  have HE21 := Aside0.mk (blk_alloc HE3.out (.cells #[(.slice A3 gl c3)] 39))
                  refine hK.out _ _ HT17.out.cells (fun hHeld => ?_)
                  clear hK K
                  try simp only [Act.put, List.setIfInBounds_toArray, List.set_cons_zero, List.set_cons_succ]
                  obtain ⟨q22, hq24⟩ : ∃ q, Wt11.heap.size = q := ⟨_, rfl⟩
                  obtain ⟨Wt23, hw25⟩ : ∃ W, Wt11.alloc (.cells #[(.slice A3 gl c3)] 39) = W := ⟨_, rfl⟩
                  simp only [hw25] at HT17 HF18 HE19 hz20 HE21 ⊢
                  simp only [hq24] at HE19 hz20 ⊢
                  have hs26 : t < q22 ∧ bs ≤ q22 ∧ q22 < Wt23.heap.size := by have h1 := blk_lt HT15.out.blk; have h2 := HF16.out.size; have h3 := HBW.out; omega
                  clear hq24 hw25 hz20
                  refine on 9 (fun K hK => ?_)
                  refine Kd.R_append_rows_step (Kd.slice 3 (Kd.int .i64)) (Rr := fun x cs => x = gs ∧ cs = [(.slice A3 gl c3)]) (w0 := Wt23) (W := Wt23) (t + 1) (by rfl) (.tmp 83) (.tmp 85) 23 39 (.slice none 0 0) 24 rfl Try.underlying23 info39 rfl (by decide) (by decide) (.slice VGA gvn gvc) Lg [gs] (some ⟨q22, 0, none⟩) 1 1 (fun k => t + 1 ≤ k) (fun k => bs ≤ k) rfl rfl HT17.out.g (reads_one HE19.out) (fun x cs h => by obtain ⟨rfl, rfl⟩ := h; exact ⟨_, rfl, HT17.out.xg⟩) (fun k hk => ⟨by have := HBT.out; omega, fun e => by have := HVGB.out k e.symm; omega⟩) (fun k hk => by have := blk_lt HT17.out.blk; omega) (Below.refl _ _) (by have := blk_lt HT17.out.blk; omega) (by rw [HLG.out]; omega) ?_
                  intro v27 Wt28 h1 hb h2 _
                  obtain ⟨NA29, nc30, rfl⟩ := Kd.R_slice h1
                  generalize h9 : (Lg ++ [gs]).length = nl31 at h1 ⊢
                  clear h9
                  have HT32 := Aside0.mk (HT17.out.appG h2 h1 HVGB.out)
                  have HF33 := Aside0.mk (HF18.out.trans (grown_fr (b0 := t) h2 (fun k hk => by have := Kd.R_base HT17.out.g k hk; omega)) (fun k _ h => h))
                  refine hK.out _ _ HT32.out.cells (fun hHeld => ?_)
                  clear hK K h1 hb h2
                  try simp only [Act.put, List.setIfInBounds_toArray, List.set_cons_zero, List.set_cons_succ]
                  have hc0 := HT32.out.cells.1
                  have hc1 := HT32.out.cells.2
                  have hf0 := blk_frozen HT32.out.blk 0
                  have hf1 := blk_frozen HT32.out.blk 1
                  have HOE := Aside0.mk HT32.out.out
                  have HFE := Aside0.mk ((HF33.out.set (g := t) (o := 0) (.slice NA12 nl14 nc13) (fun _ => Nat.le_refl _)).set (g := t) (o := 1) (.slice NA29 nl31 nc30) (fun _ => Nat.le_refl _))
                  refine onl 11 (fun K hK => ?_)
                  go_simp
                  refine hK.out _ _ ?_
                  clear hK K
                  try simp only [Act.put]
                  have hd1 : (Wt28.setCell ⟨t, 0, none⟩ (.slice NA12 nl14 nc13)).cell? ⟨t, 1, none⟩ = some (.slice VGA gvn gvc) := (blk_cell (blk_put HT32.out.blk 0 (.slice NA12 nl14 nc13) rfl) 1).trans rfl
                  have he1 := blk_frozen (blk_put HT32.out.blk 0 (.slice NA12 nl14 nc13) rfl) 1
                  refine onl 12 (fun K hK => ?_)
                  go_simp
                  refine hK.out _ _ ?_
                  clear hK K
                  try simp only [Act.put, List.setIfInBounds_toArray, List.set_cons_zero, List.set_cons_succ]
                  refine onl 13 (fun K hK => ?_)
                  go_simp
                  refine hK.out _ _ ?_
                  clear hK K
                  try simp only [Act.put]
                  refine dn ?_
                  go_wp2_with (fail)
                  go_meet
                  exact ⟨(.slice NA12 nl14 nc13), (.slice NA29 nl31 nc30), HOE, ⟨HFD.out.trans HFE.out (fun k _ h => h)⟩⟩
                · go_simp
                  have HT34 := Aside0.mk (HT1.out.alloc (.cells #[(.slice A3 gl c3)] 39))
                  have HF35 := Aside0.mk (HF2.out.alloc (.cells #[(.slice A3 gl c3)] 39))
                  have HE36 := Aside0.mk (blk_new Wt6 (.cells #[(.slice A3 gl c3)] 39))
                  have hz37 := World.size_alloc Wt6 (.cells #[(.slice A3 gl c3)] 39)
                  have HE38 := Aside0.mk (blk_alloc HE3.out (.cells #[(.slice A3 gl c3)] 39))
                  refine hK.out _ _ HT34.out.cells (fun hHeld => ?_)
                  clear hK K
                  try simp only [Act.put, List.setIfInBounds_toArray, List.set_cons_zero, List.set_cons_succ]
                  obtain ⟨q39, hq41⟩ : ∃ q, Wt6.heap.size = q := ⟨_, rfl⟩
                  obtain ⟨Wt40, hw42⟩ : ∃ W, Wt6.alloc (.cells #[(.slice A3 gl c3)] 39) = W := ⟨_, rfl⟩
                  simp only [hw42] at HT34 HF35 HE36 hz37 HE38 ⊢
                  simp only [hq41] at HE36 hz37 ⊢
                  have hs43 : t < q39 ∧ bs ≤ q39 ∧ q39 < Wt40.heap.size := by have h1 := blk_lt HT1.out.blk; have h2 := HF2.out.size; have h3 := HBW.out; omega
                  clear hq41 hw42 hz37
                  refine on 4 (fun K hK => ?_)
                  refine Kd.R_append_rows_step (Kd.slice 48 k48) (Rr := fun x cs => x = ms ∧ cs = [(.slice A2 ml c2)]) (w0 := Wt40) (W := Wt40) (t + 1) (by rfl) (.tmp 78) (.tmp 80) 22 38 (.slice none 0 0) 24 rfl Try.underlying22 info38 rfl (by decide) (by decide) (.slice VA vn vc) Lm [ms] (some ⟨q5, 0, none⟩) 1 1 (fun k => t + 1 ≤ k) (fun k => bs ≤ k) rfl rfl HT34.out.m (reads_one HE38.out) (fun x cs h => by obtain ⟨rfl, rfl⟩ := h; exact ⟨_, rfl, HT34.out.xm⟩) (fun k hk => ⟨by have := HBT.out; omega, fun e => by have := HVMB.out k e.symm; omega⟩) (fun k hk => by have := blk_lt HT34.out.blk; omega) (Below.refl _ _) (by have := blk_lt HT34.out.blk; omega) (by rw [HLM.out]; omega) ?_
                  intro v44 Wt45 h1 hb h2 _
                  obtain ⟨NA46, nc47, rfl⟩ := Kd.R_slice h1
                  generalize h9 : (Lm ++ [ms]).length = nl48 at h1 ⊢
                  clear h9
                  have HT49 := Aside0.mk (HT34.out.appM h2 h1 HVMB.out)
                  have HF50 := Aside0.mk (HF35.out.trans (grown_fr (b0 := t) h2 (fun k hk => by have := Kd.R_base HT34.out.m k hk; omega)) (fun k _ h => h))
                  have HE51 := Aside0.mk (blk_grown HE36.out h2 (fun e => by have := HVMB.out q39 e.symm; omega))
                  refine hK.out _ _ HT49.out.cells (fun hHeld => ?_)
                  clear hK K h1 hb h2
                  try simp only [Act.put, List.setIfInBounds_toArray, List.set_cons_zero, List.set_cons_succ]
                  refine tk 10 ?_
                  refine on 9 (fun K hK => ?_)
                  refine Kd.R_append_rows_step (Kd.slice 3 (Kd.int .i64)) (Rr := fun x cs => x = gs ∧ cs = [(.slice A3 gl c3)]) (w0 := Wt45) (W := Wt45) (t + 1) (by rfl) (.tmp 83) (.tmp 85) 23 39 (.slice none 0 0) 24 rfl Try.underlying23 info39 rfl (by decide) (by decide) (.slice VGA gvn gvc) Lg [gs] (some ⟨q39, 0, none⟩) 1 1 (fun k => t + 1 ≤ k) (fun k => bs ≤ k) rfl rfl HT49.out.g (reads_one HE51.out) (fun x cs h => by obtain ⟨rfl, rfl⟩ := h; exact ⟨_, rfl, HT49.out.xg⟩) (fun k hk => ⟨by have := HBT.out; omega, fun e => by have := HVGB.out k e.symm; omega⟩) (fun k hk => by have := blk_lt HT49.out.blk; omega) (Below.refl _ _) (by have := blk_lt HT49.out.blk; omega) (by rw [HLG.out]; omega) ?_
                  intro v52 Wt53 h1 hb h2 _
                  obtain ⟨NA54, nc55, rfl⟩ := Kd.R_slice h1
                  generalize h9 : (Lg ++ [gs]).length = nl56 at h1 ⊢
                  clear h9
                  have HT57 := Aside0.mk (HT49.out.appG h2 h1 HVGB.out)
                  have HF58 := Aside0.mk (HF50.out.trans (grown_fr (b0 := t) h2 (fun k hk => by have := Kd.R_base HT49.out.g k hk; omega)) (fun k _ h => h))
                  refine hK.out _ _ HT57.out.cells (fun hHeld => ?_)
                  clear hK K h1 hb h2
                  try simp only [Act.put, List.setIfInBounds_toArray, List.set_cons_zero, List.set_cons_succ]
                  have hc0 := HT57.out.cells.1
                  have hc1 := HT57.out.cells.2
                  have hf0 := blk_frozen HT57.out.blk 0
                  have hf1 := blk_frozen HT57.out.blk 1
                  have HOE := Aside0.mk HT57.out.out
                  have HFE := Aside0.mk ((HF58.out.set (g := t) (o := 0) (.slice NA46 nl48 nc47) (fun _ => Nat.le_refl _)).set (g := t) (o := 1) (.slice NA54 nl56 nc55) (fun _ => Nat.le_refl _))
                  refine onl 11 (fun K hK => ?_)
                  go_simp
                  refine hK.out _ _ ?_
                  clear hK K
                  try simp only [Act.put]
                  have hd1 : (Wt53.setCell ⟨t, 0, none⟩ (.slice NA46 nl48 nc47)).cell? ⟨t, 1, none⟩ = some (.slice VGA gvn gvc) := (blk_cell (blk_put HT57.out.blk 0 (.slice NA46 nl48 nc47) rfl) 1).trans rfl
                  have he1 := blk_frozen (blk_put HT57.out.blk 0 (.slice NA46 nl48 nc47) rfl) 1
                  refine onl 12 (fun K hK => ?_)
                  go_simp
                  refine hK.out _ _ ?_
                  clear hK K
                  try simp only [Act.put, List.setIfInBounds_toArray, List.set_cons_zero, List.set_cons_succ]
                  refine onl 13 (fun K hK => ?_)
                  go_simp
                  refine hK.out _ _ ?_
                  clear hK K
                  try simp only [Act.put]
                  refine dn ?_
                  go_wp2_with (fail)
                  go_meet
                  exact ⟨(.slice NA46 nl48 nc47), (.slice NA54 nl56 nc55), HOE, ⟨HFD.out.trans HFE.out (fun k _ h => h)⟩⟩
              · go_simp
                have HT59 := Aside0.mk (HT0.out.alloc (.cells #[(.slice A3 gl c3)] 39))
                have HF60 := Aside0.mk (HF0.out.alloc (.cells #[(.slice A3 gl c3)] 39))
                have HE61 := Aside0.mk (blk_new Wd (.cells #[(.slice A3 gl c3)] 39))
                have hz62 := World.size_alloc Wd (.cells #[(.slice A3 gl c3)] 39)
                refine hK.out _ _ HT59.out.cells (fun hHeld => ?_)
                clear hK K
                try simp only [Act.put, List.setIfInBounds_toArray, List.set_cons_zero, List.set_cons_succ]
                obtain ⟨q63, hq65⟩ : ∃ q, Wd.heap.size = q := ⟨_, rfl⟩
                obtain ⟨Wt64, hw66⟩ : ∃ W, Wd.alloc (.cells #[(.slice A3 gl c3)] 39) = W := ⟨_, rfl⟩
                simp only [hw66] at HT59 HF60 HE61 hz62 ⊢
                simp only [hq65] at HE61 hz62 ⊢
                have hs67 : t < q63 ∧ bs ≤ q63 ∧ q63 < Wt64.heap.size := by have h1 := blk_lt HT0.out.blk; have h2 := HF0.out.size; have h3 := HBW.out; omega
                clear hq65 hw66 hz62
                refine on 3 (fun K hK => ?_)
                go_simp
                have HT68 := Aside0.mk (HT59.out.alloc (.cells #[(.slice A2 ml c2)] 38))
                have HF69 := Aside0.mk (HF60.out.alloc (.cells #[(.slice A2 ml c2)] 38))
                have HE70 := Aside0.mk (blk_new Wt64 (.cells #[(.slice A2 ml c2)] 38))
                have hz71 := World.size_alloc Wt64 (.cells #[(.slice A2 ml c2)] 38)
                have HE72 := Aside0.mk (blk_alloc HE61.out (.cells #[(.slice A2 ml c2)] 38))
                refine hK.out _ _ HT68.out.cells (fun hHeld => ?_)
                clear hK K
                try simp only [Act.put, List.setIfInBounds_toArray, List.set_cons_zero, List.set_cons_succ]
                obtain ⟨q73, hq75⟩ : ∃ q, Wt64.heap.size = q := ⟨_, rfl⟩
                obtain ⟨Wt74, hw76⟩ : ∃ W, Wt64.alloc (.cells #[(.slice A2 ml c2)] 38) = W := ⟨_, rfl⟩
                simp only [hw76] at HT68 HF69 HE70 hz71 HE72 ⊢
                simp only [hq75] at HE70 hz71 ⊢
                have hs77 : t < q73 ∧ bs ≤ q73 ∧ q73 < Wt74.heap.size := by have h1 := blk_lt HT59.out.blk; have h2 := HF60.out.size; have h3 := HBW.out; omega
                clear hq75 hw76 hz71
                refine on 4 (fun K hK => ?_)
                refine Kd.R_append_rows_step (Kd.slice 48 k48) (Rr := fun x cs => x = ms ∧ cs = [(.slice A2 ml c2)]) (w0 := Wt74) (W := Wt74) (t + 1) (by rfl) (.tmp 78) (.tmp 80) 22 38 (.slice none 0 0) 24 rfl Try.underlying22 info38 rfl (by decide) (by decide) (.slice VA vn vc) Lm [ms] (some ⟨q73, 0, none⟩) 1 1 (fun k => t + 1 ≤ k) (fun k => bs ≤ k) rfl rfl HT68.out.m (reads_one HE70.out) (fun x cs h => by obtain ⟨rfl, rfl⟩ := h; exact ⟨_, rfl, HT68.out.xm⟩) (fun k hk => ⟨by have := HBT.out; omega, fun e => by have := HVMB.out k e.symm; omega⟩) (fun k hk => by have := blk_lt HT68.out.blk; omega) (Below.refl _ _) (by have := blk_lt HT68.out.blk; omega) (by rw [HLM.out]; omega) ?_
                intro v78 Wt79 h1 hb h2 _
                obtain ⟨NA80, nc81, rfl⟩ := Kd.R_slice h1
                generalize h9 : (Lm ++ [ms]).length = nl82 at h1 ⊢
                clear h9
                have HT83 := Aside0.mk (HT68.out.appM h2 h1 HVMB.out)
                have HF84 := Aside0.mk (HF69.out.trans (grown_fr (b0 := t) h2 (fun k hk => by have := Kd.R_base HT68.out.m k hk; omega)) (fun k _ h => h))
                have HE85 := Aside0.mk (blk_grown HE72.out h2 (fun e => by have := HVMB.out q63 e.symm; omega))
                refine hK.out _ _ HT83.out.cells (fun hHeld => ?_)
                clear hK K h1 hb h2
                try simp only [Act.put, List.setIfInBounds_toArray, List.set_cons_zero, List.set_cons_succ]
                refine tk 10 ?_
                refine on 9 (fun K hK => ?_)
                refine Kd.R_append_rows_step (Kd.slice 3 (Kd.int .i64)) (Rr := fun x cs => x = gs ∧ cs = [(.slice A3 gl c3)]) (w0 := Wt79) (W := Wt79) (t + 1) (by rfl) (.tmp 83) (.tmp 85) 23 39 (.slice none 0 0) 24 rfl Try.underlying23 info39 rfl (by decide) (by decide) (.slice VGA gvn gvc) Lg [gs] (some ⟨q63, 0, none⟩) 1 1 (fun k => t + 1 ≤ k) (fun k => bs ≤ k) rfl rfl HT83.out.g (reads_one HE85.out) (fun x cs h => by obtain ⟨rfl, rfl⟩ := h; exact ⟨_, rfl, HT83.out.xg⟩) (fun k hk => ⟨by have := HBT.out; omega, fun e => by have := HVGB.out k e.symm; omega⟩) (fun k hk => by have := blk_lt HT83.out.blk; omega) (Below.refl _ _) (by have := blk_lt HT83.out.blk; omega) (by rw [HLG.out]; omega) ?_
                intro v86 Wt87 h1 hb h2 _
                obtain ⟨NA88, nc89, rfl⟩ := Kd.R_slice h1
                generalize h9 : (Lg ++ [gs]).length = nl90 at h1 ⊢
                clear h9
                have HT91 := Aside0.mk (HT83.out.appG h2 h1 HVGB.out)
                have HF92 := Aside0.mk (HF84.out.trans (grown_fr (b0 := t) h2 (fun k hk => by have := Kd.R_base HT83.out.g k hk; omega)) (fun k _ h => h))
                refine hK.out _ _ HT91.out.cells (fun hHeld => ?_)
                clear hK K h1 hb h2
                try simp only [Act.put, List.setIfInBounds_toArray, List.set_cons_zero, List.set_cons_succ]
                have hc0 := HT91.out.cells.1
                have hc1 := HT91.out.cells.2
                have hf0 := blk_frozen HT91.out.blk 0
                have hf1 := blk_frozen HT91.out.blk 1
                have HOE := Aside0.mk HT91.out.out
                have HFE := Aside0.mk ((HF92.out.set (g := t) (o := 0) (.slice NA80 nl82 nc81) (fun _ => Nat.le_refl _)).set (g := t) (o := 1) (.slice NA88 nl90 nc89) (fun _ => Nat.le_refl _))
                refine onl 11 (fun K hK => ?_)
                go_simp
                refine hK.out _ _ ?_
                clear hK K
                try simp only [Act.put]
                have hd1 : (Wt87.setCell ⟨t, 0, none⟩ (.slice NA80 nl82 nc81)).cell? ⟨t, 1, none⟩ = some (.slice VGA gvn gvc) := (blk_cell (blk_put HT91.out.blk 0 (.slice NA80 nl82 nc81) rfl) 1).trans rfl
                have he1 := blk_frozen (blk_put HT91.out.blk 0 (.slice NA80 nl82 nc81) rfl) 1
                refine onl 12 (fun K hK => ?_)
                go_simp
                refine hK.out _ _ ?_
                clear hK K
                try simp only [Act.put, List.setIfInBounds_toArray, List.set_cons_zero, List.set_cons_succ]
                refine onl 13 (fun K hK => ?_)
                go_simp
                refine hK.out _ _ ?_
                clear hK K
                try simp only [Act.put]
                refine dn ?_
                go_wp2_with (fail)
                go_meet
                exact ⟨(.slice NA80 nl82 nc81), (.slice NA88 nl90 nc89), HOE, ⟨HFD.out.trans HFE.out (fun k _ h => h)⟩⟩
            case rest =>
            obtain ⟨vm2, vg2, HOE, HFE⟩ := hcut
            have HI3 := Aside0.mk (HI2.out.fr HFE.out (fun k hk => by omega))
            obtain ⟨A6, c6, hblk6, hC6, hc6, hA6⟩ := HI3.out
            have k1 := (blk_cell hblk6 1).trans (show _ = some (Value.bool bad2) from rfl)
            have kf1 := blk_frozen hblk6 1
            clear hblk6 hC6 hc6 hA6
            have HFN := Aside0.mk (fun b' => HFW.out.trans (((HFX.out.mono (T := fun k => g ≤ k) (fun k h => by omega)).trans (HFE.out.mono (T := fun k => g ≤ k) (fun k h => by omega)) (fun k _ h => h)).set (g := g) (o := 1) (.bool b') (fun _ => Nat.le_refl _)) (fun k _ h => h))
            have HON := Aside0.mk (fun b' => HOE.out.far ((Fr.refl (fun k => k = g) wc).set (g := g) (o := 1) (.bool b') (fun _ => rfl)) (fun k h => by omega))
            have HIN := Aside0.mk (fun b' => HI3.out.setBad b')
            cases bad2 with
            | true =>
              go_wp2_with (fail)
              exact ⟨⟨s + 1, _, _, _, _, rest2, true, by go_num, by omega, ⟨HIN.out true⟩, HBR2, ⟨HON.out true⟩, HRF, ⟨HFN.out true⟩⟩, by simp [intOf]; omega⟩
            | false =>
              by_cases hv : v2 = 0
              · have hvb : ((v2 : Int) == 0) = true := beq_iff_eq.2 (by omega)
                have HRF2 := Aside0.mk (show RwRel (fun s => v2 = 0 → s = 0) b v1 v2 v3 (s + 1) (Lm ++ [ms]) (Lg ++ [gs]) rest2 true from by have h := HRF.out; rwa [show (false || v2 == 0) = true by simp [hv]] at h)
                clear hv
                go_wp2_with (fail)
                exact ⟨⟨s + 1, _, _, _, _, rest2, true, by go_num, by omega, ⟨HIN.out true⟩, HBR2, ⟨HON.out true⟩, HRF2, ⟨HFN.out true⟩⟩, by simp [intOf]; omega⟩
              · have hvb : ((v2 : Int) == 0) = false := beq_eq_false_iff_ne.2 (by omega)
                have HRF2 := Aside0.mk (show RwRel (fun s => v2 = 0 → s = 0) b v1 v2 v3 (s + 1) (Lm ++ [ms]) (Lg ++ [gs]) rest2 false from by have h := HRF.out; rwa [show (false || v2 == 0) = false by simp [hv]] at h)
                clear hv
                go_wp2_with (fail)
                exact ⟨⟨s + 1, _, _, _, _, rest2, false, by go_num, by omega, ⟨HIN.out false⟩, HBR2, ⟨HON.out false⟩, HRF2, ⟨HFN.out false⟩⟩, by simp [intOf]; omega⟩
          case pos =>
          obtain ⟨hm2, rfl⟩ := hgo
          go_wp2_with (fail)
          refine (number_calls2 wr g rest2 false HI2.out HBR2.out).mono ?_
          rintro e W4 ⟨d1, r4, b4, rfl, hd1, hI4, hB4, hl4, hN4, hF4⟩
          have HI4 := Aside0.mk hI4
          have HB4 := Aside0.mk hB4
          have HF4 := Aside0.mk hF4
          have HV4 := Aside0.mk (hF4.R HVG.out (fun k hk e => by omega))
          have HGS := Aside0.mk (HGR.out.step hm2 (fun hn => by
            rcases HMF.out with ⟨hb, _⟩ | ⟨_, hf⟩
            · rw [HBB.out (by first | rfl | trivial)] at hb
              cases hb
            · exact HRL.out.dead2 hlt hf hn) hN4)
          have hgl : gs.length = m := by
            rcases HGR.out with ⟨h, _⟩ | ⟨_, h, _⟩
            · cases h
            · exact h
          have hbb := HBB.out (by first | rfl | trivial)
          have HBBA := Aside0.mk hbb
          have hs4 : bg ≤ W4.heap.size := by have h1 := hF4.size; have h2 := HFG.out.size; have h3 := HBG.out; omega
          clear hI4 hB4 hN4 hF4 k1 hbb
          obtain ⟨GA, gc, hvG⟩ := Kd.R_slice HV4.out
          generalize hgn : gs.length = gn at hvG hgl
          have HGN := Aside0.mk hgn
          have HGL := Aside0.mk hgl
          clear hgn hgl
          subst hvG
          go_wp2_with (at_builtin; go_must (refine Kd.R_append (Kd.int .i64) (w0 := W4) (W := W4) bg rfl (.tmp 71) (.tmp 75) 39 3 (.int .i64 0) 8 rfl Try.underlying39 info3 rfl (by decide) (by decide) (.slice GA gn gc) gs ((d1 : Int) - 1) [.int .i64 ((d1 : Int) - 1)] (fun k => bg ≤ k) (fun _ => False) rfl rfl rfl (fun _ hk => hk.elim) (fun k hk => by omega) HV4.out (Below.refl _ _) (by omega) (by rw [HGN.out, HGL.out]; omega) ?_; intro v8 W8 h1 hb h2 _; have HV8 := Aside0.mk h1; have HF8 := Aside0.mk (grown_fr (b0 := bg) h2 (fun k hk => Kd.R_base HV4.out k hk)); clear h1 hb h2))
          have HI8 := Aside0.mk (HI4.out.fr HF8.out (fun k hk => by omega))
          have HFG8 := Aside0.mk (HFG.out.trans ((HF4.out.mono (T := fun k => k = g ∨ bg ≤ k) (fun k h => .inl h)).trans (HF8.out.mono (T := fun k => k = g ∨ bg ≤ k) (fun k h => .inr h)) (fun k _ h => h)) (fun k _ h => h))
          exact ⟨⟨m + 1, _, _, r4, b4, rfl, by go_num, by omega, HI8, HB4, HV8, ⟨fun _ => HBBA.out⟩, HGS, HFG8⟩, by simp [intOf]; omega⟩
      case pos =>
      obtain ⟨hn2, rfl⟩ := hgo
      go_wp2_with (fail)
      refine (number_calls2 wr g rest' false HI'.out HBR'.out).mono ?_
      rintro e W4 ⟨d1, r4, b4, rfl, hd1, hI4, hB4, hl4, hN4, hF4⟩
      have HI4 := Aside0.mk hI4
      have HB4 := Aside0.mk hB4
      have HN4 := Aside0.mk hN4
      have HF4 := Aside0.mk hF4
      clear hI4 hB4 hN4 hF4 k1
      go_upto_region 12 with (fail)
      have HXB := Aside0.mk (blk_new W4 (.cells #[.int .i64 d1, .int .i64 0] 48))
      have HFA := Aside0.mk (HF4.out.alloc (.cells #[.int .i64 d1, .int .i64 0] 48))
      have hs4 := HF4.out.size
      have hsr := HFB.out.size
      have hbs2 := HBS.out
      have HIA := Aside0.mk (HI4.out.fr ((Fr.refl (fun _ => False) W4).alloc (.cells #[.int .i64 d1, .int .i64 0] 48)) (fun _ _ => id))
      generalize hqx : W4.heap.size = qx at HXB hs4 ⊢
      have HQX := Aside0.mk hqx
      generalize hW4 : W4.alloc (.cells #[.int .i64 d1, .int .i64 0] 48) = W5 at HXB HFA HIA ⊢
      clear hW4 hqx HI4 HF4
      go_wp2_with (fail)
      refine (number_calls2 W5 g r4 b4 HIA.out HB4.out).mono ?_
      rintro e W6 ⟨d2, r6, b6, rfl, hd2, hI6, hB6, hl6, hN6, hF6⟩
      have HB6 := Aside0.mk hB6
      have HMS := Aside0.mk (HM.out.step hn2 (HRL.out.dead1 hlt) HN4.out hN6)
      have hml : ms.length = n := by
        rcases HM.out with ⟨h, _⟩ | ⟨_, h, _⟩
        · cases h
        · exact h
      have hqg : g < qx := by omega
      have HXB6 := Aside0.mk (hF6.blk HXB.out (by omega))
      have HF6 := Aside0.mk (HFA.out.trans hF6 (fun k hk h => h))
      have hf1 := blk_frozen HXB6.out 1
      have hx1 := (blk_cell HXB6.out 1).trans (show _ = some (Value.int .i64 0) from rfl)
      have HI7 := Aside0.mk (hI6.fr ((Fr.refl (fun k => bs ≤ k) W6).set (g := qx) (o := 1) (.int .i64 d2) (fun _ => by omega)) (fun k hk => by omega))
      have HF7 := Aside0.mk (HF6.out.set (g := qx) (o := 1) (.int .i64 d2) (fun h => absurd h (by omega)))
      have HXB7 := Aside0.mk (blk_put HXB6.out 1 (.int .i64 d2) rfl)
      clear hI6 hB6 hN6 hF6 HIA HXB HFA HN4
      go_upto_region 13 with (fail)
      have HV7 := Aside0.mk (HF7.out.R HV.out (fun k hk e => by omega))
      have hs7 := HF7.out.size
      clear hf1 hx1 HXB6 HF6
      generalize W6.setCell ⟨qx, 1, none⟩ (.int .i64 d2) = W7 at HI7 HF7 HXB7 HV7 hs7 ⊢
      have hx0 := (blk_cell HXB7.out 0).trans (show _ = some (Value.int .i64 d1) from rfl)
      have hx1 := (blk_cell HXB7.out 1).trans (show _ = some (Value.int .i64 d2) from rfl)
      obtain ⟨MA, mc, hvM⟩ := Kd.R_slice HV7.out
      generalize hmn : ms.length = mn at hvM hml
      have HMN := Aside0.mk hmn
      clear hmn
      subst hvM
      go_wp2_with (at_builtin; go_must (refine Kd.R_append k48 (w0 := W7) (W := W7) bs rfl (.tmp 55) (.tmp 57) 38 48 (.agg #[(.int .i64 0), (.int .i64 0)]) 16 rfl Try.underlying38 info48 rfl (by decide) (by decide) (.slice MA mn mc) ms ⟨d1, d2⟩ [.int .i64 d1, .int .i64 d2] (fun k => bs ≤ k) (fun _ => False) rfl rfl (k48_mkM _ _ _ ⟨d1, d2⟩) (fun _ hk => hk.elim) (fun k hk => by omega) HV7.out (Below.refl _ _) (by omega) (by rw [HMN.out]; omega) ?_; intro v8 W8 h1 hb h2 _; have HV8 := Aside0.mk h1; have HF8 := Aside0.mk (grown_fr (b0 := bs) h2 (fun k hk => Kd.R_base HV7.out k hk)); clear h1 hb h2))
      have HI8 := Aside0.mk (HI7.out.fr HF8.out (fun k hk => by omega))
      have HFB8 := Aside0.mk (HFB.out.trans ((HF7.out.mono (T := fun k => k = g ∨ bs ≤ k) (fun k h => .inl h)).trans (HF8.out.mono (T := fun k => k = g ∨ bs ≤ k) (fun k h => .inr h)) (fun k _ h => h)) (fun k _ h => h))
      exact ⟨⟨n + 1, _, _, r6, b6, rfl, by go_num, by omega, HI8, HB6, HV8, HMS, HFB8⟩, by simp [intOf]; omega⟩
end Go.Proofs.Ytlpmjmanmncmnaa.Tab
