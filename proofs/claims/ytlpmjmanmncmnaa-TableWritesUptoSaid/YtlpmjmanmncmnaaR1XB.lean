/-
A row's default: table.usual, walked.
-/
import Derived.WalkArith
import Derived.Test.YtlpmjmanmncmnaaR1XA
set_option linter.unusedSimpArgs false
set_option linter.unusedVariables false
namespace Go.Proofs.Ytlpmjmanmncmnaa.Tab
open Go.RowKit Go.Maps Go.Proofs.YtlpmjmanmncmnaaW.PrintWords Go.Proofs.YtlpmjmanmncmnaaW.PrintLast Go.Proofs.YtlpmjmanmncmnaaW.PrintMore Go.Proofs.Ytlpmjmanmncmnaa.Fr Go.Proofs.Ytlpmjmanmncmnaa.PT
theorem law3 : Keyed Try.prog 3 := int_keyed Try.underlying3
noncomputable abbrev El : Value → Option (DataW Unit × List MemPlace) := plainElem Try.prog 3
def UsualPost (w : World) (row : List S48) (e : Ending) (w' : World) : Prop := ∃ m : S48, e = .returned (.agg #[.int .i64 m.f0, .int .i64 m.f1]) ∧ IsUsual row m ∧ Fr (fun _ => False) w w'
theorem zero3 (w : World) : (zeroValue 3).run Try.prog w = .ok (.int .i64 0) w := by go_simp
set_option maxHeartbeats 8000000 in
set_option maxRecDepth 100000 in
theorem usual_calls (w : World) (row : List S48) (A : Option Addr) (c : Nat) (hC : Kd.C k48 w A row.length row) (hl : row.length ≤ 8796093022208) (hb : ∀ x, x ∈ row → (Lit.int .i64 x.f1).wf = true) :
    Calls Try.prog 33 #[.slice A row.length c] w (UsualPost w row) := by
  have hmm := @run_makeMap Try.prog
  go_enter Try.func33, Try.ntmps33
  have HC := Aside0.mk hC
  have HB := Aside0.mk hb
  clear hC hb
  have hmx : 8796093022208 < maxLen := by decide
  go_wp2_with (fail)
  obtain ⟨WA, hWA⟩ : ∃ WA, w.alloc (.cells #[.int .i64 0, .int .i64 0] 48) = WA := ⟨_, rfl⟩
  have HFA := Aside0.mk (show Fr (fun _ => False) w (WA.alloc (.map #[] 0)) from by rw [← hWA]; exact ((Fr.refl _ _).alloc _).alloc _)
  have HBA := Aside0.mk (show (WA.alloc (.map #[] 0)).heap[w.heap.size]? = some (.cells #[.int .i64 0, .int .i64 0] 48) from by rw [← hWA]; exact blk_alloc (blk_new _ _) _)
  have HOA := Aside0.mk (World.ownsMap_made WA Try.prog 3 El)
  have hsA : WA.heap.size = w.heap.size + 1 := by rw [← hWA, World.size_alloc]
  rw [hsA] at HOA
  simp only [hWA]
  obtain ⟨W0, hW0⟩ : ∃ W0, WA.alloc (.map #[] 0) = W0 := ⟨_, rfl⟩
  obtain ⟨b, hb⟩ : ∃ b, w.heap.size + 1 = b := ⟨_, rfl⟩
  rw [hW0] at HFA HBA HOA
  simp only [hW0, hb] at HOA ⊢
  have hbw : w.heap.size < b := by omega
  have HCN := Aside0.mk cnts_nil
  clear hWA hW0 hsA hb
  have hb := hbw
  clear hbw
  go_loopw [12] (fun a W => ∃ (i : Nat) (D : DataW Unit), a = .int .i64 i ∧ i ≤ row.length ∧ Aside0 (W.ownsMap Try.prog 3 El b i D) ∧ Aside0 (Cnts D (row.take i)) ∧ Aside0 (W.heap[w.heap.size]? = some (.cells #[.int .i64 0, .int .i64 0] 48)) ∧ Aside0 (Fr (fun _ => False) w W)) (fun a _ => row.length - (intOf a).toNat)
  case atStart => exact ⟨0, _, rfl, Nat.zero_le _, HOA, HCN, HBA, HFA⟩
  case round =>
    clear HOA HCN HBA HFA
    obtain ⟨i, D, rfl, hi, HO, HN, HBL, HF⟩ := hrel
    by_cases hlt : i < row.length
    · obtain ⟨ad, rfl, hx0, hx1⟩ := at_T48 HC.out (i : Int) (by omega) (by omega)
      replace hx0 := HF.out.cell hx0 id
      replace hx1 := HF.out.cell hx1 id
      simp only [Int.toNat_natCast] at hx0 hx1
      have HT := Aside0.mk (take_48 hlt)
      have hwx := HB.out _ (rd_mem hlt)
      have HWX := Aside0.mk hwx
      clear hwx
      generalize rd_T48 row i = x at hx0 hx1 HT HWX
      have HCX := Aside0.mk (cnt_le (row.take i) x.f1)
      have HO1 := Aside0.mk (HO.out.alloc (.cells #[.int .i64 x.f0, .int .i64 x.f1] 48))
      have HBL1 := Aside0.mk (blk_alloc HBL.out (.cells #[.int .i64 x.f0, .int .i64 x.f1] 48))
      have HF1 := Aside0.mk (HF.out.alloc (.cells #[.int .i64 x.f0, .int .i64 x.f1] 48))
      by_cases h2 : x.f0 = 2
      · have h2b : (x.f0 == 2) = true := beq_iff_eq.2 h2
        have HH2 := Aside0.mk h2
        have hq : (cntR (row.take i) x.f1 : Int) ≤ 8796093022208 := by have := HCX.out; simp only [List.length_take] at this; omega
        have HAT := Aside0.mk (HN.out.at_ x.f1)
        have HPUT := Aside0.mk (cnts_put HN.out h2)
        have hq0 : (0 : Int) ≤ (cntR (row.take i) x.f1 : Int) := by omega
        generalize (cntR (row.take i) x.f1 : Int) = qn at hq hq0 HAT HPUT
        have HWQ := Aside0.mk (show (Lit.int .i64 (qn + 1)).wf = true from WalkArith.wf_i64 (by omega))
        clear h2
        go_wp2_with (first
          | (at_lookup; refine wpList_lookup_own_int _ rfl _ _ 116 rfl 3 3 .i64 law3 Try.underlying116 Try.underlying3 (zero3 _) b i D rfl HO1.out _ _ rfl (keyOf_int_mk Try.underlying3 HWX.out) ?_; intro cc hat _; obtain rfl : qn = cc := (by rw [HAT.out] at hat; injection hat with hat; injection hat))
          | (at_mapUpdate; refine wpList_mapUpdate_own _ rfl _ _ _ 116 rfl 3 3 law3 Try.underlying116 _ b i D rfl HO1.out (by omega) _ _ _ rfl rfl (keyOf_int_mk Try.underlying3 HWX.out) _ [] (plainElem_int Try.underlying3 HWQ.out) ?_; intro w2 hout2 hg2; have HO2 := Aside0.mk hout2; have HF2 := Aside0.mk (HF1.out.grown hg2 (fun k hk hl => (by injection hk with hk; omega))); have HBL2 := Aside0.mk (blk_grown HBL1.out hg2 (fun e => (by injection e with e; omega))); clear hout2 hg2))
        exact ⟨⟨i + 1, _, by go_num, by omega, HO2, (⟨by rw [HT.out]; exact HPUT.out⟩ : Aside0 _), HBL2, HF2⟩, by simp [intOf]; omega⟩
      · have h2b : (x.f0 == 2) = false := beq_eq_false_iff_ne.2 h2
        have HS2 := Aside0.mk (cnts_skip HN.out h2)
        have HO2 := Aside0.mk (HO1.out.mono (Nat.le_succ i))
        clear h2
        go_wp2_with (fail)
        exact ⟨⟨i + 1, _, by go_num, by omega, HO2, (⟨by rw [HT.out]; exact HS2.out⟩ : Aside0 _), HBL1, HF1⟩, by simp [intOf]; omega⟩
    · obtain rfl : i = row.length := by omega
      have HN1 := Aside0.mk (show Cnts D row from by have h := HN.out; rwa [List.take_length] at h)
      go_upto_region 9 with (fail)
      have HO1 := Aside0.mk (HO.out.alloc (.cells #[.int .i64 0, .int .i64 0] 48))
      have HBL1 := Aside0.mk (blk_alloc HBL.out (.cells #[.int .i64 0, .int .i64 0] 48))
      have HBB1 := Aside0.mk (blk_new wr (.cells #[.int .i64 0, .int .i64 0] 48))
      have HF1 := Aside0.mk (HF.out.alloc (.cells #[.int .i64 0, .int .i64 0] 48))
      have hbw := HO.out.lt
      have hsz := World.size_alloc wr (.cells #[.int .i64 0, .int .i64 0] 48)
      obtain ⟨W1, hW1⟩ : ∃ W1, wr.alloc (.cells #[.int .i64 0, .int .i64 0] 48) = W1 := ⟨_, rfl⟩
      obtain ⟨g, hg⟩ : ∃ g, wr.heap.size = g := ⟨_, rfl⟩
      have hg1 := HF.out.size
      rw [hg] at hbw hg1 hsz HBB1
      simp only [hW1, hg] at HO1 HBL1 HBB1 HF1 hsz ⊢
      have hsz1 : g < W1.heap.size := by omega
      clear HO HN HBL HF hsz hW1 hg
      go_wp2_with (at_range; refine wpList_range_own _ rfl _ 116 rfl 3 3 law3 Try.underlying116 _ b row.length D rfl HO1.out ?_; intro W2 hrg0 hg0 _; have HRG := Aside0.mk hrg0; have HF2 := Aside0.mk (HF1.out.grown hg0 (fun k hk _ => by cases hk)); have HBL2 := Aside0.mk (blk_grown HBL1.out hg0 (by simp)); have HBB2 := Aside0.mk (blk_grown HBB1.out hg0 (by simp)); clear hrg0 hg0)
      go_frame
      obtain ⟨r, hr⟩ : ∃ r, W1.heap.size = r := ⟨_, rfl⟩
      simp only [hr] at HRG hsz1 ⊢
      clear hr HO1 HBL1 HBB1 HF1
      have HBST := Aside0.mk (best_start HN1.out)
      go_loopw [7] (fun _ W => ∃ (left : Lit → Bool) (cnt : Nat) (m : S48), Aside0 (W.ranges Try.prog 3 El b r row.length D left cnt) ∧ Aside0 (Best row left m) ∧ Aside0 (W.heap[g]? = some (.cells #[.int .i64 m.f0, .int .i64 m.f1] 48)) ∧ Aside0 (W.heap[w.heap.size]? = some (.cells #[.int .i64 0, .int .i64 0] 48)) ∧ Aside0 (Fr (fun _ => False) w W)) (fun _ W => W.rangeLeft b r)
      case atStart => exact ⟨_, _, ⟨0, 0⟩, HRG, HBST, HBB2, HBL2, HF2⟩
      case round =>
        clear HRG HBST HBB2 HBL2 HF2
        obtain ⟨left, cnt, m, HRG, HBST, HBB, HBL, HF⟩ := hrel
        go_wp2_with (at_next; refine wpList_next_ranges_ii _ rfl _ rfl 3 3 .i64 .i64 law3 Try.underlying3 Try.underlying3 b r row.length D left cnt rfl HRG.out ?_ ?_)
        · intro _ hl0
          have HEND := Aside0.mk (best_end HBST.out hl0)
          clear hl0
          have hm0 := (blk_cell HBB.out 0).trans (show _ = some (Value.int .i64 m.f0) from rfl)
          have hm1 := (blk_cell HBB.out 1).trans (show _ = some (Value.int .i64 m.f1) from rfl)
          have hr0 := (blk_cell HBL.out 0).trans (show _ = some (Value.int .i64 0) from rfl)
          have hr1 := (blk_cell HBL.out 1).trans (show _ = some (Value.int .i64 0) from rfl)
          have hf0 := blk_frozen HBL.out 0
          have hf1 := blk_frozen HBL.out 1
          go_wp2_with (fail)
          refine bodyPost_ret (results_cell_row rfl _ _ w.heap.size _ _ _ _ rfl (blk_put (blk_put HBL.out 0 (.int .i64 m.f0) rfl) 1 (.int .i64 m.f1) rfl) Try.underlying48 rfl (by kernel_rfl)) rfl ?_
          exact ⟨m, rfl, HEND.out, (HF.out.set _ (fun h => absurd h (by omega))).set _ (fun h => absurd h (by omega))⟩
        · intro x cc w1 cnt1 hwx _ hlx hat hrg1 hlt1 hg1' hs1 hen
          have hcc : (cc : Int) = cntR row x := by
            have h1 := HN1.out.at_ x
            rw [hat] at h1
            injection h1 with h1
            injection h1
          have HCC := Aside0.mk hcc
          have HHX := Aside0.mk (show 0 < cntR row x from by
            have h1 := HN1.out.has x
            rw [has_true_of_atKey hat] at h1
            exact of_decide_eq_true h1.symm)
          have HRG1 := Aside0.mk hrg1
          have HF1 := Aside0.mk (HF.out.grown hg1' (fun k hk hl => (by injection hk with hk; omega)))
          have HBB1 := Aside0.mk (blk_grown HBB.out hg1' (fun e => (by injection e with e; omega)))
          have HBL1 := Aside0.mk (blk_grown HBL.out hg1' (fun e => (by injection e with e; omega)))
          have HLT := Aside0.mk hlt1
          have HOL := Aside0.mk HRG.out.left_eq
          have hm0 := (blk_cell HBB1.out 0).trans (show _ = some (Value.int .i64 m.f0) from rfl)
          have hm1 := (blk_cell HBB1.out 1).trans (show _ = some (Value.int .i64 m.f1) from rfl)
          have hf0 := blk_frozen HBB1.out 0
          have hf1 := blk_frozen HBB1.out 1
          clear hat hrg1 hlt1 hg1' hs1 hlx hcc HRG HBB HBL HF
          have hfin : ∀ (W : World) (M : S48), Fr (fun k => k = g) w1 W → W.heap[g]? = some (.cells #[.int .i64 M.f0, .int .i64 M.f1] 48) → Best row (fun z => left z && !z.sameKey (.int .i64 x)) M →
              (∃ (left : Lit → Bool) (cnt : Nat) (m : S48), Aside0 (W.ranges Try.prog 3 El b r row.length D left cnt) ∧ Aside0 (Best row left m) ∧ Aside0 (W.heap[g]? = some (.cells #[.int .i64 m.f0, .int .i64 m.f1] 48)) ∧ Aside0 (W.heap[w.heap.size]? = some (.cells #[.int .i64 0, .int .i64 0] 48)) ∧ Aside0 (Fr (fun _ => False) w W)) ∧ W.rangeLeft b r < wr.rangeLeft b r := by
            intro W M hF hG hB
            have hgr : w1.grownBy W (some g) := ⟨hF.os, hF.tape, hF.output, hF.size, fun k hk hn => hF.block k hk (fun e => hn (by rw [e]))⟩
            have hrg := HRG1.out.kept hgr (fun e => (by injection e with e; omega)) (fun e => (by injection e with e; omega))
            refine ⟨⟨_, _, M, ⟨hrg⟩, ⟨hB⟩, ⟨hG⟩, ⟨hF.blk HBL1.out (fun e => by omega)⟩, ⟨HF1.out.trans hF (fun k hk e => by omega)⟩⟩, ?_⟩
            rw [hrg.left_eq, HOL.out]
            exact HLT.out
          have HFIN := Aside0.mk hfin
          clear hfin
          rcases best_form HBST.out with h0 | h0
          · have h0b : (m.f0 == 0) = true := beq_iff_eq.2 h0
            have HTK := Aside0.mk (best_take HBST.out HHX.out (.inl h0))
            clear h0
            go_wp2_with (fail)
            exact HFIN.out _ ⟨2, x⟩ (((Fr.refl (fun k => k = g) w1).set _ (fun _ => rfl)).set _ (fun _ => rfl)) (blk_put (blk_put HBB1.out 0 (.int .i64 2) rfl) 1 (.int .i64 x) rfl) HTK.out
          · have h0b : (m.f0 == 0) = false := beq_eq_false_iff_ne.2 (by omega)
            have HM0 := Aside0.mk h0
            have HPM := Aside0.mk (show 0 < cntR row m.f1 from by
              rcases HBST.out with ⟨h, _⟩ | ⟨_, h, _⟩
              · rw [h] at h0
                cases h0
              · exact h)
            have HWM := Aside0.mk (show (Lit.int .i64 m.f1).wf = true from by
              obtain ⟨y, hy, _, he⟩ := cnt_mem HPM.out
              rw [← he]
              exact HB.out y hy)
            obtain ⟨q, hq⟩ : ∃ q : Int, q = cntR row m.f1 := ⟨_, rfl⟩
            have HAM := Aside0.mk (show D.atKey (.int .i64 m.f1) (.lit (.int .i64 0)) = .lit (.int .i64 q) from by rw [hq]; exact HN1.out.at_ _)
            have HQ := Aside0.mk hq
            clear h0 hq
            obtain ⟨c3, hrun, hat3, _⟩ := HRG1.out.owns.lookup_int law3 Try.underlying116 Try.underlying3 (zero3 _) (keyOf_int_mk Try.underlying3 HWM.out)
            obtain rfl : q = c3 := by rw [HAM.out] at hat3; injection hat3 with hat3; injection hat3
            clear hat3
            by_cases c1 : q < cc
            · have HTK := Aside0.mk (best_take HBST.out HHX.out (.inr (.inl (by have h1 := HQ.out; have h2 := HCC.out; omega))))
              go_wp2_with (fail)
              exact HFIN.out _ ⟨2, x⟩ (((Fr.refl (fun k => k = g) w1).set _ (fun _ => rfl)).set _ (fun _ => rfl)) (blk_put (blk_put HBB1.out 0 (.int .i64 2) rfl) 1 (.int .i64 x) rfl) HTK.out
            · by_cases c2 : cc = q
              · have c2b : (cc == q) = true := beq_iff_eq.2 c2
                have HC2 := Aside0.mk c2
                clear c2
                by_cases c3 : x < m.f1
                · have HTK := Aside0.mk (best_take HBST.out HHX.out (.inr (.inr ⟨by have h1 := HQ.out; have h2 := HCC.out; have h3 := HC2.out; omega, c3⟩)))
                  go_wp2_with (fail)
                  exact HFIN.out _ ⟨2, x⟩ (((Fr.refl (fun k => k = g) w1).set _ (fun _ => rfl)).set _ (fun _ => rfl)) (blk_put (blk_put HBB1.out 0 (.int .i64 2) rfl) 1 (.int .i64 x) rfl) HTK.out
                · have HTK := Aside0.mk (best_leave HBST.out (m := m) (x := x) (by have := HM0.out; omega) (by have h1 := HQ.out; have h2 := HCC.out; omega) (fun h => c3 h.2))
                  go_wp2_with (fail)
                  exact HFIN.out _ m (Fr.refl _ w1) HBB1.out HTK.out
              · have c2b : (cc == q) = false := beq_eq_false_iff_ne.2 c2
                have HC2 := Aside0.mk c2
                clear c2
                have HTK := Aside0.mk (best_leave HBST.out (m := m) (x := x) (by have := HM0.out; omega) (by have h1 := HQ.out; have h2 := HCC.out; omega) (fun h => HC2.out (by have h1 := HQ.out; have h2 := HCC.out; omega)))
                go_wp2_with (fail)
                exact HFIN.out _ m (Fr.refl _ w1) HBB1.out HTK.out
end Go.Proofs.Ytlpmjmanmncmnaa.Tab
