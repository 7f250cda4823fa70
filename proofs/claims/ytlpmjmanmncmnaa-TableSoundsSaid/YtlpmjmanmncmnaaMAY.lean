/-
A table with defaults: table.Defaults, walked.
-/
import Derived.Deep.DeepMust
import Derived.Outline
import Derived.Test.YtlpmjmanmncmnaaMAK
set_option linter.unusedSimpArgs false
set_option linter.unusedVariables false
namespace Go.Proofs.Ytlpmjmanmncmnaa.Tab
open Go.RowKit Go.Maps Go.Proofs.YtlpmjmanmncmnaaW.PrintWords Go.Proofs.YtlpmjmanmncmnaaW.PrintLast Go.Proofs.YtlpmjmanmncmnaaW.PrintMore Go.Proofs.Ytlpmjmanmncmnaa.Fr Go.Proofs.Ytlpmjmanmncmnaa.PT
/-- Rows of which the first have their default. -/
def mix (m : S48) (row : List S48) (j : Nat) : List S48 := withD m (row.take j) ++ row.drop j
theorem mix_len (m : S48) (row : List S48) (j : Nat) : (mix m row j).length = row.length := by
  simp only [mix, List.length_append, withD_len, List.length_take, List.length_drop]
  omega
theorem mix_zero (m : S48) (row : List S48) : mix m row 0 = row := by simp [mix, withD]
theorem mix_all (m : S48) (row : List S48) : mix m row row.length = withD m row := by simp [mix]
theorem mix_rd (m : S48) (row : List S48) (j : Nat) (h : j < row.length) : rd_T48 (mix m row j) j = rd_T48 row j := by
  have hl : (withD m (row.take j)).length = j := by rw [withD_len, List.length_take]; omega
  simp only [rd_T48, mix, Int.toNat_natCast, List.getD_eq_getElem?_getD]
  rw [List.getElem?_append_right (by omega), hl, Nat.sub_self, List.getElem?_drop]
  rfl
theorem mix_step (m : S48) (row : List S48) (j : Nat) (h : j < row.length) : mix m row (j + 1) = withD m (row.take j) ++ ((if (rd_T48 row j).f0 = 0 then m else rd_T48 row j) :: row.drop (j + 1)) := by
  rw [mix, take_48 h, withD, List.map_append, List.append_assoc]
  rfl
theorem mix_set (m : S48) (row : List S48) (j : Nat) (h : j < row.length) (hx : (rd_T48 row j).f0 = 0) : (mix m row j).set j m = mix m row (j + 1) := by
  have hl : (withD m (row.take j)).length = j := by rw [withD_len, List.length_take]; omega
  rw [mix_step m row j h, if_pos hx, mix, List.set_append_right _ _ (by omega), hl, Nat.sub_self, drop_48 h, List.set_cons_zero]
theorem mix_skip (m : S48) (row : List S48) (j : Nat) (h : j < row.length) (hx : (rd_T48 row j).f0 ≠ 0) : mix m row j = mix m row (j + 1) := by
  rw [mix_step m row j h, if_neg hx, mix, drop_48 h]
section
variable {ops : Array Oper} {rest : List Oper} {o : Oper} {a : Act} {Q : Exit → Act → World → Prop}
/-- A move of a row of one's own is written over. -/
theorem put_mv {W : World} {B g n cap : Nat} {ok : Nat → Prop} {xs : List S48} (H : k48.R 48 W B ok (.slice (some ⟨g, 0, none⟩) n cap) xs) (i : Nat) (hi : i < n) (p x : Operand) (m : S48) (hN : o.dst = none) (hgd : o.guard = none) (ho : o.op = .store 48 p x) (hp : a.eval p = .pointer (some ⟨g, i * 2, none⟩)) (hx : a.eval x = .agg #[.int .i64 m.f0, .int .i64 m.f1])
    (h : ∀ w1, k48.R 48 w1 B ok (.slice (some ⟨g, 0, none⟩) n cap) (xs.set i m) → Fr (fun k => k = g) W w1 → wpList Try.prog ops Q rest a w1) : wpList Try.prog ops Q (o :: rest) a W := by
  obtain ⟨c, hcl, _, hcc, _⟩ := Kd.R_elem H m (i : Int) (by omega) (by omega)
  have h3 : c.length = 2 := hcl
  refine Kd.R_store k48 (w0 := W) B hN hgd 48 p x ho 48 (i : Int) 0 xs m _ [.int .i64 m.f0, .int .i64 m.f1] c ok (fun _ => False) hp ?_ hx rfl (by kernel_rfl) (by intro q hq; simp at hq; rcases hq with rfl | rfl <;> rfl) H (by omega) (by omega) hcl hcc (by rw [show k48.sz = 2 from rfl]; exact Nat.le_refl _) ?_ (fun _ h => h.elim) (Below.refl _ _) ?_
  · rw [show k48.sz = 2 from rfl]
    omega
  · have e : c.take 0 ++ [Value.int .i64 m.f0, .int .i64 m.f1] ++ c.drop (0 + [Value.int .i64 m.f0, .int .i64 m.f1].length) = [.int .i64 m.f0, .int .i64 m.f1] := by
      rw [List.drop_of_length_le (by simp [h3])]
      rfl
    rw [e]
    exact k48_mkM _ _ _ m
  · intro w1 h1 _ h2
    rw [show (i : Int).toNat = i by omega] at h1
    exact h w1 h1 ⟨h2.os, h2.tape, h2.output, h2.size, fun k hk hn => h2.block k hk (fun e => hn (by injection e))⟩
end
set_option maxHeartbeats 8000000 in
set_option maxRecDepth 100000 in
theorem defaults_calls (w : World) (T : Tb) (A0 A1 : Option Addr) (c0 c1 : Nat) (h : TAt w T A0 A1 c0 c1) (ht : TOk T) :
    Calls Try.prog 10 #[.agg #[.slice A0 T.mv.length c0, .slice A1 T.gt.length c1]] w (DefPost w T) := by
  have hu := Try.underlying25
  have hm0 := ht.m
  have hm1 := ht.g
  obtain ⟨r, hr, hf, hf2⟩ := even_some T (by omega)
  clear hf2
  obtain ⟨ke, hke⟩ := hf.get
  have HKE := Aside0.mk hke
  have HR := Aside0.mk hr
  have HT := Aside0.mk h
  have HTO := Aside0.mk ht
  clear h ht hf hke hr
  have HF0 := Aside0.mk (((Fr.refl (fun _ => False) w).alloc (.cells #[.slice A0 T.mv.length c0, .slice A1 T.gt.length c1] 25)).alloc (.cells #[.slice none 0 0, .slice none 0 0] 25))
  go_enter Try.func10, Try.ntmps10
  go_wp2_with (fail)
  have hTB := blk_alloc (blk_new w (.cells #[.slice A0 T.mv.length c0, .slice A1 T.gt.length c1] 25)) (.cells #[.slice none 0 0, .slice none 0 0] 25)
  have hRB := blk_new (w.alloc (.cells #[.slice A0 T.mv.length c0, .slice A1 T.gt.length c1] 25)) (.cells #[.slice none 0 0, .slice none 0 0] 25)
  rw [World.size_alloc] at hRB
  have HTB := Aside0.mk hTB
  have HRB := Aside0.mk hRB
  clear hTB hRB
  refine (table_even.calls ke A0 c0 T.mv A1 c1 T.gt r _ (HT.out.fr HF0.out).mv HT.out.l0 (HT.out.fr HF0.out).gt HT.out.l1 HKE.out).mono ?_
  rintro e W1 ⟨rfl, hb⟩
  have hF := Fr.of_below (S := fun _ => False) hb
  have HF1 := Aside0.mk (HF0.out.trans hF (fun _ _ h => h))
  have HTB1 := Aside0.mk (hF.blk HTB.out id)
  have HRB1 := Aside0.mk (hF.blk HRB.out id)
  clear hb hF HTB HRB HF0
  obtain ⟨q0, hq0⟩ : ∃ q0, w.heap.size = q0 := ⟨_, rfl⟩
  obtain ⟨q1, hq1⟩ : ∃ q1, w.heap.size + 1 = q1 := ⟨_, rfl⟩
  have hqq : q0 + 1 = q1 := by omega
  have HQQ := Aside0.mk hqq
  have HQ0 := Aside0.mk hq0
  simp only [hq1] at HRB1 ⊢
  simp only [hq0] at HTB1 ⊢
  clear hq0 hq1 hqq
  cases r with
  | false =>
    have HNE := Aside0.mk (show ¬ Even T from fun h => (by have := HR.out.2 h; cases this))
    have hr0 := (blk_cell HRB1.out 0).trans (show _ = some (Value.slice none 0 0) from rfl)
    have hr1 := (blk_cell HRB1.out 1).trans (show _ = some (Value.slice none 0 0) from rfl)
    have hf0 := blk_frozen HRB1.out 0
    have hf1 := blk_frozen HRB1.out 1
    have tb0 := (blk_cell HTB1.out 0).trans (show _ = some (Value.slice A0 T.mv.length c0) from rfl)
    have tb1 := (blk_cell HTB1.out 1).trans (show _ = some (Value.slice A1 T.gt.length c1) from rfl)
    have hq : ¬ q1 < w.heap.size := by have := HQQ.out; have := HQ0.out; omega
    go_wp2_with (fail)
    refine bodyPost_ret (v := .tuple #[.agg #[.slice none 0 0, .slice none 0 0], .int .i64 170]) ((results_cell_row_tmp (p := 2) (u := 3) (ty := 25) (by rfl) _ _ q1 25 #[.slice none 0 0, .slice none 0 0] (0, 0) _ (by rfl) (blk_put (blk_put HRB1.out 0 (.slice none 0 0) rfl) 1 (.slice none 0 0) rfl) hu (by rfl) (by kernel_rfl)).trans (by rfl)) rfl ?_
    exact .inl ⟨HNE.out, rfl, (HF1.out.set _ (fun h => absurd h hq)).set _ (fun h => absurd h hq)⟩
  | true =>
    have HE := Aside0.mk (HR.out.1 rfl)
    have tb0 := (blk_cell HTB1.out 0).trans (show _ = some (Value.slice A0 T.mv.length c0) from rfl)
    have tb1 := (blk_cell HTB1.out 1).trans (show _ = some (Value.slice A1 T.gt.length c1) from rfl)
    go_upto_region 4 with (fail)
    have HF2 := Aside0.mk (HF1.out.alloc (.cells #[.slice none 0 0, .slice none 0 0] 25))
    have HTB2 := Aside0.mk (blk_alloc HTB1.out (.cells #[.slice none 0 0, .slice none 0 0] 25))
    have HRB2 := Aside0.mk (blk_alloc HRB1.out (.cells #[.slice none 0 0, .slice none 0 0] 25))
    have hs1 := blk_lt HRB1.out
    have hs0 := blk_lt HTB1.out
    have HO2 := Aside0.mk (show Out (W1.alloc (.cells #[.slice none 0 0, .slice none 0 0] 25)) W1.heap.size (W1.heap.size + 1) (.slice none 0 0) (.slice none 0 0) [] [] from ⟨blk_new W1 _, Kd.R_nil _ _ _ _ _, Kd.R_nil _ _ _ _ _⟩)
    have hsz := World.size_alloc W1 (.cells #[.slice none 0 0, .slice none 0 0] 25)
    have hW1 := HF1.out.size
    clear tb0 tb1 HTB1 HRB1 HF1
    generalize hq2 : W1.heap.size = q2 at HO2 hs1 hs0 hsz hW1 ⊢
    clear hq2
    generalize W1.alloc (.cells #[.slice none 0 0, .slice none 0 0] 25) = W2 at HF2 HTB2 HRB2 HO2 hsz ⊢
    have tb0 := (blk_cell HTB2.out 0).trans (show _ = some (Value.slice A0 T.mv.length c0) from rfl)
    have tb1 := (blk_cell HTB2.out 1).trans (show _ = some (Value.slice A1 T.gt.length c1) from rfl)
    have hw0 : w.heap.size ≤ q2 := hW1
    have hq2 : q2 < W2.heap.size := by omega
    have HDN := Aside0.mk def_nil
    have HFF := Aside0.mk (Fr.refl (fun k => q2 ≤ k) W2)
    clear hsz hW1
    go_wp2_with (fail)
    go_loopw [19] (fun a W => ∃ (i : Nat) (vm vg : Value) (Lm : List (List S48)), a = .int .i64 i ∧ i ≤ T.mv.length ∧ Aside0 (Out W q2 (q2 + 1) vm vg Lm (T.gt.take i)) ∧ Aside0 (IsDef (T.mv.take i) Lm) ∧ Aside0 (Fr (fun k => q2 ≤ k) W2 W)) (fun a _ => T.mv.length - (intOf a).toNat)
    case atStart => exact ⟨0, _, _, _, rfl, Nat.zero_le _, HO2, HDN, HFF⟩
    case round =>
      clear HO2 HDN HFF tb0 tb1
      obtain ⟨i, vm, vg, Lm, rfl, hi, HO, HD, HF⟩ := hrel
      have HFW := Aside0.mk (HF2.out.trans HF.out (fun k hk h => by omega))
      have HTB := Aside0.mk (HF.out.blk HTB2.out (by omega))
      have tb0 := (blk_cell HTB.out 0).trans (show _ = some (Value.slice A0 T.mv.length c0) from rfl)
      have tb1 := (blk_cell HTB.out 1).trans (show _ = some (Value.slice A1 T.gt.length c1) from rfl)
      by_cases hlt : i < T.mv.length
      · have hltb : decide (i < T.mv.length) = true := decide_eq_true hlt
        obtain ⟨ad, B, cb, rfl, hx, hlb, hCB⟩ := at_L2 HT.out.mv (i : Int) (by omega) (by omega)
        simp only [Int.toNat_natCast] at hx
        replace hx := HFW.out.cell hx id
        have hrl := (HTO.out.rows i hlt).1
        have HRW := Aside0.mk (HTO.out.rows i hlt).2
        have HSN := Aside0.mk (fun m (hm : IsUsual (rd_L2 T.mv i) m) => def_snoc HD.out hlt hm)
        have HCB := Aside0.mk (Kd.C_below hCB HFW.out.to_below)
        clear hCB HD
        have hks0 : (0 : Int) ≤ (i : Int) := by omega
        have hks1 : (i : Int) < (T.mv.length : Int) := by omega
        change w.heap.size ≤ q2 at hw0
        generalize hrow : rd_L2 T.mv (i : Int) = row at hx hlb hrl HRW HSN HCB
        clear hrow
        go_wp2_with (fail)
        refine (usual_calls wr row B cb HCB.out hrl HRW.out).mono ?_
        rintro e W3 ⟨m, rfl, hm, hF⟩
        have HM := Aside0.mk (HSN.out m hm)
        have HF3 := Aside0.mk hF
        have hs3 := hF.size
        clear hm hF HSN
        go_upto_region 8 with (fail)
        have HFA := Aside0.mk (HF3.out.alloc (.cells #[.int .i64 m.f0, .int .i64 m.f1] 48))
        have HDB := Aside0.mk (blk_new W3 (.cells #[.int .i64 m.f0, .int .i64 m.f1] 48))
        have hsz := World.size_alloc W3 (.cells #[.int .i64 m.f0, .int .i64 m.f1] 48)
        clear HF3 hx
        generalize hqd : W3.heap.size = qd at HDB hs3 hsz ⊢
        clear hqd
        generalize W3.alloc (.cells #[.int .i64 m.f0, .int .i64 m.f1] 48) = W4 at HFA HDB hsz ⊢
        have hqd4 : qd < W4.heap.size := by omega
        have h4 : wr.heap.size ≤ W4.heap.size := by omega
        clear hsz
        have HCB4 := Aside0.mk (Kd.C_below HCB.out HFA.out.to_below)
        go_wp2_with (at_builtin; go_must (refine Kd.R_append_rows k48 (w0 := W4) (W := W4) W4.heap.size rfl (.const (.slice none 0 0)) (.tmp 26) 38 48 (.agg #[(.int .i64 0), (.int .i64 0)]) 16 rfl Try.underlying38 info48 rfl (by decide) (by decide) (.slice none 0 0) [] row B row.length cb (fun k => W4.heap.size ≤ k) (fun _ => False) rfl rfl (Kd.R_nil _ _ _ _ _) HCB4.out (fun x cs h => by rw [k48_open h]; exact k48_mkM _ _ _ x) (fun _ hk => hk.elim) (fun _ h => h) (Below.refl _ _) (Nat.le_refl _) (by simp; omega) ?_; intro v5 W5 h1 hb h2 _; obtain ⟨A2, c2, rfl⟩ := Kd.R_slice h1; have HV5 := Aside0.mk (show k48.R 48 W5 W4.heap.size (fun k => W4.heap.size ≤ k) (.slice A2 row.length c2) row from by simpa using h1); have HF5 := Aside0.mk (Fr.of_below (S := fun _ => False) hb); clear h1 h2 hb))
        have h5 := HF5.out.size
        have HG5 := Aside0.mk (Fr.refl (fun k => W4.heap.size ≤ k) W5)
        have HV50 := Aside0.mk (show k48.R 48 W5 W4.heap.size (fun k => W4.heap.size ≤ k) (.slice A2 row.length c2) (mix m row 0) from by rw [mix_zero]; exact HV5.out)
        clear HV5
        have hmxr : row.length ≤ 9223372036854775806 := by omega
        go_loopw [30] (fun a W => ∃ j : Nat, a = .int .i64 j ∧ j ≤ row.length ∧ Aside0 (k48.R 48 W W4.heap.size (fun k => W4.heap.size ≤ k) (.slice A2 row.length c2) (mix m row j)) ∧ Aside0 (Fr (fun k => W4.heap.size ≤ k) W5 W)) (fun a _ => row.length - (intOf a).toNat)
        case atStart => exact ⟨0, rfl, Nat.zero_le _, HV50, HG5⟩
        case round =>
          clear HV50 HG5
          obtain ⟨j, rfl, hj, HV, HG⟩ := hrel
          by_cases hjl : j < row.length
          · have hjlb : decide (j < row.length) = true := decide_eq_true hjl
            obtain ⟨g2, hg2⟩ : ∃ g2, A2 = some ⟨g2, 0, none⟩ := by
              obtain ⟨g2, cap, hv, _⟩ := Kd.R_form HV.out (by rw [mix_len]; omega)
              injection hv with hv _ _
              exact ⟨g2, hv⟩
            subst hg2
            have hgb := HV.out.1 g2 rfl
            have hCx := (Kd.R_reads' HV.out).2.2
            rw [mix_len] at hCx
            obtain ⟨adr, hadr, hx0, hx1⟩ := at_T48 hCx (j : Int) (by omega) (by omega)
            injection hadr with hadr
            subst hadr
            rw [mix_rd m row j hjl] at hx0 hx1
            simp only [Int.toNat_natCast, add_plain] at hx0 hx1
            have HS := Aside0.mk (mix_set m row j hjl)
            have HK := Aside0.mk (mix_skip m row j hjl)
            have HDB2 := Aside0.mk (HG.out.blk (HF5.out.blk HDB.out id) (by omega))
            clear hCx
            generalize rd_T48 row j = x at hx0 hx1 HS HK
            obtain ⟨xf, xn⟩ := x
            have hj0 : (0 : Int) ≤ (j : Int) := by omega
            have hj1 : (j : Int) < (row.length : Int) := by omega
            go_upto_region 12 with (fail)
            have HV2 := Aside0.mk (Kd.R_alloc HV.out (.cells #[.int .i64 xf, .int .i64 xn] 48))
            have HG2 := Aside0.mk (HG.out.alloc (.cells #[.int .i64 xf, .int .i64 xn] 48))
            have HXB := Aside0.mk (blk_new wr (.cells #[.int .i64 xf, .int .i64 xn] 48))
            have HDB3 := Aside0.mk (blk_alloc HDB2.out (.cells #[.int .i64 xf, .int .i64 xn] 48))
            clear hx0 hx1 HV HG HDB2
            generalize wr.alloc (.cells #[.int .i64 xf, .int .i64 xn] 48) = W6 at HV2 HG2 HXB HDB3 ⊢
            generalize wr.heap.size = qx at HXB ⊢
            have x0 := (blk_cell HXB.out 0).trans (show _ = some (Value.int .i64 xf) from rfl)
            have d0 := (blk_cell HDB3.out 0).trans (show _ = some (Value.int .i64 m.f0) from rfl)
            have d1 := (blk_cell HDB3.out 1).trans (show _ = some (Value.int .i64 m.f1) from rfl)
            by_cases hz : xf = 0
            · subst hz
              have HSS := Aside0.mk (HS.out rfl)
              go_wp2_with (refine gate_ (.store 48 (.tmp 41) (.tmp 40)) rfl ?_; refine put_mv HV2.out j hjl (.tmp 41) (.tmp 40) m rfl rfl rfl rfl rfl ?_; intro w1 h1 hF1; have HV3 := Aside0.mk (HSS.out ▸ h1); have HG3 := Aside0.mk (HG2.out.trans hF1 (fun k hk e => (by subst e; exact hgb))); clear h1 hF1)
              exact ⟨⟨j + 1, by go_num, by omega, HV3, HG3⟩, by simp [intOf]; omega⟩
            · have hzb : (xf == 0) = false := beq_eq_false_iff_ne.2 hz
              have HV3 := Aside0.mk (show k48.R 48 W6 W4.heap.size (fun k => W4.heap.size ≤ k) (.slice (some ⟨g2, 0, none⟩) row.length c2) (mix m row (j + 1)) from by rw [← HK.out hz]; exact HV2.out)
              clear hz
              go_wp2_with (fail)
              exact ⟨⟨j + 1, by go_num, by omega, HV3, HG2⟩, by simp [intOf]; omega⟩
          · obtain rfl : j = row.length := by omega
            have hjlb : decide (row.length < row.length) = false := decide_eq_false hjl
            have HVR := Aside0.mk (show k48.R 48 wr W4.heap.size (fun k => W4.heap.size ≤ k) (.slice A2 row.length c2) (withD m row) from by rw [← mix_all]; exact HV.out)
            have HFX := Aside0.mk (((HFA.out.trans HF5.out (fun _ _ h => h)).mono (T := fun k => W4.heap.size ≤ k) (fun _ h => h.elim)).trans HG.out (fun k hk h => h))
            have HOX := Aside0.mk (HO.out.fr HFX.out (fun k hk h => by omega))
            have HVB := Aside0.mk (show ∀ k, vm.ownBlock = some k → k < W4.heap.size from fun k hk => by have := Kd.R_lt HO.out.m k hk; omega)
            have hq2w := blk_lt HO.out.blk
            have hLm : Lm.length ≤ i := by have := HM.out.1; simp only [List.length_take, List.length_append, List.length_cons, List.length_nil] at this; omega
            have hwr4 : W4.heap.size ≤ wr.heap.size := by have := HG.out.size; omega
            have HTBX := Aside0.mk (HFX.out.blk HTB.out (by have := blk_lt HTB.out; omega))
            have HFWX := Aside0.mk (HFW.out.trans HFX.out (fun k hk h => by have := HFW.out.size; omega))
            have ob0 := (blk_cell HOX.out.blk 0).trans (show _ = some vm from rfl)
            have HRX := Aside0.mk (show ∃ wz, True from ⟨wr, trivial⟩)
            clear HV HG tb0 tb1 HRX
            obtain ⟨VA, vc, hvm⟩ := HOX.out.mform
            obtain ⟨vn, hvn⟩ : ∃ vn, vn = Lm.length := ⟨_, rfl⟩
            rw [← hvn] at hvm
            have HVM := Aside0.mk hvm
            clear hvm hvn
            go_upto_region 16 with (at_builtin; go_must (refine Kd.R_append (Kd.slice 48 k48) (w0 := wr) (W := wr) (q2 + 1) rfl (.tmp 44) (.tmp 46) 22 38 (.slice none 0 0) 24 rfl Try.underlying22 info38 rfl (by decide) (by decide) vm Lm (withD m row) [.slice A2 row.length c2] (fun k => q2 + 1 ≤ k) (fun k => W4.heap.size ≤ k) rfl rfl ⟨_, rfl, Kd.R_lower HVR.out (by omega)⟩ (fun k hk => ⟨by omega, fun e => by have := HVB.out k e.symm; omega⟩) (fun k hk => by omega) HOX.out.m (Below.refl _ _) (by omega) (by omega) ?_; intro v7 W7 h1 hb h2 _; obtain ⟨VA7, vc7, rfl⟩ := Kd.R_slice h1; generalize hvl : (Lm ++ [withD m row]).length = vl7 at h1 ⊢; have HVL := Aside0.mk hvl; clear hvl; have HO8 := Aside0.mk (HOX.out.appM h2 h1); have hbk := blk_grown HOX.out.blk h2 (Kd.R_ne HOX.out.m HOX.out.blk (by decide)); have hc0 := (blk_cell hbk 0).trans (show _ = some vm from rfl); have hcf := blk_frozen hbk 0; have HF7 := Aside0.mk (grown_fr h2 (fun k hk => HOX.out.m.1 k hk)); clear h1 h2 hb hbk))
            obtain ⟨W8, hW8⟩ : ∃ W8, W7.setCell ⟨q2, 0, none⟩ (.slice VA7 vl7 vc7) = W8 := ⟨_, rfl⟩
            have HF8 := Aside0.mk (show Fr (fun k => q2 ≤ k) wr W8 from by rw [← hW8]; exact (HF7.out.mono (T := fun k => q2 ≤ k) (fun k h => by omega)).set _ (fun _ => Nat.le_refl _))
            simp only [hW8] at HO8 ⊢
            clear hW8 hc0 hcf HF7 HOX ob0 HVM
            have HTB8 := Aside0.mk (HF8.out.blk HTBX.out (by omega))
            have HFW8 := Aside0.mk (HFWX.out.trans HF8.out (fun k hk h => by omega))
            have hgl : i < T.gt.length := by have := HE.out.2.2.1; omega
            obtain ⟨adg, B3, c3, rfl, hy, hlb3, hC3⟩ := at_L3 HT.out.gt (i : Int) (by omega) (by omega)
            simp only [Int.toNat_natCast] at hy
            have hadw := World.block_lt_of_cell? w _ hy
            replace hy := HFW8.out.cell hy id
            have HC3 := Aside0.mk (Kd.C_below hC3 HFW8.out.to_below)
            have hgr := HTO.out.gos i hgl
            have HTG := Aside0.mk (take_L3 hgl)
            clear hC3
            generalize rd_L3 T.gt (i : Int) = grow at hy hlb3 HC3 hgr HTG
            change grow.length ≤ 17592186043904 at hgr
            obtain ⟨GA, gc, hvg⟩ := Kd.R_slice HO8.out.g
            generalize hgn : (T.gt.take i).length = gn at hvg
            have HGN := Aside0.mk hgn
            subst hvg
            clear hgn
            have hgn2 : gn ≤ i := by rw [← HGN.out, List.length_take]; omega
            have hi0 : (0 : Int) ≤ (i : Int) := by omega
            have hi1 : (i : Int) < (T.gt.length : Int) := by omega
            have vb1 := (blk_cell HO8.out.blk 1).trans (show _ = some (Value.slice GA gn gc) from rfl)
            have tb1 := (blk_cell HTB8.out 1).trans (show _ = some (Value.slice (some adg) T.gt.length c1) from rfl)
            have hq2w8 := blk_lt HO8.out.blk
            refine wp_region_last_drew (S := fun w' => w'.cell? ⟨q2, 1, none⟩ = some (.slice GA gn gc) ∧ w'.cell? ⟨q0, 1, none⟩ = some (.slice (some adg) T.gt.length c1) ∧ w'.cell? (adg.add i) = some (.slice B3 grow.length c3)) (ds := [11]) (by kernel_rfl) ⟨vb1, tb1, hy⟩ (fun hHeld => ?_)
            have HFd := Aside0.mk (Fr.refl (fun _ => False) W8).drew
            generalize W8.drew = Wd at HFd hHeld ⊢
            have hsd := HFd.out.size
            refine tk 0 ?_
            refine tk 1 ?_
            refine tk 2 ?_
            refine tk 3 ?_
            refine tk 4 ?_
            refine tk 5 ?_
            refine tk 6 ?_
            refine on 7 (fun K hK => ?_)
            refine Kd.R_append_rows_step (Kd.int .i64) (w0 := Wd) (W := Wd) Wd.heap.size (by rfl) (.const (.slice none 0 0)) (.tmp 55) 39 3 (.int .i64 0) 8 rfl Try.underlying39 info3 rfl (by decide) (by decide) (.slice none 0 0) [] grow B3 grow.length c3 (fun k => Wd.heap.size ≤ k) (fun _ => False) rfl rfl (Kd.R_nil _ _ _ _ _) (Kd.C_below HC3.out HFd.out.to_below) (fun _ _ h => h) (fun _ hk => hk.elim) (fun _ h => h) (Below.refl _ _) (Nat.le_refl _) (by simp; omega) ?_
            intro v9 W9 h1 hb h2 _
            obtain ⟨A4, c4, rfl⟩ := Kd.R_slice h1
            have HV9 := Aside0.mk (show (Kd.int .i64).R 3 W9 Wd.heap.size (fun k => Wd.heap.size ≤ k) (.slice A4 grow.length c4) grow from by simpa using h1)
            have HF9 := Aside0.mk (HFd.out.trans (Fr.of_below (S := fun _ => False) hb) (fun _ _ h => h))
            clear h1 h2 hb
            refine hK.out _ _ ⟨HF9.out.cell vb1 id, HF9.out.cell tb1 id, HF9.out.cell hy id⟩ (fun hHeld => ?_)
            clear hK K
            try simp only [Act.put, List.setIfInBounds_toArray, List.set_cons_zero, List.set_cons_succ]
            refine on 8 (fun K hK => ?_)
            go_simp
            have HFA9 := Aside0.mk (HF9.out.alloc (.cells #[.slice A4 grow.length c4] 39))
            refine hK.out _ _ ⟨HFA9.out.cell vb1 id, HFA9.out.cell tb1 id, HFA9.out.cell hy id⟩ (fun hHeld => ?_)
            clear hK K
            try simp only [Act.put, List.setIfInBounds_toArray, List.set_cons_zero, List.set_cons_succ]
            have HO9 := Aside0.mk (HO8.out.fr HF9.out (fun _ _ => id))
            have hs9 := HF9.out.size
            refine on 9 (fun K hK => ?_)
            refine Kd.R_append_step (Kd.slice 3 (Kd.int .i64)) (w0 := W9) (W := W9) (q2 + 1) (by rfl) (.tmp 50) (.tmp 57) 23 39 (.slice none 0 0) 24 rfl Try.underlying23 info39 rfl (by decide) (by decide) (.slice GA gn gc) (T.gt.take i) grow [.slice A4 grow.length c4] (fun k => q2 + 1 ≤ k) (fun k => Wd.heap.size ≤ k) rfl rfl ⟨_, rfl, Kd.R_lower HV9.out (by omega)⟩ (fun k hk => ⟨by omega, fun e => by have := Kd.R_lt HO8.out.g k e.symm; omega⟩) (fun k hk => by omega) HO9.out.g (Below.refl _ _) (by omega) (by rw [HGN.out]; omega) ?_
            intro v10 W10 h1 hb h2 _
            obtain ⟨GA2, gc2, rfl⟩ := Kd.R_slice h1
            generalize hgl2 : (T.gt.take i ++ [grow]).length = gn2 at h1 ⊢
            clear hgl2
            have HO10 := Aside0.mk (HO9.out.appG h2 h1)
            have hbk := blk_grown HO9.out.blk h2 (Kd.R_ne HO9.out.g HO9.out.blk (by decide))
            have hcf := blk_frozen hbk 1
            have hc1 := (blk_cell hbk 1).trans (show _ = some (Value.slice GA gn gc) from rfl)
            have HF10 := Aside0.mk (((HF9.out.mono (T := fun k => q2 ≤ k) (fun _ h => h.elim)).trans (grown_fr h2 (fun k hk => HO9.out.g.1 k hk)) (fun k hk h => by omega)))
            have hadg : ¬ q2 ≤ (adg.add i).block := by omega
            have HW10 := Aside0.mk (HF10.out.cell hy hadg)
            have HTB10 := Aside0.mk (HF10.out.blk HTB8.out (by omega))
            have HTB10c := Aside0.mk ((blk_cell HTB10.out 1).trans (show _ = some (Value.slice (some adg) T.gt.length c1) from rfl))
            refine hK.out _ _ ⟨hc1, HTB10c.out, HW10.out⟩ (fun hHeld => ?_)
            clear hK K
            try simp only [Act.put, List.setIfInBounds_toArray, List.set_cons_zero, List.set_cons_succ]
            refine tk 10 ?_
            refine onl 11 (fun K hK => ?_)
            go_simp
            refine hK.out _ _ ?_
            clear hK K
            try simp only [Act.put]
            refine dn ?_
            have HF11 := Aside0.mk (HF10.out.set (g := q2) (o := 1) (.slice GA2 gn2 gc2) (fun _ => Nat.le_refl _))
            have HFE := Aside0.mk (HF.out.trans (((HFX.out.mono (T := fun k => q2 ≤ k) (fun k h => by omega)).trans HF8.out (fun k _ h => h)).trans HF11.out (fun k _ h => h)) (fun k _ h => h))
            have HOE := Aside0.mk (HTG.out ▸ HO10.out)
            clear HO10 HO9 hcf hc1
            go_wp2_with (fail)
            exact ⟨⟨i + 1, _, _, _, by go_num, by omega, HOE, HM, HFE⟩, by simp [intOf]; omega⟩
      · obtain rfl : i = T.mv.length := by omega
        have hltb : decide (T.mv.length < T.mv.length) = false := decide_eq_false hlt
        have HOF := Aside0.mk (show Out wr q2 (q2 + 1) vm vg Lm T.gt from by have h := HO.out; rwa [List.take_of_length_le (by have := HE.out.2.2.1; omega)] at h)
        have HDF := Aside0.mk (show IsDef T.mv Lm from by have h := HD.out; rwa [List.take_length] at h)
        obtain ⟨VA, vc, hvm⟩ := Kd.R_slice HOF.out.m
        obtain ⟨GA, gc, hvg⟩ := Kd.R_slice HOF.out.g
        subst hvm hvg
        have HRBE := Aside0.mk (HF.out.blk HRB2.out (by omega))
        have o0 := (blk_cell HOF.out.blk 0).trans (show _ = some (Value.slice VA Lm.length vc) from rfl)
        have o1 := (blk_cell HOF.out.blk 1).trans (show _ = some (Value.slice GA T.gt.length gc) from rfl)
        have r0 := (blk_cell HRBE.out 0).trans (show _ = some (Value.slice none 0 0) from rfl)
        have r1 := (blk_cell HRBE.out 1).trans (show _ = some (Value.slice none 0 0) from rfl)
        have f0 := blk_frozen HRBE.out 0
        have f1 := blk_frozen HRBE.out 1
        clear tb0 tb1
        have hq : ¬ q1 < w.heap.size := by have := HQQ.out; have := HQ0.out; omega
        have hlow : w.heap.size ≤ q2 + 1 := by omega
        go_wp2_with (fail)
        refine bodyPost_ret (v := .tuple #[.agg #[.slice VA Lm.length vc, .slice GA T.gt.length gc], .int .i64 0]) ((results_cell_row_tmp (p := 2) (u := 3) (ty := 25) (by rfl) _ _ q1 25 #[.slice VA Lm.length vc, .slice GA T.gt.length gc] (0, 0) _ (by rfl) (blk_put (blk_put HRBE.out 0 (.slice VA Lm.length vc) rfl) 1 (.slice GA T.gt.length gc) rfl) hu (by rfl) (by kernel_rfl)).trans (by rfl)) rfl ?_
        refine .inr ⟨HE.out, _, _, Lm, HDF.out, rfl, ?_, ?_, (HFW.out.set _ (fun h => absurd h hq)).set _ (fun h => absurd h hq)⟩
        · exact Kd.R_mono (Kd.R_lower (Kd.R_set (Kd.R_set HOF.out.m HRBE.out ne25m 0 _) (blk_put HRBE.out 0 (.slice VA Lm.length vc) rfl) ne25m 1 _) hlow) (fun _ _ => trivial)
        · exact Kd.R_mono (Kd.R_lower (Kd.R_set (Kd.R_set HOF.out.g HRBE.out ne25g 0 _) (blk_put HRBE.out 0 (.slice VA Lm.length vc) rfl) ne25g 1 _) hlow) (fun _ _ => trivial)
end Go.Proofs.Ytlpmjmanmncmnaa.Tab
