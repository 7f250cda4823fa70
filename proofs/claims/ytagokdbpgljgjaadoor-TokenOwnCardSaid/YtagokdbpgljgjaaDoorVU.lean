/-
The law of what a cursor tells, walked.
-/
import Derived.Test.YtagokdbpgljgjaaDoorVP
import Derived.Test.YtagokdbpgljgjaaDoorVT
namespace Go.Proofs.YtagokdbpgljgjaaDoor.Tok
open Go.RowKit Go.Proofs.YtagokdbpgljgjaaDoorW.PrintWords Go.Proofs.YtagokdbpgljgjaaDoorW.PrintLast Go.Proofs.YtagokdbpgljgjaaDoorW.PrintMore Go.Proofs.YtagokdbpgljgjaaDoor.Fr Go.Proofs.YtagokdbpgljgjaaDoor.PGramFirsts Go.Proofs.YtagokdbpgljgjaaDoor.TextSet Go.Proofs.YtagokdbpgljgjaaDoor.Bld Go.Proofs.YtagokdbpgljgjaaDoor.Cur
theorem max2_i (k k' : IntKind) (x y : Int) : Builtin.max2 (.int k x) (.int k' y) = pure (.int k (max x y)) := by
  rw [max2_int]
  congr 2
  rw [Int.max_def]
  split <;> split <;> omega
theorem min2_i (k k' : IntKind) (x y : Int) : Builtin.min2 (.int k x) (.int k' y) = pure (.int k (min x y)) := by
  rw [min2_int]
  congr 2
  rw [Int.min_def]
  split <;> split <;> omega
attribute [local go_sem high] eqA55
attribute [local go_sem] max2_i min2_i max_two min_two

theorem take_T {l : List S55} {i : Nat} (h : i < l.length) : l.take i ++ [rd_T55 l i] = l.take (i + 1) := by
  rw [List.take_add_one]
  simp [rd_T55, List.getD_eq_getElem?_getD, List.getElem?_eq_getElem h]
set_option maxHeartbeats 8000000 in
set_option maxRecDepth 100000 in
theorem tells_calls (w : World) (l : List S55) (hl : l.length ≤ MaxT) (A : Option Addr) (c : Nat) (hc : l.length ≤ c) (hC : Kd.C k55 w A l.length l) (more : Int) (h0 : -9223372036854775808 ≤ more) (h1 : more ≤ 9223372036854775807) (hm : Mx w) :
    Calls Tryd.prog 8 #[.slice A l.length c, .int .i64 more] w fun e w' => e = .returned (.bool true) ∧ Below w.heap.size w w' := by
  have hM : MaxT = 5864062014634 := rfl
  go_enter Tryd.func8, Tryd.ntmps8
  have HC := Aside0.mk hC
  have HM := Aside0.mk hm
  clear hC hm
  go_wp2_with (fail)
  refine (new_calls w l hl A c HC.out).mono ?_
  rintro e W1 ⟨q, vq, rfl, hq, hCu, hF⟩
  have HF1 := Aside0.mk hF
  have HQ1 := Aside0.mk hCu
  clear hF hCu
  go_wp2_with (fail)
  refine (alive_calls W1 (HM.out.fr HF1.out (fun _ _ => id))).mono ?_
  rintro e W2 ⟨rfl, hF⟩
  have HF2 := Aside0.mk (HF1.out.trans hF (fun _ _ h => h))
  have HQ2 := Aside0.mk (HQ1.out.fr hF id (fun _ _ => id)).bound
  have hq2 := blk_lt HQ2.out.blk
  have hs2 := HF2.out.size
  clear hF HF1 HQ1
  go_wp2_with (fail)
  go_loopw [18, 6] (fun a b W => ∃ i : Nat, a = .int .i64 i ∧ i ≤ l.length ∧ Aside0 (Cu W w.heap.size q (fun k => k < W2.heap.size) vq l i) ∧ Aside0 (k55.R 55 W W2.heap.size (fun k => W2.heap.size ≤ k) b (l.take i)) ∧ Aside0 (Fr (fun _ => False) w W) ∧ Aside0 (W2.heap.size ≤ W.heap.size)) (fun a _ _ => l.length - (intOf a).toNat)
  case atStart => exact ⟨0, rfl, Nat.zero_le _, HQ2, ⟨Kd.R_nil _ _ _ _ _⟩, HF2, ⟨Nat.le_refl _⟩⟩
  case round =>
    clear HQ2 HF2
    obtain ⟨i, rfl, hi, HQ, HR, HF, HS⟩ := hrel
    by_cases hlt : i < l.length
    · go_wp2_with (fail)
      refine (next_calls wr _ q _ vq l i HQ.out).mono ?_
      rintro e W3 ⟨rfl, hQ, hF⟩
      rw [show nxt l i = i + 1 by unfold nxt; rw [if_pos hlt]] at hQ
      rw [pk_lt hlt]
      have HT := Aside0.mk (take_T hlt)
      generalize rd_T55 l i = x at HT
      obtain ⟨x0, x1, x2⟩ := x
      unfold tv
      have HQ3 := Aside0.mk hQ
      have HR3 := Aside0.mk (hF.R HR.out (fun k hk h => by subst h; omega))
      have HF3 := Aside0.mk (HF.out.trans hF (fun k hk h => by subst h; omega))
      have HS3 := Aside0.mk (Nat.le_trans HS.out hF.size)
      have hs3 := HS3.out
      clear hQ hF HQ HR HF HS
      go_wp2_with (at_builtin; go_must (refine Kd.R_append k55 (w0 := W3) (W := W3) W2.heap.size rfl (.tmp 20) (.tmp 23) 23 55 (.agg #[(.int .i64 0), (.int .i64 0), (.int .i64 0)]) 24 rfl Tryd.underlying23 info55 rfl (by decide) (by decide) u6 (l.take i) ⟨x0, x1, x2⟩ [.int .i64 x0, .int .i64 x1, .int .i64 x2] (fun k => W2.heap.size ≤ k) (fun _ => False) rfl rfl (k55_mkM _ _ _ ⟨x0, x1, x2⟩) (fun _ hk => hk.elim) (fun _ h => by omega) HR3.out (Below.refl _ _) (by omega) (by simp; omega) ?_; intro v2 w2 h1 hb h2 _; have HR4 := Aside0.mk (HT.out ▸ h1); have hF4 := (show Fr (fun k => W2.heap.size ≤ k) W3 w2 from ⟨h2.os, h2.tape, h2.output, h2.size, fun i hi hn => h2.block i hi (fun e => hn (Kd.R_base HR3.out i e.symm))⟩); have HF4 := Aside0.mk (HF3.out.trans hF4 (fun k hk h => by omega)); have HQ4 := Aside0.mk (HQ3.out.fr hF4 (by omega) (fun k h h' => by omega)); have HS4 := Aside0.mk (Nat.le_trans hs3 h2.size); clear h1 h2 hb hF4))
      exact ⟨⟨i + 1, by go_num, by omega, HQ4, HR4, HF4, HS4⟩, by simp [intOf]; omega⟩
    · obtain rfl : i = l.length := by omega
      have HR0 := Aside0.mk (show k55.R 55 wr W2.heap.size (fun k => W2.heap.size ≤ k) u6 l from by have h := HR.out; rwa [List.take_length] at h)
      clear HR
      go_wp2_with (fail)
      have hm0 : min (max more 0) 20 ≤ 20 := by omega
      have hm1 : 0 ≤ min (max more 0) 20 := by omega
      generalize min (max more 0) 20 = m at hm0 hm1 ⊢
      go_loopw [30] (fun a W => ∃ i : Nat, a = .int .i64 i ∧ i ≤ 20 ∧ Aside0 (Cu W w.heap.size q (fun k => k < W2.heap.size) vq l l.length) ∧ Aside0 (k55.R 55 W W2.heap.size (fun k => W2.heap.size ≤ k) u6 l) ∧ Aside0 (Fr (fun _ => False) w W) ∧ Aside0 (W2.heap.size ≤ W.heap.size)) (fun a _ => 20 - (intOf a).toNat)
      case atStart => exact ⟨0, rfl, Nat.zero_le _, HQ, HR0, HF, HS⟩
      case round =>
        clear HQ HR0 HF HS
        obtain ⟨i, rfl, hi, HQ, HR, HF, HS⟩ := hrel
        by_cases hlt : (i : Int) < m
        · go_wp2_with (fail)
          refine (next_calls wr _ q _ vq l l.length HQ.out).mono ?_
          rintro e W3 ⟨rfl, hQ, hF⟩
          rw [show nxt l l.length = l.length by unfold nxt; rw [if_neg (by omega)]] at hQ
          rw [show pk l l.length = ⟨0, lastTo l, lastTo l⟩ by unfold pk; rw [if_neg (by omega)]]
          generalize lastTo l = y
          unfold tv
          have HF3 := Aside0.mk (HF.out.trans hF (fun k hk h => by subst h; omega))
          have HF4 := Aside0.mk (HF3.out.alloc (.cells #[.int .i64 0, .int .i64 y, .int .i64 y] 55))
          have HR4 := Aside0.mk (Kd.R_alloc (hF.R HR.out (fun k hk h => by subst h; omega)) (.cells #[.int .i64 0, .int .i64 y, .int .i64 y] 55))
          have HQ4 := Aside0.mk (hQ.fr ((Fr.refl (fun _ => False) W3).alloc (.cells #[.int .i64 0, .int .i64 y, .int .i64 y] 55)) id (fun _ _ => id))
          have HS4 := Aside0.mk (Nat.le_trans (Nat.le_trans HS.out hF.size) ((Fr.refl (fun _ => False) W3).alloc (.cells #[.int .i64 0, .int .i64 y, .int .i64 y] 55)).size)
          clear hQ hF HQ HR HF HS HF3
          go_wp2_with (fail)
          refine (left_calls _ _ q _ vq l l.length HQ4.out).mono ?_
          rintro e W5 ⟨rfl, hF⟩
          have HF5 := Aside0.mk (HF4.out.trans hF (fun k hk h => h))
          have HR5 := Aside0.mk (hF.R HR4.out (fun k hk h => h))
          have HQ5 := Aside0.mk (HQ4.out.fr hF id (fun _ _ => id))
          have HS5 := Aside0.mk (Nat.le_trans HS4.out hF.size)
          clear hF HQ4 HR4 HF4 HS4
          go_wp2_with (fail)
          exact ⟨⟨i + 1, by go_num, by omega, HQ5, HR5, HF5, HS5⟩, by simp [intOf]; omega⟩
        · go_wp2_with (fail)
          have hbk : (0 : Int) ≤ (l.length : Int) ∧ (l.length : Int) ≤ (l.length : Int) := by omega
          have hbk0 : l.length - ((l.length : Nat) : Int).toNat = 0 := by omega
          have hb6 : (-9223372036854775808 : Int) ≤ (l.length : Int) := by omega
          have hb7 : (l.length : Int) ≤ 9223372036854775807 := by omega
          have hqw : ∀ k, k < w.heap.size → k = q → False := by omega
          have hl6 : l.length ≤ 9223372036854775806 := by omega
          obtain ⟨Ag, cg, rfl, hcg, hCg⟩ := Kd.R_reads HR.out
          by_cases hz : l.length = 0
          · have HZE := Aside0.mk (show (((l.length : Nat) : Int) == 0) = true from beq_iff_eq.2 (by omega))
            clear hz
            refine wp_region_last_drew (S := fun _ => True) (ds := []) (by kernel_rfl) trivial (fun hHeld => ?_)
            have HF0 := Aside0.mk HF.out.drew
            have HFd := Aside0.mk ((Fr.refl (fun _ => False) wr).drew)
            refine tk 0 ?_
            refine tk 1 ?_
            refine on 2 (fun K hK => ?_)
            go_simp
            refine (same_calls _ l hl6 Ag cg hcg (Kd.C_drew hCg) _ c hc (Kd.C_below HC.out HF0.out.to_below)).mono ?_
            rintro e W5 ⟨rfl, hF⟩
            have HF5 := Aside0.mk (HF0.out.trans hF (fun _ _ h => h))
            have HQ5 := Aside0.mk (HQ.out.fr (HFd.out.trans hF (fun _ _ h => h)) id (fun _ _ => id))
            clear hF
            refine hK.out _ _ trivial (fun hHeld => ?_)
            clear hK K
            try simp only [Act.put, List.setIfInBounds_toArray, List.set_cons_zero, List.set_cons_succ]
            refine tk 3 ?_
            refine tk 4 ?_
            refine tk 5 ?_
            refine tk 6 ?_
            refine on 7 (fun K hK => ?_)
            go_simp
            refine (back_calls W5 _ q _ vq l l.length HQ5.out (l.length : Int) hb6 hb7).mono ?_
            rintro e W6 ⟨rfl, hQ, hF⟩
            rw [if_pos hbk, hbk0] at hQ
            rw [decide_eq_true hbk]
            have HF6 := Aside0.mk (HF5.out.trans hF (fun k hk h => hqw k hk h))
            have HQ6 := Aside0.mk hQ
            clear hF hQ
            refine hK.out _ _ trivial (fun hHeld => ?_)
            clear hK K
            try simp only [Act.put, List.setIfInBounds_toArray, List.set_cons_zero, List.set_cons_succ]
            refine tk 8 ?_
            refine tk 9 ?_
            refine tk 10 ?_
            refine on 11 (fun K hK => ?_)
            go_simp
            refine (at_calls W6 _ q _ vq l 0 HQ6.out).mono ?_
            rintro e W7 ⟨rfl, hF⟩
            have HF7 := Aside0.mk (HF6.out.trans hF (fun k hk h => h))
            have HQ7 := Aside0.mk (HQ6.out.fr hF id (fun _ _ => id))
            clear hF
            refine hK.out _ _ trivial (fun hHeld => ?_)
            clear hK K
            try simp only [Act.put, List.setIfInBounds_toArray, List.set_cons_zero, List.set_cons_succ]
            refine tk (v := .bool true) 12 ?_
            refine tk 13 ?_
            refine tk 14 ?_
            refine tk 15 ?_
            refine tk 16 ?_
            have hze := HZE.out
            refine tk (v := .bool true) 17 ?_
            refine tk 18 ?_
            refine un 19 ?_
            refine un 20 ?_
            refine un 21 ?_
            refine un 22 ?_
            refine un 23 ?_
            refine un 24 ?_
            refine tk 25 ?_
            refine tk 26 ?_
            refine tk 27 ?_
            refine dn ?_
            go_wp2_with (fail)
            go_ret
            exact ⟨rfl, HF7.out.to_below⟩
          · obtain ⟨ad, rfl, hx0, hx1, hx2⟩ := at_T55 HC.out (0 : Int) (by omega) (by omega)
            have e0 : ad.add (Int.toNat 0 * 3) = ad := by unfold Addr.add; split <;> simp_all
            rw [e0] at hx0 hx1 hx2
            have HPK := Aside0.mk (show pk l 0 = rd_T55 l 0 by unfold pk; rw [if_pos (by omega)]; rfl)
            generalize rd_T55 l 0 = x at hx0 hx1 hx2 HPK
            obtain ⟨x0, x1, x2⟩ := x
            have HZE := Aside0.mk (show (((l.length : Nat) : Int) == 0) = false from beq_eq_false_iff_ne.2 (by omega))
            have hpos : 0 < l.length := by omega
            clear hz
            refine wp_region_last_drew (S := fun w' => w'.cell? ad = some (.int .i64 x0) ∧ w'.cell? ⟨ad.block, ad.off + 1, none⟩ = some (.int .i64 x1) ∧ w'.cell? ⟨ad.block, ad.off + 2, none⟩ = some (.int .i64 x2)) (ds := []) (by kernel_rfl) ⟨HF.out.cell hx0 id, HF.out.cell hx1 id, HF.out.cell hx2 id⟩ (fun hHeld => ?_)
            have HF0 := Aside0.mk HF.out.drew
            have HFd := Aside0.mk ((Fr.refl (fun _ => False) wr).drew)
            refine tk 0 ?_
            refine tk 1 ?_
            refine on 2 (fun K hK => ?_)
            go_simp
            refine (same_calls _ l hl6 Ag cg hcg (Kd.C_drew hCg) _ c hc (Kd.C_below HC.out HF0.out.to_below)).mono ?_
            rintro e W5 ⟨rfl, hF⟩
            have HF5 := Aside0.mk (HF0.out.trans hF (fun _ _ h => h))
            have HQ5 := Aside0.mk (HQ.out.fr (HFd.out.trans hF (fun _ _ h => h)) id (fun _ _ => id))
            clear hF
            refine hK.out _ _ ⟨HF5.out.cell hx0 id, HF5.out.cell hx1 id, HF5.out.cell hx2 id⟩ (fun hHeld => ?_)
            clear hK K
            try simp only [Act.put, List.setIfInBounds_toArray, List.set_cons_zero, List.set_cons_succ]
            refine tk 3 ?_
            refine tk 4 ?_
            refine tk 5 ?_
            refine tk 6 ?_
            refine on 7 (fun K hK => ?_)
            go_simp
            refine (back_calls W5 _ q _ vq l l.length HQ5.out (l.length : Int) hb6 hb7).mono ?_
            rintro e W6 ⟨rfl, hQ, hF⟩
            rw [if_pos hbk, hbk0] at hQ
            rw [decide_eq_true hbk]
            have HF6 := Aside0.mk (HF5.out.trans hF (fun k hk h => hqw k hk h))
            have HQ6 := Aside0.mk hQ
            clear hF hQ
            refine hK.out _ _ ⟨HF6.out.cell hx0 id, HF6.out.cell hx1 id, HF6.out.cell hx2 id⟩ (fun hHeld => ?_)
            clear hK K
            try simp only [Act.put, List.setIfInBounds_toArray, List.set_cons_zero, List.set_cons_succ]
            refine tk 8 ?_
            refine tk 9 ?_
            refine tk 10 ?_
            refine on 11 (fun K hK => ?_)
            go_simp
            refine (at_calls W6 _ q _ vq l 0 HQ6.out).mono ?_
            rintro e W7 ⟨rfl, hF⟩
            have HF7 := Aside0.mk (HF6.out.trans hF (fun k hk h => h))
            have HQ7 := Aside0.mk (HQ6.out.fr hF id (fun _ _ => id))
            clear hF
            refine hK.out _ _ ⟨HF7.out.cell hx0 id, HF7.out.cell hx1 id, HF7.out.cell hx2 id⟩ (fun hHeld => ?_)
            clear hK K
            try simp only [Act.put, List.setIfInBounds_toArray, List.set_cons_zero, List.set_cons_succ]
            refine tk (v := .bool true) 12 ?_
            refine tk 13 ?_
            refine tk 14 ?_
            refine tk 15 ?_
            refine tk 16 ?_
            have hze := HZE.out
            refine tk (v := .bool false) 17 ?_
            refine tk 18 ?_
            refine tk 19 ?_
            refine tk 21 ?_
            refine tk 22 ?_
            refine tk 23 ?_
            refine on 20 (fun K hK => ?_)
            go_simp
            refine (next_calls W7 _ q _ vq l 0 HQ7.out).mono ?_
            rintro e W8 ⟨rfl, _, hF⟩
            rw [HPK.out]
            unfold tv
            have HF8 := Aside0.mk (HF7.out.trans hF (fun k hk h => hqw k hk h))
            clear hF
            refine hK.out _ _ ⟨HF8.out.cell hx0 id, HF8.out.cell hx1 id, HF8.out.cell hx2 id⟩ (fun hHeld => ?_)
            clear hK K
            try simp only [Act.put, List.setIfInBounds_toArray, List.set_cons_zero, List.set_cons_succ]
            refine tk (v := .bool true) 24 ?_
            refine tk 25 ?_
            refine tk 26 ?_
            refine tk 27 ?_
            refine dn ?_
            go_wp2_with (fail)
            go_ret
            exact ⟨rfl, HF8.out.to_below⟩
end Go.Proofs.YtagokdbpgljgjaaDoor.Tok
