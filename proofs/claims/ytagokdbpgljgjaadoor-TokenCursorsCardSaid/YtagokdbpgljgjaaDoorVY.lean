/-
The law of a cursor's calls, walked.
-/
import Derived.Test.YtagokdbpgljgjaaDoorVU
namespace Go.Proofs.YtagokdbpgljgjaaDoor.Tok
open Go.RowKit Go.Proofs.YtagokdbpgljgjaaDoorW.PrintWords Go.Proofs.YtagokdbpgljgjaaDoorW.PrintLast Go.Proofs.YtagokdbpgljgjaaDoorW.PrintMore Go.Proofs.YtagokdbpgljgjaaDoor.Fr Go.Proofs.YtagokdbpgljgjaaDoor.PGramFirsts Go.Proofs.YtagokdbpgljgjaaDoor.TextSet Go.Proofs.YtagokdbpgljgjaaDoor.Bld Go.Proofs.YtagokdbpgljgjaaDoor.Cur
attribute [local go_sem high] eqA55
attribute [local go_sem] max2_i min2_i max_two min_two

abbrev kSt : Kd (Int × Int) := Kd.pair (Kd.int .i64) (Kd.int .i64)
theorem at_step {w : World} {A : Option Addr} {n : Nat} {xs : List (Int × Int)} (h : Kd.C kSt w A n xs) (i : Int) (h0 : 0 ≤ i) (h1 : i < n) : ∃ ad, A = some ad ∧ w.cell? (ad.add (i.toNat * 2)) = some (.int .i64 (xs.getD i.toNat (0, 0)).1) ∧ w.cell? ⟨(ad.add (i.toNat * 2)).block, (ad.add (i.toNat * 2)).off + 1, none⟩ = some (.int .i64 (xs.getD i.toNat (0, 0)).2) := by
  obtain ⟨ad, c, e, hl, hK, hc⟩ := Kd.C_get h (0, 0) i h0 h1
  obtain ⟨c0, c1, rfl, h2, h3⟩ := hK
  obtain rfl : c0 = [.int .i64 (xs.getD i.toNat (0, 0)).1] := h2
  obtain rfl : c1 = [.int .i64 (xs.getD i.toNat (0, 0)).2] := h3
  refine ⟨ad, e, hc 0 _ rfl, ?_⟩
  have h4 := hc 1 _ rfl
  rwa [add_field _ _ 1 (by decide)] at h4
theorem cu_lower {w : World} {B B' c : Nat} {ok : Nat → Prop} {v : Value} {l : List S55} {i : Nat} (h : Cu w B c ok v l i) (hb : B' ≤ B) : Cu w B' c ok v l i := ⟨h.blk, Kd.R_lower h.row hb, h.le, h.max⟩
/-- Another cursor's block has turned. -/
theorem cu_other {w w1 : World} {B c m : Nat} {ok : Nat → Prop} {v : Value} {l : List S55} {i : Nat} {cs : Array Value} (h : Cu w B c ok v l i) (hm : w.heap[m]? = some (.cells cs 71 (0, 0))) (hn : c ≠ m) (hF : Fr (fun k => k = m) w w1) : Cu w1 B c ok v l i := by
  refine ⟨hF.blk h.blk hn, Kd.R_mono (hF.R (Kd.R_bound h.row) ?_) (fun k hk => hk.1), h.le, h.max⟩
  rintro k ⟨_, _, _, q, hq, cells, hk⟩ rfl
  rw [hm] at hk
  injection hk with hk
  injection hk with _ hk _
  exact tok_ne_cursor q hq hk.symm
theorem mod4 (k : Int) : (wrap64 (k.tmod 4 + 4)).tmod 4 = 0 ∨ (wrap64 (k.tmod 4 + 4)).tmod 4 = 1 ∨ (wrap64 (k.tmod 4 + 4)).tmod 4 = 2 ∨ (wrap64 (k.tmod 4 + 4)).tmod 4 = 3 := by
  have h1 := Int.tmod_lt_of_pos k (show (0 : Int) < 4 by decide)
  have h2 := Int.lt_tmod_of_pos k (show (0 : Int) < 4 by decide)
  have h3 : wrap64 (k.tmod 4 + 4) = k.tmod 4 + 4 := by simp only [wrap64]; omega
  rw [h3]
  generalize k.tmod 4 = r at *
  rw [Int.tmod_eq_emod_of_nonneg (by omega)]
  omega
set_option maxHeartbeats 8000000 in
set_option maxRecDepth 100000 in
theorem cursors_calls (w : World) (l : List S55) (hl : l.length ≤ MaxT) (A : Option Addr) (c : Nat) (hc : l.length ≤ c) (hC : Kd.C k55 w A l.length l) (st : List (Int × Int)) (A1 : Option Addr) (c1 : Nat) (hS : Kd.C kSt w A1 st.length st) (hst : st.length ≤ 9223372036854775806) (hb : ∀ x, x ∈ st → (-9223372036854775808 ≤ x.1 ∧ x.1 ≤ 9223372036854775807) ∧ (-9223372036854775808 ≤ x.2 ∧ x.2 ≤ 9223372036854775807)) (hm : Mx w) :
    Calls Tryd.prog 9 #[.slice A l.length c, .slice A1 st.length c1] w fun e w' => e = .returned (.bool true) ∧ Below w.heap.size w w' := by
  have hM : MaxT = 5864062014634 := rfl
  go_enter Tryd.func9, Tryd.ntmps9
  have HC := Aside0.mk hC
  have HST := Aside0.mk hS
  have HB := Aside0.mk hb
  have HM := Aside0.mk hm
  clear hC hS hb hm
  go_wp2_with (fail)
  refine (new_calls w l hl A c HC.out).mono ?_
  rintro e W1 ⟨q, vq, rfl, hq, hCu, hF⟩
  have HF1 := Aside0.mk hF
  have HQ1 := Aside0.mk hCu
  clear hF hCu
  go_wp2_with (fail)
  refine (alive_calls W1 (HM.out.fr HF1.out (fun _ _ => id))).mono ?_
  rintro e W2 ⟨rfl, hF⟩
  have HF2 := Aside0.mk (HF1.out.trans hF (fun _ _ h => h))
  have HQ2 := Aside0.mk (show ∃ ok v, Cu W2 w.heap.size q ok v l 0 from ⟨_, _, HQ1.out.fr hF id (fun _ _ => id)⟩)
  clear hF HF1 HQ1
  go_wp2_with (fail)
  go_loopw [22, 6, 5] (fun a b d W => ∃ i j q : Nat, a = .int .i64 i ∧ b = .int .i64 j ∧ d = .pointer (some ⟨q, 0, none⟩) ∧ i ≤ st.length ∧ j ≤ l.length ∧ w.heap.size ≤ q ∧ Aside0 (∃ ok v, Cu W w.heap.size q ok v l j) ∧ Aside0 (Fr (fun _ => False) w W)) (fun a _ _ _ => st.length - (intOf a).toNat)
  case atStart => exact ⟨0, 0, q, rfl, rfl, rfl, Nat.zero_le _, Nat.zero_le _, hq, HQ2, HF2⟩
  case round =>
    clear HQ2 HF2
    clear hq
    obtain ⟨i, j, q, rfl, rfl, rfl, hi, hj, hq, HQ, HF⟩ := hrel
    by_cases hlt : i < st.length
    · obtain ⟨sad, rfl, hs0, hs1⟩ := at_step HST.out (i : Int) (by omega) (by omega)
      have HBI := Aside0.mk (HB.out (st.getD i (0, 0)) (by rw [List.getD_eq_getElem?_getD, List.getElem?_eq_getElem hlt]; exact List.getElem_mem hlt))
      replace hs0 := HF.out.cell hs0 id
      replace hs1 := HF.out.cell hs1 id
      simp only [Int.toNat_natCast] at hs0 hs1
      generalize st.getD i (0, 0) = x at hs0 hs1 HBI
      obtain ⟨k, n⟩ := x
      go_upto_region 8 with fail
      have HF1 := Aside0.mk (HF.out.alloc (.cells #[.int .i64 k, .int .i64 n] 65))
      have HQ1 := Aside0.mk (show ∃ ok v, Cu (wr.alloc (.cells #[.int .i64 k, .int .i64 n] 65)) w.heap.size q ok v l j from by obtain ⟨ok, v, h⟩ := HQ.out; exact ⟨ok, v, h.fr ((Fr.refl (fun _ => False) wr).alloc _) id (fun _ _ => id)⟩)
      have HK1 := Aside0.mk (blk_new wr (.cells #[.int .i64 k, .int .i64 n] 65))
      obtain ⟨W3, hW3⟩ : ∃ W3, wr.alloc (.cells #[.int .i64 k, .int .i64 n] 65) = W3 := ⟨_, rfl⟩
      obtain ⟨sb, hsb⟩ : ∃ sb, wr.heap.size = sb := ⟨_, rfl⟩
      simp only [hW3, hsb] at HF1 HQ1 HK1 ⊢
      clear hs0 hs1 HF HQ hW3 hsb
      have hs3 := HF1.out.size
      have HF4 := Aside0.mk ((Fr.refl (fun _ => False) W3).alloc (.cells #[.int .i64 0, .int .i64 0, .int .i64 0] 55))
      have HT4 := Aside0.mk (blk_new W3 (.cells #[.int .i64 0, .int .i64 0, .int .i64 0] 55))
      go_upto_if 29 with (fail)
      obtain ⟨W4, hW4⟩ : ∃ W4, W3.alloc (.cells #[.int .i64 0, .int .i64 0, .int .i64 0] 55) = W4 := ⟨_, rfl⟩
      obtain ⟨tb, htb⟩ : ∃ tb, W3.heap.size = tb := ⟨_, rfl⟩
      simp only [hW4, htb] at HF4 HT4 ⊢
      clear hW4
      have HC4 := Aside0.mk (Kd.C_below HC.out (HF1.out.trans HF4.out (fun _ _ h => h)).to_below)
      go_cut [29] from 30 to 44 (fun _ wx => Aside0 (wx.heap[tb]? = some (.cells #[.int .i64 0, .int .i64 (lastTo l), .int .i64 (lastTo l)] 55 (0, 0))) ∧ Aside0 (Fr (fun _ => False) W3 wx))
      case first =>
        by_cases hz : l.length = 0
        · have HL := Aside0.mk (show lastTo l = 0 by unfold lastTo; rw [if_pos hz])
          have hz0 : ¬ 0 < l.length := by omega
          clear hz
          go_wp2_with (fail)
          go_meet
          exact ⟨by rw [HL.out]; exact HT4, HF4⟩
        · obtain ⟨y, hy⟩ : ∃ y, l.length = y + 1 := ⟨l.length - 1, by omega⟩
          obtain ⟨ad, rfl, hx0, hx1, hx2⟩ := at_T55 HC4.out (y : Int) (by omega) (by omega)
          simp only [Int.toNat_natCast] at hx2
          have HL := Aside0.mk (show lastTo l = (rd_T55 l y).f2 by unfold lastTo; rw [if_neg hz, hy]; rfl)
          generalize (rd_T55 l y).f2 = t2 at hx2 HL
          clear hx0 hx1 hz
          have k0 : (0 : Int) < (l.length : Int) := by omega
          have k1 : (y : Int) < (l.length : Int) := by omega
          have k2 : (0 : Int) ≤ (y : Int) := by omega
          have k3 : IntKind.i64.wrap ((l.length : Int) - 1) = (y : Int) := (IntWalk.i64_in _ (by omega)).trans (by omega)
          have k4 : ((y : Int)).toNat = y := by omega
          have k5 : 0 < l.length := by omega
          clear hy
          go_wp2_with (fail)
          go_still_tail 15, (by kernel_rfl)
          change wpList _ _ _ _ _ W4.drew
          obtain ⟨W5, hW5⟩ : ∃ W5, W4.drew = W5 := ⟨_, rfl⟩
          have HF5 := Aside0.mk (show Fr (fun _ => False) W3 W5 from by rw [← hW5]; exact HF4.out.drew)
          have HT5 := Aside0.mk (show W5.heap[tb]? = some (.cells #[.int .i64 0, .int .i64 0, .int .i64 0] 55 (0, 0)) from by rw [← hW5]; exact HT4.out)
          rw [hW5]
          clear hW5 hx2
          have ht0 : W5.cell? ⟨tb, 0, none⟩ = some (.int .i64 0) := (blk_cell HT5.out 0).trans rfl
          have ht1 : W5.cell? ⟨tb, 1, none⟩ = some (.int .i64 0) := (blk_cell HT5.out 1).trans rfl
          have ht2 : W5.cell? ⟨tb, 2, none⟩ = some (.int .i64 0) := (blk_cell HT5.out 2).trans rfl
          have hf0 := blk_frozen HT5.out 0
          have hf1 := blk_frozen HT5.out 1
          have hf2 := blk_frozen HT5.out 2
          go_wp2_with (fail)
          go_meet
          exact ⟨⟨by rw [HL.out]; exact put3 HT5.out _ _ _⟩, ⟨fr3 HF5.out (by omega) _ _ _⟩⟩
      case rest =>
        obtain ⟨HT5, HF5⟩ := hcut
        clear HT4 HF4 HC4
        go_upto_if 48 with (fail)
        go_cut [48] from 49 to 52 (fun _ wx => Aside0 (wx.heap[tb]? = some (.cells #[.int .i64 (pk l j).f0, .int .i64 (pk l j).f1, .int .i64 (pk l j).f2] 55 (0, 0))) ∧ Aside0 (Fr (fun _ => False) W3 wx))
        case first =>
          by_cases hjl : j < l.length
          · obtain ⟨ad, rfl, hx0, hx1, hx2⟩ := at_T55 HC.out (j : Int) (by omega) (by omega)
            have HF6 := Aside0.mk (HF1.out.trans HF5.out (fun _ _ h => h))
            replace hx0 := HF6.out.cell hx0 id
            replace hx1 := HF6.out.cell hx1 id
            replace hx2 := HF6.out.cell hx2 id
            simp only [Int.toNat_natCast] at hx0 hx1 hx2
            have HL := Aside0.mk (pk_lt hjl)
            generalize rd_T55 l j = t at hx0 hx1 hx2 HL
            have ht0 : wc.cell? ⟨tb, 0, none⟩ = some (.int .i64 0) := (blk_cell HT5.out 0).trans rfl
            have ht1 : wc.cell? ⟨tb, 1, none⟩ = some (.int .i64 (lastTo l)) := (blk_cell HT5.out 1).trans rfl
            have ht2 : wc.cell? ⟨tb, 2, none⟩ = some (.int .i64 (lastTo l)) := (blk_cell HT5.out 2).trans rfl
            have hf0 := blk_frozen HT5.out 0
            have hf1 := blk_frozen HT5.out 1
            have hf2 := blk_frozen HT5.out 2
            go_wp2_with (fail)
            go_meet
            exact ⟨⟨by rw [HL.out]; exact put3 HT5.out _ _ _⟩, ⟨fr3 HF5.out (by omega) _ _ _⟩⟩
          · have HL := Aside0.mk (show pk l j = ⟨0, lastTo l, lastTo l⟩ by unfold pk; rw [if_neg hjl])
            go_wp2_with (fail)
            go_meet
            exact ⟨⟨by rw [HL.out]; exact HT5.out⟩, HF5⟩
        case rest =>
          obtain ⟨HT6, HF6⟩ := hcut
          clear HT5 HF5
          have HF7 := Aside0.mk (HF1.out.trans HF6.out (fun _ _ h => h))
          have HK7 := Aside0.mk (HF6.out.blk HK1.out id)
          have HQ7 := Aside0.mk (show ∃ ok v, Cu wc w.heap.size q ok v l j from by obtain ⟨ok, v, h⟩ := HQ1.out; exact ⟨ok, v, h.fr HF6.out id (fun _ _ => id)⟩)
          have hk0 : wc.cell? ⟨sb, 0, none⟩ = some (.int .i64 k) := (blk_cell HK7.out 0).trans rfl
          have hk1 : wc.cell? ⟨sb, 1, none⟩ = some (.int .i64 n) := (blk_cell HK7.out 1).trans rfl
          go_upto_block 2 with (fail)
          go_cut [5, 6] from 53 to 126 (fun d b wx => ∃ j q : Nat, b = .int .i64 j ∧ d = .pointer (some ⟨q, 0, none⟩) ∧ j ≤ l.length ∧ w.heap.size ≤ q ∧ Aside0 (∃ ok v, Cu wx w.heap.size q ok v l j) ∧ Aside0 (Fr (fun _ => False) w wx))
          case first =>
            have hm4 := mod4 k
            generalize (wrap64 (k.tmod 4 + 4)).tmod 4 = m at hm4 ⊢
            have ht0 := (blk_cell HT6.out 0).trans (show _ = some (Value.int .i64 (pk l j).f0) from rfl)
            have ht1 := (blk_cell HT6.out 1).trans (show _ = some (Value.int .i64 (pk l j).f1) from rfl)
            have ht2 := (blk_cell HT6.out 2).trans (show _ = some (Value.int .i64 (pk l j).f2) from rfl)
            generalize hx : pk l j = x at ht0 ht1 ht2
            have HX := Aside0.mk hx
            clear hx
            obtain ⟨x0, x1, x2⟩ := x
            obtain ⟨ok7, v7, h7⟩ := HQ7.out
            have H7 := Aside0.mk h7
            clear h7
            have hqtb : ¬ q = tb := by
              obtain ⟨ok, v, h⟩ := HQ1.out
              have := blk_lt h.blk
              omega
            have hqsb : ¬ sb = q := by
              intro h
              subst h
              have h1 := H7.out.blk
              rw [HK7.out] at h1
              injection h1 with h1
              injection h1 with _ h1 _
              exact absurd h1 (by decide)
            have hqw : ∀ k, k < w.heap.size → k = q → False := by omega
            rcases hm4 with rfl | rfl | rfl | rfl
            · go_wp2_with (fail)
              refine wp_region_last_drew (S := fun w' => w'.cell? ⟨tb, 0, none⟩ = some (.int .i64 x0) ∧ w'.cell? ⟨tb, 1, none⟩ = some (.int .i64 x1) ∧ w'.cell? ⟨tb, 2, none⟩ = some (.int .i64 x2)) (ds := []) (by kernel_rfl) ⟨ht0, ht1, ht2⟩ (fun hHeld => ?_)
              refine tk 0 ?_
              refine tk 2 ?_
              refine on 1 (fun K hK => ?_)
              go_simp
              refine (peek_calls _ _ q _ v7 l j (H7.out.fr ((Fr.refl (fun _ => False) wc).drew) id (fun _ _ => id))).mono ?_
              rintro e W8 ⟨rfl, hF⟩
              rw [HX.out]
              unfold tv
              have hF8 := (Fr.refl (fun _ => False) wc).drew.trans hF (fun _ _ h => h)
              have HF8 := Aside0.mk (HF7.out.trans hF8 (fun _ _ h => h))
              have HQ8 := Aside0.mk (H7.out.fr hF8 id (fun _ _ => id))
              refine hK.out _ _ ⟨hF8.cell ht0 id, hF8.cell ht1 id, hF8.cell ht2 id⟩ (fun hHeld => ?_)
              clear hK K hF hF8
              try simp only [Act.put, List.setIfInBounds_toArray, List.set_cons_zero, List.set_cons_succ]
              refine tk (v := .bool false) 3 ?_
              refine dn ?_
              go_wp2_with (fail)
              go_meet
              exact ⟨j, q, rfl, rfl, hj, hq, ⟨_, _, HQ8.out⟩, HF8⟩
            · go_wp2_with (fail)
              refine wp_region_last_drew (S := fun w' => w'.cell? ⟨tb, 0, none⟩ = some (.int .i64 x0) ∧ w'.cell? ⟨tb, 1, none⟩ = some (.int .i64 x1) ∧ w'.cell? ⟨tb, 2, none⟩ = some (.int .i64 x2)) (ds := []) (by kernel_rfl) ⟨ht0, ht1, ht2⟩ (fun hHeld => ?_)
              refine tk 0 ?_
              refine tk 2 ?_
              refine on 1 (fun K hK => ?_)
              go_simp
              refine (next_calls _ _ q _ v7 l j (H7.out.fr ((Fr.refl (fun _ => False) wc).drew) id (fun _ _ => id))).mono ?_
              rintro e W8 ⟨rfl, hQ, hF⟩
              rw [HX.out]
              unfold tv
              have hF8 := ((Fr.refl (fun _ => False) wc).drew.mono (T := fun k => k = q) (fun _ h => h.elim)).trans hF (fun _ _ h => h)
              have HF8 := Aside0.mk (HF7.out.trans hF8 (fun k hk h => hqw k hk h))
              have HQ8 := Aside0.mk hQ
              refine hK.out _ _ ⟨hF8.cell ht0 (fun h => hqtb h.symm), hF8.cell ht1 (fun h => hqtb h.symm), hF8.cell ht2 (fun h => hqtb h.symm)⟩ (fun hHeld => ?_)
              clear hK K hF hF8 hQ
              try simp only [Act.put, List.setIfInBounds_toArray, List.set_cons_zero, List.set_cons_succ]
              refine tk (v := .bool false) 3 ?_
              refine dn ?_
              go_wp2_with (fail)
              go_meet
              refine ⟨nxt l j, q, ?_, rfl, ?_, hq, ⟨_, _, HQ8.out⟩, HF8⟩
              · congr 1
                unfold nxt
                split <;> omega
              · unfold nxt
                split <;> omega
            · by_cases hbk : 0 ≤ n ∧ n ≤ (j : Int)
              · have HBK := Aside0.mk hbk
                obtain ⟨b1, b2⟩ := hbk
                have HN := Aside0.mk HBI.out.2
                go_wp2_with (fail)
                refine (back_calls _ _ q _ v7 l j H7.out n HN.out.1 HN.out.2).mono ?_
                rintro e W8 ⟨rfl, hQ, hF⟩
                rw [if_pos HBK.out] at hQ
                rw [decide_eq_true HBK.out]
                have HF8 := Aside0.mk (HF7.out.trans hF (fun k hk h => hqw k hk h))
                have HQ8 := Aside0.mk hQ
                have hk2 := hF.cell hk1 hqsb
                clear hQ hF
                go_wp2_with (fail)
                go_meet
                refine ⟨j - n.toNat, q, ?_, rfl, by omega, hq, ⟨_, _, HQ8.out⟩, HF8⟩
                congr 1
                omega
              · have HBK := Aside0.mk hbk
                clear hbk
                by_cases b1 : n < 0
                · have HN := Aside0.mk HBI.out.2
                  go_wp2_with (fail)
                  refine (back_calls _ _ q _ v7 l j H7.out n HN.out.1 HN.out.2).mono ?_
                  rintro e W8 ⟨rfl, hQ, hF⟩
                  rw [if_neg HBK.out] at hQ
                  rw [decide_eq_false HBK.out]
                  have HF8 := Aside0.mk (HF7.out.trans hF (fun k hk h => hqw k hk h))
                  have HQ8 := Aside0.mk hQ
                  clear hQ hF
                  go_wp2_with (fail)
                  go_meet
                  exact ⟨j, q, rfl, rfl, hj, hq, ⟨_, _, HQ8.out⟩, HF8⟩
                · have b2 : (j : Int) < n := by have := HBK.out; omega
                  have HN := Aside0.mk HBI.out.2
                  go_wp2_with (fail)
                  refine (back_calls _ _ q _ v7 l j H7.out n HN.out.1 HN.out.2).mono ?_
                  rintro e W8 ⟨rfl, hQ, hF⟩
                  rw [if_neg HBK.out] at hQ
                  rw [decide_eq_false HBK.out]
                  have HF8 := Aside0.mk (HF7.out.trans hF (fun k hk h => hqw k hk h))
                  have HQ8 := Aside0.mk hQ
                  clear hQ hF
                  go_wp2_with (fail)
                  go_meet
                  exact ⟨j, q, rfl, rfl, hj, hq, ⟨_, _, HQ8.out⟩, HF8⟩
            · go_wp2_with (fail)
              refine (mark_calls wc _ q _ v7 l j H7.out).mono ?_
              rintro e W8 ⟨m, vm, rfl, hm, hQ, hF⟩
              have HF8 := Aside0.mk (HF7.out.trans hF (fun _ _ h => h))
              have HM8 := Aside0.mk (cu_lower hQ (Nat.le_trans (show w.heap.size ≤ W3.heap.size from hs3) HF6.out.size))
              have HQ8 := Aside0.mk (H7.out.fr hF id (fun _ _ => id))
              have hk2 := hF.cell hk1 id
              have hqm : q ≠ m := by
                have := blk_lt H7.out.blk
                omega
              have hwm : w.heap.size ≤ m := by have := HF7.out.size; omega
              have hsm : ¬ sb = m := by
                have := blk_lt HK7.out
                omega
              clear hF hQ hm
              go_wp2_with (fail)
              refine (at_calls W8 _ m _ vm l j HM8.out).mono ?_
              rintro e W9 ⟨rfl, hF⟩
              have HF9 := Aside0.mk (HF8.out.trans hF (fun _ _ h => h))
              have HM9 := Aside0.mk (HM8.out.fr hF id (fun _ _ => id))
              have HQ9 := Aside0.mk (HQ8.out.fr hF id (fun _ _ => id))
              replace hk2 := hF.cell hk2 id
              clear hF HF8 HM8 HQ8
              go_wp2_with (fail)
              refine (left_calls W9 _ m _ vm l j HM9.out).mono ?_
              rintro e W10 ⟨rfl, hF⟩
              have HF10 := Aside0.mk (HF9.out.trans hF (fun _ _ h => h))
              have HM10 := Aside0.mk (HM9.out.fr hF id (fun _ _ => id))
              have HQ10 := Aside0.mk (HQ9.out.fr hF id (fun _ _ => id))
              replace hk2 := hF.cell hk2 id
              clear hF HF9 HM9 HQ9
              go_wp2_with (fail)
              · refine (next_calls W10 _ q _ v7 l j HQ10.out).mono ?_
                rintro e W11 ⟨rfl, hQ, hF⟩
                have HF11 := Aside0.mk (HF10.out.trans hF (fun k hk h => hqw k hk h))
                have HM11 := Aside0.mk (cu_other HM10.out HQ10.out.blk (Ne.symm hqm) hF)
                clear hF hQ
                go_wp2_with (fail)
                go_meet
                exact ⟨j, m, rfl, rfl, hj, hwm, ⟨_, _, HM11.out⟩, HF11⟩
              · refine (next_calls W10 _ m _ vm l j HM10.out).mono ?_
                rintro e W11 ⟨rfl, hQ, hF⟩
                have HF11 := Aside0.mk (HF10.out.trans hF (fun k hk h => absurd h (by omega)))
                have HQ11 := Aside0.mk (cu_other HQ10.out HM10.out.blk hqm hF)
                clear hF hQ
                go_wp2_with (fail)
                go_meet
                exact ⟨j, q, rfl, rfl, hj, hq, ⟨_, _, HQ11.out⟩, HF11⟩
          case rest =>
            obtain ⟨j2, q2, rfl, rfl, hj2, hq2, HQ8, HF8⟩ := hcut
            clear hk0 hk1 HQ7 HF7 HK7 HT6 HF6
            obtain ⟨ok8, v8, h8⟩ := HQ8.out
            have H8 := Aside0.mk h8
            clear h8
            go_wp2_with (fail)
            refine (at_calls _ _ q2 _ v8 l j2 H8.out).mono ?_
            rintro e W9 ⟨rfl, hF⟩
            have HF9 := Aside0.mk (HF8.out.trans hF (fun _ _ h => h))
            have HQ9 := Aside0.mk (H8.out.fr hF id (fun _ _ => id))
            clear hF
            go_wp2_with (fail)
            refine (left_calls _ _ q2 _ v8 l j2 HQ9.out).mono ?_
            rintro e W10 ⟨rfl, hF⟩
            have HF10 := Aside0.mk (HF9.out.trans hF (fun _ _ h => h))
            have HQ10 := Aside0.mk (HQ9.out.fr hF id (fun _ _ => id))
            clear hF
            go_wp2_with (fail)
            exact ⟨⟨i + 1, j2, q2, by go_num, rfl, rfl, by omega, hj2, hq2, ⟨_, _, HQ10.out⟩, HF10⟩, by simp [intOf]; omega⟩
    · obtain rfl : i = st.length := by omega
      obtain ⟨ok8, v8, h8⟩ := HQ.out
      have H8 := Aside0.mk h8
      clear h8
      go_wp2_with (fail)
      refine (at_calls _ _ q _ v8 l j H8.out).mono ?_
      rintro e W9 ⟨rfl, hF⟩
      have HF9 := Aside0.mk (HF.out.trans hF (fun _ _ h => h))
      have HQ9 := Aside0.mk (H8.out.fr hF id (fun _ _ => id))
      clear hF
      go_wp2_with (fail)
      refine (left_calls _ _ q _ v8 l j HQ9.out).mono ?_
      rintro e W10 ⟨rfl, hF⟩
      have HF10 := Aside0.mk (HF9.out.trans hF (fun _ _ h => h))
      clear hF
      go_wp2_with (fail)
      go_ret
      exact ⟨rfl, HF10.out.to_below⟩
end Go.Proofs.YtagokdbpgljgjaaDoor.Tok
