/-
Whether every way to a state ends with a production's symbols: table.ends, walked.
-/
import Derived.Test.YtlpmjmanmncmnaaMAL
import Derived.Test.YtlpmjmanmncmnaaMAM
import Derived.Test.YtlpmjmanmncmnaaMAP
set_option linter.unusedSimpArgs false
set_option linter.unusedVariables false
namespace Go.Proofs.Ytlpmjmanmncmnaa.Tab
open Go.RowKit Go.Maps Go.Proofs.YtlpmjmanmncmnaaW.PrintWords Go.Proofs.YtlpmjmanmncmnaaW.PrintLast Go.Proofs.YtlpmjmanmncmnaaW.PrintMore Go.Proofs.Ytlpmjmanmncmnaa.Fr Go.Proofs.Ytlpmjmanmncmnaa.PT
open Go.Proofs.Ytlpmjmanmncmnaa.Gram (Gr GAt)
theorem at_LE {w : World} {A : Option Addr} {n : Nat} {xs : List (List S48)} (h : Kd.C kE w A n xs) (i : Int) (h0 : 0 ≤ i) (h1 : i < n) : ∃ ad A0 c0, A = some ad ∧ w.cell? (ad.add i.toNat) = some (.slice A0 (rd_L2 xs i).length c0) ∧ (rd_L2 xs i).length ≤ c0 ∧ k48.C w A0 (rd_L2 xs i).length (rd_L2 xs i) := by
  obtain ⟨ad, c, e, _, hK, hc0⟩ := Kd.C_get h ([] : List S48) i h0 h1
  have hc : ∀ j u, c[j]? = some u → w.cell? (ad.add (i.toNat * 1 + j)) = some u := hc0
  obtain ⟨A0, c0, rfl, l0, g0⟩ := hK
  exact ⟨ad, A0, c0, e, by have hq := hc 0 _ rfl; rwa [Nat.mul_one, Nat.add_zero] at hq, l0, g0⟩
/-- What stands in a call that holds a grammar and a table in boxes. -/
structure EnW (w W : World) (vp vt : Array Value) : Prop where
  fr : Fr (fun _ => False) w W
  b0 : W.heap[w.heap.size]? = some (.cells vp 72 (0, 0))
  b1 : W.heap[w.heap.size + 1]? = some (.cells vt 25 (0, 0))
theorem EnW.go {w W W1 : World} {vp vt : Array Value} (h : EnW w W vp vt) (hF : Fr (fun _ => False) W W1) : EnW w W1 vp vt := ⟨h.fr.trans hF (fun _ _ h => h), hF.blk h.b0 id, hF.blk h.b1 id⟩
theorem EnW.map {w W W1 : World} {vp vt : Array Value} {m : Nat} (h : EnW w W vp vt) (hg : W.grownBy W1 (some m)) (hm : w.heap.size + 1 < m) : EnW w W1 vp vt := by
  have hF : Fr (fun k => k = m) W W1 := ⟨hg.os, hg.tape, hg.output, hg.size, fun i hi hn => hg.block i hi (by simpa using hn)⟩
  exact ⟨h.fr.trans hF (fun k hk e => by omega), hF.blk h.b0 (by omega), hF.blk h.b1 (by omega)⟩
theorem EnW.new (w : World) (vp vt : Array Value) : EnW w ((w.alloc (.cells vp 72)).alloc (.cells vt 25)) vp vt := by
  refine ⟨((Fr.refl (fun _ => False) w).alloc _).alloc _, blk_alloc (blk_new w _) _, ?_⟩
  have h := blk_new (w.alloc (.cells vp 72)) (.cells vt 25)
  rwa [World.size_alloc] at h
theorem EnW.gt {w W : World} {vp vt : Array Value} (h : EnW w W vp vt) : w.heap.size + 1 < W.heap.size := blk_lt h.b1
set_option maxHeartbeats 8000000 in
set_option maxRecDepth 100000 in
theorem ends_calls (w : World) (T : Tb) (nk nr np : Nat) (hC : TChk T nk nr np) (B0 B1 : Option Addr) (d0 d1 : Nat) (hT : TAt w T B0 B1 d0 d1) (G : Gr) (A0 A1 A2 A3 : Option Addr) (c0 c1 c2 c3 : Nat) (hG : GAt w G A0 A1 A2 A3 c0 c1 c2 c3)
    (IN : List (List S48)) (ME : List Bool) (hE : IsEdges T nk IN ME) (I : Option Addr) (ci : Nat) (hI : Kd.C kE w I T.mv.length IN) (s p : Nat) (hs : Rc T nk s) (hp : p < G.prods.length) (hl0 : 0 ≤ (rd_T132 G.prods (p : Int)).f0) (hl1 : (rd_T132 G.prods (p : Int)).f0 < nr) :
    Calls Try.prog 64 #[.agg #[.slice A0 G.kinds.length c0, .slice A1 G.precs.length c1, .slice A2 G.rules.length c2, .slice A3 G.prods.length c3, .int .i64 G.start], .agg #[.slice B0 T.mv.length d0, .slice B1 T.gt.length d1], .slice I T.mv.length ci, .int .i64 s, .int .i64 p] w
      (BoolPost w (EndsOk T nk (rd_T132 G.prods (p : Int)).f0 (rd_T132 G.prods (p : Int)).f1.reverse (· = s))) := by
  have hu := Try.underlying72
  have hu2 := Try.underlying25
  have hmm := @run_makeMap Try.prog
  have hn1 := hC.one
  have hn2 := hC.max
  have HGL := Aside0.mk hC.len
  have hsn := hC.rc hs
  have hpm := Kd.C_max hG.prods
  obtain ⟨adg, _, _, rfl, _, _, _⟩ := at_L3 hT.gt (0 : Int) (by omega) (by have := hC.len; omega)
  obtain ⟨adi, _, _, rfl, _, _, _⟩ := at_LE hI (0 : Int) (by omega) (by omega)
  obtain ⟨adp, Ar, cr, _, _, rfl, x0, x1, _, _, _, _, _, hrl, hR, _, _⟩ := at_T132 hG.prods (p : Int) (by omega) (by omega)
  have hrm := Kd.C_max hR
  simp only [Int.toNat_natCast] at x0 x1
  have HC := Aside0.mk hC
  have HT := Aside0.mk hT
  have HG := Aside0.mk hG
  have HE := Aside0.mk hE
  have HI := Aside0.mk hI
  have HR := Aside0.mk hR
  obtain ⟨lf, hlf⟩ : ∃ lf, (rd_T132 G.prods (p : Int)).f0 = lf := ⟨_, rfl⟩
  obtain ⟨R, hRR⟩ : ∃ R, (rd_T132 G.prods (p : Int)).f1 = R := ⟨_, rfl⟩
  simp only [hlf, hRR] at x0 x1 hl0 hl1 hrl hrm HR ⊢
  clear hC hT hG hE hI hR hlf hRR
  obtain ⟨vp, hvp⟩ : ∃ vp, (#[.slice A0 G.kinds.length c0, .slice A1 G.precs.length c1, .slice A2 G.rules.length c2, .slice (some adp) G.prods.length c3, .int .i64 G.start] : Array Value) = vp := ⟨_, rfl⟩
  obtain ⟨vt, hvt⟩ : ∃ vt, (#[.slice B0 T.mv.length d0, .slice (some adg) T.gt.length d1] : Array Value) = vt := ⟨_, rfl⟩
  have HW0 := Aside0.mk (EnW.new w vp vt)
  rw [← hvp, ← hvt] at HW0
  have HVP := Aside0.mk hvp
  have HVT := Aside0.mk hvt
  clear hvp hvt
  go_enter Try.func64, Try.ntmps64
  go_upto_region 1 with (fail)
  obtain ⟨W0, hW0⟩ : ∃ W0, ((w.alloc (.cells #[.slice A0 G.kinds.length c0, .slice A1 G.precs.length c1, .slice A2 G.rules.length c2, .slice (some adp) G.prods.length c3, .int .i64 G.start] 72)).alloc (.cells #[.slice B0 T.mv.length d0, .slice (some adg) T.gt.length d1] 25)) = W0 := ⟨_, rfl⟩
  rw [hW0] at HW0
  simp only [hW0]
  clear hW0
  rw [HVP.out, HVT.out] at HW0
  obtain ⟨p0, hp0⟩ : ∃ p0, w.heap.size = p0 := ⟨_, rfl⟩
  have HP0 := Aside0.mk hp0
  simp only [hp0]
  obtain ⟨p1, hp1⟩ : ∃ p1, p0 + 1 = p1 := ⟨_, rfl⟩
  have HP1 := Aside0.mk hp1
  simp only [hp1]
  clear hp0 hp1
  have HW1 := Aside0.mk (HW0.out.go ((Fr.refl (fun _ => False) W0).alloc (.map #[] 0)))
  have HM1 := Aside0.mk (World.ownsMap_made W0 Try.prog 3 RB)
  have HBK := Aside0.mk HW0.out.gt
  have hkey : keyOf Try.prog 3 (.int .i64 (s : Int)) = some (.int .i64 (s : Int)) := keyOf_int_mk Try.underlying3 (WalkArith.wf_i64 (by omega))
  clear HW0
  go_upto_region 2 with (refine insert_own _ rfl _ _ _ rfl W0.heap.size 0 _ rfl HM1.out (by decide) _ _ rfl true rfl hkey ?_; intro W2 hD2 hg2; have HW2 := Aside0.mk (HW1.out.map hg2 HBK.out); have HD2 := Aside0.mk (World.ownsMap.mono hD2 (show 0 + 1 ≤ 4096 by decide)); clear hD2 hg2)
  have HK2 := Aside0.mk ((keys_empty T nk).put hs (.lit (.bool true)))
  have HS2 := Aside0.mk (show EndsOk T nk lf R.reverse (· = s) ↔ EndsOk T nk lf (R.take R.length).reverse (Hs ((DataW.map []).put (.int .i64 (s : Int)) (.lit (.bool true)))) from by
    rw [List.take_length]
    refine EndsOk.congr fun q => ?_
    rw [hs_put isMap_empty]
    exact ⟨.inl, fun h => h.resolve_right (hs_empty q)⟩)
  obtain ⟨b, hb⟩ : ∃ b, W0.heap.size = b := ⟨_, rfl⟩
  rw [hb] at HD2 HBK
  simp only [hb]
  obtain ⟨D, hD⟩ : ∃ D : DataW Unit, (DataW.map []).put (.int .i64 (s : Int)) (.lit (.bool true)) = D := ⟨_, rfl⟩
  rw [hD] at HD2 HK2 HS2
  clear hb hD HW1 HM1 hkey
  have k0 := (blk_cell HW2.out.b0 3).trans (show _ = some (Value.slice (some adp) G.prods.length c3) from by rw [← HVP.out]; rfl)
  rw [HP0.out] at k0
  have y0 := HW2.out.fr.cell x0 id
  have y1 := HW2.out.fr.cell x1 id
  have hpi0 : (0 : Int) ≤ (p : Int) := by omega
  have hpi1 : (p : Int) < (G.prods.length : Int) := by omega
  go_wp2_with (fail)
  have hb1 := HBK.out
  have HIV := Aside0.mk (show ((R.length : Nat) : Int) - 1 = (R.length : Nat) - 1 from rfl)
  go_loopw [11, 13] (fun a i W => ∃ (b k : Nat) (iv : Int) (D : DataW Unit), a = .map (some b) ∧ i = .int .i64 iv ∧ iv = (k : Int) - 1 ∧ k ≤ R.length ∧ w.heap.size + 1 < b ∧ Aside0 (EnW w W vp vt) ∧ Aside0 (W.ownsMap Try.prog 3 RB b 4096 D) ∧ Aside0 (Keys T nk D) ∧ Aside0 (EndsOk T nk lf R.reverse (· = s) ↔ EndsOk T nk lf (R.take k).reverse (Hs D))) (fun _ i _ => (intOf i + 1).toNat)
  case atStart => exact ⟨b, R.length, _, D, rfl, rfl, rfl, Nat.le_refl _, HBK.out, HW2, HD2, HK2, HS2⟩
  case round =>
    clear HW2 HD2 HK2 HS2 HBK hb1 HIV y0 y1 k0
    obtain ⟨b5, k, iv, D5, rfl, rfl, hiv, hk, hbg, HW, HD, HK, HS⟩ := hrel
    have hwg := HW.out.gt
    cases k with
    | zero =>
      have hneg : ¬ (0 : Int) ≤ iv := by omega
      go_wp2_with (at_range; refine wpList_range_own _ rfl _ 138 rfl 3 4 law3 Try.underlying138 RB b5 4096 D5 rfl HD.out ?_; intro w0 hrg0 hg0 hs0; have HRG0 := Aside0.mk hrg0; have HW3 := Aside0.mk (HW.out.go ((Fr.refl (fun _ => False) wr).grown hg0 (fun k hk => nomatch hk))); clear hrg0 hg0 hs0)
      generalize wr.heap.size = r at HRG0 hwg ⊢
      clear HW HD
      go_loopw [] (fun W => ∃ (left : Lit → Bool) (cnt : Nat), Aside0 (W.ranges Try.prog 3 RB b5 r 4096 D5 left cnt) ∧ Aside0 (EnW w W vp vt) ∧ Aside0 (∀ z, left z = true → Maps.has D5 z = true) ∧ Aside0 (∀ q : Nat, Hs D5 q → left (.int .i64 (q : Int)) = false → 0 ≤ rd (rd_L3 T.gt (q : Int)) lf)) (fun W => W.rangeLeft b5 r)
      case atStart => exact ⟨_, _, HRG0, HW3, ⟨fun z h => h⟩, ⟨fun q h1 h2 => absurd (h1.symm.trans h2) (by decide)⟩⟩
      case round =>
        clear HRG0 HW3
        obtain ⟨left, cnt, HRG, HW, HL, HOK⟩ := hrel
        have HM := Aside0.mk HRG.out.left_eq
        go_wp2_with (at_next; refine next_ib _ rfl _ rfl b5 r 4096 D5 left cnt rfl HRG.out ?_ ?_)
        · intro hl0
          have HEND := Aside0.mk (HS.out.2 (by rw [List.take_zero]; exact fun q hq => HOK.out q hq (hl0 _)))
          go_wp2_with (fail)
          go_ret
          exact ⟨true, rfl, ⟨fun _ => HEND.out, fun _ => rfl⟩, HW.out.fr⟩
        · intro x u w1 cnt1 hlx hwf hrg1 hlt hg1 hen
          obtain ⟨q, hxq, hq⟩ := HK.out _ (HL.out _ hlx)
          injection hxq with _ hxq
          subst hxq
          have hqn := HC.out.rc hq
          obtain ⟨_, G1, gcap, eg, hy, hlg, hGr⟩ := at_L3 HT.out.gt (q : Int) (by omega) (by have := HGL.out; omega)
          injection eg with eg
          subst eg
          have hw2 := (HC.out.wide hqn).2
          simp only [Int.toNat_natCast] at hy
          obtain ⟨ade, hade, ge⟩ := Kd.at_int hGr lf hl0 (by rw [hw2]; exact hl1)
          subst hade
          have HW4 := Aside0.mk (HW.out.map hg1 hwg)
          replace hy := HW4.out.fr.cell hy id
          replace ge := HW4.out.fr.cell ge id
          have y0 := HW4.out.fr.cell x0 id
          have k0 := (blk_cell HW4.out.b0 3).trans (show _ = some (Value.slice (some adp) G.prods.length c3) from by rw [← HVP.out]; rfl)
          have l1 := (blk_cell HW4.out.b1 1).trans (show _ = some (Value.slice (some adg) T.gt.length d1) from by rw [← HVT.out]; rfl)
          rw [HP0.out] at k0 l1
          rw [HP1.out] at l1
          have hq0 : (0 : Int) ≤ (q : Int) := by omega
          have hq1 : (q : Int) < (T.gt.length : Int) := by have := HGL.out; omega
          have HRG1 := Aside0.mk hrg1
          have HLX := Aside0.mk (HL.out _ hlx)
          have HLT := Aside0.mk hlt
          have HHQ := Aside0.mk (show Hs D5 q from HL.out _ hlx)
          obtain ⟨y, hyy⟩ : ∃ y, rd (rd_L3 T.gt (q : Int)) lf = y := ⟨_, rfl⟩
          have HYY := Aside0.mk hyy
          rw [hyy] at ge
          rw [hw2] at hy hlg
          clear hrg1 HRG HW hlt hg1 hGr hyy hlx hw2
          by_cases hyn : y < 0
          · go_wp2_with (fail)
            go_quiet (fail)
            go_wp2_with (fail)
            go_ret
            exact ⟨false, rfl, ⟨fun h => (by cases h), fun h => by
              have h1 := HS.out.1 h
              rw [List.take_zero] at h1
              have h2 := h1 q HHQ.out
              rw [HYY.out] at h2
              omega⟩, HW4.out.fr.trans ((Fr.refl (fun _ => False) _).drewN _) (fun _ _ h => h)⟩
          · go_wp2_with (fail)
            go_quiet (fail)
            go_wp2_with (fail)
            have HW5 := Aside0.mk (HW4.out.go ((Fr.refl (fun _ => False) w1).drewN nq))
            have HRG5 := Aside0.mk (HRG1.out.kept (fr_grown ((Fr.refl (fun _ => False) w1).drewN nq)) (by simp) (by simp))
            have HL5 := Aside0.mk (show ∀ z, (left z && !z.sameKey (.int .i64 (q : Int))) = true → Maps.has D5 z = true from fun z hz => HL.out z (by rw [Bool.and_eq_true] at hz; exact hz.1))
            have HOK5 := Aside0.mk (show ∀ q1 : Nat, Hs D5 q1 → (left (.int .i64 (q1 : Int)) && !(Lit.int .i64 (q1 : Int)).sameKey (.int .i64 (q : Int))) = false → 0 ≤ rd (rd_L3 T.gt (q1 : Int)) lf from fun q1 h1 h2 => by
              by_cases e : q1 = q
              · rw [e, HYY.out]
                omega
              · refine HOK.out q1 h1 ?_
                have h3 : ¬ (Lit.int .i64 (q1 : Int)).sameKey (.int .i64 (q : Int)) = true := fun h => e (by have := (same_int _ _).1 h; omega)
                simpa [h3] using h2)
            exact ⟨⟨_, cnt1, HRG5, HW5, HL5, HOK5⟩, by rw [HRG5.out.left_eq, HM.out]; exact HLT.out⟩
    | succ k =>
      obtain rfl : iv = (k : Int) := by omega
      clear hiv
      have hiv0 : (0 : Int) ≤ (k : Int) := by omega
      have hkr : (k : Int) < (R.length : Int) := by omega
      obtain ⟨adr, hadr, z0⟩ := Kd.at_int HR.out (k : Int) hiv0 hkr
      subst hadr
      simp only [Int.toNat_natCast] at z0
      obtain ⟨x, hx⟩ : ∃ x, rd R (k : Int) = x := ⟨_, rfl⟩
      have HTK := Aside0.mk (show (R.take (k + 1)).reverse = x :: (R.take k).reverse from by
        rw [List.take_add_one, List.reverse_append]
        have h1 : k < R.length := by omega
        have h2 : R[k]? = some x := by
          rw [← hx]
          simp [rd, List.getD_eq_getElem?_getD, h1]
        rw [h2]
        rfl)
      rw [hx] at z0
      clear hx
      have HW6 := Aside0.mk (HW.out.go ((Fr.refl (fun _ => False) wr).alloc (.map #[] 0)))
      have HD6 := Aside0.mk (HD.out.alloc (.map #[] 0))
      have HA6 := Aside0.mk (World.ownsMap_made wr Try.prog 3 RB)
      have hbw := HD.out.lt
      clear HW HD
      go_wp2_with (at_range; refine wpList_range_own _ rfl _ 138 rfl 3 4 law3 Try.underlying138 RB b5 4096 D5 rfl HD6.out ?_; intro w0 hrg0 hg0 hs0; have HRG0 := Aside0.mk hrg0; have HW7 := Aside0.mk (HW6.out.go ((Fr.refl (fun _ => False) _).grown hg0 (fun k hk => nomatch hk))); have HA7 := Aside0.mk (HA6.out.kept hg0 (by simp)); clear hrg0 hg0 hs0)
      have hsz := World.size_alloc wr (.map #[] 0)
      rw [hsz] at HRG0
      go_frame
      simp only [hsz]
      obtain ⟨ba, hba⟩ : ∃ ba, wr.heap.size = ba := ⟨_, rfl⟩
      rw [hba] at hwg hbw HRG0 HA7
      simp only [hba]
      generalize hr : ba + 1 = r at HRG0 ⊢
      have hrg : w.heap.size + 1 < r := by omega
      have hra : ba ≠ r := by omega
      have hrb : b5 ≠ r := by omega
      have hba5 : b5 ≠ ba := by omega
      clear hba hsz HW6 HD6 HA6 hr
      have HAH := Aside0.mk (Ahd.start (T := T) (nk := nk) (IN := IN) (D := D5) (x := x))
      have hct : 0 + Maps.size D5 * 1099511627776 ≤ 4503599627370496 := by
        have := HK.out.size HC.out HRG0.out.owns
        omega
      go_loopw [] (fun W => ∃ (left : Lit → Bool) (cnt nA : Nat) (DA : DataW Unit), Aside0 (W.ranges Try.prog 3 RB b5 r 4096 D5 left cnt) ∧ Aside0 (EnW w W vp vt) ∧ Aside0 (W.ownsMap Try.prog 3 RB ba nA DA) ∧ nA + cnt * 1099511627776 ≤ 4503599627370496 ∧ Aside0 (∀ z, left z = true → Maps.has D5 z = true) ∧ Aside0 (Ahd T nk IN D5 x left DA)) (fun W => W.rangeLeft b5 r)
      case atStart => exact ⟨_, _, 0, _, HRG0, HW7, HA7, hct, ⟨fun z h => h⟩, HAH⟩
      case round =>
        clear HRG0 HW7 HA7 HAH hct
        obtain ⟨left, cnt, nA, DA, HRG, HW, HA, hct, HL, HAH⟩ := hrel
        have HM := Aside0.mk HRG.out.left_eq
        go_wp2_with (at_next; refine next_ib _ rfl _ rfl b5 r 4096 D5 left cnt rfl HRG.out ?_ ?_)
        · intro hl0
          have HS2 := Aside0.mk (show EndsOk T nk lf R.reverse (· = s) ↔ EndsOk T nk lf (R.take k).reverse (Hs DA) from by
            rw [HS.out, HTK.out]
            exact HAH.out.done hl0 HE.out HC.out HK.out)
          have HA2 := Aside0.mk ((own_tight HA.out).mono (show Maps.size DA ≤ 4096 from by have := HAH.out.key.size HC.out HA.out; omega))
          have HK2 := Aside0.mk HAH.out.key
          go_wp2_with (fail)
          exact ⟨⟨ba, k, (k : Int) - 1, DA, rfl, by go_num, rfl, by omega, by omega, HW, HA2, HK2, HS2⟩, by simp [intOf]⟩
        · intro y u w1 cnt1 hlx hwf hrg1 hlt hg1 hen
          obtain ⟨q, hxq, hq⟩ := HK.out _ (HL.out _ hlx)
          injection hxq with _ hxq
          subst hxq
          have hqn := HC.out.rc hq
          have HW4 := Aside0.mk (HW.out.map hg1 hrg)
          have HA4 := Aside0.mk (HA.out.kept hg1 (by intro e; injection e with e; exact hra e))
          have HRG1 := Aside0.mk hrg1
          have HLX := Aside0.mk hlx
          have HLT := Aside0.mk hlt
          have HHQ := Aside0.mk (show Hs D5 q from HL.out _ hlx)
          have hcnt : nA + 1099511627776 + cnt1 * 1099511627776 ≤ 4503599627370496 := by omega
          clear hrg1 HRG HW HA hlt hg1 hlx hct
          by_cases hqz : q = 0
          case pos =>
            subst hqz
            go_wp2_with (fail)
            go_ret
            exact ⟨false, rfl, ⟨fun h => (by cases h), fun h => by
              have h1 := HS.out.1 h
              rw [HTK.out] at h1
              exact absurd h1 (ends_zero HHQ.out)⟩, HW4.out.fr⟩
          case neg =>
          have HQZ := Aside0.mk hqz
          have hq0 : ¬ ((q : Int) = 0) := by omega
          have hq1 : (0 : Int) ≤ (q : Int) := by omega
          have hq2 : (q : Int) < (T.mv.length : Int) := by omega
          clear hqz
          obtain ⟨_, E1, ecap, eg, hy, hlg, hGr⟩ := at_LE HI.out (q : Int) hq1 hq2
          injection eg with eg
          subst eg
          simp only [Int.toNat_natCast] at hy
          have hrowm := HE.out.cnt q
          obtain ⟨row, hrow⟩ : ∃ row, rd_L2 IN (q : Int) = row := ⟨_, rfl⟩
          have HROW := Aside0.mk hrow
          rw [hrow] at hy hlg hGr hrowm
          have HGR := Aside0.mk hGr
          replace hy := HW4.out.fr.cell hy id
          clear hrow hGr
          have HJ := Aside0.mk (HAH.out.one q)
          have hnA : nA ≤ nA + 0 := Nat.le_refl _
          go_wp2_with (fail)
          go_loopw [49] (fun a W => ∃ (j nB : Nat) (DB : DataW Unit), a = .int .i64 j ∧ j ≤ row.length ∧ Aside0 (W.ranges Try.prog 3 RB b5 r 4096 D5 (fun z => left z && !z.sameKey (.int .i64 (q : Int))) cnt1) ∧ Aside0 (EnW w W vp vt) ∧ Aside0 (W.ownsMap Try.prog 3 RB ba nB DB) ∧ nB ≤ nA + j ∧ Aside0 (AhdJ T nk IN D5 x left q j DB)) (fun a _ => row.length - (intOf a).toNat)
          case atStart => exact ⟨0, nA, DA, rfl, Nat.zero_le _, HRG1, HW4, HA4, hnA, HJ⟩
          case round =>
            clear HRG1 HW4 HA4 hnA HJ hy HAH
            obtain ⟨j, nB, DB, rfl, hj, HRG, HW, HA, hnB, HJ⟩ := hrel
            by_cases hlt : j < row.length
            case neg =>
              obtain rfl : j = row.length := by omega
              have HAH := Aside0.mk (HJ.out.done (by rw [HROW.out]) HHQ.out HQZ.out)
              have HL5 := Aside0.mk (show ∀ z, (left z && !z.sameKey (.int .i64 (q : Int))) = true → Maps.has D5 z = true from fun z hz => HL.out z (by rw [Bool.and_eq_true] at hz; exact hz.1))
              have hct : nB + cnt1 * 1099511627776 ≤ 4503599627370496 := by omega
              go_wp2_with (fail)
              exact ⟨⟨_, cnt1, nB, DB, HRG, HW, HA, hct, HL5, HAH⟩, by rw [HRG.out.left_eq, HM.out]; exact HLT.out⟩
            case pos =>
            obtain ⟨ade, hade, e0, e1⟩ := at_T48 HGR.out (j : Int) (by omega) (by omega)
            subst hade
            obtain ⟨ee, hee⟩ : ∃ e, rd_T48 row (j : Int) = e := ⟨_, rfl⟩
            have HEE := Aside0.mk hee
            simp only [Int.toNat_natCast, hee] at e0 e1
            have HIN := Aside0.mk (show ee ∈ rd_L2 IN (q : Int) from by rw [HROW.out, ← hee]; exact in_T48 hlt)
            clear hee
            have hed := (HE.out.ins q hqn ee).1 HIN.out
            obtain ⟨fr, sy⟩ := ee
            simp only at e0 e1 hed
            obtain ⟨a, rfl⟩ := Int.eq_ofNat_of_zero_le hed.1
            have HRA := Aside0.mk (show Rc T nk a from by have := hed.2.1; rwa [Int.toNat_natCast] at this)
            have han := HC.out.rc HRA.out
            clear hed
            replace e0 := HW.out.fr.cell e0 id
            replace e1 := HW.out.fr.cell e1 id
            go_upto_region 15 with (fail)
            have HRG5 := Aside0.mk (HRG.out.alloc (.cells #[.int .i64 a, .int .i64 sy] 136))
            have HA5 := Aside0.mk (HA.out.alloc (.cells #[.int .i64 a, .int .i64 sy] 136))
            have HW5 := Aside0.mk (HW.out.go ((Fr.refl (fun _ => False) wr).alloc (.cells #[.int .i64 a, .int .i64 sy] 136)))
            have HX5 := Aside0.mk (blk_new wr (.cells #[.int .i64 a, .int .i64 sy] 136))
            obtain ⟨W5, hW5⟩ : ∃ W, wr.alloc (.cells #[.int .i64 a, .int .i64 sy] 136) = W := ⟨_, rfl⟩
            obtain ⟨be, hbe⟩ : ∃ b, wr.heap.size = b := ⟨_, rfl⟩
            rw [hW5] at HRG5 HA5 HW5 HX5
            rw [hbe] at HX5
            simp only [hW5, hbe]
            have hbeg : w.heap.size + 1 < be := by have := HW.out.gt; omega
            have hbea : be ≠ ba := by have := HA.out.lt; omega
            clear hW5 hbe HRG HA HW e0 e1
            have u0 := (blk_cell HX5.out 0).trans (show _ = some (Value.int .i64 a) from rfl)
            have u1 := (blk_cell HX5.out 1).trans (show _ = some (Value.int .i64 sy) from rfl)
            have z1 := HW5.out.fr.cell z0 id
            by_cases hsy : sy = x
            case neg =>
              have hsb : (sy != x) = true := bne_iff_ne.2 hsy
              have HSY := Aside0.mk hsy
              clear hsy
              go_quiet (fail)
              go_wp2_with (fail)
              go_ret
              exact ⟨false, rfl, ⟨fun h => (by cases h), fun h => by
                have h1 := HS.out.1 h
                rw [HTK.out] at h1
                exact absurd h1 (ends_not HE.out HHQ.out hqn HIN.out HSY.out)⟩, HW5.out.fr.trans ((Fr.refl (fun _ => False) _).drewN _) (fun _ _ h => h)⟩
            case pos =>
            subst hsy
            have hsb : (sy != sy) = false := bne_self_eq_false sy
            have HJ2 := Aside0.mk (HJ.out.step HA5.out.isMap (by rw [HROW.out, HEE.out]) (by rw [HROW.out, HEE.out]) HRA.out (.lit (.bool true)))
            have hkey : keyOf Try.prog 3 (.int .i64 (a : Int)) = some (.int .i64 (a : Int)) := keyOf_int_mk Try.underlying3 (WalkArith.wf_i64 (by omega))
            go_quiet (fail)
            have HW6 := Aside0.mk (HW5.out.go ((Fr.refl (fun _ => False) W5).drewN nq))
            have HRG6 := Aside0.mk (HRG5.out.kept (fr_grown ((Fr.refl (fun _ => False) W5).drewN nq)) (by simp) (by simp))
            have HA6 := Aside0.mk (HA5.out.kept (fr_grown ((Fr.refl (fun _ => False) W5).drewN nq)) (by simp))
            clear HW5 HRG5 HA5 z1
            go_wp2_with (at_mapUpdate; refine wpList_mapUpdate_own _ rfl _ _ _ 138 rfl 3 4 law3 Try.underlying138 RB ba nB DB rfl HA6.out (by unfold maxLen; omega) _ _ _ rfl rfl hkey _ [] (plainElem_bool Try.underlying4 true) ?_; intro w2 hD2 hg2; have HA7 := Aside0.mk hD2; have HW7 := Aside0.mk (HW6.out.map hg2 (by omega)); have HRG7 := Aside0.mk (HRG6.out.kept hg2 (by intro e; injection e with e; exact hba5 e) (by intro e; injection e with e; exact hra e.symm)); clear hD2 hg2)
            exact ⟨⟨j + 1, nB + 1, _, by go_num, by omega, HRG7, HW7, HA7, by omega, HJ2⟩, by simp [intOf]; omega⟩
end Go.Proofs.Ytlpmjmanmncmnaa.Tab
/-
Whether every way to a state ends with a row of symbols: the reference's way, walked.
-/
set_option linter.unusedSimpArgs false
set_option linter.unusedVariables false
namespace Go.Proofs.Ytlpmjmanmncmnaa.Tab
open Go.RowKit Go.Maps Go.Proofs.YtlpmjmanmncmnaaW.PrintWords Go.Proofs.YtlpmjmanmncmnaaW.PrintLast Go.Proofs.YtlpmjmanmncmnaaW.PrintMore Go.Proofs.Ytlpmjmanmncmnaa.Fr Go.Proofs.Ytlpmjmanmncmnaa.PT
open Go.Proofs.Ytlpmjmanmncmnaa.Gram (Gr GAt)
/-- What the reference's edges say. -/
structure IsWays (T : Tb) (nk : Nat) (EL : List S115) : Prop where
  ins : ∀ x : S115, x ∈ EL ↔ 0 ≤ x.f0 ∧ 0 ≤ x.f2 ∧ Rc T nk x.f0.toNat ∧ IsEd T nk x.f0.toNat x.f1 x.f2.toNat
theorem mem_T115 {l : List S115} {e : S115} (h : e ∈ l) : ∃ i : Nat, i < l.length ∧ rd_T115 l (i : Int) = e := by
  obtain ⟨i, hi, e⟩ := List.mem_iff_getElem.1 h
  exact ⟨i, hi, by simp [rd_T115, List.getD_eq_getElem?_getD, hi, e]⟩
theorem in_T115 {l : List S115} {i : Nat} (h : i < l.length) : rd_T115 l (i : Int) ∈ l := by
  simp [rd_T115, List.getD_eq_getElem?_getD, h]
/-- The states ahead, by the first k edges. -/
structure NxOk (n : Nat) (EL : List S115) (AT : List Bool) (x : Int) (k : Nat) (NX : List Bool) : Prop where
  len : NX.length = n
  ins : ∀ p : Nat, rdOf false NX (p : Int) = true ↔ ∃ i : Nat, i < k ∧ rdOf false AT (rd_T115 EL (i : Int)).f2 = true ∧ (rd_T115 EL (i : Int)).f0 = p
  ok : ∀ i : Nat, i < k → rdOf false AT (rd_T115 EL (i : Int)).f2 = true → (rd_T115 EL (i : Int)).f1 = x
section
variable {T : Tb} {nk n k : Nat} {EL : List S115} {AT NX : List Bool} {x : Int} {g : Int} {r : List Int}
theorem rdOf_no (n : Nat) (p : Int) : rdOf false (List.replicate n false) p = false := by
  simp only [rdOf, List.getD_eq_getElem?_getD, List.getElem?_replicate]
  split <;> rfl
theorem NxOk.start : NxOk n EL AT x 0 (List.replicate n false) :=
  ⟨by simp, fun p => by rw [rdOf_no]; exact ⟨fun h => (by cases h), fun ⟨i, hi, _⟩ => by omega⟩, fun i hi => by omega⟩
theorem NxOk.skip (h : NxOk n EL AT x k NX) (h1 : rdOf false AT (rd_T115 EL (k : Int)).f2 = false) : NxOk n EL AT x (k + 1) NX := by
  refine ⟨h.len, fun p => ?_, fun i hi h2 => ?_⟩
  · rw [h.ins p]
    constructor
    · rintro ⟨i, hi, h2⟩
      exact ⟨i, by omega, h2⟩
    · rintro ⟨i, hi, h2, h3⟩
      by_cases e : i = k
      · rw [e, h1] at h2
        cases h2
      · exact ⟨i, by omega, h2, h3⟩
  · by_cases e : i = k
    · rw [e, h1] at h2
      cases h2
    · exact h.ok i (by omega) h2
theorem NxOk.step (h : NxOk n EL AT x k NX) (h1 : rdOf false AT (rd_T115 EL (k : Int)).f2 = true) (h2 : (rd_T115 EL (k : Int)).f1 = x) {a : Nat} (ha : (rd_T115 EL (k : Int)).f0 = a) (han : a < n) : NxOk n EL AT x (k + 1) (NX.set a true) := by
  refine ⟨by rw [List.length_set]; exact h.len, fun p => ?_, fun i hi h3 => ?_⟩
  · rw [rdOf_setT (by rw [h.len]; exact han)]
    constructor
    · split
      · rename_i e
        exact fun _ => ⟨k, by omega, h1, by omega⟩
      · intro h3
        obtain ⟨i, hi, h4⟩ := (h.ins p).1 h3
        exact ⟨i, by omega, h4⟩
    · rintro ⟨i, hi, h3, h4⟩
      split
      · rfl
      · rename_i e
        by_cases e2 : i = k
        · subst e2
          omega
        · exact (h.ins p).2 ⟨i, by omega, h3, h4⟩
  · by_cases e : i = k
    · rw [e]
      exact h2
    · exact h.ok i (by omega) h3
theorem NxOk.done (h : NxOk n EL AT x EL.length NX) (hW : IsWays T nk EL) (h0 : rdOf false AT (0 : Int) = false) : EndsOk T nk g (x :: r) (fun q => rdOf false AT (q : Int) = true) ↔ EndsOk T nk g r (fun q => rdOf false NX (q : Int) = true) := by
  have key : EndsOk T nk g r (fun s => ∃ q : Nat, rdOf false AT (q : Int) = true ∧ Rc T nk s ∧ ∃ y, IsEd T nk s y q) ↔ EndsOk T nk g r (fun q => rdOf false NX (q : Int) = true) := EndsOk.congr fun p => by
    rw [h.ins p]
    constructor
    · rintro ⟨q, h1, h2, y, h3⟩
      obtain ⟨i, hi, e⟩ := mem_T115 ((hW.ins ⟨p, y, q⟩).2 ⟨by simp, by simp, by simpa using h2, by simpa using h3⟩)
      exact ⟨i, hi, by rw [e]; exact h1, by rw [e]⟩
    · rintro ⟨i, hi, h1, h2⟩
      obtain ⟨h3, h4, h5, h6⟩ := (hW.ins _).1 (in_T115 hi)
      rw [h2, Int.toNat_natCast] at h5 h6
      exact ⟨(rd_T115 EL (i : Int)).f2.toNat, by rw [Int.toNat_of_nonneg h4]; exact h1, h5, _, h6⟩
  simp only [EndsOk]
  rw [key]
  constructor
  · exact fun h => h.2
  · refine fun h2 => ⟨fun q hq => ⟨fun e => ?_, fun s y hs hy => ?_⟩, h2⟩
    · subst e
      rw [show rdOf false AT ((0 : Nat) : Int) = false from h0] at hq
      cases hq
    · obtain ⟨i, hi, e⟩ := mem_T115 ((hW.ins ⟨s, y, q⟩).2 ⟨by simp, by simp, by simpa using hs, by simpa using hy⟩)
      have := h.ok i hi (by rw [e]; exact hq)
      rw [e] at this
      exact this
theorem nx_zero (h0 : rdOf false AT (0 : Int) = true) : ¬ EndsOk T nk g (x :: r) (fun q => rdOf false AT (q : Int) = true) := fun h => (h.1 0 h0).1 rfl
theorem nx_not (hW : IsWays T nk EL) {e : S115} (he : e ∈ EL) (h1 : rdOf false AT e.f2 = true) (h2 : e.f1 ≠ x) : ¬ EndsOk T nk g (x :: r) (fun q => rdOf false AT (q : Int) = true) := fun h => by
  obtain ⟨h3, h4, h5, h6⟩ := (hW.ins e).1 he
  exact h2 ((h.1 e.f2.toNat (by simp only [Int.toNat_of_nonneg h4]; exact h1)).2 _ _ h5 h6)
end
/-- The reference's ways, in memory. -/
structure WyAt (w : World) (u : Nat) (G : Gr) (T : Tb) (A0 A1 A2 A3 B0 B1 EA : Option Addr) (c0 c1 c2 c3 d0 d1 ec : Nat) (EL : List S115) (v8 : Value) : Prop where
  blk : w.heap[u]? = some (.cells #[.slice A0 G.kinds.length c0, .slice A1 G.precs.length c1, .slice A2 G.rules.length c2, .slice A3 G.prods.length c3, .int .i64 G.start, .slice B0 T.mv.length d0, .slice B1 T.gt.length d1, .slice EA EL.length ec, v8] 112 (0, 0))
  t : TAt w T B0 B1 d0 d1
  g : GAt w G A0 A1 A2 A3 c0 c1 c2 c3
  e : k115.C w EA EL.length EL
  le : EL.length ≤ ec
section
variable {w w1 : World} {u : Nat} {G : Gr} {T : Tb} {A0 A1 A2 A3 B0 B1 EA : Option Addr} {c0 c1 c2 c3 d0 d1 ec : Nat} {EL : List S115} {v8 : Value}
theorem WyAt.fr (h : WyAt w u G T A0 A1 A2 A3 B0 B1 EA c0 c1 c2 c3 d0 d1 ec EL v8) (hF : Fr (fun _ => False) w w1) : WyAt w1 u G T A0 A1 A2 A3 B0 B1 EA c0 c1 c2 c3 d0 d1 ec EL v8 :=
  ⟨hF.blk h.blk id, h.t.fr hF, h.g.go hF, Kd.C_below h.e hF.to_below, h.le⟩
theorem WyAt.cells (h : WyAt w u G T A0 A1 A2 A3 B0 B1 EA c0 c1 c2 c3 d0 d1 ec EL v8) : w.cell? ⟨u, 0, none⟩ = some (.slice A0 G.kinds.length c0) ∧ w.cell? ⟨u, 3, none⟩ = some (.slice A3 G.prods.length c3) ∧ w.cell? ⟨u, 4, none⟩ = some (.int .i64 G.start) ∧ w.cell? ⟨u, 5, none⟩ = some (.slice B0 T.mv.length d0) ∧ w.cell? ⟨u, 6, none⟩ = some (.slice B1 T.gt.length d1) ∧ w.cell? ⟨u, 7, none⟩ = some (.slice EA EL.length ec) ∧ w.cell? ⟨u, 8, none⟩ = some v8 :=
  ⟨(blk_cell h.blk 0).trans rfl, (blk_cell h.blk 3).trans rfl, (blk_cell h.blk 4).trans rfl, (blk_cell h.blk 5).trans rfl, (blk_cell h.blk 6).trans rfl, (blk_cell h.blk 7).trans rfl, (blk_cell h.blk 8).trans rfl⟩
end
set_option maxHeartbeats 8000000 in
set_option maxRecDepth 100000 in
theorem rends_calls (w : World) (u : Nat) (G : Gr) (T : Tb) (A0 A1 A2 A3 B0 B1 EA : Option Addr) (c0 c1 c2 c3 d0 d1 ec : Nat) (EL : List S115) (v8 : Value) (h : WyAt w u G T A0 A1 A2 A3 B0 B1 EA c0 c1 c2 c3 d0 d1 ec EL v8) (nk nr np : Nat) (hC : TChk T nk nr np) (hE : IsWays T nk EL)
    (s : Nat) (hs : Rc T nk s) (Ar : Option Addr) (cr : Nat) (R : List Int) (hR : (Kd.int .i64).C w Ar R.length R) (hrl : R.length ≤ cr) (lf : Int) (hl0 : 0 ≤ lf) (hl1 : lf < nr) :
    Calls Try.prog 69 #[.pointer (some ⟨u, 0, none⟩), .int .i64 s, .slice Ar R.length cr, .int .i64 lf] w (BoolPost w (EndsOk T nk lf R.reverse (· = s))) := by
  have hn1 := hC.one
  have hn2 := hC.max
  have hsn := hC.rc hs
  have hrm := Kd.C_max hR
  have hem := Kd.C_max h.e
  obtain ⟨adg, _, _, rfl, _, _, _⟩ := at_L3 h.t.gt (0 : Int) (by omega) (by have := hC.len; omega)
  have HH := Aside0.mk h
  have HC := Aside0.mk hC
  have HE := Aside0.mk hE
  have HR := Aside0.mk hR
  have HGL := Aside0.mk hC.len
  obtain ⟨k0, k3, k4, k5, k6, k7, k8⟩ := h.cells
  obtain ⟨n, hn⟩ : ∃ n, T.mv.length = n := ⟨_, rfl⟩
  have HN := Aside0.mk hn
  rw [hn] at k5 hn1 hn2 hsn
  clear h hC hE hR hn
  go_enter Try.func69, Try.ntmps69
  go_upto_region 2 with (fail)
  go_upto_region 3 with (at_make; refine Kd.R_make Kd.bool (w0 := w) w.heap.size 4 rfl (N := 23) rfl 106 _ _ rfl (n : Int) rfl rfl Try.underlying106 (.bool false) 1 info4 rfl (by decide) (by omega) false (ok := fun _ => True) (okp := fun _ => True) rfl (fun _ hk => hk) trivial (by omega) (by omega) (Below.refl _ _) (Nat.le_refl _) ?_; intro v1 W1 h1 hB1 hg1 hb1; have HF1 := Aside0.mk (Fr.of_below (S := fun _ => False) hB1); have HR1 := Aside0.mk (show Kd.bool.R 4 W1 w.heap.size (fun _ => True) v1 (List.replicate n false) by simpa using h1); obtain ⟨gm, cm, hv, _⟩ := Kd.R_form HR1.out (by rw [List.length_replicate]; omega); rw [List.length_replicate] at hv; subst hv; clear h1 hB1 hg1 hb1)
  obtain ⟨m1, m2⟩ := Kd.R_celln false HR1.out (s : Int) (by omega) (by omega)
  rw [rdOf_no] at m1
  simp only [Int.toNat_natCast] at m1 m2
  have hs0 : (0 : Int) ≤ (s : Int) := by omega
  have hs1 : (s : Int) < (n : Int) := by omega
  go_upto_region 4 with (fail)
  have HR2 := Aside0.mk (Kd.R_putg HR1.out (s : Int) true).1
  have hgb : w.heap.size ≤ gm := Kd.R_base HR1.out gm rfl
  have HF2 := Aside0.mk (HF1.out.set (g := gm) (o := s) (.bool true) (fun h => by omega))
  simp only [Int.toNat_natCast] at HR2
  have HS2 := Aside0.mk (show EndsOk T nk lf R.reverse (· = s) ↔ EndsOk T nk lf (R.take R.length).reverse (fun q => rdOf false ((List.replicate n false).set s true) (q : Int) = true) from by
    rw [List.take_length]
    refine EndsOk.congr fun q => ?_
    rw [rdOf_setT (by rw [List.length_replicate]; omega)]
    split
    · rename_i e
      exact ⟨fun _ => rfl, fun _ => e⟩
    · rename_i e
      rw [rdOf_no]
      exact ⟨fun h => absurd h e, fun h => (by cases h)⟩)
  obtain ⟨AT, hAT⟩ : ∃ AT, (List.replicate n false).set s true = AT := ⟨_, rfl⟩
  have hal : AT.length = n := by rw [← hAT]; simp
  rw [hAT] at HR2 HS2
  obtain ⟨W2, hW2⟩ : ∃ W, W1.setCell ⟨gm, s, none⟩ (.bool true) = W := ⟨_, rfl⟩
  rw [hW2] at HR2 HF2
  simp only [hW2]
  have HAL := Aside0.mk hal
  clear hW2 hAT HF1 HR1 m1 m2 hgb hal
  go_wp2_with (fail)
  go_loopw [10, 11] (fun a i W => ∃ (g c k : Nat) (iv : Int) (AT : List Bool), a = .slice (some ⟨g, 0, none⟩) n c ∧ i = .int .i64 iv ∧ iv = (k : Int) - 1 ∧ k ≤ R.length ∧ Aside0 (AT.length = n) ∧ Aside0 (Fr (fun _ => False) w W) ∧ Aside0 (Kd.bool.R 4 W w.heap.size (fun _ => True) (.slice (some ⟨g, 0, none⟩) n c) AT) ∧ Aside0 (EndsOk T nk lf R.reverse (· = s) ↔ EndsOk T nk lf (R.take k).reverse (fun q => rdOf false AT (q : Int) = true))) (fun _ i _ => (intOf i + 1).toNat)
  case atStart => exact ⟨gm, cm, R.length, _, AT, rfl, rfl, rfl, Nat.le_refl _, HAL, HF2, HR2, HS2⟩
  case round =>
    clear HF2 HR2 HS2 HAL
    obtain ⟨g, c, k, iv, AT', rfl, rfl, hiv, hk, HAL, HF, HAT, HS⟩ := hrel
    cases k with
    | zero =>
      have hneg : ¬ (0 : Int) ≤ iv := by omega
      have HOK := Aside0.mk (show ∀ q : Nat, q < 0 → rdOf false AT' (q : Int) = true → 0 ≤ rd (rd_L3 T.gt (q : Int)) lf from fun q hq => by omega)
      go_wp2_with (fail)
      go_loopw [15] (fun a W => ∃ q : Nat, a = .int .i64 q ∧ q ≤ n ∧ Aside0 (Fr (fun _ => False) w W) ∧ Aside0 (Kd.bool.R 4 W w.heap.size (fun _ => True) (.slice (some ⟨g, 0, none⟩) n c) AT') ∧ Aside0 (∀ p : Nat, p < q → rdOf false AT' (p : Int) = true → 0 ≤ rd (rd_L3 T.gt (p : Int)) lf)) (fun a _ => n - (intOf a).toNat)
      case atStart => exact ⟨0, rfl, Nat.zero_le _, HF, HAT, HOK⟩
      case round =>
        clear HF HAT HOK
        obtain ⟨q, rfl, hq, HF, HAT, HOK⟩ := hrel
        by_cases hlt : q < n
        case neg =>
          obtain rfl : q = n := by omega
          have HEND := Aside0.mk (HS.out.2 (by
            rw [List.take_zero]
            intro p hp
            by_cases e : p < q
            · exact HOK.out p e hp
            · exfalso
              have h1 : rdOf false AT' (p : Int) = false := by
                have := HAL.out
                simp only [rdOf, Int.toNat_natCast, List.getD_eq_getElem?_getD]
                rw [List.getElem?_eq_none (by omega)]
                rfl
              rw [h1] at hp
              cases hp))
          go_wp2_with (fail)
          go_ret
          exact ⟨true, rfl, ⟨fun _ => HEND.out, fun _ => rfl⟩, HF.out⟩
        case pos =>
        have hq0 : (0 : Int) ≤ (q : Int) := by omega
        have hq1 : (q : Int) < (n : Int) := by omega
        have m0 := (Kd.R_celln false HAT.out (q : Int) hq0 hq1).1
        simp only [Int.toNat_natCast] at m0
        have HNX := Aside0.mk (show (rdOf false AT' (q : Int) = true → 0 ≤ rd (rd_L3 T.gt (q : Int)) lf) → ∀ p : Nat, p < q + 1 → rdOf false AT' (p : Int) = true → 0 ≤ rd (rd_L3 T.gt (p : Int)) lf from fun h p hp => by
          by_cases e : p = q
          · rw [e]
            exact h
          · exact HOK.out p (by omega))
        have HNO := Aside0.mk (show EndsOk T nk lf R.reverse (· = s) → rdOf false AT' (q : Int) = true → 0 ≤ rd (rd_L3 T.gt (q : Int)) lf from fun h h1 => by
          have h2 := HS.out.1 h
          rw [List.take_zero] at h2
          exact h2 q h1)
        obtain ⟨z, hz⟩ : ∃ z, rdOf false AT' (q : Int) = z := ⟨_, rfl⟩
        rw [hz] at m0 HNX HNO
        clear hz HOK
        cases z with
        | false =>
          have HN2 := Aside0.mk (HNX.out (fun h => (by cases h)))
          go_wp2_with (fail)
          exact ⟨⟨q + 1, by go_num, by omega, HF, HAT, HN2⟩, by simp [intOf]; omega⟩
        | true =>
          obtain ⟨_, G1, gcap, eg, hy, hlg, hGr⟩ := at_L3 HH.out.t.gt (q : Int) hq0 (by have := HGL.out; have := HN.out; omega)
          injection eg with eg
          subst eg
          have hw2 := (HC.out.wide (s := q) (by rw [HN.out]; exact hlt)).2
          simp only [Int.toNat_natCast] at hy
          obtain ⟨ade, hade, ge⟩ := Kd.at_int hGr lf hl0 (by rw [hw2]; exact hl1)
          subst hade
          replace hy := HF.out.cell hy id
          replace ge := HF.out.cell ge id
          have j6 := HF.out.cell k6 id
          have hq2 : (q : Int) < (T.gt.length : Int) := by have := HGL.out; have := HN.out; omega
          obtain ⟨y, hyy⟩ : ∃ y, rd (rd_L3 T.gt (q : Int)) lf = y := ⟨_, rfl⟩
          rw [hyy] at ge HNX HNO
          rw [hw2] at hy hlg
          clear hGr hyy hw2
          by_cases hyn : y < 0
          · have HNN := Aside0.mk (show ¬ EndsOk T nk lf R.reverse (· = s) from fun h => by have := HNO.out h rfl; omega)
            go_wp2_with (fail)
            go_ret
            exact ⟨false, rfl, ⟨fun h => (by cases h), fun h => absurd h HNN.out⟩, HF.out⟩
          · have HN2 := Aside0.mk (HNX.out (fun _ => by omega))
            go_wp2_with (fail)
            exact ⟨⟨q + 1, by go_num, by omega, HF, HAT, HN2⟩, by simp [intOf]; omega⟩
    | succ k =>
      obtain rfl : iv = (k : Int) := by omega
      clear hiv
      have hiv0 : (0 : Int) ≤ (k : Int) := by omega
      have hkr : (k : Int) < (R.length : Int) := by omega
      obtain ⟨adr, hadr, z0⟩ := Kd.at_int HR.out (k : Int) hiv0 hkr
      subst hadr
      simp only [Int.toNat_natCast] at z0
      obtain ⟨x, hx⟩ : ∃ x, rd R (k : Int) = x := ⟨_, rfl⟩
      have HTK := Aside0.mk (show (R.take (k + 1)).reverse = x :: (R.take k).reverse from by
        rw [List.take_add_one, List.reverse_append]
        have h1 : k < R.length := by omega
        have h2 : R[k]? = some x := by
          rw [← hx]
          simp [rd, List.getD_eq_getElem?_getD, h1]
        rw [h2]
        rfl)
      rw [hx] at z0
      clear hx
      have hnz : (0 : Int) < (n : Int) := by omega
      have m0 := (Kd.R_celln false HAT.out (0 : Int) (by omega) hnz).1
      simp only [Int.toNat_zero] at m0
      obtain ⟨b0, hb0⟩ : ∃ b, rdOf false AT' (0 : Int) = b := ⟨_, rfl⟩
      have HB0 := Aside0.mk hb0
      rw [hb0] at m0
      clear hb0
      cases b0 with
      | true =>
        have HNN := Aside0.mk (show ¬ EndsOk T nk lf R.reverse (· = s) from fun h => by
          have h1 := HS.out.1 h
          rw [HTK.out] at h1
          exact nx_zero HB0.out h1)
        go_wp2_with (fail)
        go_ret
        exact ⟨false, rfl, ⟨fun h => (by cases h), fun h => absurd h HNN.out⟩, HF.out⟩
      | false =>
      have hws := HF.out.size
      go_upto_region 9 with (fail)
      go_upto_region 10 with (at_make; refine Kd.R_make Kd.bool (w0 := wr) wr.heap.size 4 rfl (N := 38) rfl 106 _ _ rfl (n : Int) rfl rfl Try.underlying106 (.bool false) 1 info4 rfl (by decide) (by omega) false (ok := fun _ => True) (okp := fun _ => True) rfl (fun _ hk => hk) trivial (by omega) (by omega) (Below.refl _ _) (Nat.le_refl _) ?_; intro v1 W1 h1 hB1 hg1 hb1; have HF1 := Aside0.mk (Fr.of_below (S := fun _ => False) hB1); have HR1 := Aside0.mk (show Kd.bool.R 4 W1 wr.heap.size (fun _ => True) v1 (List.replicate n false) by simpa using h1); obtain ⟨g2, c2', hv, _⟩ := Kd.R_form HR1.out (by rw [List.length_replicate]; omega); rw [List.length_replicate] at hv; subst hv; clear h1 hB1 hg1 hb1)
      have hg2 : wr.heap.size ≤ g2 := Kd.R_base HR1.out g2 rfl
      have hgl : g < wr.heap.size := ((Kd.R_bound HAT.out).1 g rfl).2.2.1
      have HA1 := Aside0.mk (HF1.out.R (Kd.R_mono (Kd.R_bound HAT.out) (fun k hk => hk.2.2.1)) (fun _ _ => id) : Kd.bool.R 4 W1 w.heap.size (fun k => k < wr.heap.size) (.slice (some ⟨g, 0, none⟩) n c) AT')
      have HFW := Aside0.mk (HF.out.trans HF1.out (fun _ _ h => h))
      have HOLD := Aside0.mk (show ∀ W, Fr (fun k => k = g2) W1 W → Fr (fun _ => False) w W from fun W h => HFW.out.trans h (fun k hk e => by omega))
      have HN1 := Aside0.mk (Kd.R_lower HR1.out hws)
      have HF2 := Aside0.mk (Fr.refl (fun k => k = g2) W1)
      have HX := Aside0.mk (NxOk.start (n := n) (EL := EL) (AT := AT') (x := x))
      clear HR1 HF1 HF HAT m0
      go_wp2_with (fail)
      go_loopw [13] (fun a W => ∃ (j : Nat) (NX : List Bool), a = .int .i64 j ∧ j ≤ EL.length ∧ Aside0 (Fr (fun k => k = g2) W1 W) ∧ Aside0 (Kd.bool.R 4 W w.heap.size (fun _ => True) (.slice (some ⟨g2, 0, none⟩) n c2') NX) ∧ Aside0 (NxOk n EL AT' x j NX)) (fun a _ => EL.length - (intOf a).toNat)
      case atStart => exact ⟨0, _, rfl, Nat.zero_le _, HF2, HN1, HX⟩
      case round =>
        clear HF2 HN1 HX
        obtain ⟨j, NX, rfl, hj, HF, HNX, HX⟩ := hrel
        have j7 := (HOLD.out _ HF.out).cell k7 id
        by_cases hlt : j < EL.length
        case neg =>
          obtain rfl : j = EL.length := by omega
          have HFE := Aside0.mk (HOLD.out _ HF.out)
          have HLE := Aside0.mk HX.out.len
          have HS2 := Aside0.mk (show EndsOk T nk lf R.reverse (· = s) ↔ EndsOk T nk lf (R.take k).reverse (fun q => rdOf false NX (q : Int) = true) from by
            rw [HS.out, HTK.out]
            exact HX.out.done HE.out HB0.out)
          go_wp2_with (fail)
          exact ⟨⟨g2, c2', k, (k : Int) - 1, NX, rfl, by go_num, rfl, by omega, HLE, HFE, HNX, HS2⟩, by simp [intOf]⟩
        case pos =>
        obtain ⟨ade, hade, e0, e1, e2⟩ := at_T115 HH.out.e (j : Int) (by omega) (by omega)
        subst hade
        obtain ⟨ee, hee⟩ : ∃ e, rd_T115 EL (j : Int) = e := ⟨_, rfl⟩
        have HEE := Aside0.mk hee
        simp only [Int.toNat_natCast, hee] at e0 e1 e2
        have HIN := Aside0.mk (show ee ∈ EL from by rw [← hee]; exact in_T115 hlt)
        clear hee
        have hed := (HE.out.ins ee).1 HIN.out
        obtain ⟨a, sy, b⟩ := ee
        simp only at e0 e1 e2 hed
        obtain ⟨a, rfl⟩ := Int.eq_ofNat_of_zero_le hed.1
        obtain ⟨b, rfl⟩ := Int.eq_ofNat_of_zero_le hed.2.1
        have han : a < n := by
          have h1 := hed.2.2.1
          rw [Int.toNat_natCast] at h1
          have h2 := HC.out.rc h1
          rw [HN.out] at h2
          exact h2
        have hbn : b < n := by
          have h1 := hed.2.2.2
          rw [Int.toNat_natCast, Int.toNat_natCast] at h1
          have h2 := (HC.out.ed (by rw [HN.out]; exact han) h1).2.2
          rw [HN.out] at h2
          exact h2
        clear hed
        replace e0 := (HOLD.out _ HF.out).cell e0 id
        replace e1 := (HOLD.out _ HF.out).cell e1 id
        replace e2 := (HOLD.out _ HF.out).cell e2 id
        go_upto_region 14 with (fail)
        have HF5 := Aside0.mk (HF.out.alloc (.cells #[.int .i64 a, .int .i64 sy, .int .i64 b] 115))
        have HN5 := Aside0.mk (Kd.R_alloc HNX.out (.cells #[.int .i64 a, .int .i64 sy, .int .i64 b] 115))
        have HX5 := Aside0.mk (blk_new wr (.cells #[.int .i64 a, .int .i64 sy, .int .i64 b] 115))
        obtain ⟨W5, hW5⟩ : ∃ W, wr.alloc (.cells #[.int .i64 a, .int .i64 sy, .int .i64 b] 115) = W := ⟨_, rfl⟩
        obtain ⟨be, hbe⟩ : ∃ b, wr.heap.size = b := ⟨_, rfl⟩
        rw [hW5] at HF5 HN5 HX5
        rw [hbe] at HX5
        simp only [hW5, hbe]
        clear hW5 hbe HF HNX e0 e1 e2 j7
        have u0 := (blk_cell HX5.out 0).trans (show _ = some (Value.int .i64 a) from rfl)
        have u1 := (blk_cell HX5.out 1).trans (show _ = some (Value.int .i64 sy) from rfl)
        have u2 := (blk_cell HX5.out 2).trans (show _ = some (Value.int .i64 b) from rfl)
        have z1 := (HOLD.out _ HF5.out).cell z0 id
        have hb0 : (0 : Int) ≤ (b : Int) := by omega
        have hb1 : (b : Int) < (n : Int) := by omega
        have m0 := HF5.out.cell (Kd.R_celln false HA1.out (b : Int) hb0 hb1).1 (fun e => by have e2 : g = g2 := e; omega)
        simp only [Int.toNat_natCast] at m0
        obtain ⟨z, hz⟩ : ∃ z, rdOf false AT' (b : Int) = z := ⟨_, rfl⟩
        have HZ := Aside0.mk (show rdOf false AT' (rd_T115 EL (j : Int)).f2 = z from by rw [HEE.out]; exact hz)
        rw [hz] at m0
        clear hz
        cases z with
        | false =>
          have HX2 := Aside0.mk (HX.out.skip HZ.out)
          go_quiet (fail)
          have HF6 := Aside0.mk (HF5.out.drewN nq)
          have HN6 := Aside0.mk (((Fr.refl (fun _ => False) W5).drewN nq).R HN5.out (fun _ _ => id))
          go_wp2_with (fail)
          exact ⟨⟨j + 1, NX, by go_num, by omega, HF6, HN6, HX2⟩, by simp [intOf]; omega⟩
        | true =>
        by_cases hsy : sy = x
        case neg =>
          have hsb : (sy != x) = true := bne_iff_ne.2 hsy
          have HNN := Aside0.mk (show ¬ EndsOk T nk lf R.reverse (· = s) from fun h => by
            have h1 := HS.out.1 h
            rw [HTK.out] at h1
            have h2 := HZ.out
            rw [HEE.out] at h2
            exact nx_not HE.out HIN.out h2 hsy h1)
          clear hsy
          go_quiet (fail)
          go_wp2_with (fail)
          go_ret
          exact ⟨false, rfl, ⟨fun h => (by cases h), fun h => absurd h HNN.out⟩, (HOLD.out _ HF5.out).drewN _⟩
        case pos =>
        subst hsy
        have hsb : (sy != sy) = false := bne_self_eq_false sy
        have HX2 := Aside0.mk (HX.out.step HZ.out (by rw [HEE.out]) (by rw [HEE.out]) han)
        have ha0 : (0 : Int) ≤ (a : Int) := by omega
        have ha1 : (a : Int) < (n : Int) := by omega
        obtain ⟨m1, m2⟩ := Kd.R_celln false HN5.out (a : Int) ha0 ha1
        simp only [Int.toNat_natCast] at m1 m2
        go_quiet (fail)
        have HF6 := Aside0.mk ((HF5.out.drewN nq).set (g := g2) (o := a) (.bool true) (fun _ => rfl))
        have HN6 := Aside0.mk (Kd.R_putg (((Fr.refl (fun _ => False) W5).drewN nq).R HN5.out (fun _ _ => id)) (a : Int) true).1
        simp only [Int.toNat_natCast] at HN6
        go_wp2_with (fail)
        exact ⟨⟨j + 1, _, by go_num, by omega, HF6, HN6, HX2⟩, by simp [intOf]; omega⟩
end Go.Proofs.Ytlpmjmanmncmnaa.Tab
