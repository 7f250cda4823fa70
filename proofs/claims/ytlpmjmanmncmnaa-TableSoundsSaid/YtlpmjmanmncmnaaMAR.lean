/-
Whether a state is as it should be: table.sound, walked.
-/
import Derived.Test.YtlpmjmanmncmnaaMAQ
import Derived.Deep.RegionHeld3
set_option linter.unusedSimpArgs false
set_option linter.unusedVariables false
namespace Go.Proofs.Ytlpmjmanmncmnaa.Tab
open Go.RowKit Go.Maps Go.Proofs.YtlpmjmanmncmnaaW.PrintWords Go.Proofs.YtlpmjmanmncmnaaW.PrintLast Go.Proofs.YtlpmjmanmncmnaaW.PrintMore Go.Proofs.Ytlpmjmanmncmnaa.Fr Go.Proofs.Ytlpmjmanmncmnaa.PT
open Go.Proofs.Ytlpmjmanmncmnaa.Gram (Gr GAt)
theorem zero4 (w : World) : (zeroValue 4).run Try.prog w = .ok (.bool false) w := by go_simp
/-- A move by a kind is as it should be. -/
structure MvSound (T : Tb) (nk : Nat) (G : Gr) (s k : Nat) (m : S48) : Prop where
  red : m.f0 = 2 → EndsOk T nk (rd_T132 G.prods m.f1).f0 (rd_T132 G.prods m.f1).f1.reverse (· = s)
  acc : m.f0 = 3 → k = 0 ∧ s ≠ 0 ∧ (∀ (a : Nat) (y : Int), Rc T nk a → ¬ IsEd T nk a y 0) ∧ ∀ (a : Nat) (y : Int), Rc T nk a → IsEd T nk a y s → a = 0 ∧ y = (nk : Int) + G.start
def StSound (T : Tb) (nk : Nat) (G : Gr) (s : Nat) : Prop := ∀ k : Nat, k < (rd_L2 T.mv (s : Int)).length → MvSound T nk G s k (rd_T48 (rd_L2 T.mv (s : Int)) (k : Int))
theorem look_b {W : World} {b n : Nat} {D : DataW Unit} (h : W.ownsMap Try.prog 3 RB b n D) (p : Nat) (hp : (Lit.int .i64 (p : Int)).wf = true) : ∃ c : Bool, (Instr.lookup 138 (.map (some b)) (.int .i64 (p : Int)) false).run Try.prog W = .ok (.bool c) W ∧ (c = true → Hs D p) := by
  obtain ⟨v, ps, hrun, hv⟩ := h.lookup law3 Try.underlying138 (zero4 W) (plainElem_bool Try.underlying4 false) (keyOf_int_mk Try.underlying3 hp)
  obtain ⟨c, rfl⟩ := invB v _ hv
  refine ⟨c, hrun, fun e => ?_⟩
  subst e
  cases hh : Maps.has D (.int .i64 (p : Int)) with
  | true => exact hh
  | false =>
    have hv2 := (plainElem_bool (H := Unit) Try.underlying4 true).symm.trans hv
    rw [Maps.atKey_of_not_has hh] at hv2
    simp at hv2
set_option maxHeartbeats 8000000 in
set_option maxRecDepth 100000 in
theorem sound_calls (w : World) (T : Tb) (nr : Nat) (G : Gr) (hC : TChk T G.kinds.length nr G.prods.length) (B0 B1 : Option Addr) (d0 d1 : Nat) (hT : TAt w T B0 B1 d0 d1) (A0 A1 A2 A3 : Option Addr) (c0 c1 c2 c3 : Nat) (hG : GAt w G A0 A1 A2 A3 c0 c1 c2 c3)
    (IN : List (List S48)) (ME : List Bool) (hE : IsEdges T G.kinds.length IN ME) (I : Option Addr) (ci : Nat) (hI : Kd.C kE w I T.mv.length IN) (hkb : G.kinds.length ≤ 1048576) (hst0 : 0 ≤ G.start) (hst1 : G.start ≤ 1048576)
    (hlf : ∀ p : Nat, p < G.prods.length → 0 ≤ (rd_T132 G.prods (p : Int)).f0 ∧ (rd_T132 G.prods (p : Int)).f0 < nr) (s : Nat) (hs : Rc T G.kinds.length s) :
    Calls Try.prog 51 #[.agg #[.slice A0 G.kinds.length c0, .slice A1 G.precs.length c1, .slice A2 G.rules.length c2, .slice A3 G.prods.length c3, .int .i64 G.start], .agg #[.slice B0 T.mv.length d0, .slice B1 T.gt.length d1], .slice I T.mv.length ci, .int .i64 s] w
      (BoolPost w (StSound T G.kinds.length G s)) := by
  have hu := Try.underlying72
  have hu2 := Try.underlying25
  have hmm := @run_makeMap Try.prog
  have hn1 := hC.one
  have hn2 := hC.max
  have hsn := hC.rc hs
  have hpm := Kd.C_max hG.prods
  obtain ⟨adi, _, _, rfl, _, _, _⟩ := at_LE hI (0 : Int) (by omega) (by omega)
  obtain ⟨adm, M1, mcap, rfl, x0, hml, hMr⟩ := at_L2 hT.mv (s : Int) (by omega) (by omega)
  have hmw := (hC.wide hsn).1
  simp only [Int.toNat_natCast] at x0
  have HC := Aside0.mk hC
  have HT := Aside0.mk hT
  have HG := Aside0.mk hG
  have HE := Aside0.mk hE
  have HI := Aside0.mk hI
  have HLF := Aside0.mk hlf
  have HSR := Aside0.mk hs
  obtain ⟨row, hrow⟩ : ∃ row, rd_L2 T.mv (s : Int) = row := ⟨_, rfl⟩
  have HROW := Aside0.mk hrow
  rw [hrow] at x0 hml hMr hmw
  have HMR := Aside0.mk hMr
  have hrm := Kd.C_max hMr
  have HMW := Aside0.mk hmw
  have HST := Aside0.mk (show (∀ k : Nat, k < row.length → MvSound T G.kinds.length G s k (rd_T48 row (k : Int))) ↔ StSound T G.kinds.length G s from by unfold StSound; rw [hrow])
  clear hC hT hG hE hI hlf hrow hMr hs hmw
  obtain ⟨vp, hvp⟩ : ∃ vp, (#[.slice A0 G.kinds.length c0, .slice A1 G.precs.length c1, .slice A2 G.rules.length c2, .slice A3 G.prods.length c3, .int .i64 G.start] : Array Value) = vp := ⟨_, rfl⟩
  obtain ⟨vt, hvt⟩ : ∃ vt, (#[.slice (some adm) T.mv.length d0, .slice B1 T.gt.length d1] : Array Value) = vt := ⟨_, rfl⟩
  have HW0 := Aside0.mk (EnW.new w vp vt)
  rw [← hvp, ← hvt] at HW0
  have HVP := Aside0.mk hvp
  have HVT := Aside0.mk hvt
  clear hvp hvt
  go_enter Try.func51, Try.ntmps51
  go_upto_region 1 with (fail)
  obtain ⟨W0, hW0⟩ : ∃ W0, ((w.alloc (.cells #[.slice A0 G.kinds.length c0, .slice A1 G.precs.length c1, .slice A2 G.rules.length c2, .slice A3 G.prods.length c3, .int .i64 G.start] 72)).alloc (.cells #[.slice (some adm) T.mv.length d0, .slice B1 T.gt.length d1] 25)) = W0 := ⟨_, rfl⟩
  rw [hW0] at HW0
  simp only [hW0]
  clear hW0
  rw [HVP.out, HVT.out] at HW0
  obtain ⟨p0, hp0⟩ : ∃ p0, w.heap.size = p0 := ⟨_, rfl⟩
  have HP0 := Aside0.mk hp0
  simp only [hp0]
  obtain ⟨p1, hp1⟩ : ∃ p1, p0 + 1 = p1 := ⟨_, rfl⟩
  have HP1 := Aside0.mk hp1
  simp only [hp1]
  clear hp0 hp1
  have HBX := Aside0.mk (show ∀ W, EnW w W vp vt → (W.cell? ⟨p0, 0, none⟩ = some (.slice A0 G.kinds.length c0) ∧ W.cell? ⟨p0, 1, none⟩ = some (.slice A1 G.precs.length c1) ∧ W.cell? ⟨p0, 2, none⟩ = some (.slice A2 G.rules.length c2) ∧ W.cell? ⟨p0, 3, none⟩ = some (.slice A3 G.prods.length c3) ∧ W.cell? ⟨p0, 4, none⟩ = some (.int .i64 G.start)) ∧ W.cell? ⟨p1, 0, none⟩ = some (.slice (some adm) T.mv.length d0) ∧ W.cell? ⟨p1, 1, none⟩ = some (.slice B1 T.gt.length d1) from fun W h => by
    have h0 := h.b0
    have h1 := h.b1
    rw [HP0.out, ← HVP.out] at h0
    rw [HP0.out, HP1.out, ← HVT.out] at h1
    exact ⟨⟨(blk_cell h0 0).trans rfl, (blk_cell h0 1).trans rfl, (blk_cell h0 2).trans rfl, (blk_cell h0 3).trans rfl, (blk_cell h0 4).trans rfl⟩, (blk_cell h1 0).trans rfl, (blk_cell h1 1).trans rfl⟩)
  have HW1 := Aside0.mk (HW0.out.go ((Fr.refl (fun _ => False) W0).alloc (.map #[] 0)))
  have HM1 := Aside0.mk (World.ownsMap_made W0 Try.prog 3 RB)
  have hbk := HW0.out.gt
  clear HW0
  go_upto_region 2 with (fail)
  obtain ⟨b, hb⟩ : ∃ b, W0.heap.size = b := ⟨_, rfl⟩
  obtain ⟨W1, hW1⟩ : ∃ W, W0.alloc (.map #[] 0) = W := ⟨_, rfl⟩
  rw [hW1] at HW1 HM1
  rw [hb] at HM1 hbk
  simp only [hb, hW1]
  clear hb hW1
  have y0 := HW1.out.fr.cell x0 id
  have l0 := (HBX.out _ HW1.out).2.1
  have hs0 : (0 : Int) ≤ (s : Int) := by omega
  have hs1 : (s : Int) < (T.mv.length : Int) := by omega
  have HRD := Aside0.mk (show ∀ x : Nat, Hs (.map []) x → EndsOk T G.kinds.length (rd_T132 G.prods (x : Int)).f0 (rd_T132 G.prods (x : Int)).f1.reverse (· = s) from fun x h => absurd h (hs_empty x))
  have HOK := Aside0.mk (show ∀ j : Nat, j < 0 → MvSound T G.kinds.length G s j (rd_T48 row (j : Int)) from fun j hj => absurd hj (by omega))
  go_wp2_with (fail)
  go_loopw [21] (fun a W => ∃ (k nD : Nat) (D : DataW Unit), a = .int .i64 k ∧ k ≤ row.length ∧ Aside0 (EnW w W vp vt) ∧ Aside0 (W.ownsMap Try.prog 3 RB b nD D) ∧ nD ≤ k ∧ Aside0 (∀ x : Nat, Hs D x → EndsOk T G.kinds.length (rd_T132 G.prods (x : Int)).f0 (rd_T132 G.prods (x : Int)).f1.reverse (· = s)) ∧ Aside0 (∀ j : Nat, j < k → MvSound T G.kinds.length G s j (rd_T48 row (j : Int)))) (fun a _ => row.length - (intOf a).toNat)
  case atStart => exact ⟨0, 0, _, rfl, Nat.zero_le _, HW1, HM1, Nat.le_refl _, HRD, HOK⟩
  case round =>
    clear HW1 HM1 HRD HOK y0 l0
    obtain ⟨k, nD, D, rfl, hk, HW, HD, hnD, HRD, HOK⟩ := hrel
    by_cases hlt : k < row.length
    case neg =>
      obtain rfl : k = row.length := by omega
      have HFIN := Aside0.mk (HST.out.1 HOK.out)
      go_wp2_with (fail)
      go_ret
      exact ⟨true, rfl, ⟨fun _ => HFIN.out, fun _ => rfl⟩, HW.out.fr⟩
    case pos =>
    obtain ⟨ade, hade, e0, e1⟩ := at_T48 HMR.out (k : Int) (by omega) (by omega)
    subst hade
    obtain ⟨ee, hee⟩ : ∃ e, rd_T48 row (k : Int) = e := ⟨_, rfl⟩
    have HEE := Aside0.mk hee
    simp only [Int.toNat_natCast, hee] at e0 e1
    clear hee
    replace e0 := HW.out.fr.cell e0 id
    replace e1 := HW.out.fr.cell e1 id
    obtain ⟨f, m⟩ := ee
    simp only at e0 e1
    have HNX := Aside0.mk (show MvSound T G.kinds.length G s k ⟨f, m⟩ → ∀ j : Nat, j < k + 1 → MvSound T G.kinds.length G s j (rd_T48 row (j : Int)) from fun h j hj => by
      by_cases e : j = k
      · rw [e, HEE.out]
        exact h
      · exact HOK.out j (by omega))
    have HNO := Aside0.mk (show StSound T G.kinds.length G s → MvSound T G.kinds.length G s k ⟨f, m⟩ from fun h => by
      have := HST.out.2 h k hlt
      rwa [HEE.out] at this)
    go_upto_region 5 with (fail)
    have HW5 := Aside0.mk (HW.out.go ((Fr.refl (fun _ => False) wr).alloc (.cells #[.int .i64 f, .int .i64 m] 48)))
    have HD5 := Aside0.mk (HD.out.alloc (.cells #[.int .i64 f, .int .i64 m] 48))
    have HX5 := Aside0.mk (blk_new wr (.cells #[.int .i64 f, .int .i64 m] 48))
    obtain ⟨W5, hW5⟩ : ∃ W, wr.alloc (.cells #[.int .i64 f, .int .i64 m] 48) = W := ⟨_, rfl⟩
    obtain ⟨be, hbe⟩ : ∃ b, wr.heap.size = b := ⟨_, rfl⟩
    have hbed := HD.out.lt
    rw [hW5] at HW5 HD5 HX5
    rw [hbe] at HX5 hbed
    simp only [hW5, hbe]
    clear hW5 hbe HW HD e0 e1 HOK
    have u0 := (blk_cell HX5.out 0).trans (show _ = some (Value.int .i64 f) from rfl)
    have u1 := (blk_cell HX5.out 1).trans (show _ = some (Value.int .i64 m) from rfl)
    by_cases hf2 : f = 2
    case pos =>
      subst hf2
      have hred := HC.out.reduce hsn (k := k) (by have := HMW.out; omega) (by rw [HROW.out, HEE.out])
      rw [HROW.out, HEE.out] at hred
      simp only at hred
      obtain ⟨p, rfl⟩ := Int.eq_ofNat_of_zero_le hred.1
      have hpp : p < G.prods.length := by omega
      have hwf : (Lit.int .i64 (p : Int)).wf = true := WalkArith.wf_i64 (by omega)
      have hkey : keyOf Try.prog 3 (.int .i64 (p : Int)) = some (.int .i64 (p : Int)) := keyOf_int_mk Try.underlying3 hwf
      obtain ⟨c, hlook, hc⟩ := look_b HD5.out p hwf
      have HCT := Aside0.mk hc
      clear hc hred hwf
      cases c with
      | true =>
        have HMV := Aside0.mk (show MvSound T G.kinds.length G s k ⟨2, (p : Int)⟩ from ⟨fun _ => HRD.out p (HCT.out rfl), fun h => by simp at h⟩)
        have HNX2 := Aside0.mk (HNX.out HMV.out)
        have HRD2 := Aside0.mk (show ∀ x : Nat, Hs (D.put (.int .i64 (p : Int)) (.lit (.bool true))) x → EndsOk T G.kinds.length (rd_T132 G.prods (x : Int)).f0 (rd_T132 G.prods (x : Int)).f1.reverse (· = s) from fun x h => ((hs_put HD5.out.isMap _).1 h).elim (fun e => by rw [e]; exact HMV.out.red rfl) (HRD.out x))
        go_wp2_with (at_mapUpdate; refine wpList_mapUpdate_own _ rfl _ _ _ 138 rfl 3 4 law3 Try.underlying138 RB b nD D rfl HD5.out (by unfold maxLen; omega) _ _ _ rfl rfl hkey _ [] (plainElem_bool Try.underlying4 true) ?_; intro w2 hD2 hg2; have HD7 := Aside0.mk hD2; have HW7 := Aside0.mk (HW5.out.map hg2 hbk); clear hD2 hg2)
        exact ⟨⟨k + 1, nD + 1, _, by go_num, by omega, HW7, HD7, by omega, HRD2, HNX2⟩, by simp [intOf]; omega⟩
      | false =>
        have HCL := Aside0.mk (ends_calls W5 T G.kinds.length nr G.prods.length HC.out (some adm) B1 d0 d1 (HT.out.fr HW5.out.fr) G A0 A1 A2 A3 c0 c1 c2 c3 (HG.out.go HW5.out.fr) IN ME HE.out (some adi) ci (Kd.C_below HI.out HW5.out.fr.to_below) s p HSR.out hpp (HLF.out p hpp).1 (HLF.out p hpp).2)
        obtain ⟨⟨k0, k1, k2, k3, k4⟩, l0, l1⟩ := HBX.out _ HW5.out
        go_wp2_with (fail)
        refine HCL.out.mono ?_
        rintro e W6 ⟨r, rfl, hiff, hF6⟩
        have HW6 := Aside0.mk (HW5.out.go hF6)
        have HD6 := Aside0.mk (HD5.out.kept (fr_grown hF6) (by simp))
        have v1 := hF6.cell u1 id
        have HIF := Aside0.mk hiff
        clear hiff hF6 u0 u1 k0 k1 k2 k3 k4 l0 l1 HCL hlook HD5 HW5
        cases r with
        | false =>
          go_wp2_with (fail)
          go_ret
          exact ⟨false, rfl, ⟨fun h => (by cases h), fun h => by have h1 := HIF.out.2 ((HNO.out h).red rfl); cases h1⟩, HW6.out.fr⟩
        | true =>
          have HMV := Aside0.mk (show MvSound T G.kinds.length G s k ⟨2, (p : Int)⟩ from ⟨fun _ => HIF.out.1 rfl, fun h => by simp at h⟩)
          have HNX2 := Aside0.mk (HNX.out HMV.out)
          have HRD2 := Aside0.mk (show ∀ x : Nat, Hs (D.put (.int .i64 (p : Int)) (.lit (.bool true))) x → EndsOk T G.kinds.length (rd_T132 G.prods (x : Int)).f0 (rd_T132 G.prods (x : Int)).f1.reverse (· = s) from fun x h => ((hs_put HD6.out.isMap _).1 h).elim (fun e => by rw [e]; exact HMV.out.red rfl) (HRD.out x))
          go_wp2_with (at_mapUpdate; refine wpList_mapUpdate_own _ rfl _ _ _ 138 rfl 3 4 law3 Try.underlying138 RB b nD D rfl HD6.out (by unfold maxLen; omega) _ _ _ rfl rfl hkey _ [] (plainElem_bool Try.underlying4 true) ?_; intro w2 hD2 hg2; have HD7 := Aside0.mk hD2; have HW7 := Aside0.mk (HW6.out.map hg2 hbk); clear hD2 hg2)
          exact ⟨⟨k + 1, nD + 1, _, by go_num, by omega, HW7, HD7, by omega, HRD2, HNX2⟩, by simp [intOf]; omega⟩
    case neg =>
    by_cases hf3 : f = 3
    case neg =>
      have HNX2 := Aside0.mk (HNX.out ⟨fun h => absurd h hf2, fun h => absurd h hf3⟩)
      go_wp2_with (fail)
      exact ⟨⟨k + 1, nD, D, by go_num, by omega, HW5, HD5, by omega, HRD, HNX2⟩, by simp [intOf]; omega⟩
    case pos =>
    subst hf3
    have HFF := Aside0.mk (show ¬ MvSound T G.kinds.length G s k ⟨3, m⟩ → ∀ W, Fr (fun _ => False) W5 W → BoolPost w (StSound T G.kinds.length G s) (.returned (.bool false)) W from fun h W hF => ⟨false, rfl, ⟨fun h => (by cases h), fun h1 => absurd (HNO.out h1) h⟩, HW5.out.fr.trans hF (fun _ _ h => h)⟩)
    by_cases hkz : k = 0
    case neg =>
      have HN := Aside0.mk (show ¬ MvSound T G.kinds.length G s k ⟨3, m⟩ from fun h => hkz (h.acc rfl).1)
      have hk1 : ¬ ((k : Int) = 0) := by omega
      clear hkz
      go_wp2_with (fail)
      go_ret
      exact HFF.out HN.out _ (Fr.refl _ _)
    case pos =>
    subst hkz
    by_cases hsz : s = 0
    case pos =>
      have HN := Aside0.mk (show ¬ MvSound T G.kinds.length G s 0 ⟨3, m⟩ from fun h => (h.acc rfl).2.1 hsz)
      subst hsz
      go_wp2_with (fail)
      go_ret
      exact HFF.out HN.out _ (Fr.refl _ _)
    case neg =>
    have HSZ := Aside0.mk hsz
    have hs2 : ¬ ((s : Int) = 0) := by omega
    clear hsz
    obtain ⟨_, E1, ecap, eg, hy, hlg, hGr⟩ := at_LE HI.out (0 : Int) (by omega) (by omega)
    injection eg with eg
    subst eg
    simp only [Int.toNat_zero, Addr.add_zero'] at hy
    have hz1 : (0 : Int) < (T.mv.length : Int) := by omega
    replace hy := HW5.out.fr.cell hy id
    have HL0 := Aside0.mk (show 0 < (rd_L2 IN (0 : Int)).length → ¬ MvSound T G.kinds.length G s 0 ⟨3, m⟩ from fun h1 h => by
      obtain ⟨_, h3, h4⟩ := (HE.out.ins 0 (by omega) _).1 (in_T48 h1)
      exact (h.acc rfl).2.2.1 _ _ h3 h4)
    have HL1 := Aside0.mk (show (rd_L2 IN (0 : Int)).length = 0 → ∀ (a : Nat) (y : Int), Rc T G.kinds.length a → ¬ IsEd T G.kinds.length a y 0 from fun h1 a y h2 h3 => by
      have h4 := (HE.out.ins 0 (by omega) ⟨a, y⟩).2 ⟨by simp, by simpa using h2, by simpa using h3⟩
      have h5 : rd_L2 IN ((0 : Nat) : Int) = [] := List.eq_nil_of_length_eq_zero h1
      rw [h5] at h4
      cases h4)
    obtain ⟨z, hz⟩ : ∃ z, (rd_L2 IN (0 : Int)).length = z := ⟨_, rfl⟩
    rw [hz] at hy hlg HL0 HL1
    have hzm : z ≤ 1099511627776 := by rw [← hz]; exact HE.out.cnt 0
    clear hz hGr
    by_cases hzz : 0 < z
    case pos =>
      have HN := Aside0.mk (HL0.out hzz)
      go_wp2_with (fail)
      go_ret
      exact HFF.out HN.out _ (Fr.refl _ _)
    case neg =>
    obtain rfl : z = 0 := by omega
    have HE0 := Aside0.mk (HL1.out rfl)
    clear hzz HL0 HL1
    obtain ⟨_, E2, ecap2, eg, hy2, hlg2, hGr⟩ := at_LE HI.out (s : Int) hs0 hs1
    injection eg with eg
    subst eg
    simp only [Int.toNat_natCast] at hy2
    have hrsm := HE.out.cnt s
    obtain ⟨rs, hrs⟩ : ∃ row, rd_L2 IN (s : Int) = row := ⟨_, rfl⟩
    have HRS := Aside0.mk hrs
    rw [hrs] at hy2 hlg2 hGr hrsm
    have HGR := Aside0.mk hGr
    replace hy2 := HW5.out.fr.cell hy2 id
    clear hrs hGr
    have HAL := Aside0.mk (show ∀ i : Nat, i < 0 → (rd_T48 rs (i : Int)).f0 = 0 ∧ (rd_T48 rs (i : Int)).f1 = (G.kinds.length : Int) + G.start from fun i hi => absurd hi (by omega))
    go_wp2_with (fail)
    go_loopw [68] (fun a W => ∃ j : Nat, a = .int .i64 j ∧ j ≤ rs.length ∧ Aside0 (EnW w W vp vt) ∧ Aside0 (W.ownsMap Try.prog 3 RB b nD D) ∧ Aside0 (∀ i : Nat, i < j → (rd_T48 rs (i : Int)).f0 = 0 ∧ (rd_T48 rs (i : Int)).f1 = (G.kinds.length : Int) + G.start)) (fun a _ => rs.length - (intOf a).toNat)
    case atStart => exact ⟨0, rfl, Nat.zero_le _, HW5, HD5, HAL⟩
    case round =>
      clear HW5 HD5 HAL hy hy2 u0 u1 HX5 HFF
      obtain ⟨j, rfl, hj, HW, HD, HAL⟩ := hrel
      by_cases hjl : j < rs.length
      case neg =>
        obtain rfl : j = rs.length := by omega
        have HMV := Aside0.mk (show MvSound T G.kinds.length G s 0 ⟨3, m⟩ from ⟨fun h => by simp at h, fun _ => ⟨rfl, HSZ.out, HE0.out, fun a y ha hy => by
          have h4 := (HE.out.ins s hsn ⟨a, y⟩).2 ⟨by simp, by simpa using ha, by simpa using hy⟩
          rw [HRS.out] at h4
          obtain ⟨i, hi, e⟩ := mem_T48 h4
          have h5 := HAL.out i hi
          rw [e] at h5
          simp only at h5
          exact ⟨by omega, h5.2⟩⟩⟩)
        have HNX2 := Aside0.mk (HNX.out HMV.out)
        go_wp2_with (fail)
        exact ⟨⟨1, nD, D, by go_num, by omega, HW, HD, by omega, HRD, HNX2⟩, by simp [intOf]; omega⟩
      case pos =>
      obtain ⟨ade, hade, e0, e1⟩ := at_T48 HGR.out (j : Int) (by omega) (by omega)
      subst hade
      obtain ⟨ee, hee⟩ : ∃ e, rd_T48 rs (j : Int) = e := ⟨_, rfl⟩
      have HEE := Aside0.mk hee
      simp only [Int.toNat_natCast, hee] at e0 e1
      clear hee
      replace e0 := HW.out.fr.cell e0 id
      replace e1 := HW.out.fr.cell e1 id
      obtain ⟨f, q⟩ := ee
      simp only at e0 e1
      have HIN := Aside0.mk (show ⟨f, q⟩ ∈ rd_L2 IN (s : Int) from by rw [HRS.out, ← HEE.out]; exact in_T48 hjl)
      have HNO2 := Aside0.mk (show ¬ (f = 0 ∧ q = (G.kinds.length : Int) + G.start) → ¬ StSound T G.kinds.length G s from fun h h1 => by
        obtain ⟨h2, h3, h4⟩ := (HE.out.ins s hsn _).1 HIN.out
        have h5 := ((HNO.out h1).acc rfl).2.2.2 _ _ h3 h4
        simp only at h5 h2
        exact h ⟨by omega, h5.2⟩)
      go_upto_region 16 with (fail)
      have HW6 := Aside0.mk (HW.out.go ((Fr.refl (fun _ => False) wr).alloc (.cells #[.int .i64 f, .int .i64 q] 136)))
      have HD6 := Aside0.mk (HD.out.alloc (.cells #[.int .i64 f, .int .i64 q] 136))
      have HX6 := Aside0.mk (blk_new wr (.cells #[.int .i64 f, .int .i64 q] 136))
      obtain ⟨W6, hW6⟩ : ∃ W, wr.alloc (.cells #[.int .i64 f, .int .i64 q] 136) = W := ⟨_, rfl⟩
      obtain ⟨bf, hbf⟩ : ∃ b, wr.heap.size = b := ⟨_, rfl⟩
      rw [hW6] at HW6 HD6 HX6
      rw [hbf] at HX6
      simp only [hW6, hbf]
      clear hW6 hbf HW HD e0 e1
      have u0 := (blk_cell HX6.out 0).trans (show _ = some (Value.int .i64 f) from rfl)
      have u1 := (blk_cell HX6.out 1).trans (show _ = some (Value.int .i64 q) from rfl)
      obtain ⟨⟨k0, k1, k2, k3, k4⟩, l0, l1⟩ := HBX.out _ HW6.out
      by_cases hf0 : f = 0
      case neg =>
        have HN := Aside0.mk (HNO2.out (fun h => hf0 h.1))
        have hfb : (f != 0) = true := bne_iff_ne.2 hf0
        go_wp2_with (fail)
        go_ret
        exact ⟨false, rfl, ⟨fun h => (by cases h), fun h => absurd h HN.out⟩, HW6.out.fr⟩
      case pos =>
      subst hf0
      by_cases hq0 : q = (G.kinds.length : Int) + G.start
      case neg =>
        have HN := Aside0.mk (HNO2.out (fun h => hq0 h.2))
        have hfb : (q != (G.kinds.length : Int) + G.start) = true := bne_iff_ne.2 hq0
        go_wp2_with (fail)
        go_ret
        exact ⟨false, rfl, ⟨fun h => (by cases h), fun h => absurd h HN.out⟩, HW6.out.fr⟩
      case pos =>
      have HQ0 := Aside0.mk hq0
      have hfb : (q != (G.kinds.length : Int) + G.start) = false := bne_eq_false_iff_eq.2 hq0
      have HAL2 := Aside0.mk (show ∀ i : Nat, i < j + 1 → (rd_T48 rs (i : Int)).f0 = 0 ∧ (rd_T48 rs (i : Int)).f1 = (G.kinds.length : Int) + G.start from fun i hi => by
        by_cases e : i = j
        · rw [e, HEE.out]
          exact ⟨rfl, HQ0.out⟩
        · exact HAL.out i (by omega))
      clear hq0
      go_wp2_with (fail)
      exact ⟨⟨j + 1, by go_num, by omega, HW6, HD6, HAL2⟩, by simp [intOf]; omega⟩
end Go.Proofs.Ytlpmjmanmncmnaa.Tab
/-
Whether every way to a state has the one symbol that is the start: the reference's way, walked.
-/
set_option linter.unusedSimpArgs false
set_option linter.unusedVariables false
namespace Go.Proofs.Ytlpmjmanmncmnaa.Tab
open Go.RowKit Go.Maps Go.Proofs.YtlpmjmanmncmnaaW.PrintWords Go.Proofs.YtlpmjmanmncmnaaW.PrintLast Go.Proofs.YtlpmjmanmncmnaaW.PrintMore Go.Proofs.Ytlpmjmanmncmnaa.Fr Go.Proofs.Ytlpmjmanmncmnaa.PT
open Go.Proofs.Ytlpmjmanmncmnaa.Gram (Gr GAt)
/-- Every way to a state has the one symbol that is the start. -/
def AccOk (T : Tb) (nk : Nat) (st : Int) (s : Nat) : Prop := s ≠ 0 ∧ (∀ (a : Nat) (y : Int), Rc T nk a → ¬ IsEd T nk a y 0) ∧ ∀ (a : Nat) (y : Int), Rc T nk a → IsEd T nk a y s → a = 0 ∧ y = (nk : Int) + st
set_option maxHeartbeats 8000000 in
set_option maxRecDepth 100000 in
theorem accepts_calls (w : World) (u : Nat) (G : Gr) (T : Tb) (A0 A1 A2 A3 B0 B1 EA : Option Addr) (c0 c1 c2 c3 d0 d1 ec : Nat) (EL : List S115) (v8 : Value) (h : WyAt w u G T A0 A1 A2 A3 B0 B1 EA c0 c1 c2 c3 d0 d1 ec EL v8) (nr np : Nat) (hC : TChk T G.kinds.length nr np) (hE : IsWays T G.kinds.length EL)
    (hkb : G.kinds.length ≤ 1048576) (hst0 : 0 ≤ G.start) (hst1 : G.start ≤ 1048576) (s : Nat) (hs : Rc T G.kinds.length s) :
    Calls Try.prog 70 #[.pointer (some ⟨u, 0, none⟩), .int .i64 s] w (BoolPost w (AccOk T G.kinds.length G.start s)) := by
  have hn2 := hC.max
  have hsn := hC.rc hs
  have hem := Kd.C_max h.e
  have HH := Aside0.mk h
  have HE := Aside0.mk hE
  obtain ⟨k0, k3, k4, k5, k6, k7, k8⟩ := h.cells
  clear h hE
  by_cases hsz : s = 0
  case pos =>
    subst hsz
    go_enter Try.func70, Try.ntmps70
    go_wp2_with (fail)
    go_ret
    exact ⟨false, rfl, ⟨fun h => (by cases h), fun h => absurd rfl h.1⟩, Fr.refl _ _⟩
  case neg =>
  have HSZ := Aside0.mk hsz
  have hs1 : ¬ ((s : Int) = 0) := by omega
  clear hsz
  have HAL := Aside0.mk (show ∀ i : Nat, i < 0 → (rd_T115 EL (i : Int)).f2 ≠ 0 ∧ ((rd_T115 EL (i : Int)).f2 = s → (rd_T115 EL (i : Int)).f0 = 0 ∧ (rd_T115 EL (i : Int)).f1 = (G.kinds.length : Int) + G.start) from fun i hi => by omega)
  have HF0 := Aside0.mk (Fr.refl (fun _ => False) w)
  go_enter Try.func70, Try.ntmps70
  go_wp2_with (fail)
  go_loopw [5] (fun a W => ∃ j : Nat, a = .int .i64 j ∧ j ≤ EL.length ∧ Aside0 (Fr (fun _ => False) w W) ∧ Aside0 (∀ i : Nat, i < j → (rd_T115 EL (i : Int)).f2 ≠ 0 ∧ ((rd_T115 EL (i : Int)).f2 = s → (rd_T115 EL (i : Int)).f0 = 0 ∧ (rd_T115 EL (i : Int)).f1 = (G.kinds.length : Int) + G.start))) (fun a _ => EL.length - (intOf a).toNat)
  case atStart => exact ⟨0, rfl, Nat.zero_le _, HF0, HAL⟩
  case round =>
    clear HF0 HAL
    obtain ⟨j, rfl, hj, HF, HAL⟩ := hrel
    have j7 := HF.out.cell k7 id
    by_cases hlt : j < EL.length
    case neg =>
      obtain rfl : j = EL.length := by omega
      have HEND := Aside0.mk (show AccOk T G.kinds.length G.start s from by
        refine ⟨HSZ.out, fun a y h1 h2 => ?_, fun a y h1 h2 => ?_⟩
        · obtain ⟨i, hi, e⟩ := mem_T115 ((HE.out.ins ⟨a, y, (0 : Nat)⟩).2 ⟨by simp, by simp, by simpa using h1, by simpa using h2⟩)
          have := (HAL.out i hi).1
          rw [e] at this
          exact this rfl
        · obtain ⟨i, hi, e⟩ := mem_T115 ((HE.out.ins ⟨a, y, s⟩).2 ⟨by simp, by simp, by simpa using h1, by simpa using h2⟩)
          have := (HAL.out i hi).2
          rw [e] at this
          have h3 := this rfl
          simp only at h3
          exact ⟨by omega, h3.2⟩)
      go_wp2_with (fail)
      go_ret
      exact ⟨true, rfl, ⟨fun _ => HEND.out, fun _ => rfl⟩, HF.out⟩
    case pos =>
    obtain ⟨ade, hade, e0, e1, e2⟩ := at_T115 HH.out.e (j : Int) (by omega) (by omega)
    subst hade
    obtain ⟨ee, hee⟩ : ∃ e, rd_T115 EL (j : Int) = e := ⟨_, rfl⟩
    have HNX := Aside0.mk (show (ee.f2 ≠ 0 ∧ (ee.f2 = s → ee.f0 = 0 ∧ ee.f1 = (G.kinds.length : Int) + G.start)) → ∀ i : Nat, i < j + 1 → (rd_T115 EL (i : Int)).f2 ≠ 0 ∧ ((rd_T115 EL (i : Int)).f2 = s → (rd_T115 EL (i : Int)).f0 = 0 ∧ (rd_T115 EL (i : Int)).f1 = (G.kinds.length : Int) + G.start) from fun h i hi => by
      by_cases e : i = j
      · rw [e, hee]
        exact h
      · exact HAL.out i (by omega))
    simp only [Int.toNat_natCast, hee] at e0 e1 e2
    have hed := (HE.out.ins ee).1 (by rw [← hee]; exact in_T115 hlt)
    clear hee HAL
    have HNO := Aside0.mk (show AccOk T G.kinds.length G.start s → (ee.f2 ≠ 0 ∧ (ee.f2 = s → ee.f0 = 0 ∧ ee.f1 = (G.kinds.length : Int) + G.start)) from fun h => by
      obtain ⟨h1, h2, h3, h4⟩ := hed
      refine ⟨fun e => h.2.1 _ _ h3 (by rw [e] at h4; exact h4), fun e => ?_⟩
      rw [e, Int.toNat_natCast] at h4
      have := h.2.2 _ _ h3 h4
      exact ⟨by omega, this.2⟩)
    obtain ⟨a, sy, b⟩ := ee
    simp only at e0 e1 e2 HNX HNO
    clear hed
    replace e0 := HF.out.cell e0 id
    replace e1 := HF.out.cell e1 id
    replace e2 := HF.out.cell e2 id
    go_upto_region 7 with (fail)
    have HF5 := Aside0.mk (HF.out.alloc (.cells #[.int .i64 a, .int .i64 sy, .int .i64 b] 115))
    have HX5 := Aside0.mk (blk_new wr (.cells #[.int .i64 a, .int .i64 sy, .int .i64 b] 115))
    obtain ⟨W5, hW5⟩ : ∃ W, wr.alloc (.cells #[.int .i64 a, .int .i64 sy, .int .i64 b] 115) = W := ⟨_, rfl⟩
    obtain ⟨be, hbe⟩ : ∃ b, wr.heap.size = b := ⟨_, rfl⟩
    rw [hW5] at HF5 HX5
    rw [hbe] at HX5
    simp only [hW5, hbe]
    clear hW5 hbe HF e0 e1 e2 j7
    have u0 := (blk_cell HX5.out 0).trans (show _ = some (Value.int .i64 a) from rfl)
    have u1 := (blk_cell HX5.out 1).trans (show _ = some (Value.int .i64 sy) from rfl)
    have u2 := (blk_cell HX5.out 2).trans (show _ = some (Value.int .i64 b) from rfl)
    have j0 := HF5.out.cell k0 id
    have j4 := HF5.out.cell k4 id
    by_cases hb : b = 0
    case pos =>
      have hbb : (b == 0) = true := beq_iff_eq.2 hb
      have hbd : decide (b = 0) = true := decide_eq_true hb
      have HNN := Aside0.mk (show ¬ AccOk T G.kinds.length G.start s from fun h => (HNO.out h).1 hb)
      clear hb
      go_quiet (fail)
      go_wp2_with (fail)
      go_ret
      exact ⟨false, rfl, ⟨fun h => (by cases h), fun h => absurd h HNN.out⟩, HF5.out.drewN _⟩
    case neg =>
    have hbb : (b == 0) = false := beq_eq_false_iff_ne.2 hb
    have hbd : decide (b = 0) = false := decide_eq_false hb
    have HB := Aside0.mk hb
    clear hb
    by_cases hbs : b = s
    case neg =>
      have hsb : (b == (s : Int)) = false := beq_eq_false_iff_ne.2 hbs
      have hsd : decide (b = (s : Int)) = false := decide_eq_false hbs
      have HN2 := Aside0.mk (HNX.out ⟨HB.out, fun h => absurd h hbs⟩)
      clear hbs
      go_quiet (fail)
      have HF6 := Aside0.mk (HF5.out.drewN nq)
      go_wp2_with (fail)
      exact ⟨⟨j + 1, by go_num, by omega, HF6, HN2⟩, by simp [intOf]; omega⟩
    case pos =>
    have hsb : (b == (s : Int)) = true := beq_iff_eq.2 hbs
    have hsd : decide (b = (s : Int)) = true := decide_eq_true hbs
    have HBS := Aside0.mk hbs
    clear hbs
    by_cases ha : a = 0
    case neg =>
      have hab : (a != 0) = true := bne_iff_ne.2 ha
      have HNN := Aside0.mk (show ¬ AccOk T G.kinds.length G.start s from fun h => ha ((HNO.out h).2 HBS.out).1)
      clear ha
      go_quiet (fail)
      go_wp2_with (fail)
      go_ret
      exact ⟨false, rfl, ⟨fun h => (by cases h), fun h => absurd h HNN.out⟩, HF5.out.drewN _⟩
    case pos =>
    have hab : (a != 0) = false := bne_eq_false_iff_eq.2 ha
    have HA := Aside0.mk ha
    clear ha
    by_cases hq : sy = (G.kinds.length : Int) + G.start
    case neg =>
      have hqb : (sy != (G.kinds.length : Int) + G.start) = true := bne_iff_ne.2 hq
      have HNN := Aside0.mk (show ¬ AccOk T G.kinds.length G.start s from fun h => hq ((HNO.out h).2 HBS.out).2)
      clear hq
      go_quiet (fail)
      go_wp2_with (fail)
      go_ret
      exact ⟨false, rfl, ⟨fun h => (by cases h), fun h => absurd h HNN.out⟩, HF5.out.drewN _⟩
    case pos =>
    have hqb : (sy != (G.kinds.length : Int) + G.start) = false := bne_eq_false_iff_eq.2 hq
    have HN2 := Aside0.mk (HNX.out ⟨HB.out, fun _ => ⟨HA.out, hq⟩⟩)
    clear hq
    go_quiet (fail)
    have HF6 := Aside0.mk (HF5.out.drewN nq)
    go_wp2_with (fail)
    exact ⟨⟨j + 1, by go_num, by omega, HF6, HN2⟩, by simp [intOf]; omega⟩
end Go.Proofs.Ytlpmjmanmncmnaa.Tab
/-
Whether a state is as it must be: the reference's way, walked.
-/
set_option linter.unusedSimpArgs false
set_option linter.unusedVariables false
namespace Go.Proofs.Ytlpmjmanmncmnaa.Tab
open Go.RowKit Go.Maps Go.Proofs.YtlpmjmanmncmnaaW.PrintWords Go.Proofs.YtlpmjmanmncmnaaW.PrintLast Go.Proofs.YtlpmjmanmncmnaaW.PrintMore Go.Proofs.Ytlpmjmanmncmnaa.Fr Go.Proofs.Ytlpmjmanmncmnaa.PT
open Go.Proofs.Ytlpmjmanmncmnaa.Gram (Gr GAt)
set_option maxHeartbeats 8000000 in
set_option maxRecDepth 100000 in
theorem right_calls (w : World) (u : Nat) (G : Gr) (T : Tb) (A0 A1 A2 A3 B0 B1 EA : Option Addr) (c0 c1 c2 c3 d0 d1 ec : Nat) (EL : List S115) (v8 : Value) (h : WyAt w u G T A0 A1 A2 A3 B0 B1 EA c0 c1 c2 c3 d0 d1 ec EL v8) (nr : Nat) (hC : TChk T G.kinds.length nr G.prods.length) (hE : IsWays T G.kinds.length EL)
    (hkb : G.kinds.length ≤ 1048576) (hst0 : 0 ≤ G.start) (hst1 : G.start ≤ 1048576) (hlf : ∀ p : Nat, p < G.prods.length → 0 ≤ (rd_T132 G.prods (p : Int)).f0 ∧ (rd_T132 G.prods (p : Int)).f0 < nr) (s : Nat) (hs : Rc T G.kinds.length s) :
    Calls Try.prog 55 #[.pointer (some ⟨u, 0, none⟩), .int .i64 s] w (BoolPost w (StSound T G.kinds.length G s)) := by
  have hn2 := hC.max
  have hsn := hC.rc hs
  have hpm := Kd.C_max h.g.prods
  obtain ⟨adm, M1, mcap, rfl, x0, hml, hMr⟩ := at_L2 h.t.mv (s : Int) (by omega) (by omega)
  have hmw := (hC.wide hsn).1
  simp only [Int.toNat_natCast] at x0
  have HH := Aside0.mk h
  have HC := Aside0.mk hC
  have HE := Aside0.mk hE
  have HLF := Aside0.mk hlf
  have HSR := Aside0.mk hs
  obtain ⟨row, hrow⟩ : ∃ row, rd_L2 T.mv (s : Int) = row := ⟨_, rfl⟩
  have HROW := Aside0.mk hrow
  rw [hrow] at x0 hml hMr hmw
  have HMR := Aside0.mk hMr
  have hrm := Kd.C_max hMr
  have HMW := Aside0.mk hmw
  have HST := Aside0.mk (show (∀ k : Nat, k < row.length → MvSound T G.kinds.length G s k (rd_T48 row (k : Int))) ↔ StSound T G.kinds.length G s from by unfold StSound; rw [hrow])
  obtain ⟨k0, k3, k4, k5, k6, k7, k8⟩ := h.cells
  clear h hC hE hlf hrow hMr hs hmw
  have hs0 : (0 : Int) ≤ (s : Int) := by omega
  have hs1 : (s : Int) < (T.mv.length : Int) := by omega
  have HOK := Aside0.mk (show ∀ j : Nat, j < 0 → MvSound T G.kinds.length G s j (rd_T48 row (j : Int)) from fun j hj => absurd hj (by omega))
  have HF0 := Aside0.mk (Fr.refl (fun _ => False) w)
  go_enter Try.func55, Try.ntmps55
  go_wp2_with (fail)
  go_loopw [5] (fun a W => ∃ k : Nat, a = .int .i64 k ∧ k ≤ row.length ∧ Aside0 (Fr (fun _ => False) w W) ∧ Aside0 (∀ j : Nat, j < k → MvSound T G.kinds.length G s j (rd_T48 row (j : Int)))) (fun a _ => row.length - (intOf a).toNat)
  case atStart => exact ⟨0, rfl, Nat.zero_le _, HF0, HOK⟩
  case round =>
    clear HF0 HOK
    obtain ⟨k, rfl, hk, HF, HOK⟩ := hrel
    have y0 := HF.out.cell x0 id
    have j5 := HF.out.cell k5 id
    by_cases hlt : k < row.length
    case neg =>
      obtain rfl : k = row.length := by omega
      have HFIN := Aside0.mk (HST.out.1 HOK.out)
      go_wp2_with (fail)
      go_ret
      exact ⟨true, rfl, ⟨fun _ => HFIN.out, fun _ => rfl⟩, HF.out⟩
    case pos =>
    obtain ⟨ade, hade, e0, e1⟩ := at_T48 HMR.out (k : Int) (by omega) (by omega)
    subst hade
    obtain ⟨ee, hee⟩ : ∃ e, rd_T48 row (k : Int) = e := ⟨_, rfl⟩
    have HEE := Aside0.mk hee
    simp only [Int.toNat_natCast, hee] at e0 e1
    clear hee
    replace e0 := HF.out.cell e0 id
    replace e1 := HF.out.cell e1 id
    obtain ⟨f, m⟩ := ee
    simp only at e0 e1
    have HNX := Aside0.mk (show MvSound T G.kinds.length G s k ⟨f, m⟩ → ∀ j : Nat, j < k + 1 → MvSound T G.kinds.length G s j (rd_T48 row (j : Int)) from fun h j hj => by
      by_cases e : j = k
      · rw [e, HEE.out]
        exact h
      · exact HOK.out j (by omega))
    have HNO := Aside0.mk (show StSound T G.kinds.length G s → MvSound T G.kinds.length G s k ⟨f, m⟩ from fun h => by
      have := HST.out.2 h k hlt
      rwa [HEE.out] at this)
    go_upto_region 5 with (fail)
    have HF5 := Aside0.mk (HF.out.alloc (.cells #[.int .i64 f, .int .i64 m] 48))
    have HX5 := Aside0.mk (blk_new wr (.cells #[.int .i64 f, .int .i64 m] 48))
    obtain ⟨W5, hW5⟩ : ∃ W, wr.alloc (.cells #[.int .i64 f, .int .i64 m] 48) = W := ⟨_, rfl⟩
    obtain ⟨be, hbe⟩ : ∃ b, wr.heap.size = b := ⟨_, rfl⟩
    rw [hW5] at HF5 HX5
    rw [hbe] at HX5
    simp only [hW5, hbe]
    clear hW5 hbe HF e0 e1 HOK y0 j5
    have u0 := (blk_cell HX5.out 0).trans (show _ = some (Value.int .i64 f) from rfl)
    have u1 := (blk_cell HX5.out 1).trans (show _ = some (Value.int .i64 m) from rfl)
    by_cases hf2 : f = 2
    case pos =>
      subst hf2
      have hred := HC.out.reduce hsn (k := k) (by have := HMW.out; omega) (by rw [HROW.out, HEE.out])
      rw [HROW.out, HEE.out] at hred
      simp only at hred
      obtain ⟨p, rfl⟩ := Int.eq_ofNat_of_zero_le hred.1
      have hpp : p < G.prods.length := by omega
      have hp0 : (0 : Int) ≤ (p : Int) := by omega
      have hp1 : (p : Int) < (G.prods.length : Int) := by omega
      obtain ⟨adp, Ar, cr, A6, c6, eap, q0, q1, q2, q3, q4, q5, q6, hrl, hR, _, _⟩ := at_T132 HH.out.g.prods (p : Int) hp0 hp1
      subst eap
      simp only [Int.toNat_natCast] at q0 q1 q2 q3 q4 q5 q6
      replace q0 := HF5.out.cell q0 id
      replace q1 := HF5.out.cell q1 id
      replace q2 := HF5.out.cell q2 id
      replace q3 := HF5.out.cell q3 id
      replace q4 := HF5.out.cell q4 id
      replace q5 := HF5.out.cell q5 id
      replace q6 := HF5.out.cell q6 id
      have j3 := HF5.out.cell k3 id
      have HR := Aside0.mk hR
      have HLP := Aside0.mk (HLF.out p hpp)
      have HNX2 := Aside0.mk (show EndsOk T G.kinds.length (rd_T132 G.prods (p : Int)).f0 (rd_T132 G.prods (p : Int)).f1.reverse (· = s) → ∀ j : Nat, j < k + 1 → MvSound T G.kinds.length G s j (rd_T48 row (j : Int)) from fun h => HNX.out ⟨fun _ => h, fun h => by simp at h⟩)
      have HNO2 := Aside0.mk (show StSound T G.kinds.length G s → EndsOk T G.kinds.length (rd_T132 G.prods (p : Int)).f0 (rd_T132 G.prods (p : Int)).f1.reverse (· = s) from fun h => (HNO.out h).red rfl)
      obtain ⟨⟨lf, R, lv, ⟨a0, a1, a2, a3⟩⟩, hP⟩ : ∃ P, rd_T132 G.prods (p : Int) = P := ⟨_, rfl⟩
      rw [hP] at q0 q1 q2 q3 q4 q5 q6 hrl HR HLP HNX2 HNO2
      simp only at q0 q1 q2 q3 q4 q5 q6 hrl HR HLP HNX2 HNO2
      clear hred hR hP HNX HNO
      go_upto_region 7 with (fail)
      have hFZ : Fr (fun _ => False) W5 (W5.alloc (.cells #[.int .i64 0, .slice none 0 0, .int .i64 0, .int .i64 0, .int .i64 0, .string ⟨#[]⟩, .slice none 0 0] 132)) := (Fr.refl _ W5).alloc _
      have w0 := hFZ.cell q0 id
      have w1 := hFZ.cell q1 id
      have w2 := hFZ.cell q2 id
      have w3 := hFZ.cell q3 id
      have w4 := hFZ.cell q4 id
      have w5 := hFZ.cell q5 id
      have w6 := hFZ.cell q6 id
      have l3 := hFZ.cell j3 id
      have v1 := hFZ.cell u1 id
      clear hFZ
      go_region
      have HF7 := Aside0.mk ((HF5.out.alloc (.cells #[.int .i64 lf, .slice Ar R.length cr, .int .i64 lv, .int .i64 a0, .int .i64 a1, .string a2, .slice A6 a3.length c6] 132)).drew)
      have HX7 := Aside0.mk (show ((W5.alloc (.cells #[.int .i64 lf, .slice Ar R.length cr, .int .i64 lv, .int .i64 a0, .int .i64 a1, .string a2, .slice A6 a3.length c6] 132)).drew).heap[W5.heap.size]? = _ from blk_new W5 (.cells #[.int .i64 lf, .slice Ar R.length cr, .int .i64 lv, .int .i64 a0, .int .i64 a1, .string a2, .slice A6 a3.length c6] 132))
      obtain ⟨W7, hW7⟩ : ∃ W, (W5.alloc (.cells #[.int .i64 lf, .slice Ar R.length cr, .int .i64 lv, .int .i64 a0, .int .i64 a1, .string a2, .slice A6 a3.length c6] 132)).drew = W := ⟨_, rfl⟩
      obtain ⟨bp, hbp⟩ : ∃ b, W5.heap.size = b := ⟨_, rfl⟩
      rw [hW7] at HF7 HX7
      rw [hbp] at HX7
      simp only [hW7, hbp]
      clear hW7 hbp q0 q1 q2 q3 q4 q5 q6 w0 w1 w2 w3 w4 w5 w6 l3 v1 j3 u0 u1
      have t0 := (blk_cell HX7.out 0).trans (show _ = some (Value.int .i64 lf) from rfl)
      have t1 := (blk_cell HX7.out 1).trans (show _ = some (Value.slice Ar R.length cr) from rfl)
      have HCL := Aside0.mk (rends_calls W7 u G T A0 A1 A2 (some adp) (some adm) B1 EA c0 c1 c2 c3 d0 d1 ec EL v8 (HH.out.fr HF7.out) G.kinds.length nr G.prods.length HC.out HE.out s HSR.out Ar cr R (Kd.C_below HR.out HF7.out.to_below) hrl lf HLP.out.1 HLP.out.2)
      go_wp2_with (fail)
      refine HCL.out.mono ?_
      rintro e W6 ⟨r, rfl, hiff, hF6⟩
      have HF6 := Aside0.mk (HF7.out.trans hF6 (fun _ _ h => h))
      have HIF := Aside0.mk hiff
      clear hiff hF6 t0 t1 HCL HF5
      cases r with
      | false =>
        have HN := Aside0.mk (show ¬ StSound T G.kinds.length G s from fun h => by
          have h2 := HIF.out.2 (HNO2.out h)
          cases h2)
        go_wp2_with (fail)
        go_ret
        exact ⟨false, rfl, ⟨fun h => (by cases h), fun h => absurd h HN.out⟩, HF6.out⟩
      | true =>
        have HN3 := Aside0.mk (HNX2.out (HIF.out.1 rfl))
        go_wp2_with (fail)
        exact ⟨⟨k + 1, by go_num, by omega, HF6, HN3⟩, by simp [intOf]; omega⟩
    case neg =>
    by_cases hf3 : f = 3
    case neg =>
      have HNX2 := Aside0.mk (HNX.out ⟨fun h => absurd h hf2, fun h => absurd h hf3⟩)
      go_wp2_with (fail)
      exact ⟨⟨k + 1, by go_num, by omega, HF5, HNX2⟩, by simp [intOf]; omega⟩
    case pos =>
    subst hf3
    by_cases hkz : k = 0
    case neg =>
      have HN := Aside0.mk (show ¬ StSound T G.kinds.length G s from fun h => hkz ((HNO.out h).acc rfl).1)
      have hk1 : ¬ ((k : Int) = 0) := by omega
      clear hkz
      go_wp2_with (fail)
      go_ret
      exact ⟨false, rfl, ⟨fun h => (by cases h), fun h => absurd h HN.out⟩, HF5.out⟩
    case pos =>
    subst hkz
    have HCL := Aside0.mk (accepts_calls W5 u G T A0 A1 A2 A3 (some adm) B1 EA c0 c1 c2 c3 d0 d1 ec EL v8 (HH.out.fr HF5.out) nr G.prods.length HC.out HE.out hkb hst0 hst1 s HSR.out)
    go_wp2_with (fail)
    refine HCL.out.mono ?_
    rintro e W6 ⟨r, rfl, hiff, hF6⟩
    have HF6 := Aside0.mk (HF5.out.trans hF6 (fun _ _ h => h))
    have HIF := Aside0.mk hiff
    clear hiff hF6 u0 u1 HCL HF5
    cases r with
    | false =>
      have HN := Aside0.mk (show ¬ StSound T G.kinds.length G s from fun h => by
        have h1 := (HNO.out h).acc rfl
        have h2 := HIF.out.2 h1.2
        cases h2)
      go_wp2_with (fail)
      go_ret
      exact ⟨false, rfl, ⟨fun h => (by cases h), fun h => absurd h HN.out⟩, HF6.out⟩
    | true =>
      have HNX2 := Aside0.mk (HNX.out ⟨fun h => by simp at h, fun _ => ⟨rfl, HIF.out.1 rfl⟩⟩)
      go_wp2_with (fail)
      exact ⟨⟨1, by go_num, by omega, HF6, HNX2⟩, by simp [intOf]; omega⟩
end Go.Proofs.Ytlpmjmanmncmnaa.Tab
