/-
Which states are reached anew from one: the reference's way, walked.
-/
import Derived.Deep.RegionHeld3
import Derived.BigRegion
import Derived.Test.YtlpmjmanmncmnaaMAR
set_option linter.unusedSimpArgs false
set_option linter.unusedVariables false
namespace Go.Proofs.Ytlpmjmanmncmnaa.Tab
open Go.RowKit Go.Maps Go.Proofs.YtlpmjmanmncmnaaW.PrintWords Go.Proofs.YtlpmjmanmncmnaaW.PrintLast Go.Proofs.YtlpmjmanmncmnaaW.PrintMore Go.Proofs.Ytlpmjmanmncmnaa.Fr Go.Proofs.Ytlpmjmanmncmnaa.PT
/-- The marks behind the steps from s by the symbols below c. -/
structure Fm (T : Tb) (nk s : Nat) (RE0 : List Bool) (c : Int) (b : Bool) (RE : List Bool) : Prop where
  len : RE.length = RE0.length
  ins : ∀ q : Nat, rdOf false RE (q : Int) = true ↔ rdOf false RE0 (q : Int) = true ∨ ∃ y : Int, y < c ∧ IsEd T nk s y q
  no : b = false → RE = RE0
  yes : b = true → RE0.count true < RE.count true
section
variable {T : Tb} {nk nr np s : Nat} {RE0 RE : List Bool} {c : Int} {b : Bool}
theorem Fm.start (hC : TChk T nk nr np) (hs : s < T.mv.length) : Fm T nk s RE0 0 false RE0 :=
  ⟨rfl, fun q => ⟨.inl, fun h => h.resolve_right (fun ⟨y, h1, h2⟩ => by have := (hC.ed hs h2).1; omega)⟩, fun _ => rfl, fun h => (by cases h)⟩
theorem Fm.skip (h : Fm T nk s RE0 c b RE) (hn : ∀ q, IsEd T nk s c q → rdOf false RE (q : Int) = true) : Fm T nk s RE0 (c + 1) b RE := by
  refine ⟨h.len, fun q => ?_, h.no, h.yes⟩
  constructor
  · intro h1
    rcases (h.ins q).1 h1 with h2 | ⟨y, h2, h3⟩
    · exact .inl h2
    · exact .inr ⟨y, by omega, h3⟩
  · rintro (h1 | ⟨y, h1, h2⟩)
    · exact (h.ins q).2 (.inl h1)
    · by_cases e : y = c
      · subst e
        exact hn q h2
      · exact (h.ins q).2 (.inr ⟨y, by omega, h2⟩)
theorem Fm.mark (h : Fm T nk s RE0 c b RE) (hC : TChk T nk nr np) (hs : s < T.mv.length) {q : Nat} (hq : q < RE0.length) (he : IsEd T nk s c q) (h0 : rdOf false RE (q : Int) = false) : Fm T nk s RE0 (c + 1) true (RE.set q true) := by
  have hl := h.len
  refine ⟨by rw [List.length_set]; exact hl, fun p => ?_, fun e => (by cases e), fun _ => ?_⟩
  · rw [rdOf_setT (by omega)]
    constructor
    · split
      · rename_i e
        exact fun _ => .inr ⟨c, by omega, by rw [e]; exact he⟩
      · intro h1
        rcases (h.ins p).1 h1 with h2 | ⟨y, h2, h3⟩
        · exact .inl h2
        · exact .inr ⟨y, by omega, h3⟩
    · intro h1
      split
      · rfl
      · rename_i e
        refine (h.ins p).2 (h1.imp id fun ⟨y, h2, h3⟩ => ⟨y, ?_, h3⟩)
        by_cases e2 : y = c
        · subst e2
          exact absurd (hC.one_ed hs h3 he) e
        · omega
  · rw [cnt_setT RE q (by omega) h0]
    cases b with
    | false => rw [h.no rfl]; omega
    | true => have := h.yes rfl; omega
end
/-- What from answers. -/
def FromPost (w : World) (base gm cm n : Nat) (T : Tb) (nk s : Nat) (RE0 : List Bool) (e : Ending) (w' : World) : Prop :=
  ∃ (b : Bool) (RE : List Bool), e = .returned (.bool b) ∧ RE.length = RE0.length ∧ (∀ q : Nat, rdOf false RE (q : Int) = true ↔ rdOf false RE0 (q : Int) = true ∨ ∃ y : Int, IsEd T nk s y q) ∧ (b = false → RE = RE0) ∧ (b = true → RE0.count true < RE.count true) ∧
    Fr (fun k => k = gm) w w' ∧ Kd.bool.R 4 w' base (fun _ => True) (.slice (some ⟨gm, 0, none⟩) n cm) RE
set_option maxHeartbeats 8000000 in
set_option maxRecDepth 100000 in
theorem from_calls (w : World) (base u gm cm : Nat) (T : Tb) (nk nr np : Nat) (hC : TChk T nk nr np) (B0 B1 : Option Addr) (d0 d1 : Nat) (v0 v1 v2 v3 v4 v7 : Value) (hb : w.heap[u]? = some (.cells #[v0, v1, v2, v3, v4, .slice B0 T.mv.length d0, .slice B1 T.gt.length d1, v7, .slice (some ⟨gm, 0, none⟩) T.mv.length cm] 112 (0, 0)))
    (hT : ∀ W, Fr (fun k => k = gm) w W → TAt W T B0 B1 d0 d1) (RE0 : List Bool) (hR : Kd.bool.R 4 w base (fun _ => True) (.slice (some ⟨gm, 0, none⟩) T.mv.length cm) RE0) (s : Nat) (hs : s < T.mv.length) :
    Calls Try.prog 53 #[.pointer (some ⟨u, 0, none⟩), .int .i64 s] w (FromPost w base gm cm T.mv.length T nk s RE0) := by
  have hn2 := hC.max
  obtain ⟨hw1, hw2⟩ := hC.wide hs
  have hT0 := hT w (Fr.refl _ _)
  obtain ⟨adm, _, _, rfl, _, _, hMr⟩ := at_L2 hT0.mv (s : Int) (by omega) (by omega)
  obtain ⟨adg, _, _, rfl, _, _, hGr⟩ := at_L3 hT0.gt (s : Int) (by omega) (by have := hC.len; omega)
  have hm1 := Kd.C_max hMr
  have hm2 := Kd.C_max hGr
  rw [hw1] at hm1
  rw [hw2] at hm2
  have hgl := hC.len
  have HT := Aside0.mk hT
  have HC := Aside0.mk hC
  have hl0 : RE0.length = T.mv.length := (Kd.R_reads' hR).1.symm
  obtain ⟨bcells, hbt⟩ := Kd.R_typed hR gm rfl
  have hug : ¬ u = gm := typed_ne2 hb hbt (by decide)
  have HB := Aside0.mk hb
  have hs0 : (0 : Int) ≤ (s : Int) := by omega
  have hs1 : (s : Int) < (T.mv.length : Int) := by omega
  have hs2 : (s : Int) < (T.gt.length : Int) := by omega
  have HGL := Aside0.mk hgl
  have HL0 := Aside0.mk hl0
  have HCE := Aside0.mk (show ∀ W, Fr (fun k => k = gm) w W → W.cell? ⟨u, 5, none⟩ = some (.slice (some adm) T.mv.length d0) ∧ W.cell? ⟨u, 6, none⟩ = some (.slice (some adg) T.gt.length d1) ∧ W.cell? ⟨u, 8, none⟩ = some (.slice (some ⟨gm, 0, none⟩) T.mv.length cm) from fun W h => by
    have h1 := h.blk hb hug
    exact ⟨(blk_cell h1 5).trans rfl, (blk_cell h1 6).trans rfl, (blk_cell h1 8).trans rfl⟩)
  have HMV := Aside0.mk (show ∀ W, Fr (fun k => k = gm) w W → ∃ M c, W.cell? (adm.add s) = some (.slice M nk c) ∧ nk ≤ c ∧ k48.C W M nk (rd_L2 T.mv (s : Int)) from fun W h => by
    obtain ⟨_, M, c, e, h1, h2, h3⟩ := at_L2 (hT W h).mv (s : Int) (by omega) (by omega)
    injection e with e
    subst e
    rw [hw1] at h1 h2 h3
    exact ⟨M, c, h1, h2, h3⟩)
  have HGV := Aside0.mk (show ∀ W, Fr (fun k => k = gm) w W → ∃ M c, W.cell? (adg.add s) = some (.slice M nr c) ∧ nr ≤ c ∧ (Kd.int .i64).C W M nr (rd_L3 T.gt (s : Int)) from fun W h => by
    obtain ⟨_, M, c, e, h1, h2, h3⟩ := at_L3 (hT W h).gt (s : Int) (by omega) (by omega)
    injection e with e
    subst e
    rw [hw2] at h1 h2 h3
    exact ⟨M, c, h1, h2, h3⟩)
  have HW := Aside0.mk (show (rd_L2 T.mv (s : Int)).length = nk ∧ (rd_L3 T.gt (s : Int)).length = nr from ⟨hw1, hw2⟩)
  have HF0 := Aside0.mk (Fr.refl (fun k => k = gm) w)
  have HR0 := Aside0.mk hR
  have HM0 := Aside0.mk (Fm.start (RE0 := RE0) hC hs)
  clear hT hC hb hR hbt bcells hT0 hMr hGr hgl hw1 hw2 hl0
  go_enter Try.func53, Try.ntmps53
  go_wp2_with (fail)
  go_loopw [5, 6] (fun f a W => ∃ (b : Bool) (k : Nat) (RE : List Bool), f = .bool b ∧ a = .int .i64 k ∧ k ≤ nk ∧ Aside0 (Fr (fun k => k = gm) w W) ∧ Aside0 (Kd.bool.R 4 W base (fun _ => True) (.slice (some ⟨gm, 0, none⟩) T.mv.length cm) RE) ∧ Aside0 (Fm T nk s RE0 k b RE)) (fun _ a _ => nk - (intOf a).toNat)
  case atStart => exact ⟨false, 0, RE0, rfl, rfl, Nat.zero_le _, HF0, HR0, HM0⟩
  case round =>
    clear HF0 HR0 HM0
    obtain ⟨b, k, RE, rfl, rfl, hk, HF, HR, HM⟩ := hrel
    by_cases hlt : k < nk
    case neg =>
      obtain rfl : k = nk := by omega
      clear hk hlt
      have HM0 := Aside0.mk (show Fm T k s RE0 ((k : Int) + ((0 : Nat) : Int)) b RE from by have h := HM.out; rwa [show (k : Int) + ((0 : Nat) : Int) = (k : Int) by omega])
      obtain ⟨j5, j6, j8⟩ := HCE.out _ HF.out
      obtain ⟨M, mc, x0, hmc, hMr⟩ := HMV.out _ HF.out
      clear hMr
      go_wp2_with (fail)
      go_loopw [5, 8] (fun f a W => ∃ (b : Bool) (r : Nat) (RE : List Bool), f = .bool b ∧ a = .int .i64 r ∧ r ≤ nr ∧ Aside0 (Fr (fun k => k = gm) w W) ∧ Aside0 (Kd.bool.R 4 W base (fun _ => True) (.slice (some ⟨gm, 0, none⟩) T.mv.length cm) RE) ∧ Aside0 (Fm T k s RE0 ((k : Int) + (r : Int)) b RE)) (fun _ a _ => nr - (intOf a).toNat)
      case atStart => exact ⟨b, 0, RE, rfl, rfl, Nat.zero_le _, HF, HR, HM0⟩
      case round =>
        clear HF HR HM HM0 j5 j6 j8 x0
        obtain ⟨b, r, RE, rfl, rfl, hr, HF, HR, HM⟩ := hrel
        obtain ⟨j5, j6, j8⟩ := HCE.out _ HF.out
        obtain ⟨M, mc, x0, hmc, hGr⟩ := HGV.out _ HF.out
        by_cases hlt : r < nr
        case neg =>
          obtain rfl : r = nr := by omega
          have HFIN := Aside0.mk (show FromPost w base gm cm T.mv.length T k s RE0 (.returned (.bool b)) wr from by
            refine ⟨b, RE, rfl, HM.out.len, fun q => ?_, HM.out.no, HM.out.yes, HF.out, HR.out⟩
            rw [HM.out.ins q]
            constructor
            · rintro (h | ⟨y, _, h⟩)
              · exact .inl h
              · exact .inr ⟨y, h⟩
            · rintro (h | ⟨y, h⟩)
              · exact .inl h
              · exact .inr ⟨y, by have := (HC.out.ed hs h).2.1; omega, h⟩)
          go_wp2_with (fail)
          go_ret
          exact HFIN.out
        case pos =>
        obtain ⟨ade, hade, e0⟩ := Kd.at_int hGr (r : Int) (by omega) (by omega)
        obtain ⟨x, hx⟩ : ∃ x, rd (rd_L3 T.gt (s : Int)) (r : Int) = x := ⟨_, rfl⟩
        have HXE := Aside0.mk hx
        simp only [Int.toNat_natCast, hx] at e0
        subst hade
        clear hx hGr
        by_cases hx0 : 0 ≤ x
        case neg =>
          have hxd : decide (0 ≤ x) = false := decide_eq_false hx0
          have HM2 := Aside0.mk (show Fm T k s RE0 ((k : Int) + ((r + 1 : Nat) : Int)) b RE from by
            have h := HM.out.skip (fun q he => by
              rcases he with ⟨k', e, h1, h2, _⟩ | ⟨r', e, h1, h2⟩
              · rw [HW.out.1] at h1
                omega
              · obtain rfl : r = r' := by omega
                rw [HXE.out] at h2
                omega)
            rwa [show (k : Int) + (r : Int) + 1 = (k : Int) + ((r + 1 : Nat) : Int) by omega] at h)
          clear hx0
          go_wp2_with (fail)
          go_quiet (fail)
          have HF6 := Aside0.mk (HF.out.drewN nq)
          have HR6 := Aside0.mk (((Fr.refl (fun _ => False) wr).drewN nq).R HR.out (fun _ _ => id))
          go_wp2_with (fail)
          exact ⟨⟨b, r + 1, RE, rfl, by go_num, by omega, HF6, HR6, HM2⟩, by simp [intOf]; omega⟩
        case pos =>
        obtain ⟨q, rfl⟩ := Int.eq_ofNat_of_zero_le hx0
        have HED := Aside0.mk (show IsEd T k s ((k : Int) + (r : Int)) q from .inr ⟨r, rfl, by rw [HW.out.2]; exact hlt, HXE.out⟩)
        have hq : q < T.mv.length := (HC.out.ed hs HED.out).2.2
        have hxd : decide ((0 : Int) ≤ (q : Int)) = true := decide_eq_true hx0
        have hq1 : (q : Int) < (T.mv.length : Int) := by omega
        obtain ⟨m1, m2⟩ := Kd.R_celln false HR.out (q : Int) hx0 hq1
        simp only [Int.toNat_natCast] at m1 m2
        obtain ⟨z, hz⟩ : ∃ z, rdOf false RE (q : Int) = z := ⟨_, rfl⟩
        have HZ := Aside0.mk hz
        rw [hz] at m1
        clear hz
        cases z with
        | true =>
          have HM2 := Aside0.mk (show Fm T k s RE0 ((k : Int) + ((r + 1 : Nat) : Int)) b RE from by
            have h := HM.out.skip (fun p he => by rw [HC.out.one_ed hs he HED.out]; exact HZ.out)
            rwa [show (k : Int) + (r : Int) + 1 = (k : Int) + ((r + 1 : Nat) : Int) by omega] at h)
          go_wp2_with (fail)
          go_quiet (fail)
          have HF6 := Aside0.mk (HF.out.drewN nq)
          have HR6 := Aside0.mk (((Fr.refl (fun _ => False) wr).drewN nq).R HR.out (fun _ _ => id))
          go_wp2_with (fail)
          exact ⟨⟨b, r + 1, RE, rfl, by go_num, by omega, HF6, HR6, HM2⟩, by simp [intOf]; omega⟩
        | false =>
        have HM2 := Aside0.mk (show Fm T k s RE0 ((k : Int) + ((r + 1 : Nat) : Int)) true (RE.set q true) from by
          have h := HM.out.mark HC.out hs (by rw [HL0.out]; exact hq) HED.out HZ.out
          rwa [show (k : Int) + (r : Int) + 1 = (k : Int) + ((r + 1 : Nat) : Int) by omega] at h)
        go_wp2_with (fail)
        go_quiet (fail)
        have HF6 := Aside0.mk (HF.out.drewN nq)
        have HR6 := Aside0.mk (((Fr.refl (fun _ => False) wr).drewN nq).R HR.out (fun _ _ => id))
        have HD6 := Aside0.mk ((Fr.refl (fun _ => False) wr).drewN nq)
        obtain ⟨W6, hW6⟩ : ∃ W, wr.drewN nq = W := ⟨_, rfl⟩
        rw [hW6] at HF6 HR6 HD6
        simp only [hW6]
        replace e0 := HD6.out.cell e0 id
        clear hW6 HF HR m1 m2 j5 j6 j8 x0
        obtain ⟨j5, j6, j8⟩ := HCE.out _ HF6.out
        obtain ⟨M, mc2, x0, hmc2, hGr⟩ := HGV.out _ HF6.out
        obtain ⟨ade2, hade2, e0⟩ := Kd.at_int hGr (r : Int) (by omega) (by omega)
        simp only [Int.toNat_natCast, HXE.out] at e0
        subst hade2
        clear hGr
        obtain ⟨m1, m2⟩ := Kd.R_celln false HR6.out (q : Int) hx0 hq1
        simp only [Int.toNat_natCast] at m1 m2
        go_upto_region 13 with (fail)
        go_region
        have HF7 := Aside0.mk ((HF6.out.set (g := gm) (o := q) (.bool true) (fun _ => rfl)).drew)
        have HR7 := Aside0.mk (((Fr.refl (fun _ => False) _).drew).R (Kd.R_putg HR6.out (q : Int) true).1 (fun _ _ => id))
        simp only [Int.toNat_natCast] at HR7
        go_wp2_with (fail)
        exact ⟨⟨true, r + 1, _, rfl, by go_num, by omega, HF7, HR7, HM2⟩, by simp [intOf]; omega⟩
    case pos =>
    obtain ⟨j5, j6, j8⟩ := HCE.out _ HF.out
    obtain ⟨M, mc, x0, hmc, hMr⟩ := HMV.out _ HF.out
    obtain ⟨ade, hade, e0, e1⟩ := at_T48 hMr (k : Int) (by omega) (by omega)
    subst hade
    obtain ⟨ee, hee⟩ : ∃ e, rd_T48 (rd_L2 T.mv (s : Int)) (k : Int) = e := ⟨_, rfl⟩
    have HEE := Aside0.mk hee
    simp only [Int.toNat_natCast, hee] at e0 e1
    clear hee hMr
    obtain ⟨f, m⟩ := ee
    simp only at e0 e1
    go_upto_region 6 with (fail)
    have HF5 := Aside0.mk (HF.out.alloc (.cells #[.int .i64 f, .int .i64 m] 48))
    have HR5 := Aside0.mk (Kd.R_alloc HR.out (.cells #[.int .i64 f, .int .i64 m] 48))
    have HX5 := Aside0.mk (blk_new wr (.cells #[.int .i64 f, .int .i64 m] 48))
    obtain ⟨W5, hW5⟩ : ∃ W, wr.alloc (.cells #[.int .i64 f, .int .i64 m] 48) = W := ⟨_, rfl⟩
    obtain ⟨be, hbe⟩ : ∃ b, wr.heap.size = b := ⟨_, rfl⟩
    rw [hW5] at HF5 HR5 HX5
    rw [hbe] at HX5
    simp only [hW5, hbe]
    clear hW5 hbe HF HR e0 e1 x0 j5 j6 j8
    have u0 := (blk_cell HX5.out 0).trans (show _ = some (Value.int .i64 f) from rfl)
    have u1 := (blk_cell HX5.out 1).trans (show _ = some (Value.int .i64 m) from rfl)
    obtain ⟨j5, j6, j8⟩ := HCE.out _ HF5.out
    by_cases hf : f = 1
    case neg =>
      have hfb : (f == 1) = false := beq_eq_false_iff_ne.2 hf
      have hfd : decide (f = 1) = false := decide_eq_false hf
      have HM2 := Aside0.mk (show Fm T nk s RE0 ((k + 1 : Nat) : Int) b RE from HM.out.skip (fun q he => by
        rcases he with ⟨k', e, h1, h2, _⟩ | ⟨r', e, h1, h2⟩
        · obtain rfl : k = k' := by omega
          rw [HEE.out] at h2
          exact absurd h2 hf
        · omega))
      clear hf
      go_quiet (fail)
      have HF6 := Aside0.mk (HF5.out.drewN nq)
      have HR6 := Aside0.mk (((Fr.refl (fun _ => False) W5).drewN nq).R HR5.out (fun _ _ => id))
      go_wp2_with (fail)
      exact ⟨⟨b, k + 1, RE, rfl, by go_num, by omega, HF6, HR6, HM2⟩, by simp [intOf]; omega⟩
    case pos =>
    subst hf
    have HSH := Aside0.mk (HC.out.shift hs hlt (by rw [HEE.out]))
    obtain ⟨q, rfl⟩ := Int.eq_ofNat_of_zero_le (show 0 ≤ m by have h := HSH.out.1; rw [HEE.out] at h; exact h)
    have hq : q < T.mv.length := by
      have h := HSH.out.2
      rw [HEE.out] at h
      simp only at h
      omega
    have HED := Aside0.mk (show IsEd T nk s (k : Int) q from .inl ⟨k, rfl, by rw [HW.out.1]; exact hlt, by rw [HEE.out], by rw [HEE.out]⟩)
    have hq0 : (0 : Int) ≤ (q : Int) := by omega
    have hq1 : (q : Int) < (T.mv.length : Int) := by omega
    obtain ⟨m1, m2⟩ := Kd.R_celln false HR5.out (q : Int) hq0 hq1
    simp only [Int.toNat_natCast] at m1 m2
    obtain ⟨z, hz⟩ : ∃ z, rdOf false RE (q : Int) = z := ⟨_, rfl⟩
    have HZ := Aside0.mk hz
    rw [hz] at m1
    clear hz
    cases z with
    | true =>
      have HM2 := Aside0.mk (show Fm T nk s RE0 ((k + 1 : Nat) : Int) b RE from HM.out.skip (fun p he => by rw [HC.out.one_ed hs he HED.out]; exact HZ.out))
      go_quiet (fail)
      have HF6 := Aside0.mk (HF5.out.drewN nq)
      have HR6 := Aside0.mk (((Fr.refl (fun _ => False) W5).drewN nq).R HR5.out (fun _ _ => id))
      go_wp2_with (fail)
      exact ⟨⟨b, k + 1, RE, rfl, by go_num, by omega, HF6, HR6, HM2⟩, by simp [intOf]; omega⟩
    | false =>
    have HM2 := Aside0.mk (show Fm T nk s RE0 ((k + 1 : Nat) : Int) true (RE.set q true) from HM.out.mark HC.out hs (by rw [HL0.out]; exact hq) HED.out HZ.out)
    go_quiet (fail)
    have HF6 := Aside0.mk (HF5.out.drewN nq)
    have HR6 := Aside0.mk (((Fr.refl (fun _ => False) W5).drewN nq).R HR5.out (fun _ _ => id))
    have HX6 := Aside0.mk (((Fr.refl (fun _ => False) W5).drewN nq).blk HX5.out id)
    obtain ⟨W6, hW6⟩ : ∃ W, W5.drewN nq = W := ⟨_, rfl⟩
    rw [hW6] at HF6 HR6 HX6
    simp only [hW6]
    clear hW6 HF5 HR5 HX5 u0 u1 m1 m2 j5 j6 j8
    have u1 := (blk_cell HX6.out 1).trans (show _ = some (Value.int .i64 q) from rfl)
    obtain ⟨j5, j6, j8⟩ := HCE.out _ HF6.out
    obtain ⟨m1, m2⟩ := Kd.R_celln false HR6.out (q : Int) hq0 hq1
    simp only [Int.toNat_natCast] at m1 m2
    go_upto_region 7 with (fail)
    go_region
    have HF7 := Aside0.mk ((HF6.out.set (g := gm) (o := q) (.bool true) (fun _ => rfl)).drew)
    have HR7 := Aside0.mk (((Fr.refl (fun _ => False) _).drew).R (Kd.R_putg HR6.out (q : Int) true).1 (fun _ _ => id))
    simp only [Int.toNat_natCast] at HR7
    go_wp2_with (fail)
    exact ⟨⟨true, k + 1, _, rfl, by go_num, by omega, HF7, HR7, HM2⟩, by simp [intOf]; omega⟩
end Go.Proofs.Ytlpmjmanmncmnaa.Tab
