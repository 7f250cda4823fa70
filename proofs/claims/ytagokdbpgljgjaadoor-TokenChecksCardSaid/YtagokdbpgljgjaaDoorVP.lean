/-
The law of the picks, walked.
-/
import Derived.Test.YtagokdbpgljgjaaDoorVJ
import Derived.Test.YtagokdbpgljgjaaDoorVM
namespace Go.Proofs.YtagokdbpgljgjaaDoor.Tok
open Go.RowKit Go.Proofs.YtagokdbpgljgjaaDoorW.PrintWords Go.Proofs.YtagokdbpgljgjaaDoorW.PrintLast Go.Proofs.YtagokdbpgljgjaaDoorW.PrintMore Go.Proofs.YtagokdbpgljgjaaDoor.Fr Go.Proofs.YtagokdbpgljgjaaDoor.PGramFirsts Go.Proofs.YtagokdbpgljgjaaDoor.TextSet Go.Proofs.YtagokdbpgljgjaaDoor.Bld

theorem row_calls (w : World) (l : List S55) (hl : l.length ≤ MaxT) (A : Option Addr) (c : Nat) (hc : l.length ≤ c) (hC : Kd.C k55 w A l.length l) : Calls Tryd.prog 23 #[.slice A l.length c] w fun e w' => ∃ A' c', e = .returned (.slice A' l.length c') ∧ Kd.C (Kd.int .i64) w' A' (l.map (·.f0)).length (l.map (·.f0)) ∧ Fr (fun _ => False) w w' := by
  obtain ⟨k, hk⟩ := row_some l hl
  refine (token_Row.calls k A c l _ w hC hc hk).mono ?_
  rintro e W1 ⟨v, rfl, hR, hb⟩
  obtain ⟨A', c', rfl, _, h2⟩ := Kd.R_reads hR
  exact ⟨A', c', by rw [List.length_map], h2, Fr.of_below hb⟩
theorem only_calls (w : World) (l : List S55) (hl : l.length ≤ MaxT) (A : Option Addr) (c : Nat) (hc : l.length ≤ c) (hC : Kd.C k55 w A l.length l) (ks : List Int) (hk : ks.length ≤ 9223372036854775806) (A1 : Option Addr) (c1 : Nat) (hc1 : ks.length ≤ c1) (hC1 : Kd.C (Kd.int .i64) w A1 ks.length ks) :
    Calls Tryd.prog 24 #[.slice A l.length c, .slice A1 ks.length c1] w fun e w' => ∃ A' c', e = .returned (.slice A' (onlyL ks l).length c') ∧ (onlyL ks l).length ≤ c' ∧ Kd.C k55 w' A' (onlyL ks l).length (onlyL ks l) ∧ Fr (fun _ => False) w w' := by
  obtain ⟨k, hk⟩ := only_some ks hk l hl
  refine (token_Only.calls k A c l A1 c1 ks _ w hC hc hC1 hc1 hk).mono ?_
  rintro e W1 ⟨v, rfl, hR, hb⟩
  obtain ⟨A', c', rfl, h1, h2⟩ := Kd.R_reads hR
  exact ⟨A', c', rfl, h1, h2, Fr.of_below hb⟩
theorem ref_calls (w : World) (l : List S55) (hl : l.length ≤ MaxT) (A : Option Addr) (c : Nat) (hc : l.length ≤ c) (hC : Kd.C k55 w A l.length l) (ks : List Int) (hk : ks.length ≤ 9223372036854775806) (A1 : Option Addr) (c1 : Nat) (hc1 : ks.length ≤ c1) (hC1 : Kd.C (Kd.int .i64) w A1 ks.length ks) :
    Calls Tryd.prog 25 #[.slice A l.length c, .slice A1 ks.length c1] w fun e w' => ∃ A' c', e = .returned (.slice A' (onlyL ks l).length c') ∧ (onlyL ks l).length ≤ c' ∧ Kd.C k55 w' A' (onlyL ks l).length (onlyL ks l) ∧ Fr (fun _ => False) w w' := by
  obtain ⟨k, hk⟩ := ref_some ks hk l hl
  refine (quoinref07_Only.calls k A c l A1 c1 ks _ w hC hc hC1 hc1 hk).mono ?_
  rintro e W1 ⟨v, rfl, hR, hb⟩
  obtain ⟨A', c', rfl, h1, h2⟩ := Kd.R_reads hR
  exact ⟨A', c', rfl, h1, h2, Fr.of_below hb⟩
theorem same_calls (w : World) (l : List S55) (hl : l.length ≤ 9223372036854775806) (A : Option Addr) (c : Nat) (hc : l.length ≤ c) (hC : Kd.C k55 w A l.length l) (A1 : Option Addr) (c1 : Nat) (hc1 : l.length ≤ c1) (hC1 : Kd.C k55 w A1 l.length l) :
    Calls Tryd.prog 22 #[.slice A l.length c, .slice A1 l.length c1] w fun e w' => e = .returned (.bool true) ∧ Fr (fun _ => False) w w' := by
  obtain ⟨k, hk⟩ := same_some l hl
  refine (quoinref07_Same.calls k A c l A1 c1 l true w hC hc hC1 hc1 hk).mono ?_
  rintro e W1 ⟨rfl, hd⟩
  exact ⟨rfl, Fr.drawn hd⟩
theorem tokOf_C (W : World) (b : Nat) (x : S55) {t : TypeId} (h : W.heap[b]? = some (.cells #[.int .i64 x.f0, .int .i64 x.f1, .int .i64 x.f2] t (0, 0))) : Kd.C k55 W (some ⟨b, 0, none⟩) 1 [x] := by
  refine ⟨rfl, by decide, fun _ => ⟨_, rfl, fun j p hj => ?_⟩⟩
  rcases j with _ | j
  · obtain rfl : x = p := by simpa using hj
    refine ⟨_, rfl, k55_mk W x, fun i u hu => ?_⟩
    rcases (by have := (List.getElem?_eq_some_iff.1 hu).1; simp at this; omega : i = 0 ∨ i = 1 ∨ i = 2) with rfl | rfl | rfl
    · exact (blk_cell h 0).trans hu
    · exact (blk_cell h 1).trans hu
    · exact (blk_cell h 2).trans hu
  · simp at hj
set_option maxHeartbeats 4000000 in
set_option maxRecDepth 100000 in
theorem picks_calls (w : World) (l : List S55) (hl : l.length ≤ MaxT) (A : Option Addr) (c : Nat) (hc : l.length ≤ c) (hC : Kd.C k55 w A l.length l) (ks : List Int) (hk : ks.length ≤ 9223372036854775806) (A1 : Option Addr) (c1 : Nat) (hc1 : ks.length ≤ c1) (hC1 : Kd.C (Kd.int .i64) w A1 ks.length ks) (hm : Mx w) :
    Calls Tryd.prog 7 #[.slice A l.length c, .slice A1 ks.length c1] w fun e w' => e = .returned (.bool true) ∧ Below w.heap.size w w' := by
  have hM : MaxT = 5864062014634 := rfl
  go_enter Tryd.func7, Tryd.ntmps7
  have HC := Aside0.mk hC
  have HC1 := Aside0.mk hC1
  have HM := Aside0.mk hm
  clear hC hC1 hm
  go_wp2_with (fail)
  refine (row_calls w l hl A c hc HC.out).mono ?_
  rintro e W1 ⟨Ar, cr, rfl, hR, hF⟩
  have HF1 := Aside0.mk hF
  have HR1 := Aside0.mk hR
  clear hF hR
  go_wp2_with (fail)
  refine (only_calls W1 l hl A c hc (Kd.C_below HC.out HF1.out.to_below) ks hk A1 c1 hc1 (Kd.C_below HC1.out HF1.out.to_below)).mono ?_
  rintro e W2 ⟨Ao, co, rfl, hco, hO, hF⟩
  have HF2 := Aside0.mk (HF1.out.trans hF (fun _ _ h => h))
  have HR2 := Aside0.mk (Kd.C_below HR1.out hF.to_below)
  have HO2 := Aside0.mk hO
  clear hF hO HF1 HR1
  go_wp2_with (fail)
  refine (ref_calls W2 l hl A c hc (Kd.C_below HC.out HF2.out.to_below) ks hk A1 c1 hc1 (Kd.C_below HC1.out HF2.out.to_below)).mono ?_
  rintro e W3 ⟨Ap, cq, rfl, hcq, hP, hF⟩
  have HF3 := Aside0.mk (HF2.out.trans hF (fun _ _ h => h))
  have HR3 := Aside0.mk (Kd.C_below HR2.out hF.to_below)
  have HO3 := Aside0.mk (Kd.C_below HO2.out hF.to_below)
  have HP3 := Aside0.mk hP
  clear hF hP HF2 HR2 HO2
  go_wp2_with (fail)
  refine (same_calls W3 (onlyL ks l) (by have := onlyL_le ks l; omega) Ao co hco HO3.out Ap cq hcq HP3.out).mono ?_
  rintro e W4 ⟨rfl, hF⟩
  have HF4 := Aside0.mk (HF3.out.trans hF (fun _ _ h => h))
  have HR4 := Aside0.mk (Kd.C_below HR3.out hF.to_below)
  clear hF HF3 HR3 HO3 HP3
  go_wp2_with (fail)
  go_loopw [26] (fun a W => ∃ i : Nat, a = .int .i64 i ∧ i ≤ l.length ∧ Aside0 (Kd.C (Kd.int .i64) W Ar (l.map (·.f0)).length (l.map (·.f0))) ∧ Aside0 (Fr (fun _ => False) w W)) (fun a _ => l.length - (intOf a).toNat)
  case atStart => exact ⟨0, rfl, Nat.zero_le _, HR4, HF4⟩
  case round =>
    clear HF4 HR4
    obtain ⟨i, rfl, hi, HR, HF⟩ := hrel
    by_cases hlt : i < l.length
    · obtain ⟨ad, rfl, hx0, hx1, hx2⟩ := at_T55 HC.out (i : Int) (by omega) (by omega)
      replace hx0 := HF.out.cell hx0 id
      obtain ⟨ar, rfl, hy⟩ := Kd.at_int HR.out (i : Int) (by omega) (by rw [List.length_map]; omega)
      have he : rd (l.map (·.f0)) (i : Int) = (rd_T55 l i).f0 := by
        simp [rd, rd_T55, List.getD_eq_getElem?_getD, List.getElem?_map, List.getElem?_eq_getElem hlt]
      rw [he] at hy
      simp only [Int.toNat_natCast] at hx0 hy
      generalize (rd_T55 l i).f0 = y at hx0 hy
      have k1 : (i : Int) < (l.length : Int) := by omega
      have k2 : (0 : Int) ≤ (i : Int) := by omega
      clear he hx1 hx2
      go_wp2_with (fail)
      go_quiet (fail)
      go_wp2_with (fail)
      exact ⟨⟨i + 1, by go_num, by omega, ⟨Kd.C_drewN HR.out _⟩, ⟨HF.out.drewN _⟩⟩, by simp [intOf]; omega⟩
    · obtain rfl : i = l.length := by omega
      go_wp2_with (fail)
      have HF5 := Aside0.mk (HF.out.alloc (.cells #[.int .i64 7, .int .i64 0, .int .i64 0] 55))
      refine (row_calls _ [⟨7, 0, 0⟩] (by decide) _ 1 (by decide) (tokOf_C _ wr.heap.size ⟨7, 0, 0⟩ (t := 55) (blk_new wr _))).mono ?_
      rintro e W6 ⟨As, cs, rfl, _, hF⟩
      have HF6 := Aside0.mk (HF5.out.trans hF (fun _ _ h => h))
      clear hF HF5
      go_wp2_with (fail)
      refine (alive_calls W6 (HM.out.fr HF6.out (fun _ _ => id))).mono ?_
      rintro e W7 ⟨rfl, hF⟩
      go_wp2_with (fail)
      go_ret
      exact ⟨rfl, (HF6.out.trans hF (fun _ _ h => h)).to_below⟩
end Go.Proofs.YtagokdbpgljgjaaDoor.Tok
