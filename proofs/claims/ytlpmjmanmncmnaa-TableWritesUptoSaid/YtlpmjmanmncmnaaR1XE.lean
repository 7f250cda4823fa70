/-
Whether a table may be: table.Check, walked.
-/
import Derived.Test.YtlpmjmanmncmnaaR1XD
set_option linter.unusedSimpArgs false
set_option linter.unusedVariables false
namespace Go.Proofs.Ytlpmjmanmncmnaa.Tab
open Go.RowKit Go.Maps Go.Proofs.YtlpmjmanmncmnaaW.PrintWords Go.Proofs.YtlpmjmanmncmnaaW.PrintLast Go.Proofs.YtlpmjmanmncmnaaW.PrintMore Go.Proofs.Ytlpmjmanmncmnaa.Fr Go.Proofs.Ytlpmjmanmncmnaa.PT
/-- A state may be. -/
def StOk (T : Tb) (kinds rules prods : Int) (s : Nat) : Prop := MvOk kinds T.mv.length prods (rd_L2 T.mv s) ∧ GtOk rules T.mv.length (rd_L3 T.gt s)
def bad1 (kinds rules prods : Int) : Prop := kinds < 2 ∨ rules < 0 ∨ prods < 0
def bad2 (T : Tb) : Prop := T.mv.length < 1 ∨ 4096 < T.mv.length ∨ T.gt.length ≠ T.mv.length
/-- What Check answers. -/
structure IsChk (T : Tb) (kinds rules prods : Int) (e : Int) : Prop where
  one : bad1 kinds rules prods → e = 1
  two : ¬ bad1 kinds rules prods → bad2 T → e = 170
  ok : ¬ bad1 kinds rules prods → ¬ bad2 T → (∀ s : Nat, s < T.mv.length → StOk T kinds rules prods s) → e = 0
  no : ¬ bad1 kinds rules prods → ¬ bad2 T → ∀ s : Nat, s < T.mv.length → ¬ StOk T kinds rules prods s → e = 170
theorem chk_1 {T : Tb} {kinds rules prods : Int} (b : bad1 kinds rules prods) : IsChk T kinds rules prods 1 := ⟨fun _ => rfl, fun h => absurd b h, fun h => absurd b h, fun h => absurd b h⟩
theorem chk_2 {T : Tb} {kinds rules prods : Int} (b1 : ¬ bad1 kinds rules prods) (b : bad2 T) : IsChk T kinds rules prods 170 := ⟨fun h => absurd h b1, fun _ _ => rfl, fun _ h => absurd b h, fun _ h => absurd b h⟩
theorem chk_3 {T : Tb} {kinds rules prods : Int} (b1 : ¬ bad1 kinds rules prods) (b2 : ¬ bad2 T) (h : ∀ s : Nat, s < T.mv.length → StOk T kinds rules prods s) : IsChk T kinds rules prods 0 := ⟨fun h => absurd h b1, fun _ h => absurd h b2, fun _ _ _ => rfl, fun _ _ s hs hn => absurd (h s hs) hn⟩
theorem chk_4 {T : Tb} {kinds rules prods : Int} (b1 : ¬ bad1 kinds rules prods) (b2 : ¬ bad2 T) {s : Nat} (hs : s < T.mv.length) (h : ¬ StOk T kinds rules prods s) : IsChk T kinds rules prods 170 := ⟨fun h => absurd h b1, fun _ h => absurd h b2, fun _ _ ha => absurd (ha s hs) h, fun _ _ _ _ _ => rfl⟩
def ChkPost (w : World) (T : Tb) (kinds rules prods : Int) (e : Ending) (w' : World) : Prop := ∃ r : Int, e = .returned (.int .i64 r) ∧ IsChk T kinds rules prods r ∧ Fr (fun _ => False) w w'
set_option maxHeartbeats 8000000 in
set_option maxRecDepth 100000 in
theorem check_calls (w : World) (T : Tb) (A0 A1 : Option Addr) (c0 c1 : Nat) (h : TAt w T A0 A1 c0 c1) (kinds rules prods : Int) :
    Calls Try.prog 12 #[.agg #[.slice A0 T.mv.length c0, .slice A1 T.gt.length c1], .int .i64 kinds, .int .i64 rules, .int .i64 prods] w (ChkPost w T kinds rules prods) := by
  have hu := Try.underlying25
  have hu2 := Try.underlying83
  have hm0 := Kd.C_max h.mv
  have hm1 := Kd.C_max h.gt
  have HT := Aside0.mk h
  clear h
  have HF0 := Aside0.mk ((Fr.refl (fun _ => False) w).alloc (.cells #[.slice A0 T.mv.length c0, .slice A1 T.gt.length c1] 25))
  go_enter Try.func12, Try.ntmps12
  by_cases b1 : kinds < 2
  · have HB := Aside0.mk (chk_1 (T := T) (.inl b1 : bad1 kinds rules prods))
    go_wp2_with (fail)
    go_ret
    exact ⟨1, rfl, HB.out, HF0.out⟩
  by_cases b2 : rules < 0
  · have HB := Aside0.mk (chk_1 (T := T) (.inr (.inl b2) : bad1 kinds rules prods))
    go_wp2_with (fail)
    go_ret
    exact ⟨1, rfl, HB.out, HF0.out⟩
  by_cases b3 : prods < 0
  · have HB := Aside0.mk (chk_1 (T := T) (.inr (.inr b3) : bad1 kinds rules prods))
    go_wp2_with (fail)
    go_ret
    exact ⟨1, rfl, HB.out, HF0.out⟩
  have HB1 := Aside0.mk (show ¬ bad1 kinds rules prods from fun h => by unfold bad1 at h; omega)
  by_cases d1 : T.mv.length < 1
  · have HB := Aside0.mk (chk_2 (T := T) HB1.out (.inl d1))
    go_wp2_with (fail)
    go_ret
    exact ⟨170, rfl, HB.out, HF0.out⟩
  by_cases d2 : 4096 < T.mv.length
  · have HB := Aside0.mk (chk_2 (T := T) HB1.out (.inr (.inl d2)))
    go_wp2_with (fail)
    go_ret
    exact ⟨170, rfl, HB.out, HF0.out⟩
  by_cases d3 : T.gt.length = T.mv.length
  case neg =>
    have HB := Aside0.mk (chk_2 (T := T) HB1.out (.inr (.inr d3)))
    have d3b : ((T.gt.length : Int) != (T.mv.length : Int)) = true := bne_iff_ne.2 (by omega)
    clear d3
    go_wp2_with (fail)
    go_ret
    exact ⟨170, rfl, HB.out, HF0.out⟩
  have HB2 := Aside0.mk (show ¬ bad2 T from fun h => by unfold bad2 at h; omega)
  have d3b : ((T.gt.length : Int) != (T.mv.length : Int)) = false := bne_eq_false_iff_eq.2 (by omega)
  have HLEN := Aside0.mk d3
  have d1b : decide ((T.mv.length : Int) < 1) = false := decide_eq_false (by omega)
  have d2b : decide (4096 < (T.mv.length : Int)) = false := decide_eq_false (by omega)
  have HN1 := Aside0.mk (And.intro d1 d2)
  clear d3 d1 d2
  go_wp2_with (fail)
  have HF1 := Aside0.mk ((HF0.out.alloc (.cells #[.slice A0 T.mv.length c0, .slice A1 T.gt.length c1, .int .i64 kinds, .int .i64 rules, .int .i64 prods, .slice (some ⟨w.heap.size + 1 + 1, 0, none⟩) 2 2] 83)).alloc (.cells #[.func (.func 36) #[.pointer (some ⟨w.heap.size + 1, 0, none⟩)] #[], .func (.func 37) #[.pointer (some ⟨w.heap.size + 1, 0, none⟩)] #[]] 84))
  have HTB := Aside0.mk (blk_alloc (blk_alloc (blk_new w (.cells #[.slice A0 T.mv.length c0, .slice A1 T.gt.length c1] 25)) (.cells #[.slice A0 T.mv.length c0, .slice A1 T.gt.length c1, .int .i64 kinds, .int .i64 rules, .int .i64 prods, .slice (some ⟨w.heap.size + 1 + 1, 0, none⟩) 2 2] 83)) (.cells #[.func (.func 36) #[.pointer (some ⟨w.heap.size + 1, 0, none⟩)] #[], .func (.func 37) #[.pointer (some ⟨w.heap.size + 1, 0, none⟩)] #[]] 84))
  have HCK := Aside0.mk (show (((w.alloc (.cells #[.slice A0 T.mv.length c0, .slice A1 T.gt.length c1] 25)).alloc (.cells #[.slice A0 T.mv.length c0, .slice A1 T.gt.length c1, .int .i64 kinds, .int .i64 rules, .int .i64 prods, .slice (some ⟨w.heap.size + 1 + 1, 0, none⟩) 2 2] 83)).alloc (.cells #[.func (.func 36) #[.pointer (some ⟨w.heap.size + 1, 0, none⟩)] #[], .func (.func 37) #[.pointer (some ⟨w.heap.size + 1, 0, none⟩)] #[]] 84)).heap[w.heap.size + 1]? = some (.cells #[.slice A0 T.mv.length c0, .slice A1 T.gt.length c1, .int .i64 kinds, .int .i64 rules, .int .i64 prods, .slice (some ⟨w.heap.size + 1 + 1, 0, none⟩) 2 2] 83) from by
    have h := blk_alloc (blk_new (w.alloc (.cells #[.slice A0 T.mv.length c0, .slice A1 T.gt.length c1] 25)) (.cells #[.slice A0 T.mv.length c0, .slice A1 T.gt.length c1, .int .i64 kinds, .int .i64 rules, .int .i64 prods, .slice (some ⟨w.heap.size + 1 + 1, 0, none⟩) 2 2] 83)) (.cells #[.func (.func 36) #[.pointer (some ⟨w.heap.size + 1, 0, none⟩)] #[], .func (.func 37) #[.pointer (some ⟨w.heap.size + 1, 0, none⟩)] #[]] 84)
    rwa [World.size_alloc] at h)
  have HFN := Aside0.mk (show (((w.alloc (.cells #[.slice A0 T.mv.length c0, .slice A1 T.gt.length c1] 25)).alloc (.cells #[.slice A0 T.mv.length c0, .slice A1 T.gt.length c1, .int .i64 kinds, .int .i64 rules, .int .i64 prods, .slice (some ⟨w.heap.size + 1 + 1, 0, none⟩) 2 2] 83)).alloc (.cells #[.func (.func 36) #[.pointer (some ⟨w.heap.size + 1, 0, none⟩)] #[], .func (.func 37) #[.pointer (some ⟨w.heap.size + 1, 0, none⟩)] #[]] 84)).heap[w.heap.size + 1 + 1]? = some (.cells #[.func (.func 36) #[.pointer (some ⟨w.heap.size + 1, 0, none⟩)] #[], .func (.func 37) #[.pointer (some ⟨w.heap.size + 1, 0, none⟩)] #[]] 84) from by
    have h := blk_new ((w.alloc (.cells #[.slice A0 T.mv.length c0, .slice A1 T.gt.length c1] 25)).alloc (.cells #[.slice A0 T.mv.length c0, .slice A1 T.gt.length c1, .int .i64 kinds, .int .i64 rules, .int .i64 prods, .slice (some ⟨w.heap.size + 1 + 1, 0, none⟩) 2 2] 83)) (.cells #[.func (.func 36) #[.pointer (some ⟨w.heap.size + 1, 0, none⟩)] #[], .func (.func 37) #[.pointer (some ⟨w.heap.size + 1, 0, none⟩)] #[]] 84)
    rwa [World.size_alloc, World.size_alloc] at h)
  obtain ⟨W0, hW0⟩ : ∃ W0, ((w.alloc (.cells #[.slice A0 T.mv.length c0, .slice A1 T.gt.length c1] 25)).alloc (.cells #[.slice A0 T.mv.length c0, .slice A1 T.gt.length c1, .int .i64 kinds, .int .i64 rules, .int .i64 prods, .slice (some ⟨w.heap.size + 1 + 1, 0, none⟩) 2 2] 83)).alloc (.cells #[.func (.func 36) #[.pointer (some ⟨w.heap.size + 1, 0, none⟩)] #[], .func (.func 37) #[.pointer (some ⟨w.heap.size + 1, 0, none⟩)] #[]] 84) = W0 := ⟨_, rfl⟩
  rw [hW0] at HF1 HTB HCK HFN
  simp only [hW0]
  clear hW0 HF0
  have HC0 := Aside0.mk (show ChkAt W0 (w.heap.size + 1) T A0 A1 c0 c1 kinds rules prods _ from ⟨HT.out.fr HF1.out, HCK.out⟩)
  clear HCK
  generalize w.heap.size + 1 + 1 = q2 at HC0 HFN ⊢
  generalize w.heap.size + 1 = q1 at HC0 HFN ⊢
  generalize w.heap.size = q0 at HTB ⊢
  have HE := Aside0.mk (Fr.refl (fun _ => False) W0)
  go_loopw [59] (fun a W => ∃ i : Nat, a = .int .i64 i ∧ i ≤ T.mv.length ∧ Aside0 (∀ s : Nat, s < i → StOk T kinds rules prods s) ∧ Aside0 (Fr (fun _ => False) W0 W)) (fun a _ => T.mv.length - (intOf a).toNat)
  case atStart => exact ⟨0, rfl, Nat.zero_le _, ⟨fun s hs => absurd hs (by omega)⟩, HE⟩
  case round =>
    clear HE
    obtain ⟨i, rfl, hi, HALL, HF⟩ := hrel
    obtain ⟨k0, k1, k2, k3, k4, k5⟩ := (HC0.out.fr HF.out).cells
    by_cases hlt : i < T.mv.length
    · have hltb : decide (i < T.mv.length) = true := decide_eq_true hlt
      go_wp2_with (fail)
      have HE := Aside0.mk (Fr.refl (fun _ => False) wr)
      go_loopw [67] (fun a W => ∃ j : Nat, a = .int .i64 j ∧ j ≤ 2 ∧ Aside0 (1 ≤ j → MvOk kinds T.mv.length prods (rd_L2 T.mv i)) ∧ Aside0 (2 ≤ j → GtOk rules T.mv.length (rd_L3 T.gt i)) ∧ Aside0 (Fr (fun _ => False) wr W)) (fun a _ => 2 - (intOf a).toNat)
      case atStart => exact ⟨0, rfl, by omega, ⟨fun h => absurd h (by omega)⟩, ⟨fun h => absurd h (by omega)⟩, HE⟩
      case round =>
        clear HE
        obtain ⟨j, rfl, hj, HM, HG, HE⟩ := hrel
        have HFE := Aside0.mk (HF.out.trans HE.out (fun _ _ h => h))
        have HFN2 := Aside0.mk (HFE.out.blk HFN.out id)
        rcases (by omega : j = 0 ∨ j = 1 ∨ j = 2) with rfl | rfl | rfl
        · have hx := (blk_cell HFN2.out 0).trans (show _ = some (Value.func (.func 36) #[.pointer (some ⟨q1, 0, none⟩)] #[]) from rfl)
          go_wp2_with (fail)
          refine (moves_calls _ q1 T A0 A1 c0 c1 kinds rules prods _ (HC0.out.fr HFE.out) i hlt).mono ?_
          rintro e W5 ⟨b, rfl, hb, hF⟩
          have HE5 := Aside0.mk (HE.out.trans hF (fun _ _ h => h))
          have HB5 := Aside0.mk hb
          clear hF hb
          cases b with
          | true =>
            have HM5 := Aside0.mk (HB5.out.1 rfl)
            go_wp2_with (fail)
            exact ⟨⟨1, rfl, by omega, ⟨fun _ => HM5.out⟩, ⟨fun h => absurd h (by omega)⟩, HE5⟩, by simp [intOf]⟩
          | false =>
            have HN5 := Aside0.mk (chk_4 HB1.out HB2.out hlt (fun h => by have := HB5.out.2 h.1; cases this))
            go_wp2_with (fail)
            go_ret
            exact ⟨170, rfl, HN5.out, HF1.out.trans (HF.out.trans HE5.out (fun _ _ h => h)) (fun _ _ h => h)⟩
        · have hx := (blk_cell HFN2.out 1).trans (show _ = some (Value.func (.func 37) #[.pointer (some ⟨q1, 0, none⟩)] #[]) from rfl)
          go_wp2_with (fail)
          refine (gotos_calls _ q1 T A0 A1 c0 c1 kinds rules prods _ (HC0.out.fr HFE.out) i (by rw [HLEN.out]; exact hlt)).mono ?_
          rintro e W5 ⟨b, rfl, hb, hF⟩
          have HE5 := Aside0.mk (HE.out.trans hF (fun _ _ h => h))
          have HB5 := Aside0.mk hb
          clear hF hb
          cases b with
          | true =>
            have HM5 := Aside0.mk (HB5.out.1 rfl)
            go_wp2_with (fail)
            exact ⟨⟨2, rfl, by omega, ⟨fun _ => HM.out (by omega)⟩, ⟨fun _ => HM5.out⟩, HE5⟩, by simp [intOf]⟩
          | false =>
            have HN5 := Aside0.mk (chk_4 HB1.out HB2.out hlt (fun h => by have := HB5.out.2 h.2; cases this))
            go_wp2_with (fail)
            go_ret
            exact ⟨170, rfl, HN5.out, HF1.out.trans (HF.out.trans HE5.out (fun _ _ h => h)) (fun _ _ h => h)⟩
        · have HST := Aside0.mk (show ∀ s : Nat, s < i + 1 → StOk T kinds rules prods s from fun s hs => by
            by_cases e : s = i
            · subst e
              exact ⟨HM.out (by omega), HG.out (by omega)⟩
            · exact HALL.out s (by omega))
          go_wp2_with (fail)
          exact ⟨⟨i + 1, by go_num, by omega, HST, HFE⟩, by simp [intOf]; omega⟩
    · obtain rfl : i = T.mv.length := by omega
      have hltb : decide (T.mv.length < T.mv.length) = false := decide_eq_false hlt
      have HB := Aside0.mk (chk_3 HB1.out HB2.out HALL.out)
      go_wp2_with (fail)
      go_ret
      exact ⟨0, rfl, HB.out, HF1.out.trans HF.out (fun _ _ h => h)⟩
end Go.Proofs.Ytlpmjmanmncmnaa.Tab
