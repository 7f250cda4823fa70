/-
The heap of tasks: up and down, walked.
-/
import Derived.Test.YtpjhflimaiaokaaDoorHA
import Derived.Test.YtpjhflimaiaokaaDoorProg
import Derived.Lib.Hide
import Derived.Outline
import Derived.Deep.RegionLaw
namespace Go.Proofs.YtpjhflimaiaokaaDoor.Hand
open Go.RowKit Go.Proofs.YtpjhflimaiaokaaDoorW.PrintWords Go.Proofs.YtpjhflimaiaokaaDoorW.PrintLast Go.Proofs.YtpjhflimaiaokaaDoorW.PrintMore Go.Proofs.YtpjhflimaiaokaaDoor.Fr

/-- The way up of the task at j. -/
def upF (ts : List Tk) (j : Nat) : List Tk :=
  if h : j = 0 then ts else if less (ts.getD j Tk.z) (ts.getD ((j - 1) / 2) Tk.z) then upF (swapT ts ((j - 1) / 2) j) ((j - 1) / 2) else ts
termination_by j
decreasing_by omega
theorem swapT_length (ts : List Tk) (i j : Nat) : (swapT ts i j).length = ts.length := by simp [swapT]

theorem upF_zero (ts : List Tk) : upF ts 0 = ts := by unfold upF; rfl
theorem upF_stay {ts : List Tk} {j : Nat} (h : j ≠ 0) (hl : less (ts.getD j Tk.z) (ts.getD ((j - 1) / 2) Tk.z) = false) : upF ts j = ts := by
  unfold upF; rw [dif_neg h, hl]; rfl
theorem upF_go {ts : List Tk} {j : Nat} (h : j ≠ 0) (hl : less (ts.getD j Tk.z) (ts.getD ((j - 1) / 2) Tk.z) = true) : upF ts j = upF (swapT ts ((j - 1) / 2) j) ((j - 1) / 2) := by
  rw [upF, dif_neg h, if_pos hl]

structure UpInv (ts us : List Tk) (j x : Int) : Prop where
  lt : x < us.length
  len : us.length = ts.length
  eq : upF us x.toNat = upF ts j.toNat
theorem UpInv.go {ts us : List Tk} {j x : Int} (h : UpInv ts us j x) (hx : 0 ≤ x) (h0 : x ≠ 0) (hl : less (us.getD x.toNat Tk.z) (us.getD ((x - 1) / 2).toNat Tk.z) = true) : UpInv ts (swapT us ((x - 1) / 2).toNat x.toNat) j ((x - 1) / 2) := by
  have e : ((x - 1) / 2).toNat = (x.toNat - 1) / 2 := by omega
  have := h.lt
  exact ⟨by rw [swapT_length]; omega, by rw [swapT_length]; exact h.len, by rw [← h.eq, e, upF_go (j := x.toNat) (by omega) (by rw [← e]; exact hl)]⟩

set_option maxRecDepth 100000 in
theorem hUp_calls (w : World) (B g : Nat) (sv : Value) (ts : List Tk) (h : Tasks w B g sv ts) (j : Int) (hj : 0 ≤ j) (hjl : j < ts.length) (hl : ts.length ≤ 1048577) :
    Calls Tryd.prog 50 #[.iface 95 (.pointer (some ⟨g, 0, none⟩)), .int .i64 j] w fun e w' => e = .returned (.tuple #[]) ∧ Tasks w' B g sv (upF ts j.toNat) ∧ Fr (Foot g sv) w w' := by
  obtain ⟨gr, cap, rfl, hBg, hgw, _⟩ := Kd.R_form h.row (by omega)
  obtain ⟨n, hn⟩ : ∃ n, n = ts.length := ⟨_, rfl⟩
  rw [← hn] at h hjl hl ⊢
  have HN := Lib.hid hn
  clear hn
  go_enter Tryd.func50, Tryd.ntmps50
  go_wp2
  go_loopw [1, 4] (fun a b W => ∃ (x : Int) (us : List Tk), a = .int .i64 x ∧ 0 ≤ x ∧ Aside0 (UpInv ts us j x) ∧ Aside0 (Tasks W B g (.slice (some ⟨gr, 0, none⟩) n cap) us) ∧ Aside0 (Fr (Foot g (.slice (some ⟨gr, 0, none⟩) n cap)) w W)) (fun a b W => (intOf a).toNat)
  case atStart => exact ⟨j, ts, rfl, hj, ⟨by rw [← HN.out]; exact hjl, rfl, rfl⟩, ⟨h⟩, ⟨Fr.refl _ _⟩⟩
  case round =>
    obtain ⟨x, us, rfl, hx, HU, HT, HF⟩ := hrel
    have hx2 : x < n := by have := HU.out.lt; have := HU.out.len; have := HN.out; omega
    have hc := HT.out.cell
    have hm1 := mLess wr _ _ hc
    have hm2 := mSwap wr _ _ hc
    obtain ⟨hnu, hncap, hC⟩ := Kd.R_reads' HT.out.row
    have HC := Aside0.mk (show kT.C wr _ n us by rw [hnu]; exact hC)
    clear hnu hncap hC
    by_cases h0 : x = 0
    · subst h0
      go_wp2
      go_end0
      exact ⟨rfl, by rw [← HU.out.eq, show (0 : Int).toNat = 0 from rfl, upF_zero]; exact HT.out, HF.out⟩
    · have h0b : ((x - 1) / 2 == x) = false := beq_eq_false_iff_ne.mpr (by omega)
      have HX := Lib.hid h0
      have hx1 : 1 ≤ x := by omega
      clear h0
      cases hlt : less (us.getD x.toNat Tk.z) (us.getD ((x - 1) / 2).toNat Tk.z) with
      | false =>
        have HLT := Lib.hid hlt
        clear hlt
        go_wp2_with (go_at_call 85; refine (tLess_calls _ _ _ _ us HC.out x ((x - 1) / 2) hx hx2 (by omega) (by omega)).mono ?_; rintro e W1 ⟨rfl, ⟨q, rfl⟩⟩; rw [HLT.out])
        go_end0
        exact ⟨rfl, by rw [← HU.out.eq, upF_stay (by omega) (by rw [show (x.toNat - 1) / 2 = ((x - 1) / 2).toNat from by omega]; exact HLT.out)]; exact Tasks.drewN HT.out _, HF.out.drewN _⟩
      | true =>
        have HLT := Lib.hid hlt
        clear hlt
        have hm2 : ∀ q, (method 245 95 (.pointer (some ⟨g, 0, none⟩)) "Swap").run Tryd.prog (wr.drewN q) = .ok (86, .slice (some ⟨gr, 0, none⟩) n cap) (wr.drewN q) := fun q => mSwap _ _ _ (Tasks.drewN HT.out q).cell
        go_wp2_with (first | (go_at_call 85; refine (tLess_calls _ _ _ _ us HC.out x ((x - 1) / 2) hx hx2 (by omega) (by omega)).mono ?_; rintro e W1 ⟨rfl, ⟨q, rfl⟩⟩; rw [HLT.out]) | (go_at_call 86; refine (tSwap_calls _ B gr n cap _ us (Tasks.drewN HT.out q).row ((x - 1) / 2) x (by omega) (by omega) hx hx2).mono ?_; rintro e W2 ⟨rfl, hR2, hG2⟩))
        exact ⟨⟨_, _, rfl, by omega, ⟨HU.out.go hx HX.out HLT.out⟩, ⟨(Tasks.drewN HT.out q).grown hR2 hG2⟩, ⟨(HF.out.drewN q).grown hG2 (fun k hk _ => .inr hk)⟩⟩, by simp [intOf]; omega⟩

/-- The way down of the task at i among the first n. -/
def downF (ts : List Tk) (n i : Nat) : List Tk × Nat :=
  if h : 2 * i + 1 < n then
    if 2 * i + 2 < n ∧ less (ts.getD (2 * i + 2) Tk.z) (ts.getD (2 * i + 1) Tk.z) = true then
      if less (ts.getD (2 * i + 2) Tk.z) (ts.getD i Tk.z) then downF (swapT ts i (2 * i + 2)) n (2 * i + 2) else (ts, i)
    else if less (ts.getD (2 * i + 1) Tk.z) (ts.getD i Tk.z) then downF (swapT ts i (2 * i + 1)) n (2 * i + 1) else (ts, i)
  else (ts, i)
termination_by n - i
structure DownInv (ts us : List Tk) (n i x : Int) : Prop where
  le : i ≤ x
  len : us.length = ts.length
  eq : downF us n.toNat x.toNat = downF ts n.toNat i.toNat
theorem downF_end {ts : List Tk} {n i : Nat} (h : ¬ 2 * i + 1 < n) : downF ts n i = (ts, i) := by unfold downF; rw [dif_neg h]
theorem DownInv.end_ {ts us : List Tk} {n i x : Int} (h : DownInv ts us n i x) (hx : 0 ≤ x) (h1 : n ≤ 2 * x + 1) : downF ts n.toNat i.toNat = (us, x.toNat) := by
  rw [← h.eq, downF_end (by omega)]
theorem DownInv.stay2 {ts us : List Tk} {n i x : Int} (h : DownInv ts us n i x) (hx : 0 ≤ x) (h1 : 2 * x + 1 + 1 < n) (h2 : less (us.getD (2 * x + 1 + 1).toNat Tk.z) (us.getD (2 * x + 1).toNat Tk.z) = true)
    (h3 : less (us.getD (2 * x + 1 + 1).toNat Tk.z) (us.getD x.toNat Tk.z) = false) : downF ts n.toNat i.toNat = (us, x.toNat) := by
  rw [show (2 * x + 1 + 1).toNat = 2 * x.toNat + 2 from by omega, show (2 * x + 1).toNat = 2 * x.toNat + 1 from by omega] at h2
  rw [show (2 * x + 1 + 1).toNat = 2 * x.toNat + 2 from by omega] at h3
  rw [← h.eq, downF, dif_pos (by omega), if_pos ⟨by omega, h2⟩, h3]; rfl
theorem DownInv.go2 {ts us : List Tk} {n i x : Int} (h : DownInv ts us n i x) (hx : 0 ≤ x) (h1 : 2 * x + 1 + 1 < n) (h2 : less (us.getD (2 * x + 1 + 1).toNat Tk.z) (us.getD (2 * x + 1).toNat Tk.z) = true)
    (h3 : less (us.getD (2 * x + 1 + 1).toNat Tk.z) (us.getD x.toNat Tk.z) = true) : DownInv ts (swapT us x.toNat (2 * x + 1 + 1).toNat) n i (2 * x + 1 + 1) := by
  refine ⟨by have := h.le; omega, by rw [swapT_length]; exact h.len, ?_⟩
  rw [show (2 * x + 1 + 1).toNat = 2 * x.toNat + 2 from by omega, show (2 * x + 1).toNat = 2 * x.toNat + 1 from by omega] at h2
  rw [show (2 * x + 1 + 1).toNat = 2 * x.toNat + 2 from by omega] at h3 ⊢
  rw [← h.eq]; conv => rhs; rw [downF, dif_pos (by omega), if_pos ⟨by omega, h2⟩, if_pos h3]
theorem DownInv.stay1 {ts us : List Tk} {n i x : Int} (h : DownInv ts us n i x) (hx : 0 ≤ x) (h1 : 2 * x + 1 < n) (h2 : ¬ (2 * x + 1 + 1 < n ∧ less (us.getD (2 * x + 1 + 1).toNat Tk.z) (us.getD (2 * x + 1).toNat Tk.z) = true))
    (h3 : less (us.getD (2 * x + 1).toNat Tk.z) (us.getD x.toNat Tk.z) = false) : downF ts n.toNat i.toNat = (us, x.toNat) := by
  rw [show (2 * x + 1 + 1).toNat = 2 * x.toNat + 2 from by omega, show (2 * x + 1).toNat = 2 * x.toNat + 1 from by omega] at h2
  rw [show (2 * x + 1).toNat = 2 * x.toNat + 1 from by omega] at h3
  rw [← h.eq, downF, dif_pos (by omega), if_neg (fun e => h2 ⟨by omega, e.2⟩), h3]; rfl
theorem DownInv.go1 {ts us : List Tk} {n i x : Int} (h : DownInv ts us n i x) (hx : 0 ≤ x) (h1 : 2 * x + 1 < n) (h2 : ¬ (2 * x + 1 + 1 < n ∧ less (us.getD (2 * x + 1 + 1).toNat Tk.z) (us.getD (2 * x + 1).toNat Tk.z) = true))
    (h3 : less (us.getD (2 * x + 1).toNat Tk.z) (us.getD x.toNat Tk.z) = true) : DownInv ts (swapT us x.toNat (2 * x + 1).toNat) n i (2 * x + 1) := by
  refine ⟨by have := h.le; omega, by rw [swapT_length]; exact h.len, ?_⟩
  rw [show (2 * x + 1 + 1).toNat = 2 * x.toNat + 2 from by omega, show (2 * x + 1).toNat = 2 * x.toNat + 1 from by omega] at h2
  rw [show (2 * x + 1).toNat = 2 * x.toNat + 1 from by omega] at h3 ⊢
  rw [← h.eq]; conv => rhs; rw [downF, dif_pos (by omega), if_neg (fun e => h2 ⟨by omega, e.2⟩), if_pos h3]

def DownPost (w : World) (B g : Nat) (sv : Value) (ts : List Tk) (i m : Int) (e : Ending) (w' : World) : Prop :=
  e = .returned (.bool (decide (i < ((downF ts m.toNat i.toNat).2 : Int)))) ∧ Tasks w' B g sv (downF ts m.toNat i.toNat).1 ∧ Fr (Foot g sv) w w'
theorem DownPost.mk' {w w' : World} {B g : Nat} {sv : Value} {ts us : List Tk} {i m x : Int} (hx : 0 ≤ x) (he : downF ts m.toNat i.toNat = (us, x.toNat)) (hT : Tasks w' B g sv us) (hF : Fr (Foot g sv) w w') : DownPost w B g sv ts i m (.returned (.bool (decide (i < x)))) w' := by
  unfold DownPost
  rw [he]
  exact ⟨ret_b (by simp only [Int.toNat_of_nonneg hx]), hT, hF⟩

set_option maxRecDepth 100000 in
set_option maxHeartbeats 1000000 in
theorem hDown_calls (w : World) (B g : Nat) (gr n cap : Nat) (ts : List Tk) (h : Tasks w B g (.slice (some ⟨gr, 0, none⟩) n cap) ts) (i m : Int) (hi : 0 ≤ i) (hil : i ≤ 1048577) (hm : m ≤ n) (hl : n ≤ 1048577) :
    Calls Tryd.prog 49 #[.iface 95 (.pointer (some ⟨g, 0, none⟩)), .int .i64 i, .int .i64 m] w (DownPost w B g (.slice (some ⟨gr, 0, none⟩) n cap) ts i m) := by
  go_enter Tryd.func49, Tryd.ntmps49
  go_wp2
  go_loopw [7, 8, 9, 10] (fun a b c d W => ∃ (x : Int) (us : List Tk), a = .int .i64 x ∧ 0 ≤ x ∧ x ≤ 1048577 ∧ Aside0 (DownInv ts us m i x) ∧ Aside0 (Tasks W B g (.slice (some ⟨gr, 0, none⟩) n cap) us) ∧ Aside0 (Fr (Foot g (.slice (some ⟨gr, 0, none⟩) n cap)) w W)) (fun a b c d W => (m - intOf a).toNat)
  case atStart => exact ⟨i, ts, rfl, hi, hil, ⟨Int.le_refl _, rfl, rfl⟩, ⟨h⟩, ⟨Fr.refl _ _⟩⟩
  case round =>
    obtain ⟨x, us, rfl, hx, hxb, HU, HT, HF⟩ := hrel
    have hc := HT.out.cell
    have hm1 := mLess wr _ _ hc
    obtain ⟨hnu, hncap, hC⟩ := Kd.R_reads' HT.out.row
    have HC := Aside0.mk (show kT.C wr _ n us by rw [hnu]; exact hC)
    clear hnu hncap hC
    by_cases h1 : m ≤ 2 * x + 1
    · go_wp2
      go_ret
      exact DownPost.mk' hx (HU.out.end_ hx h1) HT.out HF.out
    · have h1' : 2 * x + 1 < m := by omega
      clear h1
      by_cases h2 : 2 * x + 1 + 1 < m
      · cases hl2 : less (us.getD (2 * x + 1 + 1).toNat Tk.z) (us.getD (2 * x + 1).toNat Tk.z) with
        | true =>
          have HL2 := Lib.hid hl2
          clear hl2
          cases hl3 : less (us.getD (2 * x + 1 + 1).toNat Tk.z) (us.getD x.toNat Tk.z) with
          | false =>
            have HL3 := Lib.hid hl3
            clear hl3
            go_wp2_with (first | (go_at_call 85; with_reducible refine (tLess_calls _ _ _ _ us HC.out _ _ ?_ ?_ ?_ ?_).mono ?_; (all_goals try omega); rintro e W1 ⟨rfl, hd⟩; rw [HL2.out]; have HT1 := Aside0.mk (Tasks.drawn HT.out hd); have HF1 := Aside0.mk (HF.out.drawn' hd); have HC1 := Aside0.mk (Kd.C_below HC.out hd.below); have hml1 := mLess W1 _ _ HT1.out.cell; have hms1 := mSwap W1 _ _ HT1.out.cell; clear hd) | (go_at_call 85; with_reducible refine (tLess_calls _ _ _ _ us HC1.out _ _ ?_ ?_ ?_ ?_).mono ?_; (all_goals try omega); rintro e W2 ⟨rfl, hd⟩; rw [HL3.out]; have HT2 := Aside0.mk (Tasks.drawn HT1.out hd); have HF2 := Aside0.mk (HF1.out.drawn' hd); have HC2 := Aside0.mk (Kd.C_below HC1.out hd.below); have hml2 := mLess W2 _ _ HT2.out.cell; have hms2 := mSwap W2 _ _ HT2.out.cell; clear hd))
            go_ret
            exact DownPost.mk' hx (HU.out.stay2 hx (by omega) HL2.out HL3.out) HT2.out HF2.out
          | true =>
            have HL3 := Lib.hid hl3
            clear hl3
            go_wp2_with (first | (go_at_call 85; with_reducible refine (tLess_calls _ _ _ _ us HC.out _ _ ?_ ?_ ?_ ?_).mono ?_; (all_goals try omega); rintro e W1 ⟨rfl, hd⟩; rw [HL2.out]; have HT1 := Aside0.mk (Tasks.drawn HT.out hd); have HF1 := Aside0.mk (HF.out.drawn' hd); have HC1 := Aside0.mk (Kd.C_below HC.out hd.below); have hml1 := mLess W1 _ _ HT1.out.cell; have hms1 := mSwap W1 _ _ HT1.out.cell; clear hd) | (go_at_call 85; with_reducible refine (tLess_calls _ _ _ _ us HC1.out _ _ ?_ ?_ ?_ ?_).mono ?_; (all_goals try omega); rintro e W2 ⟨rfl, hd⟩; rw [HL3.out]; have HT2 := Aside0.mk (Tasks.drawn HT1.out hd); have HF2 := Aside0.mk (HF1.out.drawn' hd); have HC2 := Aside0.mk (Kd.C_below HC1.out hd.below); have hml2 := mLess W2 _ _ HT2.out.cell; have hms2 := mSwap W2 _ _ HT2.out.cell; clear hd) | (go_at_call 86; refine (tSwap_calls _ B gr n cap _ us HT2.out.row _ _ ?_ ?_ ?_ ?_).mono ?_; (all_goals try omega); rintro e W3 ⟨rfl, hR3, hG3⟩))
            exact ⟨⟨_, _, rfl, by omega, by omega, ⟨HU.out.go2 hx (by omega) HL2.out HL3.out⟩, ⟨Tasks.grown HT2.out hR3 hG3⟩, ⟨Fr.grown HF2.out hG3 (fun k hk _ => .inr hk)⟩⟩, by simp [intOf]; omega⟩
        | false =>
          have HL2 := Lib.hid hl2
          clear hl2
          have HN := Aside0.mk (show ¬ (2 * x + 1 + 1 < m ∧ less (us.getD (2 * x + 1 + 1).toNat Tk.z) (us.getD (2 * x + 1).toNat Tk.z) = true) from fun e => by rw [HL2.out] at e; exact absurd e.2 (by decide))
          cases hl3 : less (us.getD (2 * x + 1).toNat Tk.z) (us.getD x.toNat Tk.z) with
          | false =>
            have HL3 := Lib.hid hl3
            clear hl3
            go_wp2_with (first | (go_at_call 85; with_reducible refine (tLess_calls _ _ _ _ us HC.out _ _ ?_ ?_ ?_ ?_).mono ?_; (all_goals try omega); rintro e W1 ⟨rfl, hd⟩; rw [HL2.out]; have HT1 := Aside0.mk (Tasks.drawn HT.out hd); have HF1 := Aside0.mk (HF.out.drawn' hd); have HC1 := Aside0.mk (Kd.C_below HC.out hd.below); have hml1 := mLess W1 _ _ HT1.out.cell; have hms1 := mSwap W1 _ _ HT1.out.cell; clear hd) | (go_at_call 85; with_reducible refine (tLess_calls _ _ _ _ us HC1.out _ _ ?_ ?_ ?_ ?_).mono ?_; (all_goals try omega); rintro e W2 ⟨rfl, hd⟩; rw [HL3.out]; have HT2 := Aside0.mk (Tasks.drawn HT1.out hd); have HF2 := Aside0.mk (HF1.out.drawn' hd); have HC2 := Aside0.mk (Kd.C_below HC1.out hd.below); have hml2 := mLess W2 _ _ HT2.out.cell; have hms2 := mSwap W2 _ _ HT2.out.cell; clear hd))
            go_ret
            exact DownPost.mk' hx (HU.out.stay1 hx (by omega) HN.out HL3.out) HT2.out HF2.out
          | true =>
            have HL3 := Lib.hid hl3
            clear hl3
            go_wp2_with (first | (go_at_call 85; with_reducible refine (tLess_calls _ _ _ _ us HC.out _ _ ?_ ?_ ?_ ?_).mono ?_; (all_goals try omega); rintro e W1 ⟨rfl, hd⟩; rw [HL2.out]; have HT1 := Aside0.mk (Tasks.drawn HT.out hd); have HF1 := Aside0.mk (HF.out.drawn' hd); have HC1 := Aside0.mk (Kd.C_below HC.out hd.below); have hml1 := mLess W1 _ _ HT1.out.cell; have hms1 := mSwap W1 _ _ HT1.out.cell; clear hd) | (go_at_call 85; with_reducible refine (tLess_calls _ _ _ _ us HC1.out _ _ ?_ ?_ ?_ ?_).mono ?_; (all_goals try omega); rintro e W2 ⟨rfl, hd⟩; rw [HL3.out]; have HT2 := Aside0.mk (Tasks.drawn HT1.out hd); have HF2 := Aside0.mk (HF1.out.drawn' hd); have HC2 := Aside0.mk (Kd.C_below HC1.out hd.below); have hml2 := mLess W2 _ _ HT2.out.cell; have hms2 := mSwap W2 _ _ HT2.out.cell; clear hd) | (go_at_call 86; refine (tSwap_calls _ B gr n cap _ us HT2.out.row _ _ ?_ ?_ ?_ ?_).mono ?_; (all_goals try omega); rintro e W3 ⟨rfl, hR3, hG3⟩))
            exact ⟨⟨_, _, rfl, by omega, by omega, ⟨HU.out.go1 hx (by omega) HN.out HL3.out⟩, ⟨Tasks.grown HT2.out hR3 hG3⟩, ⟨Fr.grown HF2.out hG3 (fun k hk _ => .inr hk)⟩⟩, by simp [intOf]; omega⟩
      · have HN := Aside0.mk (show ¬ (2 * x + 1 + 1 < m ∧ less (us.getD (2 * x + 1 + 1).toNat Tk.z) (us.getD (2 * x + 1).toNat Tk.z) = true) from fun e => h2 e.1)
        have h2' : m ≤ 2 * x + 1 + 1 := by omega
        clear h2
        cases hl3 : less (us.getD (2 * x + 1).toNat Tk.z) (us.getD x.toNat Tk.z) with
        | false =>
          have HL3 := Lib.hid hl3
          clear hl3
          go_wp2_with (first | (go_at_call 85; with_reducible refine (tLess_calls _ _ _ _ us HC.out _ _ ?_ ?_ ?_ ?_).mono ?_; (all_goals try omega); rintro e W1 ⟨rfl, hd⟩; rw [HL3.out]; have HT1 := Aside0.mk (Tasks.drawn HT.out hd); have HF1 := Aside0.mk (HF.out.drawn' hd); have HC1 := Aside0.mk (Kd.C_below HC.out hd.below); have hml1 := mLess W1 _ _ HT1.out.cell; have hms1 := mSwap W1 _ _ HT1.out.cell; clear hd))
          go_ret
          exact DownPost.mk' hx (HU.out.stay1 hx (by omega) HN.out HL3.out) HT1.out HF1.out
        | true =>
          have HL3 := Lib.hid hl3
          clear hl3
          go_wp2_with (first | (go_at_call 85; with_reducible refine (tLess_calls _ _ _ _ us HC.out _ _ ?_ ?_ ?_ ?_).mono ?_; (all_goals try omega); rintro e W1 ⟨rfl, hd⟩; rw [HL3.out]; have HT1 := Aside0.mk (Tasks.drawn HT.out hd); have HF1 := Aside0.mk (HF.out.drawn' hd); have HC1 := Aside0.mk (Kd.C_below HC.out hd.below); have hml1 := mLess W1 _ _ HT1.out.cell; have hms1 := mSwap W1 _ _ HT1.out.cell; clear hd) | (go_at_call 86; refine (tSwap_calls _ B gr n cap _ us HT1.out.row _ _ ?_ ?_ ?_ ?_).mono ?_; (all_goals try omega); rintro e W3 ⟨rfl, hR3, hG3⟩))
          exact ⟨⟨_, _, rfl, by omega, by omega, ⟨HU.out.go1 hx (by omega) HN.out HL3.out⟩, ⟨Tasks.grown HT1.out hR3 hG3⟩, ⟨Fr.grown HF1.out hG3 (fun k hk _ => .inr hk)⟩⟩, by simp [intOf]; omega⟩
end Go.Proofs.YtpjhflimaiaokaaDoor.Hand
