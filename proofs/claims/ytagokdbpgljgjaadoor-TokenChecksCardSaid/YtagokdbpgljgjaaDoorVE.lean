/-
Whether tokens are a row: token.Check, walked.
-/
import Derived.Test.YtagokdbpgljgjaaDoorVD
namespace Go.Proofs.YtagokdbpgljgjaaDoor.Tok
open Go.RowKit Go.Proofs.YtagokdbpgljgjaaDoorW.PrintWords Go.Proofs.YtagokdbpgljgjaaDoorW.PrintLast Go.Proofs.YtagokdbpgljgjaaDoorW.PrintMore Go.Proofs.YtagokdbpgljgjaaDoor.Fr Go.Proofs.YtagokdbpgljgjaaDoor.PGramFirsts Go.Proofs.YtagokdbpgljgjaaDoor.TextSet Go.Proofs.YtagokdbpgljgjaaDoor.Bld

/-- Is a token right behind a place? -/
def rightT (kinds n : Nat) (at_ : Int) (t : S55) : Bool := decide (2 ≤ t.f0 ∧ t.f0 < kinds ∧ at_ ≤ t.f1 ∧ t.f1 ≤ t.f2 ∧ t.f2 ≤ n)
/-- The first wrong token. -/
def checkF (kinds n : Nat) : Int → Int → List S55 → Int × Int
  | _, _, [] => (0, 0)
  | at_, i, t :: l => if rightT kinds n at_ t = true then checkF kinds n t.f2 (i + 1) l else (i, 71)
theorem checkF_yes {kinds n : Nat} {at_ i : Int} {t : S55} {l : List S55} (h : 2 ≤ t.f0 ∧ t.f0 < kinds ∧ at_ ≤ t.f1 ∧ t.f1 ≤ t.f2 ∧ t.f2 ≤ n) : checkF kinds n at_ i (t :: l) = checkF kinds n t.f2 (i + 1) l := by
  rw [checkF, if_pos (by unfold rightT; exact decide_eq_true h)]
theorem checkF_no {kinds n : Nat} {at_ i : Int} {t : S55} {l : List S55} (h : ¬ (2 ≤ t.f0 ∧ t.f0 < kinds ∧ at_ ≤ t.f1 ∧ t.f1 ≤ t.f2 ∧ t.f2 ≤ n)) : checkF kinds n at_ i (t :: l) = (i, 71) := by
  rw [checkF, if_neg (by unfold rightT; simpa using h)]
set_option maxHeartbeats 4000000 in
set_option maxRecDepth 100000 in
theorem check_calls (w : World) (ns : List ByteArray) (A : Option Addr) (cp : Nat) (hA : Kd.string.C w A ns.length ns) (hs : ∀ s, s ∈ ns → s.size ≤ maxLen) (src : ByteArray) (l : List S55) (A2 : Option Addr) (c2 : Nat) (hC : Kd.C k55 w A2 l.length l) :
    Calls Tryd.prog 13 #[.slice A ns.length cp, .string src, .slice A2 l.length c2] w fun e w' => (∃ a b, e = .returned (.tuple #[.int .i64 a, .int .i64 b]) ∧ (KindsOk ns → l.length ≤ 65536 → (a, b) = checkF ns.length src.size 0 0 l) ∧ (KindsOk ns → 65536 < l.length → (a, b) = (65536, 71)) ∧ (¬ KindsOk ns → (a, b) = (0, 70))) ∧ Fr (fun _ => False) w w' := by
  have hm := Kd.C_max hA
  go_enter Tryd.func13, Tryd.ntmps13
  have HA := Aside0.mk hA
  have HC := Aside0.mk hC
  have HS := Aside0.mk hs
  clear hA hC hs
  go_wp2_with (fail)
  refine (kinds_calls w ns A cp HA.out HS.out).mono ?_
  rintro e W1 ⟨⟨r, rfl, hr⟩, hF⟩
  have HF0 := Aside0.mk hF
  have HR := Aside0.mk hr
  clear hF hr
  by_cases h0 : r = 0
  case neg =>
    have HK := Aside0.mk (fun h => h0 (HR.out.2 h) : ¬ KindsOk ns)
    go_wp2_with (fail)
    go_ret2
    exact ⟨⟨_, _, rfl, fun h => absurd h HK.out, fun h => absurd h HK.out, fun _ => rfl⟩, HF0.out⟩
  have HK := Aside0.mk (HR.out.1 h0)
  clear HR
  subst h0
  by_cases h1 : 65536 < l.length
  · go_wp2_with (fail)
    go_ret2
    exact ⟨⟨_, _, rfl, fun _ h => by omega, fun _ _ => rfl, fun h => absurd HK.out h⟩, HF0.out⟩
  go_wp2_with (fail)
  go_loopw [8, 19] (fun a b W => ∃ (i : Nat) (at_ : Int), a = .int .i64 at_ ∧ b = .int .i64 i ∧ i ≤ l.length ∧ Aside0 (checkF ns.length src.size at_ i (l.drop i) = checkF ns.length src.size 0 0 l) ∧ Aside0 (Fr (fun _ => False) w W)) (fun _ b _ => l.length - (intOf b).toNat)
  case atStart => exact ⟨0, 0, rfl, rfl, Nat.zero_le _, ⟨rfl⟩, HF0⟩
  case round =>
    clear HF0
    obtain ⟨i, at_, rfl, rfl, hi, HE, HF⟩ := hrel
    by_cases hlt : i < l.length
    · obtain ⟨ad, rfl, hx0, hx1, hx2⟩ := at_T55 HC.out (i : Int) (by omega) (by omega)
      replace hx0 := HF.out.cell hx0 id
      replace hx1 := HF.out.cell hx1 id
      replace hx2 := HF.out.cell hx2 id
      simp only [Int.toNat_natCast] at hx0 hx1 hx2
      have HD := Aside0.mk (show l.drop i = rd_T55 l i :: l.drop (i + 1) from by
        rw [List.drop_eq_getElem_cons hlt]
        simp [rd_T55, List.getD_eq_getElem?_getD, List.getElem?_eq_getElem hlt])
      generalize rd_T55 l i = t at hx0 hx1 hx2 HD
      obtain ⟨k, f, u⟩ := t
      have HE2 := Aside0.mk (HD.out ▸ HE.out)
      clear HE HD
      go_wp2_with (fail)
      all_goals first
        | (refine bodyPost_ret (results_tmp2 rfl _ _ _) rfl ?_
           refine ⟨⟨_, _, rfl, fun _ _ => ?_, fun h => absurd HK.out h⟩, HF.out.alloc _⟩
           rw [← HE2.out, checkF_no (by simp only; omega)])
        | (refine ⟨⟨i + 1, u, rfl, by go_num, by omega, ⟨?_⟩, ⟨HF.out.alloc _⟩⟩, by simp [intOf]; omega⟩
           rw [← HE2.out, checkF_yes (by simp only; omega)]
           rfl)
    · obtain rfl : i = l.length := by omega
      go_wp2_with (fail)
      refine bodyPost_ret (results_tmp2 rfl _ _ _) rfl ?_
      refine ⟨⟨_, _, rfl, fun _ _ => ?_, fun _ h => absurd h (by omega), fun h => absurd HK.out h⟩, HF.out⟩
      rw [← HE.out, List.drop_length]
      rfl
end Go.Proofs.YtagokdbpgljgjaaDoor.Tok
