/-
Whether names are kinds: token.Kinds, walked.
-/
import Derived.Deep.RegionHeld3
import Derived.Test.YtagokdbpgljgjaaDoorMAF
import Derived.Test.YtagokdbpgljgjaaDoorMAI
set_option linter.unusedSimpArgs false
set_option linter.unusedVariables false
namespace Go.Proofs.YtagokdbpgljgjaaDoor.TextSet
open Go.RowKit Go.Proofs.YtagokdbpgljgjaaDoorW.PrintWords Go.Proofs.YtagokdbpgljgjaaDoorW.PrintLast Go.Proofs.YtagokdbpgljgjaaDoorW.PrintMore Go.Proofs.YtagokdbpgljgjaaDoor.Fr Go.Proofs.YtagokdbpgljgjaaDoor.PGramFirsts
theorem named_l (s : ByteArray) (hs : s.size ≤ maxLen) : ∀ (n i : Nat), i + n = s.size → ∃ r, token_named.l0 (n + 1) s i = some r
  | 0, i, h => by
    unfold token_named.l0
    rw [if_neg (by omega)]
    split <;> exact ⟨_, rfl⟩
  | n + 1, i, h => by
    obtain ⟨r, hr⟩ := named_l s hs n (i + 1) (by omega)
    have hm : maxLen ≤ 9223372036854775807 := by decide
    have hw : wrap64 ((i : Int) + 1) = ((i + 1 : Nat) : Int) := by simp only [wrap64]; omega
    unfold token_named.l0
    rw [hw, hr]
    rw [if_pos (by omega), if_pos (by omega)]
    repeat' split
    all_goals exact ⟨_, rfl⟩
/-- Whether a text can be a kind's name. -/
def named (s : ByteArray) : Bool := (token_named.f (s.size + 1) s).getD false
theorem named_some (s : ByteArray) (hs : s.size ≤ maxLen) : token_named.f (s.size + 1) s = some (named s) := by
  obtain ⟨r, hr⟩ := named_l s hs s.size 0 (by omega)
  have h : token_named.f (s.size + 1) s = some r := hr
  unfold named
  rw [h]
  rfl
theorem named_calls (s : ByteArray) (hs : s.size ≤ maxLen) (w : World) : Calls Tryd.prog 34 #[.string s] w fun e w' => e = .returned (.bool (named s)) ∧ Drawn0 w w' :=
  token_named.calls (s.size + 1) s (named s) w (named_some s hs)
def rdS (ns : List ByteArray) (i : Nat) : ByteArray := rdOf ByteArray.empty ns i
theorem rdS_mem {ns : List ByteArray} {i : Nat} (h : i < ns.length) : rdS ns i ∈ ns := by
  simp only [rdS, rdOf, Int.toNat_natCast, List.getD_eq_getElem?_getD, List.getElem?_eq_getElem h, Option.getD_some]
  exact List.getElem_mem h
theorem take_rdS {ns : List ByteArray} {i : Nat} (h : i < ns.length) : ns.take (i + 1) = ns.take i ++ [rdS ns i] := by
  rw [List.take_add_one]
  simp [rdS, rdOf, List.getD_eq_getElem?_getD, h]
/-- The names are kinds. -/
structure KindsOk (ns : List ByteArray) : Prop where
  two : 2 ≤ ns.length
  max : ns.length ≤ 1024
  fst : (rdS ns 0).toList = [101, 110, 100]
  snd : (rdS ns 1).toList = [101, 114, 114, 111, 114]
  all : ∀ s, s ∈ ns → named s = true
  nodup : ns.Nodup
theorem k70 {K : Prop} (h : (70 : Int) = 0 ↔ K) : ∃ r, Ending.returned (.int .i64 70) = .returned (.int .i64 r) ∧ (r = 0 ↔ K) ∧ (r = 0 ∨ r = 70) := ⟨70, rfl, h, .inr rfl⟩
set_option maxRecDepth 100000 in
theorem kinds_calls2 (w : World) (ns : List ByteArray) (A : Option Addr) (c : Nat) (hA : Kd.string.C w A ns.length ns) (hs : ∀ s, s ∈ ns → s.size ≤ maxLen) :
    Calls Tryd.prog 15 #[.slice A ns.length c] w fun e w' => (∃ r, e = .returned (.int .i64 r) ∧ (r = 0 ↔ KindsOk ns) ∧ (r = 0 ∨ r = 70)) ∧ Fr (fun _ => False) w w' := by
  have hm := Kd.C_max hA
  go_enter Tryd.func15, Tryd.ntmps15
  have HA := Aside0.mk hA
  have HS := Aside0.mk hs
  clear hA hs
  by_cases h2 : ns.length < 2
  · go_wp2_with (fail)
    go_ret
    exact ⟨k70 ⟨fun h => absurd h (by decide), fun h => by have := h.two; omega⟩, Fr.refl _ _⟩
  by_cases h3 : 1024 < ns.length
  · go_wp2_with (fail)
    go_ret
    exact ⟨k70 ⟨fun h => absurd h (by decide), fun h => by have := h.max; omega⟩, Fr.refl _ _⟩
  obtain ⟨ad, rfl, hx0⟩ := Kd.at_string HA.out 0 (by omega) (by omega)
  obtain ⟨ad', e, hx1⟩ := Kd.at_string HA.out 1 (by omega) (by omega)
  injection e with e
  subst e
  have hx0 : w.cell? ad = some (.string (rdOf ByteArray.empty ns 0)) := by
    have e0 : ad.add 0 = ad := by unfold Addr.add; split <;> simp_all
    have : w.cell? (ad.add 0) = some (.string (rdOf ByteArray.empty ns 0)) := hx0
    rwa [e0] at this
  have hx1 : w.cell? ⟨ad.block, ad.off + 1, none⟩ = some (.string (rdOf ByteArray.empty ns 1)) := by
    have e0 : ad.add 0 = ad := by unfold Addr.add; split <;> simp_all
    have : w.cell? (ad.add (0 + 1)) = some (.string (rdOf ByteArray.empty ns 1)) := hx1
    rw [add_field _ _ 1 (by omega), e0] at this
    exact this
  by_cases e0 : (rdOf ByteArray.empty ns 0).toList = [101, 110, 100]
  case neg =>
    have HE := Aside0.mk e0
    go_wp2_with (fail)
    go_ret
    exact ⟨k70 ⟨fun h => absurd h (by decide), fun h => absurd h.fst HE.out⟩, Fr.refl _ _⟩
  have HE0 := Aside0.mk e0
  by_cases e1 : (rdOf ByteArray.empty ns 1).toList = [101, 114, 114, 111, 114]
  case neg =>
    have HE := Aside0.mk e1
    have hb1 : ((rdOf ByteArray.empty ns 1).toList == [101, 114, 114, 111, 114]) = false := beq_eq_false_iff_ne.2 e1
    go_wp2_with (fail)
    go_ret
    exact ⟨k70 ⟨fun h => absurd h (by decide), fun h => absurd h.snd HE.out⟩, Fr.refl _ _⟩
  have HE1 := Aside0.mk e1
  have hb1 : ((rdOf ByteArray.empty ns 1).toList == [101, 114, 114, 111, 114]) = true := beq_iff_eq.2 e1
  have hmm := @run_makeMap Tryd.prog
  have HM := Aside0.mk (fresh w)
  have HF := Aside0.mk ((Fr.refl (fun _ => False) w).alloc (.map #[] 0))
  go_wp2_with (fail)
  go_loopw [29] (fun a W => ∃ i : Nat, a = .int .i64 i ∧ i ≤ ns.length ∧ Aside0 ((ns.take i).Nodup ∧ ∀ s, s ∈ ns.take i → named s = true) ∧ Aside0 (SSet W w.heap.size (ns.take i)) ∧ Aside0 (Fr (fun _ => False) w W)) (fun a _ => ns.length - (intOf a).toNat)
  case atStart => exact ⟨0, rfl, Nat.zero_le _, ⟨by simp, by simp⟩, HM, HF⟩
  case round =>
    clear HM HF hx0 hx1 e0 e1 hb1
    obtain ⟨i, rfl, hi, HK, HM, HF⟩ := hrel
    by_cases hlt : i < ns.length
    · obtain ⟨ad', e, hx⟩ := Kd.at_string (HF.out.C (S := fun _ => False) ByteArray.empty HA.out (fun _ _ _ => id)) (i : Int) (by omega) (by omega)
      injection e with e
      subst e
      simp only [Int.toNat_natCast] at hx
      have HX := Aside0.mk (show rdS ns i = rdOf ByteArray.empty ns i from rfl)
      have HSZ := Aside0.mk (HS.out _ (rdS_mem hlt))
      have HIN := Aside0.mk (rdS_mem hlt)
      have HT := Aside0.mk (take_rdS hlt)
      generalize rdOf ByteArray.empty ns i = x at hx HX
      rw [HX.out] at HSZ HIN HT
      go_wp2_with (fail)
      refine (named_calls x HSZ.out _).mono ?_
      rintro e W1 ⟨rfl, hd⟩
      have hF1 : Fr (fun _ => False) wr W1 := Fr.drawn hd
      have HM1 := Aside0.mk (HM.out.fr hF1 id)
      have HF1 := Aside0.mk (HF.out.trans hF1 (fun _ _ hf => hf))
      have hl := look W1 _ _ HM1.out x
      clear hd hF1 hx
      cases hn : named x with
      | false =>
        go_wp2_with (fail)
        go_ret
        exact ⟨k70 ⟨fun h => absurd h (by decide), fun h => by have := h.all x HIN.out; rw [hn] at this; cases this⟩, HF1.out⟩
      | true =>
        cases hin : inS x (ns.take i) with
        | true =>
          rw [hin] at hl
          go_wp2_with (fail)
          go_ret
          exact ⟨k70 ⟨fun h => absurd h (by decide), fun h => by
            have h1 : (ns.take (i + 1)).Nodup := (List.take_sublist _ _).nodup h.nodup
            rw [HT.out] at h1
            exact absurd (inS_iff.1 hin) (fun hm => (List.nodup_append.1 h1).2.2 x hm x (List.mem_singleton.2 rfl) rfl)⟩, HF1.out⟩
        | false =>
          rw [hin] at hl
          obtain ⟨W2, hup, hS2, hF2⟩ := store W1 _ _ HM1.out x
          rw [if_neg (by rw [hin]; decide), ← HT.out] at hS2
          have HM2 := Aside0.mk hS2
          have HF2 := Aside0.mk (HF1.out.trans hF2 (fun k hk e => by omega))
          have HK2 := Aside0.mk (show (ns.take (i + 1)).Nodup ∧ ∀ s, s ∈ ns.take (i + 1) → named s = true by
            rw [HT.out]
            refine ⟨List.nodup_append.2 ⟨HK.out.1, by simp, fun a ha b hb e => ?_⟩, fun s hs => ?_⟩
            · rw [List.mem_singleton.1 hb] at e
              rw [e] at ha
              rw [inS_iff.2 ha] at hin
              cases hin
            · rcases List.mem_append.1 hs with h | h
              · exact HK.out.2 s h
              · rw [List.mem_singleton.1 h]; exact hn)
          clear hS2 hF2
          go_wp2_with (fail)
          exact ⟨⟨i + 1, by go_num, by omega, HK2, HM2, HF2⟩, by simp [intOf]; omega⟩
    · obtain rfl : i = ns.length := by omega
      have HOK := Aside0.mk (show KindsOk ns from ⟨by omega, by omega, HE0.out, HE1.out, by have := HK.out.2; rwa [List.take_length] at this, by have := HK.out.1; rwa [List.take_length] at this⟩)
      go_wp2_with (fail)
      go_ret
      exact ⟨⟨0, rfl, ⟨fun _ => HOK.out, fun _ => rfl⟩, .inl rfl⟩, HF.out⟩
theorem kinds_calls (w : World) (ns : List ByteArray) (A : Option Addr) (c : Nat) (hA : Kd.string.C w A ns.length ns) (hs : ∀ s, s ∈ ns → s.size ≤ maxLen) :
    Calls Tryd.prog 15 #[.slice A ns.length c] w fun e w' => (∃ r, e = .returned (.int .i64 r) ∧ (r = 0 ↔ KindsOk ns)) ∧ Fr (fun _ => False) w w' :=
  (kinds_calls2 w ns A c hA hs).mono fun _ _ ⟨⟨r, h1, h2, _⟩, h3⟩ => ⟨⟨r, h1, h2⟩, h3⟩
end Go.Proofs.YtagokdbpgljgjaaDoor.TextSet
