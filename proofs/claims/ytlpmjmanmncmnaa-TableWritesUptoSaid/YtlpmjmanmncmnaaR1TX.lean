/-
How far a table is read: what each number that is read leaves, in plain Lean.
-/
import Derived.Test.YtlpmjmanmncmnaaR1XT
set_option linter.unusedSimpArgs false
set_option linter.unusedVariables false
namespace Go.Proofs.Ytlpmjmanmncmnaa.Tab
open Go.RowKit Go.Maps Go.Proofs.YtlpmjmanmncmnaaW.PrintWords Go.Proofs.YtlpmjmanmncmnaaW.PrintLast Go.Proofs.YtlpmjmanmncmnaaW.PrintMore Go.Proofs.Ytlpmjmanmncmnaa.Fr Go.Proofs.Ytlpmjmanmncmnaa.PT
/-- One number is read. -/
def NumRel (l : List Int) (bad : Bool) (v : Nat) (r : List Int) (bad' : Bool) : Prop := (bad' = true ∧ (bad = true ∨ numOf l = none)) ∨ (bad = false ∧ bad' = false ∧ numOf l = some ((v : Int), r))
/-- A row of moves, as far as it is read. -/
def MvRel (D : Prop) (K : Nat) (l0 : List Int) (k : Nat) (ms : List S48) (rest : List Int) (bad : Bool) : Prop :=
  (bad = true ∧ D) ∨ (bad = false ∧ ms.length = k ∧ k ≤ K ∧ pM K l0 = (pM (K - k) rest).map fun c => (ms ++ c.1, c.2))
theorem MvRel.start (D : Prop) (K : Nat) (l0 : List Int) : MvRel D K l0 0 [] l0 false := .inr ⟨rfl, rfl, Nat.zero_le _, by cases pM K l0 <;> simp⟩
theorem MvRel.step {D : Prop} {K : Nat} {l0 : List Int} {k : Nat} {ms : List S48} {rest r1 r2 : List Int} {v1 v2 : Nat} {b1 b2 : Bool} (h : MvRel D K l0 k ms rest false) (hk : k < K) (hD : pM K l0 = none → D) (h1 : NumRel rest false v1 r1 b1) (h2 : NumRel r1 b1 v2 r2 b2) :
    MvRel D K l0 (k + 1) (ms ++ [⟨v1, v2⟩]) r2 b2 := by
  rcases h with ⟨h, _⟩ | ⟨_, hl, _, he⟩
  · cases h
  rw [show K - k = (K - (k + 1)) + 1 by omega, pM] at he
  rcases h1 with ⟨rfl, e1⟩ | ⟨_, rfl, e1⟩
  · have hb2 : b2 = true := by
      rcases h2 with ⟨h, _⟩ | ⟨h, _⟩
      · exact h
      · cases h
    refine .inl ⟨hb2, hD ?_⟩
    rcases e1 with h | e1
    · cases h
    · rw [he, e1]
      rfl
  · rw [e1, Option.bind_some] at he
    simp only at he
    rcases h2 with ⟨rfl, e2⟩ | ⟨_, rfl, e2⟩
    · rcases e2 with h | e2
      · cases h
      · refine .inl ⟨rfl, hD ?_⟩
        rw [he, e2]
        rfl
    · rw [e2, Option.bind_some] at he
      refine .inr ⟨rfl, by simp [hl], hk, ?_⟩
      rw [he]
      cases pM (K - (k + 1)) r2 <;> simp
/-- A row of Goto, as far as it is read. -/
def GtRel (D : Prop) (K : Nat) (l0 : List Int) (k : Nat) (ms : List Int) (rest : List Int) (bad : Bool) : Prop :=
  (bad = true ∧ D) ∨ (bad = false ∧ ms.length = k ∧ k ≤ K ∧ pG K l0 = (pG (K - k) rest).map fun c => (ms ++ c.1, c.2))
theorem GtRel.start (D : Prop) (K : Nat) (l0 : List Int) : GtRel D K l0 0 [] l0 false := .inr ⟨rfl, rfl, Nat.zero_le _, by cases pG K l0 <;> simp⟩
theorem GtRel.step {D : Prop} {K : Nat} {l0 : List Int} {k : Nat} {ms : List Int} {rest r1 : List Int} {v1 : Nat} {b1 : Bool} (h : GtRel D K l0 k ms rest false) (hk : k < K) (hD : pG K l0 = none → D) (h1 : NumRel rest false v1 r1 b1) :
    GtRel D K l0 (k + 1) (ms ++ [(v1 : Int) - 1]) r1 b1 := by
  rcases h with ⟨h, _⟩ | ⟨_, hl, _, he⟩
  · cases h
  rw [show K - k = (K - (k + 1)) + 1 by omega, pG] at he
  rcases h1 with ⟨rfl, e1⟩ | ⟨_, rfl, e1⟩
  · rcases e1 with h | e1
    · cases h
    · refine .inl ⟨rfl, hD ?_⟩
      rw [he, e1]
      rfl
  · rw [e1, Option.bind_some] at he
    refine .inr ⟨rfl, by simp [hl], hk, ?_⟩
    rw [he]
    cases pG (K - (k + 1)) r1 <;> simp
/-- No table is read. -/
def Dead (b : List Int) : Prop := ∀ T l, readP b = some (T, l) → ¬ readE (T, l)
/-- A table, as far as it is read. -/
def RwRel (P : Nat → Prop) (b : List Int) (n K Q : Nat) (s : Nat) (Lm : List (List S48)) (Lg : List (List Int)) (rest : List Int) (bad : Bool) : Prop :=
  (bad = true ∧ Dead b) ∨ (bad = false ∧ Lm.length = s ∧ Lg.length = s ∧ s ≤ n ∧ P s ∧ readP b = (pR K Q (n - s) rest).map fun c => (⟨Lm ++ c.1.mv, Lg ++ c.1.gt⟩, c.2))
theorem RwRel.start {P : Nat → Prop} (hP : P 0) {b r1 r2 r3 : List Int} {n K Q : Nat} {b1 b2 b3 : Bool} (h1 : NumRel b false n r1 b1) (h2 : NumRel r1 b1 K r2 b2) (h3 : NumRel r2 b2 Q r3 b3) : RwRel P b n K Q 0 [] [] r3 b3 := by
  have dead : ∀ {l r : List Int} {b b' : Bool} {v : Nat}, NumRel l b v r b' → b = true → b' = true := fun h hb => by
    rcases h with ⟨h, _⟩ | ⟨h, _⟩
    · exact h
    · rw [hb] at h
      cases h
  rcases h1 with ⟨rfl, e1⟩ | ⟨_, rfl, e1⟩
  · refine .inl ⟨dead h3 (dead h2 rfl), fun T l h => ?_⟩
    rcases e1 with h1 | e1
    · cases h1
    · rw [readP, e1] at h
      cases h
  · rcases h2 with ⟨rfl, e2⟩ | ⟨_, rfl, e2⟩
    · refine .inl ⟨dead h3 rfl, fun T l h => ?_⟩
      rcases e2 with h1 | e2
      · cases h1
      · rw [readP, e1, Option.bind_some] at h
        simp only at h
        rw [e2] at h
        cases h
    · rcases h3 with ⟨rfl, e3⟩ | ⟨_, rfl, e3⟩
      · refine .inl ⟨rfl, fun T l h => ?_⟩
        rcases e3 with h1 | e3
        · cases h1
        · rw [readP, e1, Option.bind_some] at h
          simp only at h
          rw [e2, Option.bind_some] at h
          simp only at h
          rw [e3] at h
          cases h
      · refine .inr ⟨rfl, rfl, rfl, Nat.zero_le _, hP, ?_⟩
        rw [readP, e1, Option.bind_some]
        simp only
        rw [e2, Option.bind_some]
        simp only
        rw [e3, Option.bind_some]
        simp only [Int.toNat_natCast]
        rw [Nat.sub_zero]
        cases pR K Q n r3 <;> simp
section
variable {P : Nat → Prop} {b : List Int} {n K Q s : Nat} {Lm : List (List S48)} {Lg : List (List Int)} {rest : List Int} (h : RwRel P b n K Q s Lm Lg rest false) (hs : s < n)
include h hs
theorem RwRel.eq : readP b = ((pM K rest).bind fun a => (pG Q a.2).bind fun g => (pR K Q (n - (s + 1)) g.2).map fun c => (⟨Lm ++ a.1 :: c.1.mv, Lg ++ g.1 :: c.1.gt⟩, c.2)) := by
  rcases h with ⟨h, _⟩ | ⟨_, _, _, _, _, he⟩
  · cases h
  rw [he, show n - s = (n - (s + 1)) + 1 by omega, pR]
  cases pM K rest with
  | none => rfl
  | some a =>
    simp only [Option.bind_some]
    cases pG Q a.2 with
    | none => rfl
    | some g =>
      simp only [Option.bind_some]
      cases pR K Q (n - (s + 1)) g.2 <;> rfl
theorem RwRel.dead1 (e : pM K rest = none) : Dead b := fun T l h1 => by
  rw [h.eq hs, e] at h1
  cases h1
theorem RwRel.dead2 {ms : List S48} {l1 : List Int} (e : pM K rest = some (ms, l1)) (e2 : pG Q l1 = none) : Dead b := fun T l h1 => by
  rw [h.eq hs, e, Option.bind_some] at h1
  simp only at h1
  rw [e2] at h1
  cases h1
theorem RwRel.dead0 (hP : P = fun s => K = 0 → s = 0) (hK : K = 0) : Dead b := fun T l h1 he => by
  subst hK
  have hLm : Lm = [] := by
    rcases h with ⟨h, _⟩ | ⟨_, h2, _, _, h3, _⟩
    · cases h
    · rw [hP] at h3
      rw [h3 rfl] at h2
      exact List.length_eq_zero_iff.1 h2
  rw [h.eq hs] at h1
  obtain ⟨⟨a, l1⟩, e1, h2⟩ := Option.bind_eq_some_iff.1 h1
  obtain ⟨⟨g, l2⟩, e2, h3⟩ := Option.bind_eq_some_iff.1 h2
  obtain ⟨⟨c, l3⟩, e3, h4⟩ := Option.map_eq_some_iff.1 h3
  injection h4 with h5 h6
  subst h5
  have ha : a = [] := by
    rw [pM] at e1
    injection e1 with e1
    injection e1 with e1 _
    exact e1.symm
  have hm : rd_L2 (Lm ++ a :: c.mv) 0 = [] := by
    rw [hLm]
    exact ha
  have := he.2.2
  simp only [hm, List.length_nil] at this
  omega
/-- A state has been read. -/
theorem RwRel.step (hP : P = fun s => K = 0 → s = 0) {ms : List S48} {l1 l2 : List Int} {gs : List Int} {bad : Bool} (h2 : bad = true ∧ Dead b ∨ bad = false ∧ pM K rest = some (ms, l1) ∧ pG Q l1 = some (gs, l2)) :
    RwRel P b n K Q (s + 1) (Lm ++ [ms]) (Lg ++ [gs]) l2 (bad || (K == 0)) := by
  rcases h2 with ⟨rfl, hd⟩ | ⟨rfl, e1, e2⟩
  · exact .inl ⟨by simp, hd⟩
  · by_cases hK : K = 0
    · exact .inl ⟨by simp [hK], h.dead0 hs hP hK⟩
    · have he := h.eq hs
      rw [e1, Option.bind_some] at he
      simp only at he
      rw [e2, Option.bind_some] at he
      rcases h with ⟨h, _⟩ | ⟨_, h3, h4, _, _, _⟩
      · cases h
      refine .inr ⟨by simp [hK], by simp [h3], by simp [h4], hs, by rw [hP]; exact fun h => absurd h hK, ?_⟩
      rw [he]
      cases pR K Q (n - (s + 1)) l2 <;> simp
end
theorem RwRel.fin {P : Nat → Prop} {b : List Int} {n K Q : Nat} {Lm : List (List S48)} {Lg : List (List Int)} {rest : List Int} (h : RwRel P b n K Q n Lm Lg rest false) : readP b = some (⟨Lm, Lg⟩, rest) := by
  rcases h with ⟨h, _⟩ | ⟨_, _, _, _, _, he⟩
  · cases h
  rw [he, Nat.sub_self, pR]
  simp
theorem MvRel.fin {D : Prop} {K : Nat} {l0 : List Int} {ms : List S48} {rest : List Int} (h : MvRel D K l0 K ms rest false) : pM K l0 = some (ms, rest) := by
  rcases h with ⟨h, _⟩ | ⟨_, _, _, he⟩
  · cases h
  rw [he, Nat.sub_self, pM]
  simp
theorem GtRel.fin {D : Prop} {K : Nat} {l0 : List Int} {ms : List Int} {rest : List Int} (h : GtRel D K l0 K ms rest false) : pG K l0 = some (ms, rest) := by
  rcases h with ⟨h, _⟩ | ⟨_, _, _, he⟩
  · cases h
  rw [he, Nat.sub_self, pG]
  simp
end Go.Proofs.Ytlpmjmanmncmnaa.Tab
