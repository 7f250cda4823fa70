/-
The document's answer to whether a grammar may be: quoinref12.Check tells what gram.Check tells.
-/
import Derived.Test.YtdngobjcdajogaaMAV
import Derived.Test.YtdngobjcdajogaaMBC
set_option linter.unusedSimpArgs false
set_option linter.unusedVariables false
namespace Go.Proofs.Ytdngobjcdajogaa.Gram
open Go.RowKit Go.Proofs.YtdngobjcdajogaaW.PrintWords Go.Proofs.YtdngobjcdajogaaW.PrintLast Go.Proofs.YtdngobjcdajogaaW.PrintMore Go.Proofs.Ytdngobjcdajogaa.Fr Go.Proofs.Ytdngobjcdajogaa.PGramFirsts Go.Proofs.Ytdngobjcdajogaa.TextSet
set_option linter.unusedSimpArgs false
theorem wr_succ {i : Nat} (h : i < 9223372036854775807) : wrap64 ((i : Int) + 1) = ((i + 1 : Nat) : Int) := by simp only [wrap64]; omega
def Fin {α : Type} (f : Nat → Option α) (r : α) : Prop := ∃ K, ∀ k, K ≤ k → f k = some r
theorem Fin.now {α : Type} {f : Nat → Option α} {r : α} (h : ∀ k, f (k + 1) = some r) : Fin f r := ⟨1, fun k hk => by
 obtain ⟨m, rfl⟩ : ∃ m, k = m + 1 := ⟨k - 1, by omega⟩; exact h m⟩
theorem Fin.step {α : Type} {f g : Nat → Option α} {r : α} (h : Fin g r) (e : ∀ k, f (k + 1) = g k) : Fin f r := by
 obtain ⟨K, hK⟩ := h; refine ⟨K + 1, fun k hk => ?_⟩; obtain ⟨m, rfl⟩ : ∃ m, k = m + 1 := ⟨k - 1, by omega⟩; rw [e]; exact hK m (by omega)
theorem Fin.bind {α β : Type} {g : Nat → Option α} {a : α} {f : Nat → Option β} {r : β} (hg : Fin g a) {h : Nat → Option β} (hh : Fin h r) (e : ∀ k, g k = some a → f (k + 1) = h k) : Fin f r := by
 obtain ⟨K, hK⟩ := hg; obtain ⟨M, hM⟩ := hh; refine ⟨K + M + 1, fun k hk => ?_⟩; obtain ⟨m, rfl⟩ : ∃ m, k = m + 1 := ⟨k - 1, by omega⟩; rw [e m (hK m (by omega))]; exact hM m (by omega)
theorem Fin.get {α : Type} {f : Nat → Option α} {r : α} (h : Fin f r) : ∃ k, f k = some r := h.elim fun K hK => ⟨K, hK K (Nat.le_refl _)⟩
theorem Fin.same {α : Type} {f g : Nat → Option α} {r : α} (h : Fin g r) (e : ∀ k, f k = g k) : Fin f r := by
 obtain ⟨K, hK⟩ := h; exact ⟨K, fun k hk => by rw [e]; exact hK k hk⟩
def OkC (i c : Int) : Prop := c = 95 ∨ (c ≥ 97 ∧ c ≤ 122) ∨ (c ≥ 65 ∧ c ≤ 90) ∨ (i > 0 ∧ c ≥ 48 ∧ c ≤ 57)
instance (i c : Int) : Decidable (OkC i c) := by unfold OkC; infer_instance
theorem tok_step (k : Nat) (s : ByteArray) (i : Int) (hi : i < (s.size : Int)) (h0 : 0 ≤ i) : token_named.l0 (k + 1) s i = if OkC i (bt s i) then token_named.l0 k s (wrap64 (i + 1)) else some false := by
 rw [token_named.l0, if_pos hi, if_pos h0]; generalize bt s i = c; generalize token_named.l0 k s (wrap64 (i + 1)) = X; have hcs : (c = 95) ∨ (97 ≤ c ∧ c ≤ 122) ∨ (65 ≤ c ∧ c ≤ 90) ∨ (48 ≤ c ∧ c ≤ 57 ∧ i > 0) ∨ (48 ≤ c ∧ c ≤ 57 ∧ i = 0) ∨ (c < 48) ∨ (57 < c ∧ c < 65) ∨ (90 < c ∧ c < 97 ∧ c ≠ 95) ∨ (122 < c) := by omega
 unfold OkC; rcases hcs with h | h | h | h | h | h | h | h | h
 · -- c = 95
   have e95 : (c = 95) = True := eq_true (by omega); have g97 : (c ≥ 97) = False := eq_false (by omega); have l122 : (c ≤ 122) = True := eq_true (by omega); have g65 : (c ≥ 65) = True := eq_true (by omega); have l90 : (c ≤ 90) = False := eq_false (by omega); have g48 : (c ≥ 48) = True := eq_true (by omega); have g48x : (c < 48) = False := eq_false (by omega); have l57 : (c ≤ 57) = False := eq_false (by omega); have l57x : (c > 57) = True := eq_true (by omega); simp only [e95, g97, l122, g65, l90, g48, g48x, l57, l57x, if_true, if_false, true_and, and_true, false_and, and_false, true_or, or_true, false_or, or_false, ite_self]
 · -- 97 ≤ c ∧ c ≤ 122
   have e95 : (c = 95) = False := eq_false (by omega); have g97 : (c ≥ 97) = True := eq_true (by omega); have l122 : (c ≤ 122) = True := eq_true (by omega); have g65 : (c ≥ 65) = True := eq_true (by omega); have l90 : (c ≤ 90) = False := eq_false (by omega); have g48 : (c ≥ 48) = True := eq_true (by omega); have g48x : (c < 48) = False := eq_false (by omega); have l57 : (c ≤ 57) = False := eq_false (by omega); have l57x : (c > 57) = True := eq_true (by omega); simp only [e95, g97, l122, g65, l90, g48, g48x, l57, l57x, if_true, if_false, true_and, and_true, false_and, and_false, true_or, or_true, false_or, or_false, ite_self]
 · -- 65 ≤ c ∧ c ≤ 90
   have e95 : (c = 95) = False := eq_false (by omega); have g97 : (c ≥ 97) = False := eq_false (by omega); have l122 : (c ≤ 122) = True := eq_true (by omega); have g65 : (c ≥ 65) = True := eq_true (by omega); have l90 : (c ≤ 90) = True := eq_true (by omega); have g48 : (c ≥ 48) = True := eq_true (by omega); have g48x : (c < 48) = False := eq_false (by omega); have l57 : (c ≤ 57) = False := eq_false (by omega); have l57x : (c > 57) = True := eq_true (by omega); simp only [e95, g97, l122, g65, l90, g48, g48x, l57, l57x, if_true, if_false, true_and, and_true, false_and, and_false, true_or, or_true, false_or, or_false, ite_self]
 · -- 48 ≤ c ∧ c ≤ 57 ∧ i > 0
   have e95 : (c = 95) = False := eq_false (by omega); have g97 : (c ≥ 97) = False := eq_false (by omega); have l122 : (c ≤ 122) = True := eq_true (by omega); have g65 : (c ≥ 65) = False := eq_false (by omega); have l90 : (c ≤ 90) = True := eq_true (by omega); have g48 : (c ≥ 48) = True := eq_true (by omega); have g48x : (c < 48) = False := eq_false (by omega); have l57 : (c ≤ 57) = True := eq_true (by omega); have l57x : (c > 57) = False := eq_false (by omega); have ip : (i > 0) = True := eq_true (by omega); have ipx : (i = 0) = False := eq_false (by omega); simp only [e95, g97, l122, g65, l90, g48, g48x, l57, l57x, ip, ipx, if_true, if_false, true_and, and_true, false_and, and_false, true_or, or_true, false_or, or_false, ite_self]
 · -- 48 ≤ c ∧ c ≤ 57 ∧ i = 0
   have e95 : (c = 95) = False := eq_false (by omega); have g97 : (c ≥ 97) = False := eq_false (by omega); have l122 : (c ≤ 122) = True := eq_true (by omega); have g65 : (c ≥ 65) = False := eq_false (by omega); have l90 : (c ≤ 90) = True := eq_true (by omega); have g48 : (c ≥ 48) = True := eq_true (by omega); have g48x : (c < 48) = False := eq_false (by omega); have l57 : (c ≤ 57) = True := eq_true (by omega); have l57x : (c > 57) = False := eq_false (by omega); have ip : (i > 0) = False := eq_false (by omega); have ipx : (i = 0) = True := eq_true (by omega); simp only [e95, g97, l122, g65, l90, g48, g48x, l57, l57x, ip, ipx, if_true, if_false, true_and, and_true, false_and, and_false, true_or, or_true, false_or, or_false, ite_self]
 · -- c < 48
   have e95 : (c = 95) = False := eq_false (by omega); have g97 : (c ≥ 97) = False := eq_false (by omega); have l122 : (c ≤ 122) = True := eq_true (by omega); have g65 : (c ≥ 65) = False := eq_false (by omega); have l90 : (c ≤ 90) = True := eq_true (by omega); have g48 : (c ≥ 48) = False := eq_false (by omega); have g48x : (c < 48) = True := eq_true (by omega); have l57 : (c ≤ 57) = True := eq_true (by omega); have l57x : (c > 57) = False := eq_false (by omega); simp only [e95, g97, l122, g65, l90, g48, g48x, l57, l57x, if_true, if_false, true_and, and_true, false_and, and_false, true_or, or_true, false_or, or_false, ite_self]
 · -- 57 < c ∧ c < 65
   have e95 : (c = 95) = False := eq_false (by omega); have g97 : (c ≥ 97) = False := eq_false (by omega); have l122 : (c ≤ 122) = True := eq_true (by omega); have g65 : (c ≥ 65) = False := eq_false (by omega); have l90 : (c ≤ 90) = True := eq_true (by omega); have g48 : (c ≥ 48) = True := eq_true (by omega); have g48x : (c < 48) = False := eq_false (by omega); have l57 : (c ≤ 57) = False := eq_false (by omega); have l57x : (c > 57) = True := eq_true (by omega); simp only [e95, g97, l122, g65, l90, g48, g48x, l57, l57x, if_true, if_false, true_and, and_true, false_and, and_false, true_or, or_true, false_or, or_false, ite_self]
 · -- 90 < c ∧ c < 97 ∧ c ≠ 95
   have e95 : (c = 95) = False := eq_false (by omega); have g97 : (c ≥ 97) = False := eq_false (by omega); have l122 : (c ≤ 122) = True := eq_true (by omega); have g65 : (c ≥ 65) = True := eq_true (by omega); have l90 : (c ≤ 90) = False := eq_false (by omega); have g48 : (c ≥ 48) = True := eq_true (by omega); have g48x : (c < 48) = False := eq_false (by omega); have l57 : (c ≤ 57) = False := eq_false (by omega); have l57x : (c > 57) = True := eq_true (by omega); simp only [e95, g97, l122, g65, l90, g48, g48x, l57, l57x, if_true, if_false, true_and, and_true, false_and, and_false, true_or, or_true, false_or, or_false, ite_self]
 · -- 122 < c
   have e95 : (c = 95) = False := eq_false (by omega); have g97 : (c ≥ 97) = True := eq_true (by omega); have l122 : (c ≤ 122) = False := eq_false (by omega); have g65 : (c ≥ 65) = True := eq_true (by omega); have l90 : (c ≤ 90) = False := eq_false (by omega); have g48 : (c ≥ 48) = True := eq_true (by omega); have g48x : (c < 48) = False := eq_false (by omega); have l57 : (c ≤ 57) = False := eq_false (by omega); have l57x : (c > 57) = True := eq_true (by omega); simp only [e95, g97, l122, g65, l90, g48, g48x, l57, l57x, if_true, if_false, true_and, and_true, false_and, and_false, true_or, or_true, false_or, or_false, ite_self]
theorem ref_step (k : Nat) (s : ByteArray) (i : Int) (hi : i < (s.size : Int)) (h0 : 0 ≤ i) : quoinref07_name.l0 (k + 1) s i = if OkC i (bt s i) then quoinref07_name.l0 k s (wrap64 (i + 1)) else some false := by
 rw [quoinref07_name.l0, if_pos hi, if_pos h0]; generalize bt s i = c; generalize quoinref07_name.l0 k s (wrap64 (i + 1)) = X; have hcs : (c = 95) ∨ (97 ≤ c ∧ c ≤ 122) ∨ (65 ≤ c ∧ c ≤ 90) ∨ (48 ≤ c ∧ c ≤ 57 ∧ i > 0) ∨ (48 ≤ c ∧ c ≤ 57 ∧ i = 0) ∨ (c < 48) ∨ (57 < c ∧ c < 65) ∨ (90 < c ∧ c < 97 ∧ c ≠ 95) ∨ (122 < c) := by omega
 unfold OkC; rcases hcs with h | h | h | h | h | h | h | h | h
 · -- c = 95
   have e95 : (c = 95) = True := eq_true (by omega); have g97 : (c ≥ 97) = False := eq_false (by omega); have l122 : (c ≤ 122) = True := eq_true (by omega); have g65 : (c ≥ 65) = True := eq_true (by omega); have l90 : (c ≤ 90) = False := eq_false (by omega); have g48 : (c ≥ 48) = True := eq_true (by omega); have g48x : (c < 48) = False := eq_false (by omega); have l57 : (c ≤ 57) = False := eq_false (by omega); have l57x : (c > 57) = True := eq_true (by omega); simp only [e95, g97, l122, g65, l90, g48, g48x, l57, l57x, if_true, if_false, true_and, and_true, false_and, and_false, true_or, or_true, false_or, or_false, ite_self]
 · -- 97 ≤ c ∧ c ≤ 122
   have e95 : (c = 95) = False := eq_false (by omega); have g97 : (c ≥ 97) = True := eq_true (by omega); have l122 : (c ≤ 122) = True := eq_true (by omega); have g65 : (c ≥ 65) = True := eq_true (by omega); have l90 : (c ≤ 90) = False := eq_false (by omega); have g48 : (c ≥ 48) = True := eq_true (by omega); have g48x : (c < 48) = False := eq_false (by omega); have l57 : (c ≤ 57) = False := eq_false (by omega); have l57x : (c > 57) = True := eq_true (by omega); simp only [e95, g97, l122, g65, l90, g48, g48x, l57, l57x, if_true, if_false, true_and, and_true, false_and, and_false, true_or, or_true, false_or, or_false, ite_self]
 · -- 65 ≤ c ∧ c ≤ 90
   have e95 : (c = 95) = False := eq_false (by omega); have g97 : (c ≥ 97) = False := eq_false (by omega); have l122 : (c ≤ 122) = True := eq_true (by omega); have g65 : (c ≥ 65) = True := eq_true (by omega); have l90 : (c ≤ 90) = True := eq_true (by omega); have g48 : (c ≥ 48) = True := eq_true (by omega); have g48x : (c < 48) = False := eq_false (by omega); have l57 : (c ≤ 57) = False := eq_false (by omega); have l57x : (c > 57) = True := eq_true (by omega); simp only [e95, g97, l122, g65, l90, g48, g48x, l57, l57x, if_true, if_false, true_and, and_true, false_and, and_false, true_or, or_true, false_or, or_false, ite_self]
 · -- 48 ≤ c ∧ c ≤ 57 ∧ i > 0
   have e95 : (c = 95) = False := eq_false (by omega); have g97 : (c ≥ 97) = False := eq_false (by omega); have l122 : (c ≤ 122) = True := eq_true (by omega); have g65 : (c ≥ 65) = False := eq_false (by omega); have l90 : (c ≤ 90) = True := eq_true (by omega); have g48 : (c ≥ 48) = True := eq_true (by omega); have g48x : (c < 48) = False := eq_false (by omega); have l57 : (c ≤ 57) = True := eq_true (by omega); have l57x : (c > 57) = False := eq_false (by omega); have ip : (i > 0) = True := eq_true (by omega); have ipx : (i = 0) = False := eq_false (by omega); simp only [e95, g97, l122, g65, l90, g48, g48x, l57, l57x, ip, ipx, if_true, if_false, true_and, and_true, false_and, and_false, true_or, or_true, false_or, or_false, ite_self]
 · -- 48 ≤ c ∧ c ≤ 57 ∧ i = 0
   have e95 : (c = 95) = False := eq_false (by omega); have g97 : (c ≥ 97) = False := eq_false (by omega); have l122 : (c ≤ 122) = True := eq_true (by omega); have g65 : (c ≥ 65) = False := eq_false (by omega); have l90 : (c ≤ 90) = True := eq_true (by omega); have g48 : (c ≥ 48) = True := eq_true (by omega); have g48x : (c < 48) = False := eq_false (by omega); have l57 : (c ≤ 57) = True := eq_true (by omega); have l57x : (c > 57) = False := eq_false (by omega); have ip : (i > 0) = False := eq_false (by omega); have ipx : (i = 0) = True := eq_true (by omega); simp only [e95, g97, l122, g65, l90, g48, g48x, l57, l57x, ip, ipx, if_true, if_false, true_and, and_true, false_and, and_false, true_or, or_true, false_or, or_false, ite_self]
 · -- c < 48
   have e95 : (c = 95) = False := eq_false (by omega); have g97 : (c ≥ 97) = False := eq_false (by omega); have l122 : (c ≤ 122) = True := eq_true (by omega); have g65 : (c ≥ 65) = False := eq_false (by omega); have l90 : (c ≤ 90) = True := eq_true (by omega); have g48 : (c ≥ 48) = False := eq_false (by omega); have g48x : (c < 48) = True := eq_true (by omega); have l57 : (c ≤ 57) = True := eq_true (by omega); have l57x : (c > 57) = False := eq_false (by omega); simp only [e95, g97, l122, g65, l90, g48, g48x, l57, l57x, if_true, if_false, true_and, and_true, false_and, and_false, true_or, or_true, false_or, or_false, ite_self]
 · -- 57 < c ∧ c < 65
   have e95 : (c = 95) = False := eq_false (by omega); have g97 : (c ≥ 97) = False := eq_false (by omega); have l122 : (c ≤ 122) = True := eq_true (by omega); have g65 : (c ≥ 65) = False := eq_false (by omega); have l90 : (c ≤ 90) = True := eq_true (by omega); have g48 : (c ≥ 48) = True := eq_true (by omega); have g48x : (c < 48) = False := eq_false (by omega); have l57 : (c ≤ 57) = False := eq_false (by omega); have l57x : (c > 57) = True := eq_true (by omega); simp only [e95, g97, l122, g65, l90, g48, g48x, l57, l57x, if_true, if_false, true_and, and_true, false_and, and_false, true_or, or_true, false_or, or_false, ite_self]
 · -- 90 < c ∧ c < 97 ∧ c ≠ 95
   have e95 : (c = 95) = False := eq_false (by omega); have g97 : (c ≥ 97) = False := eq_false (by omega); have l122 : (c ≤ 122) = True := eq_true (by omega); have g65 : (c ≥ 65) = True := eq_true (by omega); have l90 : (c ≤ 90) = False := eq_false (by omega); have g48 : (c ≥ 48) = True := eq_true (by omega); have g48x : (c < 48) = False := eq_false (by omega); have l57 : (c ≤ 57) = False := eq_false (by omega); have l57x : (c > 57) = True := eq_true (by omega); simp only [e95, g97, l122, g65, l90, g48, g48x, l57, l57x, if_true, if_false, true_and, and_true, false_and, and_false, true_or, or_true, false_or, or_false, ite_self]
 · -- 122 < c
   have e95 : (c = 95) = False := eq_false (by omega); have g97 : (c ≥ 97) = True := eq_true (by omega); have l122 : (c ≤ 122) = False := eq_false (by omega); have g65 : (c ≥ 65) = True := eq_true (by omega); have l90 : (c ≤ 90) = False := eq_false (by omega); have g48 : (c ≥ 48) = True := eq_true (by omega); have g48x : (c < 48) = False := eq_false (by omega); have l57 : (c ≤ 57) = False := eq_false (by omega); have l57x : (c > 57) = True := eq_true (by omega); simp only [e95, g97, l122, g65, l90, g48, g48x, l57, l57x, if_true, if_false, true_and, and_true, false_and, and_false, true_or, or_true, false_or, or_false, ite_self]
theorem name_l (s : ByteArray) (hs : s.size ≤ maxLen) : ∀ (n i : Nat), i + n = s.size → ∃ b, Fin (fun k => quoinref07_name.l0 k s i) b ∧ token_named.l0 (n + 1) s i = some (b && (decide (1 ≤ s.size) && decide (s.size ≤ 64)))
 | 0, i, h => by
  refine ⟨true, .now fun k => ?_, ?_⟩
  · unfold quoinref07_name.l0
    rw [if_neg (by omega)]
  · unfold token_named.l0
    rw [if_neg (by omega)]; by_cases h1 : 1 ≤ s.size
    · by_cases h2 : s.size ≤ 64
      · have e1 : ((s.size : Int) ≥ 1) := by omega
        have e2 : ((s.size : Int) ≤ 64) := by omega
        simp [h1, h2, e1, e2]
      · have e1 : ((s.size : Int) ≥ 1) := by omega
        have e2 : ¬ ((s.size : Int) ≤ 64) := by omega
        simp [h1, h2, e1, e2]
    · have e1 : ¬ ((s.size : Int) ≥ 1) := by omega
      simp [h1, e1]
 | n + 1, i, h => by
  obtain ⟨b, hb, ht⟩ := name_l s hs n (i + 1) (by omega); have hm : maxLen ≤ 9223372036854775807 := by decide
  have hw := wr_succ (i := i) (by omega); have t1 := tok_step (n + 1) s i (by omega) (by omega); have r1 := fun k => ref_step k s i (by omega) (by omega)
  by_cases hok : OkC i (bt s i)
  · rw [if_pos hok, hw, ht] at t1
    exact ⟨b, hb.step fun k => by rw [r1, if_pos hok, hw], t1⟩
  · rw [if_neg hok] at t1
    exact ⟨false, .now fun k => by rw [r1, if_neg hok], t1⟩
theorem name_fin {s : ByteArray} (hs : s.size ≤ maxLen) : Fin (fun k => quoinref07_name.f k s) (named s) := by
 obtain ⟨b, hb, ht⟩ := name_l s hs s.size 0 (by omega); have hn : named s = (b && (decide (1 ≤ s.size) && decide (s.size ≤ 64))) := by
  have h2 := named_some s hs; have h3 : token_named.f (s.size + 1) s = token_named.l0 (s.size + 1) s 0 := rfl; rw [h3] at h2; have : some (named s) = some (b && (decide (1 ≤ s.size) && decide (s.size ≤ 64))) := h2.symm.trans ht; injection this
 rw [hn]; by_cases h1 : 1 ≤ s.size
 · by_cases h2 : s.size ≤ 64
   · simp only [h1, h2, decide_true, Bool.and_true]
     refine Fin.step hb fun k => ?_
     simp only [quoinref07_name.f]; rw [if_neg (by omega), decide_eq_false (by omega)]; simp [quoinref07_name.j0]
   · simp only [h2, decide_false, Bool.and_false]
     refine Fin.now fun k => ?_
     simp only [quoinref07_name.f]; rw [if_neg (by omega), decide_eq_true (by omega)]; simp [quoinref07_name.j0]
 · simp only [h1, decide_false, Bool.false_and, Bool.and_false]
   refine Fin.now fun k => ?_
   simp only [quoinref07_name.f]; rw [if_pos (by omega)]; simp [quoinref07_name.j0]
theorem toList_inj {a b : ByteArray} (h : a.toList = b.toList) : a = b := by
 refine ByteArray.ext (Array.toList_inj.mp ?_); rw [← ByteArray.toList_eq, ← ByteArray.toList_eq, h]
theorem rdOf_rdS (l : List ByteArray) (i : Nat) : rdOf ByteArray.empty l (i : Int) = rdS l i := rfl
theorem rdS_get {l : List ByteArray} {i : Nat} (h : i < l.length) : rdS l i = l[i] := by simp [rdS, rdOf, List.getD_eq_getElem?_getD, h]
theorem kinds_in (l : List ByteArray) (hl : l.length ≤ 9223372036854775807) (i : Nat) (hi : i < l.length) {b : Bool} (hb : Fin (fun k => quoinref07_Kinds.l0 k l ((i + 1 : Nat) : Int)) b) : ∀ (n j : Nat), j + n = i → ∃ c, Fin (fun k => quoinref07_Kinds.l1 k l i j) c ∧ (c = true ↔ b = true ∧ ∀ t, j ≤ t → t < i → rdS l t ≠ rdS l i)
 | 0, j, h => by
  refine ⟨b, hb.step fun k => ?_, ⟨fun h2 => ⟨h2, fun t h3 h4 => by omega⟩, fun h2 => h2.1⟩⟩; rw [quoinref07_Kinds.l1, if_neg (by omega), wr_succ (by omega)]
 | n + 1, j, h => by
  obtain ⟨c, hc, hcc⟩ := kinds_in l hl i hi hb n (j + 1) (by omega); by_cases he : rdS l j = rdS l i
  · refine ⟨false, .now fun k => ?_, ⟨(fun h2 => by cases h2), fun h2 => absurd he (h2.2 j (Nat.le_refl _) (by omega))⟩⟩
    rw [quoinref07_Kinds.l1, if_pos (by omega), if_pos (by omega), if_pos (by omega), if_pos (by omega), if_pos (by omega), rdOf_rdS, rdOf_rdS, if_pos (by rw [he])]
  · refine ⟨c, hc.step fun k => ?_, hcc.trans ⟨fun h2 => ⟨h2.1, fun t h3 h4 => ?_⟩, fun h2 => ⟨h2.1, fun t h3 h4 => h2.2 t (by omega) h4⟩⟩⟩
    · rw [quoinref07_Kinds.l1, if_pos (by omega), if_pos (by omega), if_pos (by omega), if_pos (by omega), if_pos (by omega), rdOf_rdS, rdOf_rdS, if_neg (fun h2 => he (toList_inj h2)), wr_succ (by omega)]
    · by_cases e : t = j
      · rw [e]; exact he
      · exact h2.2 t (by omega) h4
theorem kinds_out (l : List ByteArray) (hl : l.length ≤ 9223372036854775807) (hs : ∀ s, s ∈ l → s.size ≤ maxLen) : ∀ (n i : Nat), i + n = l.length → ∃ b, Fin (fun k => quoinref07_Kinds.l0 k l (i : Int)) b ∧ (b = true ↔ ∀ t, i ≤ t → t < l.length → named (rdS l t) = true ∧ ∀ u, u < t → rdS l u ≠ rdS l t)
 | 0, i, h => ⟨true, .now fun k => by rw [quoinref07_Kinds.l0, if_neg (by omega)], ⟨fun _ t h1 h2 => by omega, fun _ => rfl⟩⟩
 | n + 1, i, h => by
  obtain ⟨b, hb, hbb⟩ := kinds_out l hl hs n (i + 1) (by omega); obtain ⟨c, hc, hcc⟩ := kinds_in l hl i (by omega) hb i 0 (by omega); have hnf := name_fin (hs (rdS l i) (rdS_mem (by omega))); cases hn : named (rdS l i) with
  | false =>
   rw [hn] at hnf; refine ⟨false, Fin.bind (h := fun _ => some false) hnf ⟨0, fun _ _ => rfl⟩ fun k hk => ?_, ⟨(fun h2 => by cases h2), fun h2 => by have := (h2 i (Nat.le_refl _) (by omega)).1; rw [hn] at this; cases this⟩⟩; have hk : quoinref07_name.f k (rdOf ByteArray.empty l (i : Int)) = some false := hk; rw [quoinref07_Kinds.l0, if_pos (by omega), if_pos (by omega), hk]; rfl
  | true =>
   rw [hn] at hnf; refine ⟨c, Fin.bind hnf hc fun k hk => ?_, hcc.trans ⟨fun h2 t h3 h4 => ?_, fun h2 => ⟨hbb.2 fun t h3 h4 => h2 t (by omega) h4, fun t _ h4 => (h2 i (Nat.le_refl _) (by omega)).2 t h4⟩⟩⟩
   · have hk : quoinref07_name.f k (rdOf ByteArray.empty l (i : Int)) = some true := hk
     rw [quoinref07_Kinds.l0, if_pos (by omega), if_pos (by omega), hk]; rfl
   · by_cases e : t = i
     · subst e
       exact ⟨hn, fun u hu => h2.2 u (Nat.zero_le _) hu⟩
     · exact hbb.1 h2.1 t (by omega) h4
theorem nodup_iff {l : List ByteArray} : l.Nodup ↔ ∀ t, t < l.length → ∀ u, u < t → rdS l u ≠ rdS l t := by
 rw [List.Nodup, List.pairwise_iff_getElem]; constructor
 · intro h t ht u hu
   rw [rdS_get ht, rdS_get (by omega)]; exact h u t (by omega) ht hu
 · intro h i j hi hj hij
   have := h j hj i hij; rwa [rdS_get hj, rdS_get hi] at this
theorem kinds_fin {l : List ByteArray} (hl : l.length ≤ 9223372036854775807) (hs : ∀ s, s ∈ l → s.size ≤ maxLen) : ∃ b, Fin (fun k => quoinref07_Kinds.f k l) b ∧ (b = true ↔ KindsOk l) := by
 have hj : ∀ x : Bool, x = true → Fin (fun k => quoinref07_Kinds.j0 k l x) false := fun x hx => .now fun k => by rw [quoinref07_Kinds.j0, if_pos hx]
 obtain ⟨b, hb, hbb⟩ := kinds_out l hl hs l.length 0 (by omega); by_cases h1 : l.length < 2
 · exact ⟨false, (hj true rfl).same fun k => by rw [quoinref07_Kinds.f, if_pos (by omega)], ⟨(fun h => by cases h), fun h => by have := h.two; omega⟩⟩
 by_cases h2 : 1024 < l.length
 · exact ⟨false, (hj true rfl).same fun k => by rw [quoinref07_Kinds.f, if_neg (by omega), if_pos (by omega)], ⟨(fun h => by cases h), fun h => by have := h.max; omega⟩⟩
 by_cases h3 : (rdS l 0).toList = [101, 110, 100]
 · by_cases h4 : (rdS l 1).toList = [101, 114, 114, 111, 114]
   · refine ⟨b, hb.step fun k => ?_, hbb.trans ⟨fun h => ⟨by omega, by omega, h3, h4, fun s hm => ?_, nodup_iff.2 fun t ht => (h t (Nat.zero_le _) ht).2⟩, fun h t _ ht => ⟨h.all _ (rdS_mem ht), nodup_iff.1 h.nodup t ht⟩⟩⟩
     · have e0 : (rdOf ByteArray.empty l 0).toList = [101, 110, 100] := h3
       have e1 : (rdOf ByteArray.empty l 1).toList = [101, 114, 114, 111, 114] := h4; rw [quoinref07_Kinds.f, if_neg (by omega), if_neg (by omega), if_pos (by omega), if_pos e0, if_pos (by omega), e1]; simp [quoinref07_Kinds.j0]
     · obtain ⟨t, ht, rfl⟩ := List.getElem_of_mem hm
       have := (h t (Nat.zero_le _) ht).1; rwa [rdS_get ht] at this
   · refine ⟨false, (hj true rfl).same fun k => ?_, ⟨(fun h => by cases h), fun h => absurd h.snd h4⟩⟩
     have e0 : (rdOf ByteArray.empty l 0).toList = [101, 110, 100] := h3; have e1 : ((rdOf ByteArray.empty l 1).toList != [101, 114, 114, 111, 114]) = true := bne_iff_ne.2 h4; rw [quoinref07_Kinds.f, if_neg (by omega), if_neg (by omega), if_pos (by omega), if_pos e0, if_pos (by omega), e1]
 · refine ⟨false, (hj true rfl).same fun k => ?_, ⟨(fun h => by cases h), fun h => absurd h.fst h3⟩⟩
   have e0 : ¬ (rdOf ByteArray.empty l 0).toList = [101, 110, 100] := h3; rw [quoinref07_Kinds.f, if_neg (by omega), if_neg (by omega), if_pos (by omega), if_neg e0]
theorem precsF_iff {ok : Bool} {l : List S73} : ∀ {k : Nat}, precsF ok l k = true ↔ ok = true ∧ ∀ j : Nat, j < k → precF j (rd_T73 l j) = true
 | 0 => ⟨fun h => ⟨h, fun j hj => by omega⟩, fun h => h.1⟩
 | k + 1 => by
  simp only [precsF, Bool.and_eq_true]; rw [precsF_iff (k := k)]; constructor
  · rintro ⟨⟨h1, h2⟩, h3⟩
    refine ⟨h1, fun j hj => ?_⟩; by_cases e : j = k
    · rw [e]; exact h3
    · exact h2 j (by omega)
  · rintro ⟨h1, h2⟩
    exact ⟨⟨h1, fun j hj => h2 j (by omega)⟩, h2 k (by omega)⟩
theorem precF_iff {i : Nat} {p : S73} : precF i p = true ↔ (p.f0 = 0 ∧ p.f1 = 0) ∨ (1 ≤ p.f0 ∧ 1 ≤ p.f1 ∧ p.f1 ≤ 3 ∧ 2 ≤ i) := by
 simp only [precF, Bool.or_eq_true, Bool.and_eq_true, beq_iff_eq, decide_eq_true_eq]; refine or_congr Iff.rfl (and_congr Iff.rfl (and_congr Iff.rfl (and_congr Iff.rfl ?_))); omega
theorem levels_out (l : List S73) (hl : l.length ≤ 9223372036854775807) : ∀ (n i : Nat), i + n = l.length → ∃ b, Fin (fun k => quoinref12_levels.l0 k l (i : Int)) b ∧ (b = true ↔ ∀ t : Nat, i ≤ t → t < l.length → precF t (rd_T73 l t) = true)
 | 0, i, h => ⟨true, .now fun k => by rw [quoinref12_levels.l0, if_neg (by omega)], ⟨fun _ t h1 h2 => by omega, fun _ => rfl⟩⟩
 | n + 1, i, h => by
  obtain ⟨b, hb, hbb⟩ := levels_out l hl n (i + 1) (by omega); have hw := wr_succ (i := i) (by omega); by_cases hp : precF i (rd_T73 l i) = true
  · refine ⟨b, hb.step fun k => ?_, hbb.trans ⟨fun h2 t h3 h4 => ?_, fun h2 t h3 h4 => h2 t (by omega) h4⟩⟩
    · have hp := precF_iff.1 hp
      rw [quoinref12_levels.l0, if_pos (by omega), if_pos (by omega), hw]; repeat' split
      all_goals first | rfl | omega
    · by_cases e : t = i
      · subst e; exact hp
      · exact h2 t (by omega) h4
  · refine ⟨false, .now fun k => ?_, ⟨(fun h2 => by cases h2), fun h2 => absurd (h2 i (Nat.le_refl _) (by omega)) hp⟩⟩
    have hp := mt precF_iff.2 hp; rw [quoinref12_levels.l0, if_pos (by omega), if_pos (by omega), hw]; repeat' split
    all_goals first | rfl | omega
theorem names_in (l : List ByteArray) (hl : l.length ≤ 9223372036854775807) (i : Nat) (hi : i < l.length) {b : Bool} (hb : Fin (fun k => quoinref12_names.l0 k l ((i + 1 : Nat) : Int)) b) : ∀ (n j : Nat), j + n = i → ∃ c, Fin (fun k => quoinref12_names.l1 k l i j) c ∧ (c = true ↔ b = true ∧ ∀ t, j ≤ t → t < i → rdS l t ≠ rdS l i)
 | 0, j, h => by
  refine ⟨b, hb.step fun k => ?_, ⟨fun h2 => ⟨h2, fun t h3 h4 => by omega⟩, fun h2 => h2.1⟩⟩; rw [quoinref12_names.l1, if_neg (by omega), wr_succ (by omega)]
 | n + 1, j, h => by
  obtain ⟨c, hc, hcc⟩ := names_in l hl i hi hb n (j + 1) (by omega); by_cases he : rdS l j = rdS l i
  · refine ⟨false, .now fun k => ?_, ⟨(fun h2 => by cases h2), fun h2 => absurd he (h2.2 j (Nat.le_refl _) (by omega))⟩⟩
    rw [quoinref12_names.l1, if_pos (by omega), if_pos (by omega), if_pos (by omega), if_pos (by omega), if_pos (by omega), rdOf_rdS, rdOf_rdS, if_pos (by rw [he])]
  · refine ⟨c, hc.step fun k => ?_, hcc.trans ⟨fun h2 => ⟨h2.1, fun t h3 h4 => ?_⟩, fun h2 => ⟨h2.1, fun t h3 h4 => h2.2 t (by omega) h4⟩⟩⟩
    · rw [quoinref12_names.l1, if_pos (by omega), if_pos (by omega), if_pos (by omega), if_pos (by omega), if_pos (by omega), rdOf_rdS, rdOf_rdS, if_neg (fun h2 => he (toList_inj h2)), wr_succ (by omega)]
    · by_cases e : t = j
      · rw [e]; exact he
      · exact h2.2 t (by omega) h4
theorem take_mem {l : List ByteArray} {i : Nat} (hi : i < l.length) {s : ByteArray} : s ∈ l.take i ↔ ∃ t, t < i ∧ rdS l t = s := by
 constructor
 · intro h
   obtain ⟨t, ht, e⟩ := List.getElem_of_mem h; rw [List.getElem_take] at e; rw [List.length_take] at ht; exact ⟨t, by omega, by rw [rdS_get (by omega)]; exact e⟩
 · rintro ⟨t, ht, rfl⟩
   refine List.mem_of_getElem? (i := t) ?_; rw [List.getElem?_take, if_pos ht, rdS_get (show t < l.length by omega), List.getElem?_eq_getElem]
theorem names_out (l : List ByteArray) (hl : l.length ≤ 9223372036854775807) (hs : ∀ s, s ∈ l → s.size ≤ maxLen) : ∀ (n i : Nat), i + n = l.length → ∃ b, Fin (fun k => quoinref12_names.l0 k l (i : Int)) b ∧ (b = true ↔ ∀ t, i ≤ t → t < l.length → nameF l t = true)
 | 0, i, h => ⟨true, .now fun k => by rw [quoinref12_names.l0, if_neg (by omega)], ⟨fun _ t h1 h2 => by omega, fun _ => rfl⟩⟩
 | n + 1, i, h => by
  obtain ⟨b, hb, hbb⟩ := names_out l hl hs n (i + 1) (by omega); obtain ⟨c, hc, hcc⟩ := names_in l hl i (by omega) hb i 0 (by omega); have hno : ∀ x : Bool, x = true → Fin (fun k => quoinref12_names.j2 k l (i : Int) x) false := fun x hx => .now fun k => by rw [quoinref12_names.j2, if_pos hx]
  have hbad : ¬ (1 ≤ (rdS l i).size ∧ (rdS l i).size ≤ 4096) → ¬ nameF l i = true := fun h1 h2 => h1 (nameF_iff.1 h2).1
  by_cases h1 : (rdS l i).size < 1
  · refine ⟨false, (hno true rfl).step fun k => ?_, ⟨(fun h2 => by cases h2), fun h2 => absurd (h2 i (Nat.le_refl _) (by omega)) (hbad (by omega))⟩⟩
    rw [quoinref12_names.l0, if_pos (by omega), if_pos (by omega), rdOf_rdS, if_pos (by omega)]
  by_cases h2 : 4096 < (rdS l i).size
  · refine ⟨false, (hno true rfl).step fun k => ?_, ⟨(fun h2 => by cases h2), fun h3 => absurd (h3 i (Nat.le_refl _) (by omega)) (hbad (by omega))⟩⟩
    rw [quoinref12_names.l0, if_pos (by omega), if_pos (by omega), rdOf_rdS, if_neg (by omega), decide_eq_true (by omega)]
  refine ⟨c, Fin.step (g := fun k => quoinref12_names.j2 k l (i : Int) false) (hc.step fun k => by rw [quoinref12_names.j2, if_neg (by decide)]; rfl) fun k => ?_, hcc.trans ⟨fun h3 t h4 h5 => ?_, fun h3 => ⟨hbb.2 fun t h4 h5 => h3 t (by omega) h5, fun t _ h5 he => (nameF_iff.1 (h3 i (Nat.le_refl _) (by omega))).2 ((take_mem (by omega)).2 ⟨t, h5, he⟩)⟩⟩⟩
  · rw [quoinref12_names.l0, if_pos (by omega), if_pos (by omega), rdOf_rdS, if_neg (by omega), decide_eq_false (by omega)]
  · by_cases e : t = i
    · subst e
      exact nameF_iff.2 ⟨⟨by omega, by omega⟩, fun hm => by
       obtain ⟨u, hu, he⟩ := (take_mem h5).1 hm; exact h3.2 u (Nat.zero_le _) hu he⟩
    · exact hbb.1 h3.1 t (by omega) h5
theorem names_fin {l : List ByteArray} (hl : l.length ≤ 9223372036854775807) (hs : ∀ s, s ∈ l → s.size ≤ maxLen) : ∃ b, Fin (fun k => quoinref12_names.f k l) b ∧ (b = true ↔ (1 ≤ l.length ∧ l.length ≤ 2048) ∧ ∀ t, t < l.length → nameF l t = true) := by
 obtain ⟨b, hb, hbb⟩ := names_out l hl hs l.length 0 (by omega); have hj : ∀ x : Bool, x = true → Fin (fun k => quoinref12_names.j0 k l x) false := fun x hx => .now fun k => by rw [quoinref12_names.j0, if_pos hx]
 by_cases h1 : l.length < 1
 · exact ⟨false, (hj true rfl).same fun k => by rw [quoinref12_names.f, if_pos (by omega)], ⟨(fun h => by cases h), fun h => by omega⟩⟩
 by_cases h2 : 2048 < l.length
 · exact ⟨false, (hj true rfl).same fun k => by rw [quoinref12_names.f, if_neg (by omega), decide_eq_true (by omega)], ⟨(fun h => by cases h), fun h => by omega⟩⟩
 refine ⟨b, hb.step fun k => ?_, hbb.trans ⟨fun h => ⟨⟨by omega, by omega⟩, fun t ht => h t (Nat.zero_le _) ht⟩, fun h t _ ht => h.2 t ht⟩⟩; rw [quoinref12_names.f, if_neg (by omega), decide_eq_false (by omega), quoinref12_names.j0, if_neg (by decide)]; rfl
theorem parts_j {syms left : Int} {a : S55} {r : Int} (hl : Fin (fun k => quoinref12_parts.l0 k syms left 0 a.f0 a.f1 a.f2 a.f3) r) : Fin (fun k => quoinref12_parts.j0 k syms left (decide (a.f1 = 0) && (a.f2.toList.isEmpty && decide (a.f3.length = 0))) a.f0 a.f1 a.f2 a.f3) (if ownF syms a = true then r else -1) := by
 have h1 : Fin (fun k => quoinref12_parts.j1 k syms left a.f0 a.f1 a.f2 a.f3) r := hl.step fun k => by rw [quoinref12_parts.j1]
 have hnt : ∀ X : Option Int, (if a.f2.toList = ([] : List UInt8) then X else some (-1)) = if a.f2.toList.isEmpty = true then X else some (-1) := fun X => by
  cases h : a.f2.toList with
  | nil => simp
  | cons => simp
 by_cases ho : ownF syms a = true
 · rw [if_pos ho]
   refine h1.step fun k => ?_
   rw [quoinref12_parts.j0]; simp only [hnt]; unfold ownF at ho; by_cases k0 : a.f0 = 0
   · simp only [k0, beq_self_eq_true, if_true, Bool.and_eq_true, beq_iff_eq] at ho
     rw [if_pos k0]; rw [if_pos (by simp only [Bool.and_eq_true, decide_eq_true_eq]; exact ⟨ho.2.1, ho.2.2, by omega⟩), k0]
   · have b0 : (a.f0 == 0) = false := beq_false_of_ne k0
     simp only [b0, if_false, Bool.false_eq_true] at ho; rw [if_neg k0]; by_cases k1 : a.f0 = 1
     · simp only [k1, beq_self_eq_true, if_true, Bool.and_eq_true, beq_iff_eq, decide_eq_true_eq] at ho
       rw [if_pos k1, if_neg (by omega), if_neg (by omega), if_pos ho.2.2.2, if_neg (by omega)]
     · have b1 : (a.f0 == 1) = false := beq_false_of_ne k1
       simp only [b1, if_false, Bool.false_eq_true] at ho; rw [if_neg k1]; by_cases k3 : a.f0 = 3
       · simp only [k3, beq_self_eq_true, if_true, Bool.and_eq_true, beq_iff_eq, decide_eq_true_eq] at ho
         rw [if_pos k3, if_neg (by omega), if_pos ho.2.1, if_neg (by omega)]
       · have b3 : (a.f0 == 3) = false := beq_false_of_ne k3
         simp only [b3, if_false, Bool.false_eq_true] at ho; rw [if_neg k3]; by_cases k2 : a.f0 = 2
         · simp only [k2, beq_self_eq_true, if_true, Bool.and_eq_true, beq_iff_eq, decide_eq_true_eq] at ho
           rw [if_pos k2, if_neg (by omega), if_neg (by omega), if_pos ho.1]
         · have b2 : (a.f0 == 2) = false := beq_false_of_ne k2
           simp only [b2, if_false, Bool.false_eq_true] at ho
 · rw [if_neg ho]
   refine .now fun k => ?_
   rw [quoinref12_parts.j0]; simp only [hnt]; unfold ownF at ho; by_cases k0 : a.f0 = 0
   · simp only [k0, beq_self_eq_true, if_true, Bool.and_eq_true, beq_iff_eq] at ho
     rw [if_pos k0]; rw [if_neg (by simp only [Bool.and_eq_true, decide_eq_true_eq]; exact fun h => ho ⟨by omega, h.1, h.2.1⟩)]
   · have b0 : (a.f0 == 0) = false := beq_false_of_ne k0
     simp only [b0, if_false, Bool.false_eq_true] at ho; rw [if_neg k0]; by_cases k1 : a.f0 = 1
     · simp only [k1, beq_self_eq_true, if_true, Bool.and_eq_true, beq_iff_eq, decide_eq_true_eq] at ho
       rw [if_pos k1]; repeat' split
       all_goals first | rfl | (exfalso; exact ho ⟨by omega, by omega, by omega, by assumption⟩)
     · have b1 : (a.f0 == 1) = false := beq_false_of_ne k1
       simp only [b1, if_false, Bool.false_eq_true] at ho; rw [if_neg k1]; by_cases k3 : a.f0 = 3
       · simp only [k3, beq_self_eq_true, if_true, Bool.and_eq_true, beq_iff_eq, decide_eq_true_eq] at ho
         rw [if_pos k3]; repeat' split
         all_goals first | rfl | (exfalso; exact ho ⟨by omega, by omega, by omega⟩)
       · have b3 : (a.f0 == 3) = false := beq_false_of_ne k3
         simp only [b3, if_false, Bool.false_eq_true] at ho; rw [if_neg k3]; by_cases k2 : a.f0 = 2
         · simp only [k2, beq_self_eq_true, if_true, Bool.and_eq_true, beq_iff_eq, decide_eq_true_eq] at ho
           rw [if_pos k2]; repeat' split
           all_goals first | rfl | (exfalso; exact ho ⟨by omega, by omega, by omega⟩)
         · rw [if_neg k2]
structure LeftOk (left : Int) (r : Int) (p : Bool × Int) : Prop where
 iff : 0 ≤ r ↔ p.1 = true ∧ p.2 ≤ 256
 val : 0 ≤ r → r = 256 - p.2
theorem refparts_loop (syms : Int) (a : S55) (ih : ∀ x, x ∈ a.f3 → ∀ left : Int, 0 ≤ left → left ≤ 256 → ∃ r, Fin (fun k => quoinref12_parts.f k x.f0 x.f1 x.f2 x.f3 syms left) r ∧ LeftOk left r (partsF syms x (256 - left))) :
 ∀ (m i : Nat) (left : Int), i + m = a.f3.length → (i : Int) + left ≤ 256 → ∃ r, Fin (fun k => quoinref12_parts.l0 k syms left (i : Int) a.f0 a.f1 a.f2 a.f3) r ∧ (left < 0 → r < 0) ∧ (0 ≤ left → LeftOk left r (kidsF syms (a.f3.drop i) true (256 - left)))
 | 0, i, left, h, hb => by
  refine ⟨left, .now fun k => ?_, id, fun h0 => ?_⟩
  · rw [quoinref12_parts.l0, if_neg (by omega)]
  · rw [List.drop_eq_nil_of_le (by omega)]
    simp only [kidsF]; exact ⟨⟨fun _ => ⟨rfl, show (256 : Int) - left ≤ 256 by omega⟩, fun _ => h0⟩, fun _ => show left = 256 - (256 - left) by omega⟩
 | m + 1, i, left, h, hb => by
  by_cases h0 : 0 ≤ left
  · obtain ⟨r1, hr1, hl1⟩ := ih (rd_T55 a.f3 i) (mem_T55 (by omega)) left h0 (by omega)
    have hge := parts_ge syms _ (rd_T55 a.f3 i) (Nat.lt_succ_self _) (256 - left); by_cases hr0 : 0 ≤ r1
    · have hv := hl1.val hr0
      obtain ⟨r, hr, hneg, hok⟩ := refparts_loop syms a ih m (i + 1) r1 (by omega) (by omega); refine ⟨r, Fin.bind hr1 hr fun k hk => ?_, fun h2 => by omega, fun _ => ?_⟩
      · have hk : quoinref12_parts.f k (rd_T55 a.f3 i).f0 (rd_T55 a.f3 i).f1 (rd_T55 a.f3 i).f2 (rd_T55 a.f3 i).f3 syms left = some r1 := hk
        rw [quoinref12_parts.l0, if_pos (by omega), if_pos (by omega), if_pos (by omega), hk, Option.bind_some, wr_succ (by omega)]
      · obtain ⟨q1, q2⟩ := hl1.iff.1 hr0
        rw [drop_T55 (by omega)]; simp only [kidsF]; rw [if_pos ⟨trivial, by omega⟩, q1]; have := hok hr0; rw [hv, show (256 : Int) - (256 - (partsF syms (rd_T55 a.f3 i) (256 - left)).2) = (partsF syms (rd_T55 a.f3 i) (256 - left)).2 by omega] at this; exact ⟨this.iff, this.val⟩
    · obtain ⟨r, hr, hneg, _⟩ := refparts_loop syms a ih m (i + 1) r1 (by omega) (by omega)
      have hrn := hneg (by omega); refine ⟨r, Fin.bind hr1 hr fun k hk => ?_, fun h2 => by omega, fun _ => ?_⟩
      · have hk : quoinref12_parts.f k (rd_T55 a.f3 i).f0 (rd_T55 a.f3 i).f1 (rd_T55 a.f3 i).f2 (rd_T55 a.f3 i).f3 syms left = some r1 := hk
        rw [quoinref12_parts.l0, if_pos (by omega), if_pos (by omega), if_pos (by omega), hk, Option.bind_some, wr_succ (by omega)]
      · have hno := fun q => hr0 (hl1.iff.2 q)
        rw [drop_T55 (by omega)]; simp only [kidsF]; rw [if_pos ⟨trivial, by omega⟩]; refine ⟨⟨fun h2 => by omega, fun h2 => ?_⟩, fun h2 => by omega⟩; cases hp : (partsF syms (rd_T55 a.f3 i) (256 - left)).1 with
        | false =>
         rw [hp, kids_false] at h2; cases h2.1
        | true =>
         rw [partsF_eq, Bool.and_eq_true] at hp; exact absurd ⟨by rw [partsF_eq, Bool.and_eq_true]; exact hp, by rw [partsF_eq]; exact of_decide_eq_true hp.2⟩ hno
  · refine ⟨left, .now fun k => ?_, id, fun h2 => absurd h2 h0⟩
    rw [quoinref12_parts.l0, if_pos (by omega), if_neg (by omega)]
theorem refparts_upto (syms : Int) : ∀ (N : Nat) (a : S55), SizeOf.sizeOf a < N → ∀ left : Int, 0 ≤ left → left ≤ 256 → ∃ r, Fin (fun k => quoinref12_parts.f k a.f0 a.f1 a.f2 a.f3 syms left) r ∧ LeftOk left r (partsF syms a (256 - left))
 | 0, _, h, _, _, _ => absurd h (Nat.not_lt_zero _)
 | N + 1, a, h, left, h0, h1 => by
  have hge := parts_ge syms _ a (Nat.lt_succ_self _) (256 - left); have hw : wrap64 (left - 1) = left - 1 := by simp only [wrap64]; omega
  by_cases hz : left = 0
  · refine ⟨-1, .now fun k => ?_, ⟨⟨fun h2 => by omega, fun h2 => by omega⟩, fun h2 => by omega⟩⟩
    rw [quoinref12_parts.f, hw, if_pos (by omega)]
  · obtain ⟨r, hr, _, hok⟩ := refparts_loop syms a (fun x hx left h2 h3 => by
     have h5 := List.sizeOf_lt_of_mem hx; have h6 : SizeOf.sizeOf a.f3 < SizeOf.sizeOf a := by
      cases a
      simp
      omega
     exact refparts_upto syms N x (by omega) left h2 h3) a.f3.length 0 (left - 1) (by omega) (by omega)
    have hj := parts_j hr; refine ⟨_, hj.step fun k => ?_, ?_⟩
    · rw [quoinref12_parts.f, hw, if_neg (by omega)]
      by_cases e1 : a.f1 = 0
      · by_cases e2 : a.f2.toList = []
        · rw [if_pos e1, if_pos e2]
          have : ((a.f3.length : Int) == 0) = (decide (a.f1 = 0) && (a.f2.toList.isEmpty && decide (a.f3.length = 0))) := by
           rw [e2]; simp only [e1, decide_true, List.isEmpty_nil, Bool.true_and]; by_cases e3 : a.f3.length = 0
           · rw [decide_eq_true e3, e3]; rfl
           · rw [decide_eq_false e3]; exact beq_false_of_ne (by omega)
          rw [this]
        · rw [if_pos e1, if_neg e2]
          have : (decide (a.f1 = 0) && (a.f2.toList.isEmpty && decide (a.f3.length = 0))) = false := by
           cases h2 : a.f2.toList with
           | nil => exact absurd h2 e2
           | cons => simp
          rw [this]
      · rw [if_neg e1]
        have : (decide (a.f1 = 0) && (a.f2.toList.isEmpty && decide (a.f3.length = 0))) = false := by simp [e1]
        rw [this]
    · rw [partsF_eq, show (256 : Int) - left + 1 = 256 - (left - 1) by omega]
      by_cases ho : ownF syms a = true
      · rw [if_pos ho, ho]
        have := hok (by omega); rw [List.drop_zero] at this; refine ⟨this.iff.trans ?_, this.val⟩; simp only [Bool.and_eq_true, decide_eq_true_eq]; exact ⟨fun q => ⟨q, q.2⟩, fun q => q.1⟩
      · have ho2 : ownF syms a = false := by cases hb : ownF syms a with
         | true => exact absurd hb ho
         | false => rfl
        rw [if_neg ho, ho2, kids_false]; exact ⟨⟨fun q => absurd q (by decide), fun q => by cases q.1⟩, fun q => absurd q (by decide)⟩
theorem refprod_fin {G : Gr} (hK : G.kinds.length ≤ 1024) (hR : G.rules.length ≤ 2048) (p : S57) : ∃ b, Fin (fun k => quoinref12_prod.f k G.kinds G.precs G.rules G.prods G.start p.f0 p.f1 p.f2 p.f3.f0 p.f3.f1 p.f3.f2 p.f3.f3) b ∧ (b = true ↔ ProdOk G.kinds.length G.rules.length p) := by
 have hj : ∀ x : Bool, x = true → Fin (fun k => quoinref12_prod.j0 k x G.kinds G.precs G.rules G.prods G.start p.f0 p.f1 p.f2 p.f3.f0 p.f3.f1 p.f3.f2 p.f3.f3) false := fun x hx => .now fun k => by rw [quoinref12_prod.j0, if_pos hx]
 by_cases h1 : p.f0 < 0
 · exact ⟨false, (hj true rfl).same fun k => by rw [quoinref12_prod.f, if_pos h1], ⟨(fun h => by cases h), fun h => by have := h.l0; omega⟩⟩
 by_cases h2 : p.f0 ≥ G.rules.length
 · exact ⟨false, (hj true rfl).same fun k => by rw [quoinref12_prod.f, if_neg h1, if_pos h2], ⟨(fun h => by cases h), fun h => by have := h.l1; omega⟩⟩
 by_cases h3 : (p.f1.length : Int) > 64
 · exact ⟨false, (hj true rfl).same fun k => by rw [quoinref12_prod.f, if_neg h1, if_neg h2, if_pos h3], ⟨(fun h => by cases h), fun h => by have := h.len; omega⟩⟩
 by_cases h4 : p.f2 < 0
 · exact ⟨false, (hj _ (decide_eq_true h4)).same fun k => by rw [quoinref12_prod.f, if_neg h1, if_neg h2, if_neg h3], ⟨(fun h => by cases h), fun h => by have := h.lev; omega⟩⟩
 obtain ⟨r, hr, hok⟩ := refparts_upto p.f1.length _ p.f3 (Nat.lt_succ_self _) 256 (by decide) (by decide); have hact : 0 ≤ r ↔ (partsF p.f1.length p.f3 0).1 = true := by
  refine hok.iff.trans ⟨fun h => h.1, fun h => ⟨h, ?_⟩⟩; rw [partsF_eq, Bool.and_eq_true] at h; rw [partsF_eq]; exact of_decide_eq_true h.2
 have hw : wrap64 ((G.kinds.length : Int) + (G.rules.length : Int)) = G.kinds.length + G.rules.length := by simp only [wrap64]; omega
 have hloop : ∀ (m i : Nat), i + m = p.f1.length → ∃ b, Fin (fun k => quoinref12_prod.l0 k (i : Int) G.kinds G.precs G.rules G.prods G.start p.f0 p.f1 p.f2 p.f3.f0 p.f3.f1 p.f3.f2 p.f3.f3) b ∧ (b = true ↔ (∀ j : Nat, i ≤ j → j < p.f1.length → 1 ≤ rd p.f1 j ∧ rd p.f1 j < G.kinds.length + G.rules.length) ∧ (partsF p.f1.length p.f3 0).1 = true) := by
  intro m; induction m with
  | zero =>
   intro i hi; refine ⟨decide (r ≥ 0), Fin.bind (h := fun _ => some (decide (r ≥ 0))) hr ⟨0, fun _ _ => rfl⟩ fun k hk => ?_, ?_⟩
   · have hk : quoinref12_parts.f k p.f3.f0 p.f3.f1 p.f3.f2 p.f3.f3 (p.f1.length : Int) 256 = some r := hk
     rw [quoinref12_prod.l0, if_neg (by omega), hk]; rfl
   · rw [decide_eq_true_eq, ge_iff_le, hact]
     exact ⟨fun h => ⟨fun j h5 h6 => by omega, h⟩, fun h => h.2⟩
  | succ m ih =>
   intro i hi; obtain ⟨b, hb, hbb⟩ := ih (i + 1) (by omega); by_cases hx : 1 ≤ rd p.f1 i ∧ rd p.f1 i < G.kinds.length + G.rules.length
   · refine ⟨b, hb.step fun k => ?_, hbb.trans ⟨fun h => ⟨fun j h5 h6 => ?_, h.2⟩, fun h => ⟨fun j h5 h6 => h.1 j (by omega) h6, h.2⟩⟩⟩
     · rw [quoinref12_prod.l0, hw, if_pos (by omega), if_pos (by omega), if_neg (by omega), if_neg (by omega), wr_succ (by omega)]
     · by_cases e : j = i
       · rw [e]; exact hx
       · exact h.1 j (by omega) h6
   · refine ⟨false, .now fun k => ?_, ⟨(fun h => by cases h), fun h => absurd (h.1 i (Nat.le_refl _) (by omega)) hx⟩⟩
     rw [quoinref12_prod.l0, hw, if_pos (by omega), if_pos (by omega)]; by_cases e : rd p.f1 i < 1
     · rw [if_pos e]
     · rw [if_neg e, if_pos (by omega)]
 obtain ⟨b, hb, hbb⟩ := hloop p.f1.length 0 (by omega); refine ⟨b, hb.step fun k => ?_, hbb.trans ⟨fun h => ⟨by omega, by omega, by omega, by omega, fun j hj => h.1 j (Nat.zero_le _) hj, h.2⟩, fun h => ⟨fun j _ hj => h.syms j hj, h.act⟩⟩⟩; rw [quoinref12_prod.f, if_neg h1, if_neg h2, if_neg h3, decide_eq_false h4, quoinref12_prod.j0, if_neg (by decide)]; rfl
theorem base_iff {G : Gr} : baseF true G = true ↔ (G.precs.length = G.kinds.length ∧ (∀ j : Nat, j < G.precs.length → precF j (rd_T73 G.precs j) = true)) ∧ (1 ≤ G.rules.length ∧ G.rules.length ≤ 2048 ∧ 0 ≤ G.start ∧ G.start < G.rules.length ∧ G.prods.length ≤ 4096) ∧ ∀ j, j < G.rules.length → nameF G.rules j = true := by
 unfold baseF; rw [namesF_iff]; unfold startF; simp only [Bool.and_eq_true, decide_eq_true_eq]; rw [precsF_iff]; simp only [Bool.true_and, beq_iff_eq]; constructor
 · rintro ⟨⟨⟨h1, h2⟩, h3, h4, h5, h6, h7⟩, h8⟩
   exact ⟨⟨by omega, h2⟩, ⟨by omega, by omega, h5, h6, by omega⟩, h8⟩
 · rintro ⟨⟨h1, h2⟩, ⟨h3, h4, h5, h6, h7⟩, h8⟩
   exact ⟨⟨⟨by omega, h2⟩, by omega, by omega, h5, h6, by omega⟩, h8⟩
theorem refcheck_fin {G : Gr} (hK : G.kinds.length ≤ 9223372036854775807) (hR : G.rules.length ≤ 9223372036854775807) (hP : G.precs.length ≤ 9223372036854775807) (hs : ∀ s, s ∈ G.kinds → s.size ≤ maxLen) (hs2 : ∀ s, s ∈ G.rules → s.size ≤ maxLen) :
 ∃ r, Fin (fun k => quoinref12_Check.f k G.kinds G.precs G.rules G.prods G.start) r ∧ (r = 0 ↔ CheckOk G) ∧ (r = 0 ∨ r = 130) := by
 obtain ⟨kb, ⟨K1, hkb⟩, hkk⟩ := kinds_fin hK hs; obtain ⟨lb, ⟨K2, hlb⟩, hll⟩ := levels_out G.precs hP G.precs.length 0 (by omega); obtain ⟨nb, ⟨K3, hnb⟩, hnn⟩ := names_fin hR hs2; have hkb : ∀ k, K1 ≤ k → quoinref07_Kinds.f k G.kinds = some kb := hkb; have hlb : ∀ k, K2 ≤ k → quoinref12_levels.f k G.precs = some lb := hlb; have hnb : ∀ k, K3 ≤ k → quoinref12_names.f k G.rules = some nb := hnb; have hbad : ¬ CheckOk G → ((130 : Int) = 0 ↔ CheckOk G) ∧ ((130 : Int) = 0 ∨ (130 : Int) = 130) := fun h => ⟨⟨fun h2 => absurd h2 (by decide), fun h2 => absurd h2 h⟩, .inr rfl⟩
 have hj : ∀ k, quoinref12_Check.j0 (k + 1) true G.kinds G.precs G.rules G.prods G.start = some 130 := fun k => by rw [quoinref12_Check.j0, if_pos rfl]
 have hj1 : ∀ k, quoinref12_Check.j1 (k + 1) true G.kinds G.precs G.rules G.prods G.start = some 130 := fun k => by rw [quoinref12_Check.j1, if_pos rfl]
 have hfuel : ∀ {K : Nat} {r : Int}, (∀ k, K ≤ k → quoinref12_Check.f (k + 2) G.kinds G.precs G.rules G.prods G.start = some r) → Fin (fun k => quoinref12_Check.f k G.kinds G.precs G.rules G.prods G.start) r := fun {K r} h => ⟨K + 2, fun k hk => by
  obtain ⟨m, rfl⟩ : ∃ m, k = m + 2 := ⟨k - 2, by omega⟩; exact h m (by omega)⟩
 cases kb with
 | false => exact ⟨130, hfuel (K := K1) fun k hk => by rw [quoinref12_Check.f, hkb _ (by omega), Option.bind_some, if_neg (by decide), hj], hbad fun h => by have := hkk.2 h.kinds; cases this⟩
 | true =>
 by_cases h1 : G.precs.length = G.kinds.length
 rotate_left
 · exact ⟨130, hfuel (K := K1) fun k hk => by rw [quoinref12_Check.f, hkb _ (by omega), Option.bind_some, if_pos rfl, if_neg (by omega), hj], hbad fun h => h1 (base_iff.1 h.base).1.1⟩
 cases lb with
 | false => exact ⟨130, hfuel (K := K1 + K2) fun k hk => by rw [quoinref12_Check.f, hkb _ (by omega), Option.bind_some, if_pos rfl, if_pos (by omega), hlb _ (by omega), Option.bind_some, if_neg (by decide), hj], hbad fun h => by have := hll.2 fun t _ ht => (base_iff.1 h.base).1.2 t ht; cases this⟩
 | true =>
 have hgo : ∀ k, K1 + K2 + K3 ≤ k → quoinref12_Check.f k G.kinds G.precs G.rules G.prods G.start = quoinref12_Check.j0 k (!nb) G.kinds G.precs G.rules G.prods G.start := fun k hk => by
  rw [quoinref12_Check.f, hkb _ (by omega), Option.bind_some, if_pos rfl, if_pos (by omega), hlb _ (by omega), Option.bind_some, if_pos rfl, hnb _ (by omega)]; rfl
 cases nb with
 | false => exact ⟨130, hfuel (K := K1 + K2 + K3) fun k hk => by rw [hgo _ (by omega)]; exact hj _, hbad fun h => by have := hnn.2 ⟨⟨(base_iff.1 h.base).2.1.1, (base_iff.1 h.base).2.1.2.1⟩, (base_iff.1 h.base).2.2⟩; cases this⟩
 | true =>
 have hj0 : ∀ k, quoinref12_Check.j0 (k + 1) (!true) G.kinds G.precs G.rules G.prods G.start = if G.start < 0 then quoinref12_Check.j1 k true G.kinds G.precs G.rules G.prods G.start else if G.start ≥ (G.rules.length : Int) then quoinref12_Check.j1 k true G.kinds G.precs G.rules G.prods G.start else quoinref12_Check.j1 k (decide ((G.prods.length : Int) > 4096)) G.kinds G.precs G.rules G.prods G.start := fun k => by
  rw [quoinref12_Check.j0, if_neg (by decide)]
 by_cases s0 : G.start < 0
 · exact ⟨130, hfuel (K := K1 + K2 + K3) fun k hk => by rw [hgo _ (by omega), hj0, if_pos s0, hj1], hbad fun h => by have := (base_iff.1 h.base).2.1; omega⟩
 by_cases s1 : G.start ≥ (G.rules.length : Int)
 · exact ⟨130, hfuel (K := K1 + K2 + K3) fun k hk => by rw [hgo _ (by omega), hj0, if_neg s0, if_pos s1, hj1], hbad fun h => by have := (base_iff.1 h.base).2.1; omega⟩
 by_cases s2 : (G.prods.length : Int) > 4096
 · exact ⟨130, hfuel (K := K1 + K2 + K3) fun k hk => by rw [hgo _ (by omega), hj0, if_neg s0, if_neg s1, decide_eq_true s2, hj1], hbad fun h => by have := (base_iff.1 h.base).2.1; omega⟩
 have hloop : ∀ (m i : Nat), i + m = G.prods.length → ∃ r, Fin (fun k => quoinref12_Check.l0 k (i : Int) G.kinds G.precs G.rules G.prods G.start) r ∧ (r = 0 ↔ ∀ j : Nat, i ≤ j → j < G.prods.length → ProdOk G.kinds.length G.rules.length (rd_T57 G.prods j)) ∧ (r = 0 ∨ r = 130) := by
  intro m; induction m with
  | zero =>
   intro i hi; exact ⟨0, .now fun k => by rw [quoinref12_Check.l0, if_neg (by omega)], ⟨fun _ j h5 h6 => by omega, fun _ => rfl⟩, .inl rfl⟩
  | succ m ih =>
   intro i hi; obtain ⟨r, hr, hrr, hr2⟩ := ih (i + 1) (by omega); obtain ⟨b, hb, hbb⟩ := refprod_fin (hkk.1 rfl).max (hnn.1 rfl).1.2 (rd_T57 G.prods i) (G := G); cases b with
   | false =>
    refine ⟨130, Fin.bind (h := fun _ => some 130) hb ⟨0, fun _ _ => rfl⟩ fun k hk => ?_, ⟨fun h => absurd h (by decide), fun h => by have := hbb.2 (h i (Nat.le_refl _) (by omega)); cases this⟩, .inr rfl⟩; rw [quoinref12_Check.l0, if_pos (by omega), if_pos (by omega)]; exact (congrArg (Option.bind · _) hk).trans (by rw [Option.bind_some, if_neg (by decide)])
   | true =>
    refine ⟨r, Fin.bind hb hr fun k hk => ?_, hrr.trans ⟨fun h j h5 h6 => ?_, fun h j h5 h6 => h j (by omega) h6⟩, hr2⟩
    · rw [quoinref12_Check.l0, if_pos (by omega), if_pos (by omega), wr_succ (by omega)]
      exact (congrArg (Option.bind · _) hk).trans (by rw [Option.bind_some, if_pos rfl])
    · by_cases e : j = i
      · rw [e]; exact hbb.1 rfl
      · exact h j (by omega) h6
 obtain ⟨r, ⟨K4, hr⟩, hrr, hr2⟩ := hloop G.prods.length 0 (by omega); refine ⟨r, hfuel (K := K1 + K2 + K3 + K4) fun k hk => ?_, hrr.trans ⟨fun h => ⟨hkk.1 rfl, base_iff.2 ⟨⟨h1, fun j hj => hll.1 rfl j (Nat.zero_le _) hj⟩, ⟨(hnn.1 rfl).1.1, (hnn.1 rfl).1.2, by omega, by omega, by omega⟩, (hnn.1 rfl).2⟩, fun j hj => h j (Nat.zero_le _) hj⟩, fun h j _ hj => h.prods j hj⟩, hr2⟩; rw [hgo _ (by omega), hj0, if_neg s0, if_neg s1, decide_eq_false s2, quoinref12_Check.j1, if_neg (by decide)]; exact hr k (by omega)
theorem refcheck_calls (w : World) (G : Gr) (A0 A1 A2 A3 : Option Addr) (c0 c1 c2 c3 : Nat) (h : GAt w G A0 A1 A2 A3 c0 c1 c2 c3) :
 Calls Try.prog 46 #[.agg #[.slice A0 G.kinds.length c0, .slice A1 G.precs.length c1, .slice A2 G.rules.length c2, .slice A3 G.prods.length c3, .int .i64 G.start]] w fun e w' => CheckPost G e ∧ Fr (fun _ => False) w w' := by
 have m0 := Kd.C_max h.kinds; have m1 := Kd.C_max h.precs; have m2 := Kd.C_max h.rules; obtain ⟨r, hr, h1, h2⟩ := refcheck_fin (G := G) (by omega) (by omega) (by omega) h.ok h.ok2; obtain ⟨k, hk⟩ := hr.get; refine (quoinref12_Check.calls k A0 c0 G.kinds A1 c1 G.precs A2 c2 G.rules A3 c3 G.prods G.start r w h.kinds h.l0 h.precs h.l1 h.rules h.l2 h.prods h.l3 hk).mono ?_; rintro e w' ⟨rfl, hB⟩; exact ⟨⟨r, rfl, h1, h2⟩, Fr.of_below hB⟩
end Go.Proofs.Ytdngobjcdajogaa.Gram
