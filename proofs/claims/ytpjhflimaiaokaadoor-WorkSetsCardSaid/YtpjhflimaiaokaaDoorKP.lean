/-
A set's key as a text: the numbers' numerals, a blank behind each: just one row of numbers has it.
-/
import Derived.Lib.ItoaNum
import Derived.Lib.ItoaMem
namespace Go.Proofs.YtpjhflimaiaokaaDoor.Keys
open Go.Lib

/-- What decimal digits tell. -/
def value (l : List UInt8) : Nat := l.foldl (fun a d => 10 * a + (d.toNat - 48)) 0
theorem value_snoc (l : List UInt8) (d : UInt8) : value (l ++ [d]) = 10 * value l + (d.toNat - 48) := by simp [value, List.foldl_append]
theorem digit_nat {k : Nat} (h : k < 10) : (UInt8.ofNat (48 + k)).toNat = 48 + k := by
  have : k = 0 ∨ k = 1 ∨ k = 2 ∨ k = 3 ∨ k = 4 ∨ k = 5 ∨ k = 6 ∨ k = 7 ∨ k = 8 ∨ k = 9 := by omega
  rcases this with rfl | rfl | rfl | rfl | rfl | rfl | rfl | rfl | rfl | rfl <;> rfl
theorem value_digits (u : Nat) : value (decDigits u) = u := by
  induction u using Nat.strongRecOn with
  | _ u ih =>
    rw [decDigits]
    split
    · rename_i h
      have := digit_nat h
      simp only [value, List.foldl_cons, List.foldl_nil]
      omega
    · rename_i h
      have := digit_nat (show u % 10 < 10 by omega)
      rw [value_snoc, ih (u / 10) (by omega)]
      omega
theorem digits_no (u : Nat) : ∀ b, b ∈ decDigits u → b ≠ 32 := by
  induction u using Nat.strongRecOn with
  | _ u ih =>
    intro b hb
    rw [decDigits] at hb
    split at hb
    · rename_i h
      have := digit_nat h
      simp only [List.mem_singleton] at hb
      subst hb
      intro e
      rw [e] at this
      have e2 : (32 : UInt8).toNat = 32 := rfl
      omega
    · rename_i h
      have := digit_nat (show u % 10 < 10 by omega)
      rcases List.mem_append.1 hb with hb | hb
      · exact ih (u / 10) (by omega) b hb
      · simp only [List.mem_singleton] at hb
        subst hb
        intro e
        rw [e] at this
        have e2 : (32 : UInt8).toNat = 32 := rfl
        omega
theorem parts_one : ∀ {xs ys r s : List UInt8}, (∀ b, b ∈ xs → b ≠ 32) → (∀ b, b ∈ ys → b ≠ 32) → xs ++ 32 :: r = ys ++ 32 :: s → xs = ys ∧ r = s
  | [], [], r, s, _, _, h => by simpa using h
  | [], y :: ys, r, s, _, hy, h => by
    simp only [List.nil_append, List.cons_append, List.cons.injEq] at h
    exact absurd h.1.symm (hy y (List.mem_cons_self ..))
  | x :: xs, [], r, s, hx, _, h => by
    simp only [List.nil_append, List.cons_append, List.cons.injEq] at h
    exact absurd h.1 (hx x (List.mem_cons_self ..))
  | x :: xs, y :: ys, r, s, hx, hy, h => by
    simp only [List.cons_append, List.cons.injEq] at h
    obtain ⟨h1, h2⟩ := parts_one (fun b hb => hx b (List.mem_cons_of_mem _ hb)) (fun b hb => hy b (List.mem_cons_of_mem _ hb)) h.2
    exact ⟨by rw [h.1, h1], h2⟩
/-- The key's text. -/
def keyB (l : List Int) : List UInt8 := l.flatMap fun n => itoa n ++ [32]
theorem keyB_snoc (l : List Int) (n : Int) : keyB (l ++ [n]) = keyB l ++ itoa n ++ [32] := by simp [keyB]
theorem keyB_inj : ∀ {a b : List Int}, (∀ x, x ∈ a → 0 ≤ x) → (∀ x, x ∈ b → 0 ≤ x) → keyB a = keyB b → a = b
  | [], [], _, _, _ => rfl
  | [], y :: b, _, _, h => by simp [keyB] at h
  | x :: a, [], _, _, h => by simp [keyB] at h
  | x :: a, y :: b, hx, hy, h => by
    have e1 := hx x (List.mem_cons_self ..)
    have e2 := hy y (List.mem_cons_self ..)
    obtain ⟨u, rfl⟩ := Int.eq_ofNat_of_zero_le e1
    obtain ⟨v, rfl⟩ := Int.eq_ofNat_of_zero_le e2
    simp only [keyB, List.flatMap_cons, itoa_nonneg, List.append_assoc, List.singleton_append] at h
    obtain ⟨h1, h2⟩ := parts_one (digits_no u) (digits_no v) h
    have h3 : u = v := by rw [← value_digits u, h1, value_digits v]
    rw [h3, keyB_inj (fun z hz => hx z (List.mem_cons_of_mem _ hz)) (fun z hz => hy z (List.mem_cons_of_mem _ hz)) h2]
end Go.Proofs.YtpjhflimaiaokaaDoor.Keys
