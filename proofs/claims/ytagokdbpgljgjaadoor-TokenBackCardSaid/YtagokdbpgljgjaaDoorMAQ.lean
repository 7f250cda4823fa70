/-
UTF-8 as a text holds it: what text.Next answers (nextF), by the model and by the document; and a quoted text (qL). Plain.
-/
import Derived.Lib.MapLaws
import Derived.Lib.OthersKept
set_option linter.unusedSimpArgs false
set_option linter.unusedVariables false
namespace Go.Proofs.YtagokdbpgljgjaaDoor.Utf
open Go Go.Lib
/-- What text.Next answers of a byte within a text. -/
def nextF (s : ByteArray) (i : Nat) : Nat × Nat × Bool := if Utf8.decode s i = (65533, 1) then (0, 1, false) else ((Utf8.decode s i).1, (Utf8.decode s i).2, true)
theorem get_at {s : ByteArray} {i : Nat} (h : i < s.size) : s.get! i = s[i]'h := by
  rw [ByteArray.getElem_eq_getElem_data]
  simp [ByteArray.get!, h]
theorem get_out {s : ByteArray} {i : Nat} (h : s.size ≤ i) : s.get! i = default := by
  simp [ByteArray.get!, h]
theorem decode_sub (s : ByteArray) (i : Nat) (h : i < s.size) : Utf8.decode (s.extract i s.size) 0 = Utf8.decode s i := by
  have hz : (s.extract i s.size).size = s.size - i := by simp
  have hg : ∀ k, (s.extract i s.size).get! k = s.get! (i + k) := fun k => by
    by_cases hk : k < s.size - i
    · rw [get_at (by omega), get_at (by omega)]
      simp [ByteArray.getElem_extract]
    · rw [get_out (by omega), get_out (by omega)]
  rw [decode_at, decode_at, hz, hg, hg, hg, hg]
  simp
/-- The shapes of what is decoded. -/
theorem next_shape (s : ByteArray) (i : Nat) (h : i < s.size) :
    (∃ b0, b0 = (s.get! i).toNat ∧ b0 < 128 ∧ nextF s i = (b0, 1, true)) ∨
    (∃ b0 b1, b0 = (s.get! i).toNat ∧ b1 = (s.get! (i + 1)).toNat ∧ b0 / 32 = 6 ∧ i + 1 < s.size ∧ b1 / 64 = 2 ∧ 128 ≤ b0 % 32 * 64 + b1 % 64 ∧ nextF s i = (b0 % 32 * 64 + b1 % 64, 2, true)) ∨
    (∃ b0 b1 b2, b0 = (s.get! i).toNat ∧ b1 = (s.get! (i + 1)).toNat ∧ b2 = (s.get! (i + 2)).toNat ∧ b0 / 16 = 14 ∧ i + 2 < s.size ∧ b1 / 64 = 2 ∧ b2 / 64 = 2 ∧ 2048 ≤ b0 % 16 * 4096 + b1 % 64 * 64 + b2 % 64 ∧ (b0 % 16 * 4096 + b1 % 64 * 64 + b2 % 64 < 55296 ∨ 57344 ≤ b0 % 16 * 4096 + b1 % 64 * 64 + b2 % 64) ∧ nextF s i = (b0 % 16 * 4096 + b1 % 64 * 64 + b2 % 64, 3, true)) ∨
    (∃ b0 b1 b2 b3, b0 = (s.get! i).toNat ∧ b1 = (s.get! (i + 1)).toNat ∧ b2 = (s.get! (i + 2)).toNat ∧ b3 = (s.get! (i + 3)).toNat ∧ b0 / 8 = 30 ∧ i + 3 < s.size ∧ b1 / 64 = 2 ∧ b2 / 64 = 2 ∧ b3 / 64 = 2 ∧ 65536 ≤ b0 % 8 * 262144 + b1 % 64 * 4096 + b2 % 64 * 64 + b3 % 64 ∧ b0 % 8 * 262144 + b1 % 64 * 4096 + b2 % 64 * 64 + b3 % 64 ≤ 1114111 ∧ nextF s i = (b0 % 8 * 262144 + b1 % 64 * 4096 + b2 % 64 * 64 + b3 % 64, 4, true)) ∨
    nextF s i = (0, 1, false) := by
  unfold nextF
  rw [decode_at]
  rcases decodeN_shape (s.size - i) (s.get! i).toNat (s.get! (i + 1)).toNat (s.get! (i + 2)).toNat (s.get! (i + 3)).toNat with ⟨c, e⟩ | ⟨c1, c2, c3, cv, e⟩ | ⟨c1, c2, c3, c4, cv, cs, e⟩ | ⟨c1, c2, c3, c4, c5, cv, cw, e⟩ | e
  · exact .inl ⟨_, rfl, c, by rw [e, if_neg (by simp; omega)]⟩
  · exact .inr (.inl ⟨_, _, rfl, rfl, c1, by omega, c3, cv, by rw [e, if_neg (by simp)]⟩)
  · exact .inr (.inr (.inl ⟨_, _, _, rfl, rfl, rfl, c1, by omega, c3, c4, cv, cs, by rw [e, if_neg (by simp)]⟩))
  · exact .inr (.inr (.inr (.inl ⟨_, _, _, _, rfl, rfl, rfl, rfl, c1, by omega, c3, c4, c5, cv, cw, by rw [e, if_neg (by simp)]⟩)))
  · exact .inr (.inr (.inr (.inr (by rw [e, if_pos rfl]))))
theorem next_size (s : ByteArray) (i : Nat) (h : i < s.size) : 1 ≤ (nextF s i).2.1 ∧ (nextF s i).2.1 ≤ 4 ∧ i + (nextF s i).2.1 ≤ s.size := by
  rcases next_shape s i h with ⟨_, _, _, e⟩ | ⟨_, _, _, _, _, h1, _, _, e⟩ | ⟨_, _, _, _, _, _, _, h1, _, _, _, _, e⟩ | ⟨_, _, _, _, _, _, _, _, _, h1, _, _, _, _, _, e⟩ | e
  all_goals rw [e]; simp; omega
/-- A rune's bytes, by the document. -/
def encL (v : Nat) : List UInt8 :=
  if v ≤ 127 then [UInt8.ofNat v] else if v ≤ 2047 then [UInt8.ofNat (192 + v / 64), UInt8.ofNat (128 + v % 64)]
  else if v ≤ 65535 then [UInt8.ofNat (224 + v / 4096), UInt8.ofNat (128 + v / 64 % 64), UInt8.ofNat (128 + v % 64)]
  else [UInt8.ofNat (240 + v / 262144), UInt8.ofNat (128 + v / 4096 % 64), UInt8.ofNat (128 + v / 64 % 64), UInt8.ofNat (128 + v % 64)]
def okR (v : Nat) : Prop := v ≤ 1114111 ∧ (v < 55296 ∨ 57343 < v)
/-- What the document reckons of n bytes. -/
def rv (s : ByteArray) (i n : Nat) : Nat :=
  let b := fun k => (s.get! (i + k)).toNat
  if n = 1 then b 0 else if n = 2 then b 0 % 32 * 64 + b 1 % 64 else if n = 3 then (b 0 % 16 * 64 + b 1 % 64) * 64 + b 2 % 64 else ((b 0 % 8 * 64 + b 1 % 64) * 64 + b 2 % 64) * 64 + b 3 % 64
def acc (s : ByteArray) (i n : Nat) : Prop := okR (rv s i n) ∧ encL (rv s i n) = (List.range n).map fun k => s.get! (i + k)
theorem u8_eq {a : Nat} {b : UInt8} (h : a < 256) : UInt8.ofNat a = b ↔ a = b.toNat := by
  constructor
  · intro e
    have := congrArg UInt8.toNat e
    simpa [Nat.mod_eq_of_lt h] using this
  · intro e
    subst e
    simp
theorem r1 (f : Nat → UInt8) : (List.range 1).map f = [f 0] := rfl
theorem r2 (f : Nat → UInt8) : (List.range 2).map f = [f 0, f 1] := rfl
theorem r3 (f : Nat → UInt8) : (List.range 3).map f = [f 0, f 1, f 2] := rfl
theorem r4 (f : Nat → UInt8) : (List.range 4).map f = [f 0, f 1, f 2, f 3] := rfl
theorem acc1 (s : ByteArray) (i : Nat) : acc s i 1 ↔ (s.get! i).toNat < 128 := by
  have h0 := (s.get! i).toNat_lt
  unfold acc rv okR
  simp only [if_true, r1, Nat.add_zero]
  unfold encL
  constructor
  · rintro ⟨_, h⟩
    by_cases c : (s.get! i).toNat ≤ 127
    · omega
    · rw [if_neg c, if_pos (by omega)] at h
      simp at h
  · intro h
    exact ⟨by omega, by rw [if_pos (by omega)]; simp⟩
theorem acc2 (s : ByteArray) (i : Nat) : acc s i 2 ↔ (s.get! i).toNat / 32 = 6 ∧ (s.get! (i + 1)).toNat / 64 = 2 ∧ 128 ≤ (s.get! i).toNat % 32 * 64 + (s.get! (i + 1)).toNat % 64 := by
  have h0 := (s.get! i).toNat_lt
  have h1 := (s.get! (i + 1)).toNat_lt
  unfold acc rv okR
  simp only [if_true, r2, Nat.add_zero, show ¬ (2 = 1) by omega, if_false]
  generalize s.get! i = a at *
  generalize s.get! (i + 1) = b at *
  unfold encL
  by_cases c : a.toNat % 32 * 64 + b.toNat % 64 ≤ 127
  · rw [if_pos c]
    exact ⟨fun h => absurd (congrArg List.length h.2) (by simp), fun h => by omega⟩
  · rw [if_neg c, if_pos (by omega)]
    simp only [List.cons.injEq, and_true]
    rw [u8_eq (by omega), u8_eq (by omega)]
    omega
theorem acc3 (s : ByteArray) (i : Nat) : acc s i 3 ↔ (s.get! i).toNat / 16 = 14 ∧ (s.get! (i + 1)).toNat / 64 = 2 ∧ (s.get! (i + 2)).toNat / 64 = 2 ∧ 2048 ≤ rv s i 3 ∧ (rv s i 3 < 55296 ∨ 57344 ≤ rv s i 3) := by
  have h0 := (s.get! i).toNat_lt
  have h1 := (s.get! (i + 1)).toNat_lt
  have h2 := (s.get! (i + 2)).toNat_lt
  unfold acc rv okR
  simp only [if_true, r3, Nat.add_zero, show ¬ (3 = 1) by omega, show ¬ (3 = 2) by omega, if_false]
  generalize s.get! i = a at *
  generalize s.get! (i + 1) = b at *
  generalize s.get! (i + 2) = c at *
  unfold encL
  by_cases k : (a.toNat % 16 * 64 + b.toNat % 64) * 64 + c.toNat % 64 ≤ 127
  · rw [if_pos k]
    exact ⟨fun h => absurd (congrArg List.length h.2) (by simp), fun h => by omega⟩
  · rw [if_neg k]
    by_cases k2 : (a.toNat % 16 * 64 + b.toNat % 64) * 64 + c.toNat % 64 ≤ 2047
    · rw [if_pos k2]
      exact ⟨fun h => absurd (congrArg List.length h.2) (by simp), fun h => by omega⟩
    · rw [if_neg k2, if_pos (by omega)]
      simp only [List.cons.injEq, and_true]
      rw [u8_eq (by omega), u8_eq (by omega), u8_eq (by omega)]
      omega
theorem acc4 (s : ByteArray) (i : Nat) : acc s i 4 ↔ (s.get! i).toNat / 8 = 30 ∧ (s.get! (i + 1)).toNat / 64 = 2 ∧ (s.get! (i + 2)).toNat / 64 = 2 ∧ (s.get! (i + 3)).toNat / 64 = 2 ∧ 65536 ≤ rv s i 4 ∧ rv s i 4 ≤ 1114111 := by
  have h0 := (s.get! i).toNat_lt
  have h1 := (s.get! (i + 1)).toNat_lt
  have h2 := (s.get! (i + 2)).toNat_lt
  have h3 := (s.get! (i + 3)).toNat_lt
  unfold acc rv okR
  simp only [r4, Nat.add_zero, show ¬ (4 = 1) by omega, show ¬ (4 = 2) by omega, show ¬ (4 = 3) by omega, if_false]
  generalize s.get! i = a at *
  generalize s.get! (i + 1) = b at *
  generalize s.get! (i + 2) = c at *
  generalize s.get! (i + 3) = d at *
  unfold encL
  by_cases k : ((a.toNat % 8 * 64 + b.toNat % 64) * 64 + c.toNat % 64) * 64 + d.toNat % 64 ≤ 127
  · rw [if_pos k]
    exact ⟨fun h => absurd (congrArg List.length h.2) (by simp), fun h => by omega⟩
  · rw [if_neg k]
    by_cases k2 : ((a.toNat % 8 * 64 + b.toNat % 64) * 64 + c.toNat % 64) * 64 + d.toNat % 64 ≤ 2047
    · rw [if_pos k2]
      exact ⟨fun h => absurd (congrArg List.length h.2) (by simp), fun h => by omega⟩
    · rw [if_neg k2]
      by_cases k3 : ((a.toNat % 8 * 64 + b.toNat % 64) * 64 + c.toNat % 64) * 64 + d.toNat % 64 ≤ 65535
      · rw [if_pos k3]
        exact ⟨fun h => absurd (congrArg List.length h.2) (by simp), fun h => by omega⟩
      · rw [if_neg k3]
        simp only [List.cons.injEq, and_true]
        rw [u8_eq (by omega), u8_eq (by omega), u8_eq (by omega), u8_eq (by omega)]
        omega
/-- The document's way comes to the same. -/
theorem next_acc (s : ByteArray) (i n : Nat) (h : i < s.size) (h1 : 1 ≤ n) (h4 : n ≤ 4) (hn : i + n ≤ s.size) (ha : acc s i n) (hl : ∀ m, 1 ≤ m → m < n → ¬ acc s i m) : nextF s i = (rv s i n, n, true) := by
  have a1 := acc1 s i
  have a2 := acc2 s i
  have a3 := acc3 s i
  have a4 := acc4 s i
  have e3 : rv s i 3 = (s.get! i).toNat % 16 * 4096 + (s.get! (i + 1)).toNat % 64 * 64 + (s.get! (i + 2)).toNat % 64 := by unfold rv; simp; omega
  have e4 : rv s i 4 = (s.get! i).toNat % 8 * 262144 + (s.get! (i + 1)).toNat % 64 * 4096 + (s.get! (i + 2)).toNat % 64 * 64 + (s.get! (i + 3)).toNat % 64 := by unfold rv; simp; omega
  have e2 : rv s i 2 = (s.get! i).toNat % 32 * 64 + (s.get! (i + 1)).toNat % 64 := by unfold rv; simp
  have e1 : rv s i 1 = (s.get! i).toNat := by unfold rv; simp
  have hb := (s.get! i).toNat_lt
  rcases next_shape s i h with ⟨_, rfl, c, e⟩ | ⟨_, _, rfl, rfl, c1, c2, c3, c4, e⟩ | ⟨_, _, _, rfl, rfl, rfl, c1, c2, c3, c4, c5, c6, e⟩ | ⟨_, _, _, _, rfl, rfl, rfl, rfl, c1, c2, c3, c4, c5, c6, c7, e⟩ | e
  · have k1 := a1.2 c
    obtain rfl : n = 1 := by
      have := hl 1
      by_cases c9 : 1 < n
      · exact absurd k1 (this (by omega) c9)
      · omega
    rw [e, e1]
  · have k2 := a2.2 ⟨c1, c3, c4⟩
    obtain rfl : n = 2 := by
      have := hl 2
      by_cases c9 : 2 < n
      · exact absurd k2 (this (by omega) c9)
      · by_cases c8 : n = 1
        · subst c8
          have := a1.1 ha
          omega
        · omega
    rw [e, e2]
  · have k3 := a3.2 ⟨c1, c3, c4, by rw [e3]; omega, by rw [e3]; omega⟩
    obtain rfl : n = 3 := by
      have := hl 3
      by_cases c9 : 3 < n
      · exact absurd k3 (this (by omega) c9)
      · by_cases c8 : n = 1
        · subst c8
          have := a1.1 ha
          omega
        · by_cases c7 : n = 2
          · subst c7
            have := a2.1 ha
            omega
          · omega
    rw [e, e3]
  · obtain rfl : n = 4 := by
      by_cases c8 : n = 1
      · subst c8
        have := a1.1 ha
        omega
      · by_cases c7 : n = 2
        · subst c7
          have := a2.1 ha
          omega
        · by_cases c6 : n = 3
          · subst c6
            have := a3.1 ha
            omega
          · omega
    rw [e, e4]
  · exfalso
    unfold nextF at e
    rw [decode_at] at e
    have hx : decodeN (s.size - i) (s.get! i).toNat (s.get! (i + 1)).toNat (s.get! (i + 2)).toNat (s.get! (i + 3)).toNat = (65533, 1) := by
      by_cases c : decodeN (s.size - i) (s.get! i).toNat (s.get! (i + 1)).toNat (s.get! (i + 2)).toNat (s.get! (i + 3)).toNat = (65533, 1)
      · exact c
      · rw [if_neg c] at e
        simp at e
    clear e
    rcases (by omega : n = 1 ∨ n = 2 ∨ n = 3 ∨ n = 4) with rfl | rfl | rfl | rfl
    · have := a1.1 ha
      unfold decodeN at hx
      rw [if_pos this] at hx
      simp at hx
      omega
    · have := a2.1 ha
      unfold decodeN at hx
      rw [if_neg (by omega), if_pos (by omega)] at hx
      split at hx <;> simp at hx <;> omega
    · have := a3.1 ha
      rw [e3] at this
      unfold decodeN at hx
      rw [if_neg (by omega), if_neg (by omega), if_pos (by omega)] at hx
      split at hx <;> simp at hx <;> omega
    · have := a4.1 ha
      rw [e4] at this
      unfold decodeN at hx
      rw [if_neg (by omega), if_neg (by omega), if_neg (by omega), if_pos (by omega)] at hx
      split at hx <;> simp at hx <;> omega
/-- None of them: no rune stands there. -/
theorem next_none (s : ByteArray) (i : Nat) (h : i < s.size) (hl : ∀ m, 1 ≤ m → m ≤ 4 → i + m ≤ s.size → ¬ acc s i m) : nextF s i = (0, 1, false) := by
  have a1 := acc1 s i
  have a2 := acc2 s i
  have a3 := acc3 s i
  have a4 := acc4 s i
  have e3 : rv s i 3 = (s.get! i).toNat % 16 * 4096 + (s.get! (i + 1)).toNat % 64 * 64 + (s.get! (i + 2)).toNat % 64 := by unfold rv; simp; omega
  have e4 : rv s i 4 = (s.get! i).toNat % 8 * 262144 + (s.get! (i + 1)).toNat % 64 * 4096 + (s.get! (i + 2)).toNat % 64 * 64 + (s.get! (i + 3)).toNat % 64 := by unfold rv; simp; omega
  rcases next_shape s i h with ⟨_, rfl, c, e⟩ | ⟨_, _, rfl, rfl, c1, c2, c3, c4, e⟩ | ⟨_, _, _, rfl, rfl, rfl, c1, c2, c3, c4, c5, c6, e⟩ | ⟨_, _, _, _, rfl, rfl, rfl, rfl, c1, c2, c3, c4, c5, c6, c7, e⟩ | e
  · exact absurd (a1.2 c) (hl 1 (by omega) (by omega) (by omega))
  · exact absurd (a2.2 ⟨c1, c3, c4⟩) (hl 2 (by omega) (by omega) (by omega))
  · exact absurd (a3.2 ⟨c1, c3, c4, by rw [e3]; omega, by rw [e3]; omega⟩) (hl 3 (by omega) (by omega) (by omega))
  · exact absurd (a4.2 ⟨c1, c3, c4, c5, by rw [e4]; omega, by rw [e4]; omega⟩) (hl 4 (by omega) (by omega) (by omega))
  · exact e
/-- A hexadecimal digit. -/
def hexD (n : Nat) : UInt8 := if n < 10 then UInt8.ofNat (48 + n) else UInt8.ofNat (87 + n)
/-- What is written of one rune. -/
def pieceI (r : Nat) (ok : Bool) (b : Nat) (raw : List UInt8) : List UInt8 :=
  if r = 10 then [92, 110] else if r = 9 then [92, 116] else if r = 13 then [92, 114] else if r = 34 ∨ r = 92 then [92, UInt8.ofNat r]
  else if ok = false ∨ r < 32 ∨ r = 127 then [92, 120, hexD (b / 16), hexD (b % 16)] else raw
/-- A quoted text, from a byte on, without its marks. -/
def qL (raw : Nat → Nat → List UInt8) (s : ByteArray) (i : Nat) : List UInt8 :=
  if _h : i < s.size then pieceI (nextF s i).1 (nextF s i).2.2 (s.get! i).toNat (raw i (i + (nextF s i).2.1)) ++ qL raw s (i + (nextF s i).2.1) else []
termination_by s.size - i
decreasing_by have := next_size s i _h; omega
theorem qL_in {raw : Nat → Nat → List UInt8} {s : ByteArray} {i : Nat} (h : i < s.size) : qL raw s i = pieceI (nextF s i).1 (nextF s i).2.2 (s.get! i).toNat (raw i (i + (nextF s i).2.1)) ++ qL raw s (i + (nextF s i).2.1) := by
  rw [qL, dif_pos h]
theorem qL_out {raw : Nat → Nat → List UInt8} {s : ByteArray} {i : Nat} (h : ¬ i < s.size) : qL raw s i = [] := by
  rw [qL, dif_neg h]
theorem piece_len (r : Nat) (ok : Bool) (b : Nat) (raw : List UInt8) (n : Nat) (h : raw.length ≤ n) (h1 : 1 ≤ n) : (pieceI r ok b raw).length ≤ 4 * n := by
  unfold pieceI
  repeat' split
  all_goals first | omega | (simp only [List.length_cons, List.length_nil]; omega)
theorem qL_len {raw : Nat → Nat → List UInt8} {s : ByteArray} (hr : ∀ i j, (raw i j).length ≤ j - i) : ∀ (n i : Nat), s.size - i ≤ n → (qL raw s i).length ≤ 4 * (s.size - i)
  | 0, i, h => by rw [qL_out (by omega)]; simp
  | n + 1, i, h => by
    by_cases c : i < s.size
    · rw [qL_in c, List.length_append]
      obtain ⟨h1, h2, h3⟩ := next_size s i c
      have h4 := piece_len (nextF s i).1 (nextF s i).2.2 (s.get! i).toNat (raw i (i + (nextF s i).2.1)) (nextF s i).2.1 (by have := hr i (i + (nextF s i).2.1); omega) h1
      have h5 := qL_len (s := s) hr n (i + (nextF s i).2.1) (by omega)
      omega
    · rw [qL_out c]; simp
end Go.Proofs.YtagokdbpgljgjaaDoor.Utf
