/-
Rising rows of whole numbers: what a set's calls make of them. Plain lists.
-/
import Derived.Test.YtpjhflimaiaokaaDoorWMore
namespace Go.Proofs.YtpjhflimaiaokaaDoor.Sets
open Go.Proofs.YtpjhflimaiaokaaDoorW.PrintWords

/-- May n be a number of a set, a list? -/
def isNum (n : Int) : Bool := decide (0 ≤ n ∧ n < 1048576)
def Rising (l : List Int) : Prop := ∀ i j : Int, 0 ≤ i → i < j → j < l.length → rd l i < rd l j
theorem rd_nat (l : List Int) (j : Nat) (h : j < l.length) : rd l j = l[j] := by simp [rd, h]
theorem rising_iff {l : List Int} : Rising l ↔ l.Pairwise (· < ·) := by
  rw [List.pairwise_iff_getElem]
  constructor
  · intro h i j hi hj hij
    have := h i j (by omega) (by omega) (by omega)
    rwa [rd_nat l i hi, rd_nat l j hj] at this
  · intro h i j h0 hij hj
    have := h i.toNat j.toNat (by omega) (by omega) (by omega)
    have e1 : ((i.toNat : Nat) : Int) = i := Int.toNat_of_nonneg h0
    have e2 : ((j.toNat : Nat) : Int) = j := Int.toNat_of_nonneg (by omega)
    rw [← rd_nat l i.toNat (by omega), ← rd_nat l j.toNat (by omega), e1, e2] at this
    exact this
theorem mem_iff_rd {l : List Int} {n : Int} : n ∈ l ↔ ∃ j : Nat, j < l.length ∧ rd l j = n := by
  rw [List.mem_iff_getElem]
  constructor
  · rintro ⟨j, hj, e⟩; exact ⟨j, hj, by rw [rd_nat l j hj]; exact e⟩
  · rintro ⟨j, hj, e⟩; exact ⟨j, hj, by rw [← rd_nat l j hj]; exact e⟩
/-- k is where n stands, or would stand. -/
def Stands (l : List Int) (n : Int) (k : Int) : Prop := 0 ≤ k ∧ k ≤ l.length ∧ (∀ j, 0 ≤ j → j < k → rd l j < n) ∧ (∀ j, k ≤ j → j < l.length → n ≤ rd l j)
theorem Stands.mem {l : List Int} {n k : Int} (h : Stands l n k) (hs : Rising l) : n ∈ l ↔ k < l.length ∧ rd l k = n := by
  obtain ⟨h0, h1, h2, h3⟩ := h
  rw [mem_iff_rd]
  constructor
  · rintro ⟨j, hj, e⟩
    have hkj : k ≤ j := by
      apply Int.not_lt.1
      intro hlt
      have := h2 j (by omega) hlt
      omega
    by_cases e2 : k = j
    · exact ⟨by omega, by rw [e2]; exact e⟩
    · have := hs k j h0 (by omega) (by omega)
      have := h3 k (by omega) (by omega)
      omega
  · rintro ⟨hk, e⟩
    exact ⟨k.toNat, by omega, by rw [Int.toNat_of_nonneg h0]; exact e⟩
/-- Two rising rows of the same numbers are one. -/
theorem sorted_ext {a b : List Int} (ha : a.Pairwise (· < ·)) (hb : b.Pairwise (· < ·)) (h : ∀ x, x ∈ a ↔ x ∈ b) : a = b := by
  induction a generalizing b with
  | nil =>
    cases b with
    | nil => rfl
    | cons y b => exact absurd ((h y).2 (List.mem_cons_self ..)) (by simp)
  | cons x a ih =>
    cases b with
    | nil => exact absurd ((h x).1 (List.mem_cons_self ..)) (by simp)
    | cons y b =>
      obtain ⟨hx, ha'⟩ := List.pairwise_cons.1 ha
      obtain ⟨hy, hb'⟩ := List.pairwise_cons.1 hb
      have hxy : x = y := by
        have h1 := (h x).1 (List.mem_cons_self ..)
        have h2 := (h y).2 (List.mem_cons_self ..)
        rcases List.mem_cons.1 h1 with e | h1
        · exact e
        · rcases List.mem_cons.1 h2 with e | h2
          · exact e.symm
          · have := hy x h1; have := hx y h2; omega
      subst hxy
      rw [ih ha' hb' (fun z => ?_)]
      have hz := h z
      simp only [List.mem_cons] at hz
      constructor
      · intro hm
        rcases hz.1 (.inr hm) with e | h2
        · have := hx z hm; omega
        · exact h2
      · intro hm
        rcases hz.2 (.inr hm) with e | h2
        · have := hy z hm; omega
        · exact h2
/-- A rising row of numbers of a set is no longer than there are numbers. -/
theorem len_le {l : List Int} (h : Rising l) (hn : ∀ x, x ∈ l → isNum x = true) : l.length ≤ 1048576 := by
  have hk : ∀ k : Nat, k < l.length → (k : Int) ≤ rd l k := by
    intro k
    induction k with
    | zero =>
      intro hl
      have h1 := hn (rd l (0 : Nat)) (mem_iff_rd.2 ⟨0, hl, rfl⟩)
      simp only [isNum, decide_eq_true_eq] at h1
      exact h1.1
    | succ k ih =>
      intro hl
      have h1 := ih (by omega)
      have h2 := h k ((k + 1 : Nat) : Int) (by omega) (by omega) (by omega)
      omega
  rcases Nat.eq_zero_or_pos l.length with h0 | h0
  · omega
  · have h1 := hk (l.length - 1) (by omega)
    have h2 := hn (rd l ((l.length - 1 : Nat) : Int)) (mem_iff_rd.2 ⟨_, by omega, rfl⟩)
    simp only [isNum, decide_eq_true_eq] at h2
    omega

/-- A number is laid in at its place. -/
def insAt (l : List Int) (k : Nat) (n : Int) : List Int := l.take k ++ n :: l.drop k
theorem insAt_eq (l : List Int) (k : Nat) (n : Int) (hk : k ≤ l.length) : ((l ++ [0]).take (k + 1) ++ ((l ++ [0]).drop k).take (l.length + 1 - (k + 1))).set k n = insAt l k n := by
  have h1 : ((l ++ [0]).drop k).take (l.length + 1 - (k + 1)) = l.drop k := by
    rw [List.drop_append_of_le_length hk, List.take_append_of_le_length (by rw [List.length_drop]; omega), List.take_of_length_le (by rw [List.length_drop]; omega)]
  rw [h1]
  obtain ⟨y, hy⟩ : ∃ y, (l ++ [0]).take (k + 1) = l.take k ++ [y] := by
    refine ⟨(l ++ [0])[k]'(by simp; omega), ?_⟩
    rw [List.take_succ_eq_append_getElem (by simp; omega), List.take_append_of_le_length hk]
  rw [hy, List.append_assoc, List.set_append_right _ _ (by rw [List.length_take]; omega)]
  rw [show k - (l.take k).length = 0 by rw [List.length_take]; omega]
  rfl
theorem insAt_mem {l : List Int} {k : Nat} {n x : Int} : x ∈ insAt l k n ↔ x = n ∨ x ∈ l := by
  unfold insAt
  rw [List.mem_append, List.mem_cons]
  have : x ∈ l ↔ x ∈ l.take k ∨ x ∈ l.drop k := by rw [← List.mem_append, List.take_append_drop]
  rw [this]
  constructor
  · rintro (h | h | h) <;> simp [h]
  · rintro (h | h | h) <;> simp [h]
theorem insAt_len (l : List Int) (k : Nat) (n : Int) (hk : k ≤ l.length) : (insAt l k n).length = l.length + 1 := by simp [insAt]; omega
theorem insAt_rising {l : List Int} {k : Nat} {n : Int} (h : Rising l) (hp : Stands l n k) (hn : ¬ n ∈ l) : Rising (insAt l k n) := by
  obtain ⟨_, h1, h2, h3⟩ := hp
  rw [rising_iff] at h ⊢
  unfold insAt
  rw [List.pairwise_append]
  refine ⟨h.take, List.pairwise_cons.2 ⟨fun b hb => ?_, h.drop⟩, fun a ha b hb => ?_⟩
  · obtain ⟨i, hi, e⟩ := List.mem_iff_getElem.1 hb
    rw [List.length_drop] at hi
    rw [List.getElem_drop] at e
    have h4 := h3 ((k + i : Nat) : Int) (by omega) (by omega)
    rw [rd_nat l (k + i) (by omega), e] at h4
    rcases Int.lt_or_eq_of_le h4 with h5 | h5
    · exact h5
    · exact absurd (h5 ▸ List.mem_of_mem_drop hb) hn
  · obtain ⟨i, hi, e⟩ := List.mem_iff_getElem.1 ha
    rw [List.length_take] at hi
    rw [List.getElem_take] at e
    have h4 := h2 (i : Int) (by omega) (by omega)
    rw [rd_nat l i (by omega), e] at h4
    rcases List.mem_cons.1 hb with rfl | hb
    · exact h4
    · obtain ⟨q, hq, e2⟩ := List.mem_iff_getElem.1 hb
      rw [List.length_drop] at hq
      rw [List.getElem_drop] at e2
      have h5 := h3 ((k + q : Nat) : Int) (by omega) (by omega)
      rw [rd_nat l (k + q) (by omega), e2] at h5
      omega

/-- Of the row ys the first i numbers have been put into the set l, which is l1 now. -/
structure AddInv (l ys l1 : List Int) (i : Nat) : Prop where
  rise : Rising l1
  num : ∀ x, x ∈ l1 → isNum x = true
  mem : ∀ x, x ∈ l1 ↔ x ∈ l ∨ x ∈ ys.take i
theorem AddInv.len {l ys l1 : List Int} {i : Nat} (h : AddInv l ys l1 i) : l1.length ≤ 1048576 := len_le h.rise h.num
theorem AddInv.start {l : List Int} (ys : List Int) (h : Rising l) (hn : ∀ x, x ∈ l → isNum x = true) : AddInv l ys l 0 := ⟨h, hn, fun x => by simp⟩
theorem mem_take_succ {ys : List Int} {i : Nat} {x : Int} (hi : i < ys.length) : x ∈ ys.take (i + 1) ↔ x ∈ ys.take i ∨ x = rd ys i := by
  rw [List.take_succ_eq_append_getElem hi, List.mem_append, List.mem_singleton, rd_nat ys i hi]
theorem AddInv.skip {l ys l1 : List Int} {i : Nat} (h : AddInv l ys l1 i) (hi : i < ys.length) (hm : rd ys i ∈ l1) : AddInv l ys l1 (i + 1) :=
  ⟨h.rise, h.num, fun x => by
    rw [h.mem, mem_take_succ hi]
    constructor
    · rintro (h1 | h1) <;> simp [h1]
    · rintro (h1 | h1 | h1)
      · exact .inl h1
      · exact .inr h1
      · subst h1; exact (h.mem _).1 hm⟩
theorem AddInv.ins {l ys l1 : List Int} {i k : Nat} (h : AddInv l ys l1 i) (hi : i < ys.length) (hm : ¬ rd ys i ∈ l1) (hn : isNum (rd ys i) = true) (hp : Stands l1 (rd ys i) k) : AddInv l ys (insAt l1 k (rd ys i)) (i + 1) :=
  ⟨insAt_rising h.rise hp hm, fun x hx => by
    rcases insAt_mem.1 hx with e | hx
    · rw [e]; exact hn
    · exact h.num x hx, fun x => by
    rw [insAt_mem, h.mem, mem_take_succ hi]
    constructor
    · rintro (h1 | h1 | h1) <;> simp [h1]
    · rintro (h1 | h1 | h1) <;> simp [h1]⟩
/-- Of the row ys the first i numbers have been taken out of the set l, which is l1 now. -/
structure DropInv (l ys l1 : List Int) (i : Nat) : Prop where
  rise : Rising l1
  mem : ∀ x, x ∈ l1 ↔ x ∈ l ∧ ¬ x ∈ ys.take i
theorem DropInv.start {l : List Int} (ys : List Int) (h : Rising l) : DropInv l ys l 0 := ⟨h, fun x => by simp⟩
theorem DropInv.skip {l ys l1 : List Int} {i : Nat} (h : DropInv l ys l1 i) (hi : i < ys.length) (hm : ¬ rd ys i ∈ l1) : DropInv l ys l1 (i + 1) :=
  ⟨h.rise, fun x => by
    rw [h.mem, mem_take_succ hi]
    constructor
    · rintro ⟨h1, h2⟩
      refine ⟨h1, fun h3 => ?_⟩
      rcases h3 with h3 | h3
      · exact h2 h3
      · subst h3; exact hm ((h.mem _).2 ⟨h1, h2⟩)
    · rintro ⟨h1, h2⟩
      exact ⟨h1, fun h3 => h2 (.inl h3)⟩⟩
theorem mem_eraseIdx_of {l : List Int} {k : Nat} (h : l.Pairwise (· < ·)) (hk : k < l.length) (x : Int) : x ∈ l.eraseIdx k ↔ x ∈ l ∧ x ≠ l[k] := by
  rw [List.mem_eraseIdx_iff_getElem]
  constructor
  · rintro ⟨i, hi, hne, rfl⟩
    refine ⟨List.getElem_mem _, fun e => ?_⟩
    rw [List.pairwise_iff_getElem] at h
    rcases Nat.lt_or_gt_of_ne hne with h1 | h1
    · have := h i k hi hk h1; omega
    · have := h k i hk hi h1; omega
  · rintro ⟨hx, hne⟩
    obtain ⟨i, hi, rfl⟩ := List.mem_iff_getElem.1 hx
    exact ⟨i, hi, fun e => by subst e; exact hne rfl, rfl⟩
theorem DropInv.out {l ys l1 : List Int} {i k : Nat} (h : DropInv l ys l1 i) (hi : i < ys.length) (hk : k < l1.length) (hp : rd l1 k = rd ys i) : DropInv l ys (l1.eraseIdx k) (i + 1) := by
  have hr := rising_iff.1 h.rise
  refine ⟨rising_iff.2 (hr.sublist (List.eraseIdx_sublist ..)), fun x => ?_⟩
  rw [mem_eraseIdx_of hr hk, h.mem, mem_take_succ hi, ← rd_nat l1 k hk, hp]
  constructor
  · rintro ⟨⟨h1, h2⟩, h3⟩
    exact ⟨h1, fun h4 => h4.elim h2 h3⟩
  · rintro ⟨h1, h2⟩
    exact ⟨⟨h1, fun h3 => h2 (.inl h3)⟩, fun h3 => h2 (.inr h3)⟩
end Go.Proofs.YtpjhflimaiaokaaDoor.Sets
