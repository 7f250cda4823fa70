/-
Numbers and tables as bytes: how they are written and read, in plain Lean.
-/
import Derived.Test.YtlpmjmanmncmnaaR1XG
set_option linter.unusedSimpArgs false
set_option linter.unusedVariables false
namespace Go.Proofs.Ytlpmjmanmncmnaa.Tab
open Go.RowKit Go.Maps Go.Proofs.YtlpmjmanmncmnaaW.PrintWords Go.Proofs.YtlpmjmanmncmnaaW.PrintLast Go.Proofs.YtlpmjmanmncmnaaW.PrintMore Go.Proofs.Ytlpmjmanmncmnaa.Fr Go.Proofs.Ytlpmjmanmncmnaa.PT
/-- A number's bytes. -/
def encN (n : Nat) : List Int := if 128 ≤ n then ((n % 128 + 128 : Nat) : Int) :: encN (n / 128) else [(n : Int)]
termination_by n
decreasing_by omega
theorem encN_lo {n : Nat} (h : n < 128) : encN n = [(n : Int)] := by rw [encN, if_neg (by omega)]
theorem encN_hi {n : Nat} (h : 128 ≤ n) : encN n = ((n % 128 + 128 : Nat) : Int) :: encN (n / 128) := by
  rw [encN, if_pos h]
theorem encN_len : ∀ (k n : Nat), n < 128 ^ (k + 1) → (encN n).length ≤ k + 1
  | 0, n, h => by rw [encN_lo (by simpa using h)]; simp
  | k + 1, n, h => by
    by_cases c : n < 128
    · rw [encN_lo c]; simp
    · rw [encN_hi (by omega), List.length_cons]
      have := encN_len k (n / 128) (by rw [Nat.pow_succ] at h; omega)
      omega
theorem encN_pos (n : Nat) : 0 < (encN n).length := by
  by_cases c : n < 128
  · rw [encN_lo c]; simp
  · rw [encN_hi (by omega)]; simp
theorem encN_bytes : ∀ (n : Nat) (x : Int), x ∈ encN n → 0 ≤ x ∧ x < 256 := by
  intro n
  induction n using Nat.strongRecOn with
  | ind n ih =>
    intro x hx
    by_cases c : n < 128
    · rw [encN_lo c] at hx
      obtain rfl : x = n := by simpa using hx
      omega
    · rw [encN_hi (by omega)] at hx
      rcases List.mem_cons.1 hx with rfl | hx
      · omega
      · exact ih _ (by omega) x hx
/-- The greatest number that is written. -/
def mostN : Int := 2147483647
/-- How a number is read: k bytes are left to it, i are behind, their sum is s. -/
def goN : Nat → Nat → Int → List Int → Option (Int × List Int)
  | 0, _, _, _ => none
  | _ + 1, _, _, [] => none
  | k + 1, i, s, c :: r => if c < 128 then (if (c = 0 ∧ 0 < i) ∨ mostN < s + c * 128 ^ i then none else some (s + c * 128 ^ i, r)) else goN k (i + 1) (s + (c - 128) * 128 ^ i) r
def numOf (l : List Int) : Option (Int × List Int) := goN 5 0 0 l
theorem pow_succ128 (i : Nat) : (128 : Int) ^ (i + 1) = 128 * 128 ^ i := by rw [Int.pow_succ, Int.mul_comm]
theorem goN_enc : ∀ (k i m : Nat) (s : Int) (r : List Int), (encN m).length ≤ k → s + m * 128 ^ i ≤ mostN → (i = 0 ∨ m ≠ 0) → goN k i s (encN m ++ r) = some (s + m * 128 ^ i, r)
  | 0, i, m, s, r, hk, hm, h0 => by have := encN_pos m; omega
  | k + 1, i, m, s, r, hk, hm, h0 => by
    by_cases c : m < 128
    · rw [encN_lo c, List.singleton_append, goN, if_pos (by omega), if_neg (by omega)]
    · rw [encN_hi (by omega)] at hk ⊢
      have e : ((m % 128 + 128 : Nat) : Int) - 128 = ((m % 128 : Nat) : Int) := by omega
      have e2 : s + ((m % 128 : Nat) : Int) * 128 ^ i + ((m / 128 : Nat) : Int) * 128 ^ (i + 1) = s + m * 128 ^ i := by
        rw [pow_succ128, ← Int.mul_assoc, Int.add_assoc, ← Int.add_mul, show ((m % 128 : Nat) : Int) + ((m / 128 : Nat) : Int) * 128 = (m : Int) by omega]
      rw [List.cons_append, goN, if_neg (by omega), e, goN_enc k (i + 1) (m / 128) _ r (by simpa using hk) (by rw [e2]; exact hm) (.inr (by omega)), e2]
theorem goN_some : ∀ (k i : Nat) (s : Int) (l : List Int) (v : Int) (r : List Int), (∀ x, x ∈ l → 0 ≤ x ∧ x < 256) → goN k i s l = some (v, r) → ∃ m : Nat, l = encN m ++ r ∧ v = s + m * 128 ^ i ∧ v ≤ mostN ∧ (i = 0 ∨ m ≠ 0)
  | 0, i, s, l, v, r, hb, h => by cases h
  | k + 1, i, s, [], v, r, hb, h => by cases h
  | k + 1, i, s, c :: l, v, r, hb, h => by
    have hc := hb c (List.mem_cons_self ..)
    rw [goN] at h
    by_cases c1 : c < 128
    · rw [if_pos c1] at h
      by_cases c2 : (c = 0 ∧ 0 < i) ∨ mostN < s + c * 128 ^ i
      · rw [if_pos c2] at h; cases h
      · rw [if_neg c2] at h
        injection h with h
        injection h with h1 h2
        subst h1 h2
        have e : ((c.toNat : Nat) : Int) = c := by omega
        refine ⟨c.toNat, by rw [encN_lo (by omega), e]; rfl, by rw [e], by omega, by omega⟩
    · rw [if_neg c1] at h
      obtain ⟨m, h1, h2, h3, h4⟩ := goN_some k (i + 1) _ l v r (fun x hx => hb x (List.mem_cons_of_mem _ hx)) h
      have hm : m ≠ 0 := by omega
      refine ⟨(c - 128).toNat + 128 * m, ?_, ?_, h3, by omega⟩
      · rw [encN_hi (by omega), h1, List.cons_append]
        congr 2
        · omega
        · congr 1
          omega
      · rw [h2, pow_succ128, ← Int.mul_assoc, Int.add_assoc, ← Int.add_mul]
        congr 2
        omega
def Bts (l : List Int) : Prop := ∀ x, x ∈ l → 0 ≤ x ∧ x < 256
theorem Bts.left {a b : List Int} (h : Bts (a ++ b)) : Bts a := fun x hx => h x (List.mem_append_left _ hx)
theorem Bts.right {a b : List Int} (h : Bts (a ++ b)) : Bts b := fun x hx => h x (List.mem_append_right _ hx)
theorem numOf_enc (n : Nat) (r : List Int) (h : (n : Int) ≤ mostN) : numOf (encN n ++ r) = some ((n : Int), r) := by
  have h2 : n ≤ 2147483647 := by simp only [mostN] at h; omega
  have := goN_enc 5 0 n 0 r (encN_len 4 n (by omega)) (by simpa using h) (.inl rfl)
  simpa [numOf] using this
theorem numOf_some {l : List Int} {v : Int} {r : List Int} (hb : Bts l) (h : numOf l = some (v, r)) : ∃ n : Nat, v = n ∧ (n : Int) ≤ mostN ∧ l = encN n ++ r := by
  obtain ⟨m, h1, h2, h3, _⟩ := goN_some 5 0 0 l v r hb h
  have e : v = m := by simpa using h2
  exact ⟨m, e, by omega, h1⟩
/-- A row of moves as bytes. -/
def encM : List S48 → List Int
  | [] => []
  | x :: l => encN x.f0.toNat ++ (encN x.f1.toNat ++ encM l)
def encG : List Int → List Int
  | [] => []
  | n :: l => encN (n + 1).toNat ++ encG l
def encR : List (List S48) → List (List Int) → List Int
  | m :: ms, g :: gs => encM m ++ (encG g ++ encR ms gs)
  | _, _ => []
def encT (T : Tb) : List Int := encN T.mv.length ++ (encN (rd_L2 T.mv 0).length ++ (encN (rd_L3 T.gt 0).length ++ encR T.mv T.gt))
def OkM (x : S48) : Prop := 0 ≤ x.f0 ∧ x.f0 ≤ mostN ∧ 0 ≤ x.f1 ∧ x.f1 ≤ mostN
def OkG (n : Int) : Prop := -1 ≤ n ∧ n < mostN
def pM : Nat → List Int → Option (List S48 × List Int)
  | 0, l => some ([], l)
  | k + 1, l => (numOf l).bind fun a => (numOf a.2).bind fun b => (pM k b.2).map fun c => (⟨a.1, b.1⟩ :: c.1, c.2)
def pG : Nat → List Int → Option (List Int × List Int)
  | 0, l => some ([], l)
  | k + 1, l => (numOf l).bind fun a => (pG k a.2).map fun c => ((a.1 - 1) :: c.1, c.2)
def pR (kinds rules : Nat) : Nat → List Int → Option (Tb × List Int)
  | 0, l => some (⟨[], []⟩, l)
  | k + 1, l => (pM kinds l).bind fun a => (pG rules a.2).bind fun b => (pR kinds rules k b.2).map fun c => (⟨a.1 :: c.1.mv, b.1 :: c.1.gt⟩, c.2)
theorem pM_iff : ∀ (k : Nat) (l : List Int) (ms : List S48) (r : List Int), Bts l → (pM k l = some (ms, r) ↔ ms.length = k ∧ (∀ x, x ∈ ms → OkM x) ∧ l = encM ms ++ r)
  | 0, l, ms, r, hb => by
    rw [pM]
    constructor
    · intro h
      injection h with h
      injection h with h1 h2
      subst h1 h2
      exact ⟨rfl, by simp, rfl⟩
    · rintro ⟨h1, _, h3⟩
      obtain rfl := List.length_eq_zero_iff.1 h1
      rw [h3]
      rfl
  | k + 1, l, ms, r, hb => by
    rw [pM]
    constructor
    · intro h
      obtain ⟨⟨a, l1⟩, h1, h⟩ := Option.bind_eq_some_iff.1 h
      obtain ⟨⟨b, l2⟩, h2, h⟩ := Option.bind_eq_some_iff.1 h
      obtain ⟨⟨c, l3⟩, h3, h⟩ := Option.map_eq_some_iff.1 h
      injection h with h4 h5
      subst h4 h5
      obtain ⟨n, rfl, n2, rfl⟩ := numOf_some hb h1
      obtain ⟨m, rfl, m2, h2e⟩ := numOf_some hb.right h2
      simp only at h2e h3
      rw [h2e] at hb ⊢
      obtain ⟨c1, c2, c3⟩ := (pM_iff k l2 c l3 hb.right.right).1 h3
      refine ⟨by simp [c1], ?_, ?_⟩
      · intro x hx
        rcases List.mem_cons.1 hx with rfl | hx
        · exact ⟨by simp, by simpa using n2, by simp, by simpa using m2⟩
        · exact c2 x hx
      · rw [c3]
        simp [encM]
    · rintro ⟨h1, h2, h3⟩
      match ms, h1 with
      | x :: c, h1 =>
        have hx := h2 x (List.mem_cons_self ..)
        have e0 : ((x.f0.toNat : Nat) : Int) = x.f0 := by have := hx.1; omega
        have e1 : ((x.f1.toNat : Nat) : Int) = x.f1 := by have := hx.2.2.1; omega
        rw [h3] at hb ⊢
        simp only [encM, List.append_assoc] at hb ⊢
        rw [numOf_enc _ _ (by rw [e0]; exact hx.2.1), Option.bind_some]
        simp only
        rw [numOf_enc _ _ (by rw [e1]; exact hx.2.2.2), Option.bind_some]
        simp only
        rw [(pM_iff k _ c r hb.right.right).2 ⟨by simpa using h1, fun y hy => h2 y (List.mem_cons_of_mem _ hy), rfl⟩, e0, e1]
        rfl
theorem pG_iff : ∀ (k : Nat) (l : List Int) (ms : List Int) (r : List Int), Bts l → (pG k l = some (ms, r) ↔ ms.length = k ∧ (∀ x, x ∈ ms → OkG x) ∧ l = encG ms ++ r)
  | 0, l, ms, r, hb => by
    rw [pG]
    constructor
    · intro h
      injection h with h
      injection h with h1 h2
      subst h1 h2
      exact ⟨rfl, by simp, rfl⟩
    · rintro ⟨h1, _, h3⟩
      obtain rfl := List.length_eq_zero_iff.1 h1
      rw [h3]
      rfl
  | k + 1, l, ms, r, hb => by
    rw [pG]
    constructor
    · intro h
      obtain ⟨⟨a, l1⟩, h1, h⟩ := Option.bind_eq_some_iff.1 h
      obtain ⟨⟨c, l3⟩, h3, h⟩ := Option.map_eq_some_iff.1 h
      injection h with h4 h5
      subst h4 h5
      obtain ⟨n, rfl, n2, rfl⟩ := numOf_some hb h1
      simp only at h3
      obtain ⟨c1, c2, c3⟩ := (pG_iff k l1 c l3 hb.right).1 h3
      refine ⟨by simp [c1], ?_, ?_⟩
      · intro x hx
        rcases List.mem_cons.1 hx with rfl | hx
        · simp only [OkG, mostN] at n2 ⊢
          omega
        · exact c2 x hx
      · rw [c3]
        simp [encG]
    · rintro ⟨h1, h2, h3⟩
      match ms, h1 with
      | x :: c, h1 =>
        have hx := h2 x (List.mem_cons_self ..)
        have e0 : (((x + 1).toNat : Nat) : Int) = x + 1 := by have := hx.1; omega
        rw [h3] at hb ⊢
        simp only [encG, List.append_assoc] at hb ⊢
        rw [numOf_enc _ _ (by rw [e0]; have := hx.2; omega), Option.bind_some]
        simp only
        rw [(pG_iff k _ c r hb.right).2 ⟨by simpa using h1, fun y hy => h2 y (List.mem_cons_of_mem _ hy), rfl⟩, e0]
        simp
def RowsOk (kinds rules : Nat) (T : Tb) : Prop := (∀ l, l ∈ T.mv → l.length = kinds ∧ ∀ x, x ∈ l → OkM x) ∧ (∀ l, l ∈ T.gt → l.length = rules ∧ ∀ x, x ∈ l → OkG x)
theorem pR_iff (kinds rules : Nat) : ∀ (k : Nat) (l : List Int) (T : Tb) (r : List Int), Bts l → (pR kinds rules k l = some (T, r) ↔ T.mv.length = k ∧ T.gt.length = k ∧ RowsOk kinds rules T ∧ l = encR T.mv T.gt ++ r)
  | 0, l, T, r, hb => by
    rw [pR]
    constructor
    · intro h
      injection h with h
      injection h with h1 h2
      subst h1 h2
      exact ⟨rfl, rfl, ⟨by simp, by simp⟩, rfl⟩
    · rintro ⟨h1, h2, _, h3⟩
      obtain ⟨m, g⟩ := T
      obtain rfl := List.length_eq_zero_iff.1 h1
      obtain rfl := List.length_eq_zero_iff.1 h2
      rw [h3]
      rfl
  | k + 1, l, T, r, hb => by
    rw [pR]
    constructor
    · intro h
      obtain ⟨⟨a, l1⟩, h1, h⟩ := Option.bind_eq_some_iff.1 h
      obtain ⟨⟨b, l2⟩, h2, h⟩ := Option.bind_eq_some_iff.1 h
      obtain ⟨⟨c, l3⟩, h3, h⟩ := Option.map_eq_some_iff.1 h
      injection h with h4 h5
      subst h4 h5
      obtain ⟨a1, a2, rfl⟩ := (pM_iff kinds l a l1 hb).1 h1
      obtain ⟨b1, b2, h2e⟩ := (pG_iff rules l1 b l2 hb.right).1 h2
      simp only at h3
      rw [h2e] at hb ⊢
      obtain ⟨c1, c2, c3, c4⟩ := (pR_iff kinds rules k l2 c l3 hb.right.right).1 h3
      refine ⟨by simp [c1], by simp [c2], ⟨?_, ?_⟩, ?_⟩
      · intro x hx
        rcases List.mem_cons.1 hx with rfl | hx
        · exact ⟨a1, a2⟩
        · exact c3.1 x hx
      · intro x hx
        rcases List.mem_cons.1 hx with rfl | hx
        · exact ⟨b1, b2⟩
        · exact c3.2 x hx
      · rw [c4]
        simp [encR]
    · rintro ⟨h1, h2, h3, h4⟩
      obtain ⟨ms, gs⟩ := T
      match ms, gs, h1, h2 with
      | m :: ms, g :: gs, h1, h2 =>
        have hm := h3.1 m (List.mem_cons_self ..)
        have hg := h3.2 g (List.mem_cons_self ..)
        rw [h4] at hb ⊢
        simp only [encR, List.append_assoc] at hb ⊢
        rw [(pM_iff kinds _ m _ hb).2 ⟨hm.1, hm.2, rfl⟩, Option.bind_some]
        simp only
        rw [(pG_iff rules _ g _ hb.right).2 ⟨hg.1, hg.2, rfl⟩, Option.bind_some]
        simp only
        rw [(pR_iff kinds rules k _ ⟨ms, gs⟩ r hb.right.right).2 ⟨by simpa using h1, by simpa using h2, ⟨fun y hy => h3.1 y (List.mem_cons_of_mem _ hy), fun y hy => h3.2 y (List.mem_cons_of_mem _ hy)⟩, rfl⟩]
        rfl
/-- A table that can be written. -/
def WrOk (T : Tb) : Prop := Even T ∧ (∀ l, l ∈ T.mv → ∀ x, x ∈ l → OkM x) ∧ (∀ l, l ∈ T.gt → ∀ x, x ∈ l → OkG x)
/-- What the bytes are read as. -/
def IsRead (b : List Int) (r : Option Tb) : Prop := ∀ T, r = some T ↔ (WrOk T ∧ (T.mv.length : Int) ≤ mostN ∧ ((rd_L2 T.mv 0).length : Int) ≤ mostN ∧ ((rd_L3 T.gt 0).length : Int) ≤ mostN ∧ encT T = b)
theorem read_one {b : List Int} {r s : Option Tb} (h : IsRead b r) (k : IsRead b s) : r = s := by
  cases r with
  | some T => exact ((k T).2 ((h T).1 rfl)).symm
  | none =>
    cases s with
    | none => rfl
    | some T => exact (h T).2 ((k T).1 rfl)
theorem mem_L2 {l : List (List S48)} {x : List S48} : x ∈ l ↔ ∃ s : Nat, s < l.length ∧ rd_L2 l s = x := by
  rw [List.mem_iff_getElem]
  constructor
  · rintro ⟨i, hi, rfl⟩
    exact ⟨i, hi, by simp [rd_L2, List.getD_eq_getElem?_getD, hi]⟩
  · rintro ⟨i, hi, rfl⟩
    exact ⟨i, hi, by simp [rd_L2, List.getD_eq_getElem?_getD, hi]⟩
theorem mem_L3 {l : List (List Int)} {x : List Int} : x ∈ l ↔ ∃ s : Nat, s < l.length ∧ rd_L3 l s = x := by
  rw [List.mem_iff_getElem]
  constructor
  · rintro ⟨i, hi, rfl⟩
    exact ⟨i, hi, by simp [rd_L3, List.getD_eq_getElem?_getD, hi]⟩
  · rintro ⟨i, hi, rfl⟩
    exact ⟨i, hi, by simp [rd_L3, List.getD_eq_getElem?_getD, hi]⟩
theorem even_rows {T : Tb} {kinds rules : Nat} (h : RowsOk kinds rules T) (hl : T.gt.length = T.mv.length) (h0 : 0 < T.mv.length) (hk : 0 < kinds) : Even T ∧ (rd_L2 T.mv 0).length = kinds ∧ (rd_L3 T.gt 0).length = rules := by
  have a0 := (h.1 _ (mem_L2.2 ⟨0, h0, rfl⟩)).1
  have b0 := (h.2 _ (mem_L3.2 ⟨0, by omega, rfl⟩)).1
  refine ⟨⟨h0, by exact_mod_cast a0 ▸ hk, hl, fun s hs => ⟨?_, ?_⟩⟩, a0, b0⟩
  · exact ((h.1 _ (mem_L2.2 ⟨s, hs, rfl⟩)).1).trans a0.symm
  · exact ((h.2 _ (mem_L3.2 ⟨s, by omega, rfl⟩)).1).trans b0.symm
theorem rows_even {T : Tb} (h : WrOk T) : RowsOk (rd_L2 T.mv 0).length (rd_L3 T.gt 0).length T := by
  obtain ⟨⟨_, _, hl, he⟩, hm, hg⟩ := h
  refine ⟨fun l hm' => ⟨?_, hm l hm'⟩, fun l hg' => ⟨?_, hg l hg'⟩⟩
  · obtain ⟨s, hs, rfl⟩ := mem_L2.1 hm'
    exact (he s hs).1
  · obtain ⟨s, hs, rfl⟩ := mem_L3.1 hg'
    exact (he s (by omega)).2
/-- How a table is read, by parts. -/
def readP (b : List Int) : Option (Tb × List Int) := (numOf b).bind fun n => (numOf n.2).bind fun k => (numOf k.2).bind fun q => pR k.1.toNat q.1.toNat n.1.toNat q.2
/-- What came of the parts: all bytes, a state and a kind. -/
def readE (x : Tb × List Int) : Prop := x.2 = [] ∧ 0 < x.1.mv.length ∧ 0 < (rd_L2 x.1.mv 0).length
theorem readP_good {b : List Int} (hb : Bts b) (T : Tb) : (readP b = some (T, []) ∧ readE (T, [])) ↔ (WrOk T ∧ (T.mv.length : Int) ≤ mostN ∧ ((rd_L2 T.mv 0).length : Int) ≤ mostN ∧ ((rd_L3 T.gt 0).length : Int) ≤ mostN ∧ encT T = b) := by
  constructor
  · rintro ⟨h, _, h1, h2⟩
    rw [readP] at h
    obtain ⟨⟨n, l0⟩, e0, ha⟩ := Option.bind_eq_some_iff.1 h
    obtain ⟨⟨k, l1⟩, e1, hc⟩ := Option.bind_eq_some_iff.1 ha
    obtain ⟨⟨q, l2⟩, e2, hd⟩ := Option.bind_eq_some_iff.1 hc
    clear h ha hc
    simp only at e1 e2 hd h1 h2
    obtain ⟨n, rfl, n2, rfl⟩ := numOf_some hb e0
    obtain ⟨k, rfl, k2, rfl⟩ := numOf_some hb.right e1
    obtain ⟨q, rfl, q2, rfl⟩ := numOf_some hb.right.right e2
    simp only [Int.toNat_natCast] at hd
    obtain ⟨c1, c2, c3, c4⟩ := (pR_iff k q n l2 T [] hb.right.right.right).1 hd
    have hk : 0 < k := by
      have := (c3.1 _ (mem_L2.2 ⟨0, h1, rfl⟩)).1
      simp only [Int.natCast_zero] at this h2
      have h3 : (rd_L2 T.mv 0).length = k := by exact_mod_cast this
      omega
    obtain ⟨he, f1, f2⟩ := even_rows c3 (by omega) h1 hk
    refine ⟨⟨he, fun l hl => (c3.1 l hl).2, fun l hl => (c3.2 l hl).2⟩, by omega, by omega, by omega, ?_⟩
    rw [encT, c1, f1, f2, c4, List.append_nil]
  · rintro ⟨hw, n1, n2, n3, rfl⟩
    refine ⟨?_, rfl, hw.1.1, hw.1.2.1⟩
    rw [encT] at hb ⊢
    rw [readP, numOf_enc _ _ n1, Option.bind_some]
    simp only
    rw [numOf_enc _ _ n2, Option.bind_some]
    simp only
    rw [numOf_enc _ _ n3, Option.bind_some]
    simp only [Int.toNat_natCast]
    exact (pR_iff _ _ _ _ T [] hb.right.right.right).2 ⟨rfl, hw.1.2.2.1, rows_even hw, by rw [List.append_nil]⟩
theorem isRead_some {b : List Int} {T : Tb} (hb : Bts b) (h : readP b = some (T, [])) (he : readE (T, [])) : IsRead b (some T) := fun T' => by
  constructor
  · intro e
    injection e with e
    subst e
    exact (readP_good hb T).1 ⟨h, he⟩
  · intro e
    obtain ⟨h2, _⟩ := (readP_good hb T').2 e
    rw [h] at h2
    injection h2 with h2
    injection h2 with h2
    rw [h2]
theorem isRead_none {b : List Int} (hb : Bts b) (h : ∀ T l, readP b = some (T, l) → ¬ readE (T, l)) : IsRead b none := fun T' => by
  constructor
  · intro e
    cases e
  · intro e
    obtain ⟨h2, h3⟩ := (readP_good hb T').2 e
    exact absurd h3 (h _ _ h2)
end Go.Proofs.Ytlpmjmanmncmnaa.Tab
