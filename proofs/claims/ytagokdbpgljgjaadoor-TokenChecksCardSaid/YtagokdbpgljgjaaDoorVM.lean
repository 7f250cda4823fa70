/-
What the rows' functions compute: the kinds of all, the tokens of some kinds, the same rows.
-/
import Derived.Test.YtagokdbpgljgjaaDoorPTB
namespace Go.Proofs.YtagokdbpgljgjaaDoor.Tok
open Go.RowKit Go.Proofs.YtagokdbpgljgjaaDoorW.PrintWords Go.Proofs.YtagokdbpgljgjaaDoorW.PrintLast Go.Proofs.YtagokdbpgljgjaaDoorW.PrintMore Go.Proofs.YtagokdbpgljgjaaDoor.PGramFirsts

/-- A function of fuel answers r, from some fuel on. -/
def Fin {α : Type} (f : Nat → Option α) (r : α) : Prop := ∃ K, ∀ k, K ≤ k → f k = some r
theorem Fin.get {α : Type} {f : Nat → Option α} {r : α} (h : Fin f r) : ∃ k, f k = some r := by
  obtain ⟨K, hK⟩ := h
  exact ⟨K, hK K (Nat.le_refl _)⟩
theorem Fin.step {α : Type} {f g : Nat → Option α} {r : α} (h : Fin g r) (hs : ∀ k, f (k + 1) = g k) : Fin f r := by
  obtain ⟨K, hK⟩ := h
  refine ⟨K + 1, fun k hk => ?_⟩
  obtain ⟨k', rfl⟩ : ∃ k', k = k' + 1 := ⟨k - 1, by omega⟩
  rw [hs]
  exact hK k' (by omega)
theorem Fin.one {α : Type} {f : Nat → Option α} {r : α} (hs : ∀ k, f (k + 1) = some r) : Fin f r := by
  refine ⟨1, fun k hk => ?_⟩
  obtain ⟨k', rfl⟩ : ∃ k', k = k' + 1 := ⟨k - 1, by omega⟩
  exact hs k'
theorem wrapN (n : Nat) (h : n < 9223372036854775807) : wrap64 ((n : Int) + 1) = ((n + 1 : Nat) : Int) := by simp only [wrap64]; omega
theorem rdT_drop {l : List S55} {i : Nat} (h : i < l.length) : l.drop i = rd_T55 l i :: l.drop (i + 1) := by
  rw [List.drop_eq_getElem_cons h]
  simp [rd_T55, List.getD_eq_getElem?_getD, List.getElem?_eq_getElem h]
theorem rdI_drop {l : List Int} {i : Nat} (h : i < l.length) : l.drop i = rd l i :: l.drop (i + 1) := by
  rw [List.drop_eq_getElem_cons h]
  simp [rd, List.getD_eq_getElem?_getD, List.getElem?_eq_getElem h]
/-- The greatest number of tokens that a slice holds. -/
def MaxT : Nat := 5864062014634

theorem row_fin (l : List S55) (hl : l.length ≤ MaxT) : ∀ (n i : Nat) (out : List Int), i + n = l.length → out.length ≤ i → Fin (fun k => token_Row.l0 k out l (l.length : Int) i) (out ++ (l.drop i).map (·.f0))
  | 0, i, out, h, _ => Fin.one (fun k => by
    show token_Row.l0 (k + 1) _ _ _ _ = _
    unfold token_Row.l0
    rw [if_neg (by omega), List.drop_of_length_le (by omega)]
    simp)
  | n + 1, i, out, h, ho => by
    have hm : MaxT = 5864062014634 := rfl
    have ih := row_fin l hl n (i + 1) (out ++ [(rd_T55 l i).f0]) (by omega) (by simp; omega)
    rw [List.append_assoc] at ih
    rw [rdT_drop (by omega : i < l.length), List.map_cons]
    refine ih.step (fun k => ?_)
    show token_Row.l0 (k + 1) _ _ _ _ = _
    rw [token_Row.l0, if_pos (by omega), if_pos (by omega), if_pos (by omega), if_pos (by omega), wrapN _ (by omega)]
theorem row_some (l : List S55) (hl : l.length ≤ MaxT) : ∃ k, token_Row.f k l = some (l.map (·.f0)) := (row_fin l hl l.length 0 [] (by omega) (by simp)).get

theorem same_fin (l : List S55) (hl : l.length ≤ 9223372036854775806) : ∀ (n i : Nat), i + n = l.length → Fin (fun k => quoinref07_Same.l0 k l l i) true
  | 0, i, h => Fin.one (fun k => by
    show quoinref07_Same.l0 (k + 1) _ _ _ = _
    rw [quoinref07_Same.l0, if_neg (by omega)])
  | n + 1, i, h => by
    have ih := same_fin l hl n (i + 1) (by omega)
    refine ih.step (fun k => ?_)
    show quoinref07_Same.l0 (k + 1) _ _ _ = _
    rw [quoinref07_Same.l0, if_pos (by omega), if_pos (by omega), if_pos (by omega), if_neg (by simp), wrapN _ (by omega)]
theorem same_some (l : List S55) (hl : l.length ≤ 9223372036854775806) : ∃ k, quoinref07_Same.f k l l = some true := by
  obtain ⟨k, hk⟩ := (same_fin l hl l.length 0 (by omega)).get
  exact ⟨k, by unfold quoinref07_Same.f; rw [if_pos rfl]; exact hk⟩

/-- The tokens of some kinds. -/
def onlyL (ks : List Int) (l : List S55) : List S55 := l.filter fun t => decide (t.f0 ∈ ks)
theorem onlyL_le (ks : List Int) (l : List S55) : (onlyL ks l).length ≤ l.length := List.length_filter_le ..
def put (ks : List Int) (t : S55) (out : List S55) : List S55 := if t.f0 ∈ ks then out ++ [t] else out
theorem put_len (ks : List Int) (t : S55) (out : List S55) : (put ks t out).length ≤ out.length + 1 := by
  unfold put
  split <;> simp
theorem put_only (ks : List Int) (t : S55) (out l : List S55) : put ks t out ++ onlyL ks l = out ++ onlyL ks (t :: l) := by
  unfold put onlyL
  by_cases h : t.f0 ∈ ks
  · rw [if_pos h, List.filter_cons_of_pos (by simpa using h), List.append_assoc]
    rfl
  · rw [if_neg h, List.filter_cons_of_neg (by simpa using h)]
theorem only_l1 (ks : List Int) (hk : ks.length ≤ 9223372036854775806) (l : List S55) (i : Nat) (t : S55) (out r : List S55) (ho : out.length ≤ MaxT) : ∀ (n j : Nat), j + n = ks.length →
    Fin (fun k => token_Only.l0 k ks (put (ks.drop j) t out) l (l.length : Int) (wrap64 ((i : Int) + 1))) r →
    Fin (fun k => token_Only.l1 k ks out l (l.length : Int) i ks (ks.length : Int) j t.f0 t.f1 t.f2) r
  | 0, j, h, hf => by
    rw [List.drop_of_length_le (by omega : ks.length ≤ j)] at hf
    refine hf.step (fun k => ?_)
    show token_Only.l1 (k + 1) _ _ _ _ _ _ _ _ _ _ _ = _
    rw [token_Only.l1, if_neg (by omega)]
    simp [put]
  | n + 1, j, h, hf => by
    have hm : MaxT = 5864062014634 := rfl
    rw [rdI_drop (by omega : j < ks.length)] at hf
    by_cases he : t.f0 = rd ks j
    · have hp : put (rd ks j :: ks.drop (j + 1)) t out = out ++ [t] := by unfold put; rw [if_pos (by rw [he]; exact List.mem_cons_self ..)]
      rw [hp] at hf
      refine hf.step (fun k => ?_)
      show token_Only.l1 (k + 1) _ _ _ _ _ _ _ _ _ _ _ = _
      rw [token_Only.l1, if_pos (by omega), if_pos (by omega), if_pos (by omega), if_pos he, if_pos (by omega)]
    · have hp : put (rd ks j :: ks.drop (j + 1)) t out = put (ks.drop (j + 1)) t out := by
        unfold put
        simp only [List.mem_cons, he, false_or]
      rw [hp] at hf
      refine (only_l1 ks hk l i t out r ho n (j + 1) (by omega) hf).step (fun k => ?_)
      show token_Only.l1 (k + 1) _ _ _ _ _ _ _ _ _ _ _ = _
      rw [token_Only.l1, if_pos (by omega), if_pos (by omega), if_pos (by omega), if_neg he, wrapN _ (by omega)]
theorem only_fin (ks : List Int) (hk : ks.length ≤ 9223372036854775806) (l : List S55) (hl : l.length ≤ MaxT) : ∀ (n i : Nat) (out : List S55), i + n = l.length → out.length ≤ i → Fin (fun k => token_Only.l0 k ks out l (l.length : Int) i) (out ++ onlyL ks (l.drop i))
  | 0, i, out, h, _ => Fin.one (fun k => by
    show token_Only.l0 (k + 1) _ _ _ _ _ = _
    rw [token_Only.l0, if_neg (by omega), List.drop_of_length_le (by omega)]
    simp [onlyL])
  | n + 1, i, out, h, ho => by
    have hm : MaxT = 5864062014634 := rfl
    have hp := put_len ks (rd_T55 l i) out
    have ih := only_fin ks hk l hl n (i + 1) (put ks (rd_T55 l i) out) (by omega) (by omega)
    rw [put_only, ← rdT_drop (by omega : i < l.length)] at ih
    rw [← wrapN i (by omega)] at ih
    refine (only_l1 ks hk l i (rd_T55 l i) out _ (by omega) ks.length 0 (by omega) (by simpa using ih)).step (fun k => ?_)
    show token_Only.l0 (k + 1) _ _ _ _ _ = _
    rw [token_Only.l0, if_pos (by omega), if_pos (by omega), if_pos (by omega)]
    rfl
theorem only_some (ks : List Int) (hk : ks.length ≤ 9223372036854775806) (l : List S55) (hl : l.length ≤ MaxT) : ∃ k, token_Only.f k l ks = some (onlyL ks l) := by
  obtain ⟨k, h⟩ := (only_fin ks hk l hl l.length 0 [] (by omega) (by simp)).get
  exact ⟨k, by rw [List.drop_zero, List.nil_append] at h; exact h⟩
theorem ref_l1 (ks : List Int) (hk : ks.length ≤ 9223372036854775806) (l : List S55) (i : Nat) (hi : i < l.length) (out r : List S55) (ho : out.length ≤ MaxT) : ∀ (n j : Nat), j + n = ks.length →
    Fin (fun k => quoinref07_Only.l0 k l ks (put (ks.drop j) (rd_T55 l i) out) (wrap64 ((i : Int) + 1))) r →
    Fin (fun k => quoinref07_Only.l1 k l ks out i j) r
  | 0, j, h, hf => by
    rw [List.drop_of_length_le (by omega : ks.length ≤ j)] at hf
    refine hf.step (fun k => ?_)
    show quoinref07_Only.l1 (k + 1) _ _ _ _ _ = _
    rw [quoinref07_Only.l1, if_neg (by omega)]
    simp [put]
  | n + 1, j, h, hf => by
    have hm : MaxT = 5864062014634 := rfl
    rw [rdI_drop (by omega : j < ks.length)] at hf
    by_cases he : rd ks j = (rd_T55 l i).f0
    · have hp : put (rd ks j :: ks.drop (j + 1)) (rd_T55 l i) out = out ++ [rd_T55 l i] := by unfold put; rw [if_pos (by rw [he]; exact List.mem_cons_self ..)]
      rw [hp] at hf
      refine hf.step (fun k => ?_)
      show quoinref07_Only.l1 (k + 1) _ _ _ _ _ = _
      rw [quoinref07_Only.l1, if_pos (by omega), if_pos (by omega), if_pos (by omega), if_pos (by omega), if_pos he, if_pos (by omega)]
    · have hp : put (rd ks j :: ks.drop (j + 1)) (rd_T55 l i) out = put (ks.drop (j + 1)) (rd_T55 l i) out := by
        have he' : ¬ (rd_T55 l i).f0 = rd ks j := fun h => he h.symm
        unfold put
        simp only [List.mem_cons, he', false_or]
      rw [hp] at hf
      refine (ref_l1 ks hk l i hi out r ho n (j + 1) (by omega) hf).step (fun k => ?_)
      show quoinref07_Only.l1 (k + 1) _ _ _ _ _ = _
      rw [quoinref07_Only.l1, if_pos (by omega), if_pos (by omega), if_pos (by omega), if_pos (by omega), if_neg he, wrapN _ (by omega)]
theorem ref_fin (ks : List Int) (hk : ks.length ≤ 9223372036854775806) (l : List S55) (hl : l.length ≤ MaxT) : ∀ (n i : Nat) (out : List S55), i + n = l.length → out.length ≤ i → Fin (fun k => quoinref07_Only.l0 k l ks out i) (out ++ onlyL ks (l.drop i))
  | 0, i, out, h, _ => Fin.one (fun k => by
    show quoinref07_Only.l0 (k + 1) _ _ _ _ = _
    rw [quoinref07_Only.l0, if_neg (by omega), List.drop_of_length_le (by omega)]
    simp [onlyL])
  | n + 1, i, out, h, ho => by
    have hm : MaxT = 5864062014634 := rfl
    have hp := put_len ks (rd_T55 l i) out
    have ih := ref_fin ks hk l hl n (i + 1) (put ks (rd_T55 l i) out) (by omega) (by omega)
    rw [put_only, ← rdT_drop (by omega : i < l.length)] at ih
    rw [← wrapN i (by omega)] at ih
    refine (ref_l1 ks hk l i (by omega) out _ (by omega) ks.length 0 (by omega) (by simpa using ih)).step (fun k => ?_)
    show quoinref07_Only.l0 (k + 1) _ _ _ _ = _
    rw [quoinref07_Only.l0, if_pos (by omega)]
    rfl
theorem ref_some (ks : List Int) (hk : ks.length ≤ 9223372036854775806) (l : List S55) (hl : l.length ≤ MaxT) : ∃ k, quoinref07_Only.f k l ks = some (onlyL ks l) := by
  obtain ⟨k, h⟩ := (ref_fin ks hk l hl l.length 0 [] (by omega) (by simp)).get
  exact ⟨k, by rw [List.drop_zero, List.nil_append] at h; exact h⟩
end Go.Proofs.YtagokdbpgljgjaaDoor.Tok
