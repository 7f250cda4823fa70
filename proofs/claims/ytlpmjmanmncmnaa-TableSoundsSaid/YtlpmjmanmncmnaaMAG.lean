/-
A row's default, in plain Lean: how often a production is reduced by, and the one that is most often.
-/
import Derived.Maps.Own
import Derived.Maps.OwnOps
import Derived.Maps.RangeWalk
import Derived.Maps.Ext
import Derived.Test.YtlpmjmanmncmnaaMAF
set_option linter.unusedSimpArgs false
set_option linter.unusedVariables false
namespace Go.Proofs.Ytlpmjmanmncmnaa.Tab
open Go.RowKit Go.Maps Go.Proofs.YtlpmjmanmncmnaaW.PrintWords Go.Proofs.YtlpmjmanmncmnaaW.PrintLast Go.Proofs.YtlpmjmanmncmnaaW.PrintMore Go.Proofs.Ytlpmjmanmncmnaa.Fr Go.Proofs.Ytlpmjmanmncmnaa.PT
/-- Does a move reduce by a production? -/
def isR (n : Int) (x : S48) : Bool := x.f0 == 2 && x.f1 == n
/-- How often a row reduces by a production. -/
def cntR (row : List S48) (n : Int) : Nat := row.countP (isR n)
theorem cnt_le (row : List S48) (n : Int) : cntR row n ≤ row.length := List.countP_le_length
theorem cnt_snoc (row : List S48) (x : S48) (n : Int) : cntR (row ++ [x]) n = cntR row n + (if isR n x = true then 1 else 0) := by
  simp [cntR, List.countP_append, List.countP_cons, List.countP_nil]
theorem cnt_mem {row : List S48} {n : Int} (h : 0 < cntR row n) : ∃ x, x ∈ row ∧ x.f0 = 2 ∧ x.f1 = n := by
  obtain ⟨x, hx, hp⟩ := List.countP_pos_iff.1 h
  simp only [isR, Bool.and_eq_true, beq_iff_eq] at hp
  exact ⟨x, hx, hp.1, hp.2⟩
/-- The default of a row. -/
def IsUsual (row : List S48) (m : S48) : Prop :=
  (m = ⟨0, 0⟩ ∧ ∀ n, cntR row n = 0) ∨ (m.f0 = 2 ∧ 0 < cntR row m.f1 ∧ ∀ n, 0 < cntR row n → cntR row n < cntR row m.f1 ∨ cntR row n = cntR row m.f1 ∧ m.f1 ≤ n)
theorem usual_one {row : List S48} {m k : S48} (h : IsUsual row m) (h2 : IsUsual row k) : m = k := by
  rcases h with ⟨rfl, h⟩ | ⟨a, b, c⟩
  · rcases h2 with ⟨rfl, _⟩ | ⟨_, b, _⟩
    · rfl
    · have := h k.f1
      omega
  · rcases h2 with ⟨rfl, h2⟩ | ⟨a2, b2, c2⟩
    · have := h2 m.f1
      omega
    · have e1 := c k.f1 b2
      have e2 := c2 m.f1 b
      cases m
      cases k
      simp only [S48.mk.injEq] at *
      omega
theorem take_48 {l : List S48} {i : Nat} (h : i < l.length) : l.take (i + 1) = l.take i ++ [rd_T48 l i] := by
  rw [List.take_add_one]
  simp [rd_T48, List.getD_eq_getElem?_getD, h]
theorem rd_mem {l : List S48} {i : Nat} (h : i < l.length) : rd_T48 l i ∈ l := by
  simp only [rd_T48, Int.toNat_natCast, List.getD_eq_getElem?_getD, List.getElem?_eq_getElem h, Option.getD_some]
  exact List.getElem_mem h
/-- The map of counts. -/
structure Cnts (D : DataW Unit) (row : List S48) : Prop where
  map : IsMap D
  at_ : ∀ n, D.atKey (.int .i64 n) (.lit (.int .i64 0)) = .lit (.int .i64 (cntR row n))
  has : ∀ n, Maps.has D (.int .i64 n) = decide (0 < cntR row n)
theorem cnts_nil : Cnts (.map []) [] := ⟨isMap_empty, fun _ => rfl, fun _ => rfl⟩
theorem cnts_put {D : DataW Unit} {row : List S48} (h : Cnts D row) {x : S48} (hx : x.f0 = 2) : Cnts (D.put (.int .i64 x.f1) (.lit (.int .i64 ((cntR row x.f1 : Int) + 1)))) (row ++ [x]) := by
  have hk : WideAt.IsKeyLit (.int .i64 x.f1) := trivial
  refine ⟨h.map.put _ _, fun n => ?_, fun n => ?_⟩
  · rw [cnt_snoc]
    by_cases e : x.f1 = n
    · subst e
      rw [atKey_put_same h.map hk]
      simp [isR, hx]
    · rw [atKey_put_other (fun h => e (by injection h with _ h; exact h.symm)), h.at_]
      simp [isR, e]
  · rw [cnt_snoc]
    by_cases e : x.f1 = n
    · subst e
      rw [has_put_same h.map hk]
      simp [isR, hx]
    · rw [has_put_other (fun h => e (by injection h with _ h; exact h.symm)), h.has]
      simp [isR, e]
theorem cnts_skip {D : DataW Unit} {row : List S48} (h : Cnts D row) {x : S48} (hx : x.f0 ≠ 2) : Cnts D (row ++ [x]) := by
  have e : ∀ n, cntR (row ++ [x]) n = cntR row n := fun n => by rw [cnt_snoc]; simp [isR, hx]
  exact ⟨h.map, fun n => by rw [e]; exact h.at_ n, fun n => by rw [e]; exact h.has n⟩
/-- The best of those that are no longer to come. -/
def Best (row : List S48) (left : Lit → Bool) (m : S48) : Prop :=
  (m = ⟨0, 0⟩ ∧ ∀ n, 0 < cntR row n → left (.int .i64 n) = true) ∨ (m.f0 = 2 ∧ 0 < cntR row m.f1 ∧ ∀ n, 0 < cntR row n → left (.int .i64 n) = false → cntR row n < cntR row m.f1 ∨ cntR row n = cntR row m.f1 ∧ m.f1 ≤ n)
theorem best_end {row : List S48} {left : Lit → Bool} {m : S48} (h : Best row left m) (hl : ∀ k, left k = false) : IsUsual row m := by
  rcases h with ⟨h, h2⟩ | ⟨a, b, c⟩
  · refine .inl ⟨h, fun n => ?_⟩
    rcases Nat.eq_zero_or_pos (cntR row n) with h0 | h0
    · exact h0
    · have := h2 n h0
      rw [hl] at this
      cases this
  · exact .inr ⟨a, b, fun n hn => c n hn (hl _)⟩
theorem strike {left : Lit → Bool} {x n : Int} (h : (fun z => left z && !z.sameKey (.int .i64 x)) (.int .i64 n) = false) : n = x ∨ left (.int .i64 n) = false := by
  by_cases e : n = x
  · exact .inl e
  · refine .inr ?_
    have : (Lit.int .i64 n).sameKey (.int .i64 x) = false := sameKey_ne (fun h => e (by injection h))
    simpa [this] using h
/-- An entry that is better. -/
theorem best_take {row : List S48} {left : Lit → Bool} {m : S48} (h : Best row left m) {x : Int} (hx : 0 < cntR row x) (hb : m.f0 = 0 ∨ cntR row m.f1 < cntR row x ∨ cntR row x = cntR row m.f1 ∧ x < m.f1) : Best row (fun z => left z && !z.sameKey (.int .i64 x)) ⟨2, x⟩ := by
  refine .inr ⟨rfl, hx, fun n hn hl => ?_⟩
  rcases strike hl with rfl | hl
  · exact .inr ⟨rfl, Int.le_refl _⟩
  · rcases h with ⟨rfl, h2⟩ | ⟨a, b, c⟩
    · rw [h2 n hn] at hl
      cases hl
    · have := c n hn hl
      dsimp only
      omega
/-- An entry that is not. -/
theorem best_leave {row : List S48} {left : Lit → Bool} {m : S48} (h : Best row left m) {x : Int} (hm : m.f0 ≠ 0) (h1 : ¬ cntR row m.f1 < cntR row x) (h2 : ¬ (cntR row x = cntR row m.f1 ∧ x < m.f1)) : Best row (fun z => left z && !z.sameKey (.int .i64 x)) m := by
  rcases h with ⟨rfl, _⟩ | ⟨a, b, c⟩
  · exact absurd rfl hm
  · refine .inr ⟨a, b, fun n hn hl => ?_⟩
    rcases strike hl with rfl | hl
    · omega
    · exact c n hn hl
theorem best_start {D : DataW Unit} {row : List S48} (h : Cnts D row) : Best row (Maps.has D) ⟨0, 0⟩ := .inl ⟨rfl, fun n hn => by rw [h.has]; exact decide_eq_true hn⟩
theorem best_form {row : List S48} {left : Lit → Bool} {m : S48} (h : Best row left m) : m.f0 = 0 ∨ m.f0 = 2 := by
  rcases h with ⟨rfl, _⟩ | ⟨a, _⟩
  · exact .inl rfl
  · exact .inr a
end Go.Proofs.Ytlpmjmanmncmnaa.Tab
