/-
What the reference says of a table's rows, of a row's default and of whether a table may be: in plain Lean.
-/
import Derived.Test.YtlpmjmanmncmnaaMAG
import Derived.Test.YtlpmjmanmncmnaaMAH
import Derived.KernelRfl
import Derived.Test.YtlpmjmanmncmnaaMAF
set_option linter.unusedSimpArgs false
set_option linter.unusedVariables false
namespace Go.Proofs.Ytlpmjmanmncmnaa.Tab
open Go.RowKit Go.Maps Go.Proofs.YtlpmjmanmncmnaaW.PrintWords Go.Proofs.YtlpmjmanmncmnaaW.PrintLast Go.Proofs.YtlpmjmanmncmnaaW.PrintMore Go.Proofs.Ytlpmjmanmncmnaa.Fr Go.Proofs.Ytlpmjmanmncmnaa.PT
/-- A function of fuel answers r, from some fuel on. -/
def Fin {α : Type} (f : Nat → Option α) (r : α) : Prop := ∃ K, ∀ k, K ≤ k → f k = some r
theorem Fin.get {α : Type} {f : Nat → Option α} {r : α} (h : Fin f r) : ∃ k, f k = some r := by
  obtain ⟨K, hK⟩ := h
  exact ⟨K, hK K (Nat.le_refl _)⟩
theorem Fin.step {α : Type} {f g : Nat → Option α} {r : α} (h : Fin g r) (hs : ∀ k, f (k + 1) = g k) : Fin f r := by
  obtain ⟨K, hK⟩ := h
  refine ⟨K + 1, fun k hk => ?_⟩
  obtain ⟨k', rfl⟩ : ∃ k', k = k' + 1 := ⟨k - 1, by omega⟩
  rw [hs]
  exact hK k' (by omega)
theorem Fin.one {α : Type} {f : Nat → Option α} {r : α} (hs : ∀ k, f (k + 1) = some r) : Fin f r := by
  refine ⟨1, fun k hk => ?_⟩
  obtain ⟨k', rfl⟩ : ∃ k', k = k' + 1 := ⟨k - 1, by omega⟩
  exact hs k'
theorem Fin.bind {α β : Type} {f : Nat → Option α} {a : α} {g : Nat → α → Option β} {r : β} (h : Fin f a) (hg : Fin (fun k => g k a) r) : Fin (fun k => (f k).bind (g k)) r := by
  obtain ⟨K, hK⟩ := h
  obtain ⟨M, hM⟩ := hg
  exact ⟨max K M, fun k hk => by
    show (f k).bind (g k) = _
    rw [hK k (by omega), Option.bind_some]
    exact hM k (by omega)⟩
theorem wrapN (n : Nat) (h : n < 9223372036854775807) : wrap64 ((n : Int) + 1) = ((n + 1 : Nat) : Int) := by simp only [wrap64]; omega
/-- A table. -/
structure Tb where
  mv : List (List S48)
  gt : List (List Int)
/-- A table has states, kinds, and rows of one length. -/
def Even (T : Tb) : Prop := 0 < T.mv.length ∧ 0 < (rd_L2 T.mv 0).length ∧ T.gt.length = T.mv.length ∧ ∀ s : Nat, s < T.mv.length → (rd_L2 T.mv s).length = (rd_L2 T.mv 0).length ∧ (rd_L3 T.gt s).length = (rd_L3 T.gt 0).length
theorem even_fin (T : Tb) (hl : T.mv.length ≤ 9223372036854775807) (hg : T.gt.length = T.mv.length) (r : Bool) (hr : r = true ↔ ∀ s : Nat, s < T.mv.length → (rd_L2 T.mv s).length = (rd_L2 T.mv 0).length ∧ (rd_L3 T.gt s).length = (rd_L3 T.gt 0).length) :
    ∀ (n i : Nat), i + n = T.mv.length → (∀ s : Nat, s < i → (rd_L2 T.mv s).length = (rd_L2 T.mv 0).length ∧ (rd_L3 T.gt s).length = (rd_L3 T.gt 0).length) → Fin (fun k => table_even.l0 k T.mv.length i T.mv T.gt) r ∧ Fin (fun k => quoinref17_rows.l0 k T.mv.length i T.mv T.gt) r
  | 0, i, h, hi => by
    obtain rfl : i = T.mv.length := by omega
    rw [hr.2 hi]
    refine ⟨Fin.one (fun k => ?_), Fin.one (fun k => ?_)⟩
    · show table_even.l0 (k + 1) _ _ _ _ = _
      rw [table_even.l0, if_neg (by omega)]
    · show quoinref17_rows.l0 (k + 1) _ _ _ _ = _
      rw [quoinref17_rows.l0, if_neg (by omega)]
  | n + 1, i, h, hi => by
    by_cases c1 : (rd_L2 T.mv i).length = (rd_L2 T.mv 0).length
    · by_cases c2 : (rd_L3 T.gt i).length = (rd_L3 T.gt 0).length
      · obtain ⟨h1, h2⟩ := even_fin T hl hg r hr n (i + 1) (by omega) (fun s hs => by
          by_cases e : s = i
          · subst e
            exact ⟨c1, c2⟩
          · exact hi s (by omega))
        refine ⟨h1.step (fun k => ?_), h2.step (fun k => ?_)⟩
        · show table_even.l0 (k + 1) _ _ _ _ = _
          rw [table_even.l0, if_pos (by omega), if_pos (by omega), if_pos (by omega), if_pos (by omega), if_pos (by omega), if_pos (by omega), if_pos (by omega), if_pos (by omega), wrapN _ (by omega)]
        · show quoinref17_rows.l0 (k + 1) _ _ _ _ = _
          rw [quoinref17_rows.l0, if_pos (by omega), if_pos (by omega), if_pos (by omega), if_pos (by omega), if_pos (by omega), if_pos (by omega), if_pos (by omega), if_pos (by omega), wrapN _ (by omega)]
      · have hf : r = false := by
          rw [← Bool.not_eq_true]
          exact fun e => c2 (hr.1 e i (by omega)).2
        rw [hf]
        refine ⟨Fin.one (fun k => ?_), Fin.one (fun k => ?_)⟩
        · show table_even.l0 (k + 1) _ _ _ _ = _
          rw [table_even.l0, if_pos (by omega), if_pos (by omega), if_pos (by omega), if_pos (by omega), if_pos (by omega), if_pos (by omega), if_pos (by omega), if_neg (by omega)]
        · show quoinref17_rows.l0 (k + 1) _ _ _ _ = _
          rw [quoinref17_rows.l0, if_pos (by omega), if_pos (by omega), if_pos (by omega), if_pos (by omega), if_pos (by omega), if_pos (by omega), if_pos (by omega), if_neg (by omega)]
    · have hf : r = false := by
        rw [← Bool.not_eq_true]
        exact fun e => c1 (hr.1 e i (by omega)).1
      rw [hf]
      refine ⟨Fin.one (fun k => ?_), Fin.one (fun k => ?_)⟩
      · show table_even.l0 (k + 1) _ _ _ _ = _
        rw [table_even.l0, if_pos (by omega), if_pos (by omega), if_pos (by omega), if_pos (by omega), if_neg (by omega)]
      · show quoinref17_rows.l0 (k + 1) _ _ _ _ = _
        rw [quoinref17_rows.l0, if_pos (by omega), if_pos (by omega), if_pos (by omega), if_pos (by omega), if_neg (by omega)]
/-- Both tell whether rows are even. -/
theorem even_some (T : Tb) (hl : T.mv.length ≤ 9223372036854775807) : ∃ r : Bool, (r = true ↔ Even T) ∧ Fin (fun k => table_even.f k T.mv T.gt) r ∧ Fin (fun k => quoinref17_rows.f k T.mv T.gt) r := by
  have n1 : ∀ b : Bool, b = true → Fin (fun k => table_even.j0 k b T.mv T.gt) false := fun b hb => Fin.one (fun k => by
    show table_even.j0 (k + 1) _ _ _ = _
    rw [table_even.j0, if_pos hb])
  have n2 : ∀ b : Bool, b = true → Fin (fun k => quoinref17_rows.j0 k T.mv.length b T.mv T.gt) false := fun b hb => Fin.one (fun k => by
    show quoinref17_rows.j0 (k + 1) _ _ _ _ = _
    rw [quoinref17_rows.j0, if_pos hb])
  by_cases h0 : T.mv.length = 0
  · refine ⟨false, ⟨fun h => (by cases h), fun h => by have := h.1; omega⟩, ?_, ?_⟩
    · simp only [table_even.f, if_pos (show (T.mv.length : Int) = 0 by omega)]
      exact n1 _ rfl
    · simp only [quoinref17_rows.f, if_pos (show (T.mv.length : Int) < 1 by omega)]
      exact n2 _ rfl
  by_cases h1 : T.gt.length = T.mv.length
  case neg =>
    refine ⟨false, ⟨fun h => (by cases h), fun h => absurd h.2.2.1 h1⟩, ?_, ?_⟩
    · simp only [table_even.f, if_neg (show ¬ (T.mv.length : Int) = 0 by omega), if_pos (show 0 < (T.mv.length : Int) by omega)]
      by_cases h2 : ((rd_L2 T.mv 0).length : Int) = 0
      · simp only [if_pos h2]
        exact n1 _ rfl
      · simp only [if_neg h2]
        exact n1 _ (by rw [bne_iff_ne]; omega)
    · simp only [quoinref17_rows.f, if_neg (show ¬ (T.mv.length : Int) < 1 by omega), if_neg (show ¬ (T.gt.length : Int) = T.mv.length by omega)]
      exact n2 _ rfl
  by_cases h2 : (rd_L2 T.mv 0).length = 0
  · refine ⟨false, ⟨fun h => (by cases h), fun h => by have := h.2.1; omega⟩, ?_, ?_⟩
    · simp only [table_even.f, if_neg (show ¬ (T.mv.length : Int) = 0 by omega), if_pos (show 0 < (T.mv.length : Int) by omega), if_pos (show ((rd_L2 T.mv 0).length : Int) = 0 by omega)]
      exact n1 _ rfl
    · simp only [quoinref17_rows.f, if_neg (show ¬ (T.mv.length : Int) < 1 by omega), if_pos (show (T.gt.length : Int) = T.mv.length by omega), if_pos (show 0 < (T.mv.length : Int) by omega)]
      exact n2 _ (decide_eq_true (by omega))
  obtain ⟨r, hr⟩ : ∃ r : Bool, r = true ↔ ∀ s : Nat, s < T.mv.length → (rd_L2 T.mv s).length = (rd_L2 T.mv 0).length ∧ (rd_L3 T.gt s).length = (rd_L3 T.gt 0).length := by
    by_cases hu : ∀ s : Nat, s < T.mv.length → (rd_L2 T.mv s).length = (rd_L2 T.mv 0).length ∧ (rd_L3 T.gt s).length = (rd_L3 T.gt 0).length
    · exact ⟨true, ⟨fun _ => hu, fun _ => rfl⟩⟩
    · exact ⟨false, ⟨fun h => (by cases h), fun h => absurd h hu⟩⟩
  obtain ⟨e1, e2⟩ := even_fin T hl h1 r hr T.mv.length 0 (by omega) (fun s hs => absurd hs (by omega))
  refine ⟨r, ⟨fun h => ⟨by omega, by omega, h1, hr.1 h⟩, fun h => hr.2 h.2.2.2⟩, ?_, ?_⟩
  · simp only [table_even.f, if_neg (show ¬ (T.mv.length : Int) = 0 by omega), if_pos (show 0 < (T.mv.length : Int) by omega), if_neg (show ¬ ((rd_L2 T.mv 0).length : Int) = 0 by omega)]
    refine e1.step (fun k => ?_)
    show table_even.j0 (k + 1) _ _ _ = _
    rw [table_even.j0, if_neg (by rw [Bool.not_eq_true, bne_eq_false_iff_eq]; omega)]
    rfl
  · simp only [quoinref17_rows.f, if_neg (show ¬ (T.mv.length : Int) < 1 by omega), if_pos (show (T.gt.length : Int) = T.mv.length by omega), if_pos (show 0 < (T.mv.length : Int) by omega)]
    refine e2.step (fun k => ?_)
    show quoinref17_rows.j0 (k + 1) _ _ _ _ = _
    rw [quoinref17_rows.j0, if_neg (by rw [Bool.not_eq_true]; exact decide_eq_false (by omega))]
    rfl
theorem drop_48 {l : List S48} {i : Nat} (h : i < l.length) : l.drop i = rd_T48 l i :: l.drop (i + 1) := by
  rw [List.drop_eq_getElem_cons h]
  simp [rd_T48, List.getD_eq_getElem?_getD, List.getElem?_eq_getElem h]
end Go.Proofs.Ytlpmjmanmncmnaa.Tab
/-
A region that draws its order, walked by hand: each step in one short line.
-/
set_option linter.unusedSimpArgs false
set_option linter.unusedVariables false
namespace Go.Proofs.Ytlpmjmanmncmnaa.Fr
open Go.RowKit Go.Proofs.YtlpmjmanmncmnaaW.PrintWords Go.Proofs.YtlpmjmanmncmnaaW.PrintLast Go.Proofs.YtlpmjmanmncmnaaW.PrintMore
section
variable {P : Program} {ops : Array Oper} {Q : Exit → Act → World → Prop} {md : Region.Mode} {S : World → Prop} {ds : List Nat}
/-- An operation that yields in every world of S is taken. -/
theorem tk (i : Nat) {oi : Oper} {v : Value} {fuel : Nat} {listed : Array Bool} {a a' : Act} {w : World}
    (h : wpAnyLast P md ops Q S ds fuel (listed.setIfInBounds i true) a' w)
    (hi : ops[i]? = some oi := by (first | (simp only [List.getElem?_toArray, List.getElem?_cons_zero]; rfl) | (simp only [List.getElem?_toArray, List.getElem?_cons_succ, List.getElem?_cons_zero]; rfl)))
    (hs : Region.noSelect ops = true := by kernel_rfl) (hf : Region.free md ops listed i = true := by kernel_rfl) (hr : (Region.ready md ops listed).contains i = true := by kernel_rfl)
    (hc : Region.closedB md ops listed = true := by kernel_rfl) (hl : Region.lastB md ops listed ds i = true := by kernel_rfl)
    (hy : YieldsIf P ops S oi v a := by (refine Or.inl ⟨by rfl, ?_⟩; intro w0 hSw; (try dsimp only at hSw); go_simp; try with_reducible rfl))
    (ha : a.put oi.dst v = a' := by ((try simp only [Act.put, List.setIfInBounds_toArray, List.set_cons_zero, List.set_cons_succ]); rfl))
    (hQ : ∀ c a w, Q (.panic c) (a.put oi.dst v) w → Q (.panic c) a w := by exact fun _ _ _ h => h) (hS : S w := by assumption) : wpAnyLast P md ops Q S ds (fuel + 1) listed a w := by
  subst ha
  exact wpAnyLast_take hi hs hf hr hc hl hQ hy hS h
/-- An operation that alone may come up. -/
theorem on (i : Nat) {o : Oper} {fuel : Nat} {listed : Array Bool} {a : Act} {w : World}
    (h : ∀ K' : Act → World → Prop, Shut (∀ a w, S w → (S w → wpAnyLast P md ops Q S ds fuel (listed.setIfInBounds i true) a w) → K' a w) → if Region.wanted o (yielded ops a.tmps) = true then Oper.wp P o a w K' Q else K' (a.put o.dst undef) w)
    (ho : ops[i]? = some o := by (first | (simp only [List.getElem?_toArray, List.getElem?_cons_zero]; rfl) | (simp only [List.getElem?_toArray, List.getElem?_cons_succ, List.getElem?_cons_zero]; rfl)))
    (hr : Region.ready md ops listed = [i] := by kernel_rfl) (hd : i ∉ ds := by decide) : wpAnyLast P md ops Q S ds (fuel + 1) listed a w :=
  wpAnyLast_ready hr (by simp) (AllReadyL.cons ho hd h AllReadyL.nil)
/-- One of ds that alone may come up: nothing is shown behind it. -/
theorem onl (i : Nat) {o : Oper} {fuel : Nat} {listed : Array Bool} {a : Act} {w : World}
    (h : ∀ K' : Act → World → Prop, Shut (∀ a w, wpAnyLast P md ops Q S ds fuel (listed.setIfInBounds i true) a w → K' a w) → if Region.wanted o (yielded ops a.tmps) = true then Oper.wp P o a w K' Q else K' (a.put o.dst undef) w)
    (ho : ops[i]? = some o := by (first | (simp only [List.getElem?_toArray, List.getElem?_cons_zero]; rfl) | (simp only [List.getElem?_toArray, List.getElem?_cons_succ, List.getElem?_cons_zero]; rfl)))
    (hr : Region.ready md ops listed = [i] := by kernel_rfl) (hd : i ∈ ds := by decide) : wpAnyLast P md ops Q S ds (fuel + 1) listed a w :=
  wpAnyLast_ready hr (by simp) (AllReadyL.cons_last ho hd h AllReadyL.nil)
/-- All came up. -/
theorem dn {listed : Array Bool} {a : Act} {w : World} {fuel : Nat} (h : Q .normal a w) (hr : Region.ready md ops listed = [] := by kernel_rfl) : wpAnyLast P md ops Q S ds fuel listed a w := wpAnyLast_done hr h fuel
end
end Go.Proofs.Ytlpmjmanmncmnaa.Fr
