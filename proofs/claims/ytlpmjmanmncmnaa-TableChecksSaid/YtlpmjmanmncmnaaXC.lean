/-
What the reference says of a table's rows, of a row's default and of whether a table may be: in plain Lean.
-/
import Derived.Test.YtlpmjmanmncmnaaXA
import Derived.Test.YtlpmjmanmncmnaaPTA
namespace Go.Proofs.Ytlpmjmanmncmnaa.Tab
open Go.RowKit Go.Maps Go.Proofs.YtlpmjmanmncmnaaW.PrintWords Go.Proofs.YtlpmjmanmncmnaaW.PrintLast Go.Proofs.YtlpmjmanmncmnaaW.PrintMore Go.Proofs.Ytlpmjmanmncmnaa.Fr Go.Proofs.Ytlpmjmanmncmnaa.PT

/-- A function of fuel answers r, from some fuel on. -/
def Fin {α : Type} (f : Nat → Option α) (r : α) : Prop := ∃ K, ∀ k, K ≤ k → f k = some r
theorem Fin.get {α : Type} {f : Nat → Option α} {r : α} (h : Fin f r) : ∃ k, f k = some r := by
  obtain ⟨K, hK⟩ := h
  exact ⟨K, hK K (Nat.le_refl _)⟩
theorem Fin.step {α : Type} {f g : Nat → Option α} {r : α} (h : Fin g r) (hs : ∀ k, f (k + 1) = g k) : Fin f r := by
  obtain ⟨K, hK⟩ := h
  refine ⟨K + 1, fun k hk => ?_⟩
  obtain ⟨k', rfl⟩ : ∃ k', k = k' + 1 := ⟨k - 1, by omega⟩
  rw [hs]
  exact hK k' (by omega)
theorem Fin.one {α : Type} {f : Nat → Option α} {r : α} (hs : ∀ k, f (k + 1) = some r) : Fin f r := by
  refine ⟨1, fun k hk => ?_⟩
  obtain ⟨k', rfl⟩ : ∃ k', k = k' + 1 := ⟨k - 1, by omega⟩
  exact hs k'
theorem Fin.bind {α β : Type} {f : Nat → Option α} {a : α} {g : Nat → α → Option β} {r : β} (h : Fin f a) (hg : Fin (fun k => g k a) r) : Fin (fun k => (f k).bind (g k)) r := by
  obtain ⟨K, hK⟩ := h
  obtain ⟨M, hM⟩ := hg
  exact ⟨max K M, fun k hk => by
    show (f k).bind (g k) = _
    rw [hK k (by omega), Option.bind_some]
    exact hM k (by omega)⟩
theorem wrapN (n : Nat) (h : n < 9223372036854775807) : wrap64 ((n : Int) + 1) = ((n + 1 : Nat) : Int) := by simp only [wrap64]; omega

/-- A table. -/
structure Tb where
  mv : List (List S48)
  gt : List (List Int)
def row0 (l : List (List S48)) : List S48 := rd_L2 l 0
def goto0 (l : List (List Int)) : List Int := rd_L3 l 0
/-- A table has states, kinds, and rows of one length. -/
def Even (T : Tb) : Prop := 0 < T.mv.length ∧ 0 < (rd_L2 T.mv 0).length ∧ T.gt.length = T.mv.length ∧ ∀ s : Nat, s < T.mv.length → (rd_L2 T.mv s).length = (rd_L2 T.mv 0).length ∧ (rd_L3 T.gt s).length = (rd_L3 T.gt 0).length
theorem even_fin (T : Tb) (hl : T.mv.length ≤ 9223372036854775807) (hg : T.gt.length = T.mv.length) (r : Bool) (hr : r = true ↔ ∀ s : Nat, s < T.mv.length → (rd_L2 T.mv s).length = (rd_L2 T.mv 0).length ∧ (rd_L3 T.gt s).length = (rd_L3 T.gt 0).length) :
    ∀ (n i : Nat), i + n = T.mv.length → (∀ s : Nat, s < i → (rd_L2 T.mv s).length = (rd_L2 T.mv 0).length ∧ (rd_L3 T.gt s).length = (rd_L3 T.gt 0).length) → Fin (fun k => table_even.l0 k T.mv.length i T.mv T.gt) r ∧ Fin (fun k => quoinref17_rows.l0 k T.mv.length i T.mv T.gt) r
  | 0, i, h, hi => by
    obtain rfl : i = T.mv.length := by omega
    rw [hr.2 hi]
    refine ⟨Fin.one (fun k => ?_), Fin.one (fun k => ?_)⟩
    · show table_even.l0 (k + 1) _ _ _ _ = _
      rw [table_even.l0, if_neg (by omega)]
    · show quoinref17_rows.l0 (k + 1) _ _ _ _ = _
      rw [quoinref17_rows.l0, if_neg (by omega)]
  | n + 1, i, h, hi => by
    by_cases c1 : (rd_L2 T.mv i).length = (rd_L2 T.mv 0).length
    · by_cases c2 : (rd_L3 T.gt i).length = (rd_L3 T.gt 0).length
      · obtain ⟨h1, h2⟩ := even_fin T hl hg r hr n (i + 1) (by omega) (fun s hs => by
          by_cases e : s = i
          · subst e
            exact ⟨c1, c2⟩
          · exact hi s (by omega))
        refine ⟨h1.step (fun k => ?_), h2.step (fun k => ?_)⟩
        · show table_even.l0 (k + 1) _ _ _ _ = _
          rw [table_even.l0, if_pos (by omega), if_pos (by omega), if_pos (by omega), if_pos (by omega), if_pos (by omega), if_pos (by omega), if_pos (by omega), if_pos (by omega), wrapN _ (by omega)]
        · show quoinref17_rows.l0 (k + 1) _ _ _ _ = _
          rw [quoinref17_rows.l0, if_pos (by omega), if_pos (by omega), if_pos (by omega), if_pos (by omega), if_pos (by omega), if_pos (by omega), if_pos (by omega), if_pos (by omega), wrapN _ (by omega)]
      · have hf : r = false := by
          rw [← Bool.not_eq_true]
          exact fun e => c2 (hr.1 e i (by omega)).2
        rw [hf]
        refine ⟨Fin.one (fun k => ?_), Fin.one (fun k => ?_)⟩
        · show table_even.l0 (k + 1) _ _ _ _ = _
          rw [table_even.l0, if_pos (by omega), if_pos (by omega), if_pos (by omega), if_pos (by omega), if_pos (by omega), if_pos (by omega), if_pos (by omega), if_neg (by omega)]
        · show quoinref17_rows.l0 (k + 1) _ _ _ _ = _
          rw [quoinref17_rows.l0, if_pos (by omega), if_pos (by omega), if_pos (by omega), if_pos (by omega), if_pos (by omega), if_pos (by omega), if_pos (by omega), if_neg (by omega)]
    · have hf : r = false := by
        rw [← Bool.not_eq_true]
        exact fun e => c1 (hr.1 e i (by omega)).1
      rw [hf]
      refine ⟨Fin.one (fun k => ?_), Fin.one (fun k => ?_)⟩
      · show table_even.l0 (k + 1) _ _ _ _ = _
        rw [table_even.l0, if_pos (by omega), if_pos (by omega), if_pos (by omega), if_pos (by omega), if_neg (by omega)]
      · show quoinref17_rows.l0 (k + 1) _ _ _ _ = _
        rw [quoinref17_rows.l0, if_pos (by omega), if_pos (by omega), if_pos (by omega), if_pos (by omega), if_neg (by omega)]
/-- Both tell whether rows are even. -/
theorem even_some (T : Tb) (hl : T.mv.length ≤ 9223372036854775807) : ∃ r : Bool, (r = true ↔ Even T) ∧ Fin (fun k => table_even.f k T.mv T.gt) r ∧ Fin (fun k => quoinref17_rows.f k T.mv T.gt) r := by
  have n1 : ∀ b : Bool, b = true → Fin (fun k => table_even.j0 k b T.mv T.gt) false := fun b hb => Fin.one (fun k => by
    show table_even.j0 (k + 1) _ _ _ = _
    rw [table_even.j0, if_pos hb])
  have n2 : ∀ b : Bool, b = true → Fin (fun k => quoinref17_rows.j0 k T.mv.length b T.mv T.gt) false := fun b hb => Fin.one (fun k => by
    show quoinref17_rows.j0 (k + 1) _ _ _ _ = _
    rw [quoinref17_rows.j0, if_pos hb])
  by_cases h0 : T.mv.length = 0
  · refine ⟨false, ⟨fun h => (by cases h), fun h => by have := h.1; omega⟩, ?_, ?_⟩
    · simp only [table_even.f, if_pos (show (T.mv.length : Int) = 0 by omega)]
      exact n1 _ rfl
    · simp only [quoinref17_rows.f, if_pos (show (T.mv.length : Int) < 1 by omega)]
      exact n2 _ rfl
  by_cases h1 : T.gt.length = T.mv.length
  case neg =>
    refine ⟨false, ⟨fun h => (by cases h), fun h => absurd h.2.2.1 h1⟩, ?_, ?_⟩
    · simp only [table_even.f, if_neg (show ¬ (T.mv.length : Int) = 0 by omega), if_pos (show 0 < (T.mv.length : Int) by omega)]
      by_cases h2 : ((rd_L2 T.mv 0).length : Int) = 0
      · simp only [if_pos h2]
        exact n1 _ rfl
      · simp only [if_neg h2]
        exact n1 _ (by rw [bne_iff_ne]; omega)
    · simp only [quoinref17_rows.f, if_neg (show ¬ (T.mv.length : Int) < 1 by omega), if_neg (show ¬ (T.gt.length : Int) = T.mv.length by omega)]
      exact n2 _ rfl
  by_cases h2 : (rd_L2 T.mv 0).length = 0
  · refine ⟨false, ⟨fun h => (by cases h), fun h => by have := h.2.1; omega⟩, ?_, ?_⟩
    · simp only [table_even.f, if_neg (show ¬ (T.mv.length : Int) = 0 by omega), if_pos (show 0 < (T.mv.length : Int) by omega), if_pos (show ((rd_L2 T.mv 0).length : Int) = 0 by omega)]
      exact n1 _ rfl
    · simp only [quoinref17_rows.f, if_neg (show ¬ (T.mv.length : Int) < 1 by omega), if_pos (show (T.gt.length : Int) = T.mv.length by omega), if_pos (show 0 < (T.mv.length : Int) by omega)]
      exact n2 _ (decide_eq_true (by omega))
  obtain ⟨r, hr⟩ : ∃ r : Bool, r = true ↔ ∀ s : Nat, s < T.mv.length → (rd_L2 T.mv s).length = (rd_L2 T.mv 0).length ∧ (rd_L3 T.gt s).length = (rd_L3 T.gt 0).length := by
    by_cases hu : ∀ s : Nat, s < T.mv.length → (rd_L2 T.mv s).length = (rd_L2 T.mv 0).length ∧ (rd_L3 T.gt s).length = (rd_L3 T.gt 0).length
    · exact ⟨true, ⟨fun _ => hu, fun _ => rfl⟩⟩
    · exact ⟨false, ⟨fun h => (by cases h), fun h => absurd h hu⟩⟩
  obtain ⟨e1, e2⟩ := even_fin T hl h1 r hr T.mv.length 0 (by omega) (fun s hs => absurd hs (by omega))
  refine ⟨r, ⟨fun h => ⟨by omega, by omega, h1, hr.1 h⟩, fun h => hr.2 h.2.2.2⟩, ?_, ?_⟩
  · simp only [table_even.f, if_neg (show ¬ (T.mv.length : Int) = 0 by omega), if_pos (show 0 < (T.mv.length : Int) by omega), if_neg (show ¬ ((rd_L2 T.mv 0).length : Int) = 0 by omega)]
    refine e1.step (fun k => ?_)
    show table_even.j0 (k + 1) _ _ _ = _
    rw [table_even.j0, if_neg (by rw [Bool.not_eq_true, bne_eq_false_iff_eq]; omega)]
    rfl
  · simp only [quoinref17_rows.f, if_neg (show ¬ (T.mv.length : Int) < 1 by omega), if_pos (show (T.gt.length : Int) = T.mv.length by omega), if_pos (show 0 < (T.mv.length : Int) by omega)]
    refine e2.step (fun k => ?_)
    show quoinref17_rows.j0 (k + 1) _ _ _ _ = _
    rw [quoinref17_rows.j0, if_neg (by rw [Bool.not_eq_true]; exact decide_eq_false (by omega))]
    rfl
/-- Of the rows up to a place: the best so far, as the reference keeps it. -/
def RBest (row : List S48) (i : Nat) (b m : Int) : Prop :=
  (b = -1 ∧ m = 0 ∧ ∀ j : Nat, j < i → (rd_T48 row j).f0 ≠ 2) ∨ (∃ j : Nat, j < i ∧ (rd_T48 row j).f0 = 2 ∧ b = (rd_T48 row j).f1 ∧ m = cntR row b ∧ ∀ j : Nat, j < i → (rd_T48 row j).f0 = 2 → cntR row (rd_T48 row j).f1 < cntR row b ∨ cntR row (rd_T48 row j).f1 = cntR row b ∧ b ≤ (rd_T48 row j).f1)
theorem rbest_end {row : List S48} {b m : Int} (h : RBest row row.length b m) : IsUsual row (if b < 0 then if m = 0 then ⟨0, 0⟩ else ⟨2, b⟩ else ⟨2, b⟩) := by
  rcases h with ⟨rfl, rfl, h⟩ | ⟨j, hj, h2, hb, hm, h⟩
  · refine .inl ⟨rfl, fun n => ?_⟩
    rcases Nat.eq_zero_or_pos (cntR row n) with h0 | h0
    · exact h0
    · obtain ⟨x, hx, hx2, _⟩ := cnt_mem h0
      obtain ⟨k, hk, rfl⟩ := List.mem_iff_getElem.1 hx
      have := h k hk
      simp only [rd_T48, Int.toNat_natCast, List.getD_eq_getElem?_getD, List.getElem?_eq_getElem hk, Option.getD_some] at this
      exact absurd hx2 this
  · have hp : 0 < cntR row b := by rw [hb]; exact cnt_pos (rd_mem hj) h2
    have e : (if b < 0 then if m = 0 then (⟨0, 0⟩ : S48) else ⟨2, b⟩ else ⟨2, b⟩) = ⟨2, b⟩ := by
      split
      · rw [if_neg (by omega)]
      · rfl
    rw [e]
    refine .inr ⟨rfl, hp, fun n hn => ?_⟩
    obtain ⟨x, hx, hx2, rfl⟩ := cnt_mem hn
    obtain ⟨k, hk, rfl⟩ := List.mem_iff_getElem.1 hx
    have := h k hk
    simp only [rd_T48, Int.toNat_natCast, List.getD_eq_getElem?_getD, List.getElem?_eq_getElem hk, Option.getD_some] at this
    exact this hx2
theorem drop_48 {l : List S48} {i : Nat} (h : i < l.length) : l.drop i = rd_T48 l i :: l.drop (i + 1) := by
  rw [List.drop_eq_getElem_cons h]
  simp [rd_T48, List.getD_eq_getElem?_getD, List.getElem?_eq_getElem h]
theorem cnt_split (row : List S48) (i : Nat) (n : Int) : cntR (row.drop i) n ≤ row.length - i := by
  have := cnt_le (row.drop i) n
  rwa [List.length_drop] at this
/-- Equal moves are counted, as the reductions by one production. -/
theorem u1_fin (row : List S48) (hl : row.length ≤ 4611686018427387904) (i : Nat) (hi : i < row.length) (h2 : (rd_T48 row i).f0 = 2) (b m : Int) (r : Int × Int) :
    ∀ (n k : Nat) (q : Nat), k + n = row.length → q ≤ k → Fin (fun f => quoinref17_usual.l1 f row b m i ((q + cntR (row.drop k) (rd_T48 row i).f1 : Nat) : Int) (row.length : Int)) r → Fin (fun f => quoinref17_usual.l1 f row b m i q k) r
  | 0, k, q, h, hq, hr => by
    obtain rfl : k = row.length := by omega
    rw [List.drop_length] at hr
    exact hr
  | n + 1, k, q, h, hq, hr => by
    rw [drop_48 (by omega : k < row.length)] at hr
    by_cases c : isR (rd_T48 row i).f1 (rd_T48 row k) = true
    · refine (u1_fin row hl i hi h2 b m r n (k + 1) (q + 1) (by omega) (by omega) ?_).step (fun f => ?_)
      · have e : q + cntR (rd_T48 row k :: row.drop (k + 1)) (rd_T48 row i).f1 = q + 1 + cntR (row.drop (k + 1)) (rd_T48 row i).f1 := by
          simp only [cntR, List.countP_cons, c, if_pos]
          omega
        rw [e] at hr
        exact hr
      · show quoinref17_usual.l1 (f + 1) _ _ _ _ _ _ = _
        rw [quoinref17_usual.l1, if_pos (by omega), if_pos (by omega), if_pos (by omega), if_pos (by omega), if_pos (by
          simp only [isR, Bool.and_eq_true, beq_iff_eq] at c
          rw [c.1, c.2, h2]
          simp), wrapN _ (by omega), wrapN _ (by omega)]
    · refine (u1_fin row hl i hi h2 b m r n (k + 1) q (by omega) (by omega) ?_).step (fun f => ?_)
      · have e : q + cntR (rd_T48 row k :: row.drop (k + 1)) (rd_T48 row i).f1 = q + cntR (row.drop (k + 1)) (rd_T48 row i).f1 := by
          simp only [cntR, List.countP_cons, c]
          simp
        rw [e] at hr
        exact hr
      · show quoinref17_usual.l1 (f + 1) _ _ _ _ _ _ = _
        rw [quoinref17_usual.l1, if_pos (by omega), if_pos (by omega), if_pos (by omega), if_pos (by omega), if_neg (by
          intro e
          apply c
          rw [h2] at e
          simpa [isR] using e), wrapN _ (by omega)]
theorem u0_fin (row : List S48) (hl : row.length ≤ 4611686018427387904) (r : Int × Int) (hr : ∀ m, IsUsual row m → r = (m.f0, m.f1)) : ∀ (n i : Nat) (b m : Int), i + n = row.length → RBest row i b m → Fin (fun f => quoinref17_usual.l0 f row b m i) r
  | 0, i, b, m, h, hb => by
    obtain rfl : i = row.length := by omega
    rw [hr _ (rbest_end hb)]
    refine Fin.one (fun f => ?_)
    show quoinref17_usual.l0 (f + 1) _ _ _ _ = _
    rw [quoinref17_usual.l0, if_neg (by omega)]
    by_cases c : b < 0
    · rw [if_pos c, if_pos c]
      by_cases c2 : m = 0
      · rw [if_pos c2, if_pos c2]
      · rw [if_neg c2, if_neg c2]
    · rw [if_neg c, if_neg c]
  | n + 1, i, b, m, h, hb => by
    have hi : i < row.length := by omega
    by_cases h2 : (rd_T48 row i).f0 = 2
    · have hcl := cnt_le row (rd_T48 row i).f1
      refine (u1_fin row hl i hi h2 b m r row.length 0 0 (by omega) (by omega) ?_).step (fun f => ?_)
      · rw [List.drop_zero, Nat.zero_add]
        generalize hx : rd_T48 row i = x at h2
        have hpos : 0 < cntR row x.f1 := by rw [← hx]; rw [← hx] at h2; exact cnt_pos (rd_mem hi) h2
        have hw : wrap64 ((i : Int) + 1) = ((i + 1 : Nat) : Int) := wrapN _ (by omega)
        have hmb : m = 0 ∨ m = cntR row b := by
          rcases hb with ⟨_, h, _⟩ | ⟨_, _, _, _, h, _⟩
          · exact .inl h
          · exact .inr h
        have stepT : ∀ (b' m' : Int), RBest row (i + 1) b' m' → Fin (fun f => quoinref17_usual.l0 f row b' m' ((i + 1 : Nat) : Int)) r := fun b' m' hb' => u0_fin row hl r hr n (i + 1) b' m' (by omega) hb'
        have new : (m < cntR row x.f1 ∨ m = cntR row x.f1 ∧ x.f1 < b) → RBest row (i + 1) x.f1 (cntR row x.f1) := fun hc => by
          refine .inr ⟨i, by omega, by rw [hx]; exact h2, by rw [hx], rfl, fun j hj hj2 => ?_⟩
          by_cases e : j = i
          · subst e
            rw [hx]
            exact .inr ⟨rfl, Int.le_refl _⟩
          · rcases hb with ⟨_, _, h⟩ | ⟨_, _, _, _, hm, h⟩
            · exact absurd hj2 (h j (by omega))
            · have := h j (by omega) hj2
              omega
        have old : ¬ m < cntR row x.f1 → ¬ (m = cntR row x.f1 ∧ x.f1 < b) → RBest row (i + 1) b m := fun c1 c2 => by
          rcases hb with ⟨_, rfl, h⟩ | ⟨j, hj, hj2, hb, hm, h⟩
          · omega
          · refine .inr ⟨j, by omega, hj2, hb, hm, fun k hk hk2 => ?_⟩
            by_cases e : k = i
            · subst e
              rw [hx]
              omega
            · exact h k (by omega) hk2
        by_cases c1 : m < cntR row x.f1
        · refine (stepT _ _ (new (.inl c1))).step (fun f => ?_)
          show quoinref17_usual.l1 (f + 1) _ _ _ _ _ _ = _
          rw [quoinref17_usual.l1, if_neg (by omega), if_pos (by omega), if_pos (by omega), if_pos (by omega), hx, hw]
        · by_cases c2 : m = cntR row x.f1
          · by_cases c3 : x.f1 < b
            · refine (stepT _ _ (new (.inr ⟨c2, c3⟩))).step (fun f => ?_)
              show quoinref17_usual.l1 (f + 1) _ _ _ _ _ _ = _
              rw [quoinref17_usual.l1, if_neg (by omega), if_neg (by omega), if_pos (by omega), if_pos (by omega), if_pos (by omega), hx, if_pos c3, hw]
            · refine (stepT _ _ (old c1 (fun h => c3 h.2))).step (fun f => ?_)
              show quoinref17_usual.l1 (f + 1) _ _ _ _ _ _ = _
              rw [quoinref17_usual.l1, if_neg (by omega), if_neg (by omega), if_pos (by omega), if_pos (by omega), if_pos (by omega), hx, if_neg c3, hw]
          · refine (stepT _ _ (old c1 (fun h => c2 h.1))).step (fun f => ?_)
            show quoinref17_usual.l1 (f + 1) _ _ _ _ _ _ = _
            rw [quoinref17_usual.l1, if_neg (by omega), if_neg (by omega), if_neg (by omega), hw]
      · show quoinref17_usual.l0 (f + 1) _ _ _ _ = _
        rw [quoinref17_usual.l0, if_pos (by omega), if_pos (by omega), if_pos h2]
        rfl
    · refine (u0_fin row hl r hr n (i + 1) b m (by omega) ?_).step (fun f => ?_)
      · rcases hb with ⟨h1, h3, h⟩ | ⟨j, hj, hj2, hb, hm, h⟩
        · refine .inl ⟨h1, h3, fun k hk => ?_⟩
          by_cases e : k = i
          · subst e
            exact h2
          · exact h k (by omega)
        · refine .inr ⟨j, by omega, hj2, hb, hm, fun k hk hk2 => ?_⟩
          by_cases e : k = i
          · subst e
            exact absurd hk2 h2
          · exact h k (by omega) hk2
      · show quoinref17_usual.l0 (f + 1) _ _ _ _ = _
        rw [quoinref17_usual.l0, if_pos (by omega), if_pos (by omega), if_neg h2, wrapN _ (by omega)]
/-- The reference's default. -/
theorem refusual_some (row : List S48) (hl : row.length ≤ 4611686018427387904) (m : S48) (h : IsUsual row m) : ∃ k, quoinref17_usual.f k row = some (m.f0, m.f1) :=
  (u0_fin row hl (m.f0, m.f1) (fun k hk => by rw [usual_one h hk]) row.length 0 (-1) 0 (by omega) (.inl ⟨rfl, rfl, fun j hj => absurd hj (by omega)⟩)).get
theorem rbest_ex (row : List S48) : ∀ i : Nat, i ≤ row.length → ∃ b m : Int, RBest row i b m
  | 0, _ => ⟨-1, 0, .inl ⟨rfl, rfl, fun j hj => absurd hj (by omega)⟩⟩
  | i + 1, hi => by
    obtain ⟨b, m, hb⟩ := rbest_ex row i (by omega)
    by_cases h2 : (rd_T48 row i).f0 = 2
    · have hpos : 0 < cntR row (rd_T48 row i).f1 := cnt_pos (rd_mem (by omega)) h2
      by_cases hc : m < cntR row (rd_T48 row i).f1 ∨ m = cntR row (rd_T48 row i).f1 ∧ (rd_T48 row i).f1 < b
      · refine ⟨(rd_T48 row i).f1, cntR row (rd_T48 row i).f1, .inr ⟨i, by omega, h2, rfl, rfl, fun j hj hj2 => ?_⟩⟩
        by_cases e : j = i
        · subst e
          exact .inr ⟨rfl, Int.le_refl _⟩
        · rcases hb with ⟨_, _, h⟩ | ⟨_, _, _, _, hm, h⟩
          · exact absurd hj2 (h j (by omega))
          · have := h j (by omega) hj2
            omega
      · refine ⟨b, m, ?_⟩
        rcases hb with ⟨_, rfl, h⟩ | ⟨j, hj, hj2, hb, hm, h⟩
        · omega
        · refine .inr ⟨j, by omega, hj2, hb, hm, fun k hk hk2 => ?_⟩
          by_cases e : k = i
          · subst e
            omega
          · exact h k (by omega) hk2
    · refine ⟨b, m, ?_⟩
      rcases hb with ⟨h1, h3, h⟩ | ⟨j, hj, hj2, hb, hm, h⟩
      · refine .inl ⟨h1, h3, fun k hk => ?_⟩
        by_cases e : k = i
        · subst e
          exact h2
        · exact h k (by omega)
      · refine .inr ⟨j, by omega, hj2, hb, hm, fun k hk hk2 => ?_⟩
        by_cases e : k = i
        · subst e
          exact absurd hk2 h2
        · exact h k (by omega) hk2
theorem usual_ex (row : List S48) : ∃ m, IsUsual row m := by
  obtain ⟨b, m, h⟩ := rbest_ex row row.length (Nat.le_refl _)
  exact ⟨_, rbest_end h⟩
end Go.Proofs.Ytlpmjmanmncmnaa.Tab
