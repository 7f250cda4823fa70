/-
The reference's Same on equal tables.
-/
import Derived.Test.YtlpmjmanmncmnaaR1XE
import Derived.Test.YtlpmjmanmncmnaaR1PTB
set_option linter.unusedSimpArgs false
set_option linter.unusedVariables false
namespace Go.Proofs.Ytlpmjmanmncmnaa.Tab
open Go.RowKit Go.Proofs.YtlpmjmanmncmnaaW.PrintWords Go.Proofs.YtlpmjmanmncmnaaW.PrintLast Go.Proofs.YtlpmjmanmncmnaaW.PrintMore Go.Proofs.Ytlpmjmanmncmnaa.Fr Go.Proofs.Ytlpmjmanmncmnaa.PT
theorem sameMoves_fin (l : List S48) (hl : l.length ≤ 9223372036854775807) : ∀ (n i : Nat), i + n = l.length → Fin (fun k => quoinref17_SameMoves.l0 k l l i) true
  | 0, i, h => Fin.one (fun k => by
      show quoinref17_SameMoves.l0 (k + 1) _ _ _ = _
      rw [quoinref17_SameMoves.l0, if_neg (by omega)])
  | n + 1, i, h => (sameMoves_fin l hl n (i + 1) (by omega)).step (fun k => by
      show quoinref17_SameMoves.l0 (k + 1) _ _ _ = _
      rw [quoinref17_SameMoves.l0, if_pos (by omega), if_pos (by omega), if_pos (by omega), if_neg (by simp), wrapN _ (by omega)])
theorem sameInts_fin (l : List Int) (hl : l.length ≤ 9223372036854775807) : ∀ (n i : Nat), i + n = l.length → Fin (fun k => quoinref17_SameInts.l0 k l l i) true
  | 0, i, h => Fin.one (fun k => by
      show quoinref17_SameInts.l0 (k + 1) _ _ _ = _
      rw [quoinref17_SameInts.l0, if_neg (by omega)])
  | n + 1, i, h => (sameInts_fin l hl n (i + 1) (by omega)).step (fun k => by
      show quoinref17_SameInts.l0 (k + 1) _ _ _ = _
      rw [quoinref17_SameInts.l0, if_pos (by omega), if_pos (by omega), if_pos (by omega), if_pos rfl, wrapN _ (by omega)])
theorem same1_fin (m : List (List S48)) (g : List (List Int)) (hg : g.length ≤ 9223372036854775807) (hr : ∀ i : Nat, i < g.length → (rd_L3 g i).length ≤ 9223372036854775807) : ∀ (n i : Nat), i + n = g.length → Fin (fun k => quoinref17_Same.l1 k i m g m g) true
  | 0, i, h => Fin.one (fun k => by
      show quoinref17_Same.l1 (k + 1) _ _ _ _ _ = _
      rw [quoinref17_Same.l1, if_neg (by omega)])
  | n + 1, i, h => by
      have h1 := sameInts_fin (rd_L3 g i) (hr i (by omega)) (rd_L3 g i).length 0 (by omega)
      have h2 := same1_fin m g hg hr n (i + 1) (by omega)
      have h3 : Fin (fun k => (quoinref17_SameInts.f k (rd_L3 g i) (rd_L3 g i)).bind fun t => if t = true then quoinref17_Same.l1 k ((i + 1 : Nat) : Int) m g m g else some false) true := by
        refine Fin.bind (a := true) ?_ (by simpa using h2)
        obtain ⟨K, hK⟩ := h1
        exact ⟨K, fun k hk => by show quoinref17_SameInts.f k _ _ = _; rw [quoinref17_SameInts.f, if_pos rfl]; exact hK k hk⟩
      refine h3.step (fun k => ?_)
      show quoinref17_Same.l1 (k + 1) _ _ _ _ _ = _
      rw [quoinref17_Same.l1, if_pos (by omega), if_pos (by omega), if_pos (by omega), wrapN _ (by omega)]
theorem same0_fin (m : List (List S48)) (g : List (List Int)) (hm : m.length ≤ 9223372036854775807) (hg : g.length ≤ 9223372036854775807) (hs : ∀ i : Nat, i < m.length → (rd_L2 m i).length ≤ 9223372036854775807) (hr : ∀ i : Nat, i < g.length → (rd_L3 g i).length ≤ 9223372036854775807) : ∀ (n i : Nat), i + n = m.length → Fin (fun k => quoinref17_Same.l0 k i m g m g) true
  | 0, i, h => (same1_fin m g hg hr g.length 0 (by omega)).step (fun k => by
      show quoinref17_Same.l0 (k + 1) _ _ _ _ _ = _
      rw [quoinref17_Same.l0, if_neg (by omega)]
      rfl)
  | n + 1, i, h => by
      have h1 := sameMoves_fin (rd_L2 m i) (hs i (by omega)) (rd_L2 m i).length 0 (by omega)
      have h2 := same0_fin m g hm hg hs hr n (i + 1) (by omega)
      have h3 : Fin (fun k => (quoinref17_SameMoves.f k (rd_L2 m i) (rd_L2 m i)).bind fun t => if t = true then quoinref17_Same.l0 k ((i + 1 : Nat) : Int) m g m g else some false) true := by
        refine Fin.bind (a := true) ?_ (by simpa using h2)
        obtain ⟨K, hK⟩ := h1
        exact ⟨K, fun k hk => by show quoinref17_SameMoves.f k _ _ = _; rw [quoinref17_SameMoves.f, if_pos rfl]; exact hK k hk⟩
      refine h3.step (fun k => ?_)
      show quoinref17_Same.l0 (k + 1) _ _ _ _ _ = _
      rw [quoinref17_Same.l0, if_pos (by omega), if_pos (by omega), if_pos (by omega), wrapN _ (by omega)]
/-- Equal tables are the same. -/
theorem same_some (m : List (List S48)) (g : List (List Int)) (hm : m.length ≤ 9223372036854775807) (hg : g.length ≤ 9223372036854775807) (hs : ∀ i : Nat, i < m.length → (rd_L2 m i).length ≤ 9223372036854775807) (hr : ∀ i : Nat, i < g.length → (rd_L3 g i).length ≤ 9223372036854775807) : ∃ k, quoinref17_Same.f k m g m g = some true := by
  have h0 : Fin (fun k => quoinref17_Same.j0 k false m g m g) true := (same0_fin m g hm hg hs hr m.length 0 (by omega)).step (fun k => by
    show quoinref17_Same.j0 (k + 1) _ _ _ _ _ = _
    rw [quoinref17_Same.j0, if_neg (by simp)]
    rfl)
  obtain ⟨k, hk⟩ := h0.get
  refine ⟨k, ?_⟩
  rw [quoinref17_Same.f, if_pos rfl]
  have e : ((g.length : Int) != (g.length : Int)) = false := by simp
  rw [e]
  exact hk
end Go.Proofs.Ytlpmjmanmncmnaa.Tab
