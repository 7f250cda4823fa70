/-
The least row of a symbol, laid down: gram.spell, walked.
-/
import Derived.Test.YtdngobjcdajogaaT7QS
import Derived.Test.YtdngobjcdajogaaT7QE
import Derived.Test.YtdngobjcdajogaaT7QT
import Derived.Test.YtdngobjcdajogaaT7QN
namespace Go.Proofs.Ytdngobjcdajogaa.Gram
open Go.RowKit Go.Proofs.YtdngobjcdajogaaW.PrintWords Go.Proofs.YtdngobjcdajogaaW.PrintLast Go.Proofs.YtdngobjcdajogaaW.PrintMore Go.Proofs.Ytdngobjcdajogaa.Fr Go.Proofs.Ytdngobjcdajogaa.PGramFirsts Go.Proofs.Ytdngobjcdajogaa.TextSet
theorem below_own {W0 W W1 : World} {v : Value} {l : List Int} (h : Below W0.heap.size W0 W) (hv : kI.R 3 W W0.heap.size (fun _ => True) v l) (hF : Fr (fun k => v.ownBlock = some k) W W1) : Below W0.heap.size W0 W1 :=
  h.trans (hF.below h.size (fun i hi e => by have := Kd.R_base hv i e; omega))
/-- What stands in a call of spell: the grammar's box, below it all that was. -/
structure SpW (W0 W W1 : World) (v : Value) (b : Nat) (cs : Array Value) (v' : Value) (l : List Int) : Prop where
  fr : Fr (fun k => v.ownBlock = some k) W W1
  bel : Below W0.heap.size W0 W1
  box : W1.heap[b]? = some (.cells cs 26 (0, 0))
  row : kI.R 3 W1 W0.heap.size (fun _ => True) v' l
  own : ∀ k, v'.ownBlock = some k → v.ownBlock = some k ∨ W.heap.size ≤ k
theorem SpW.go {W0 W W1 W2 : World} {v : Value} {b : Nat} {cs : Array Value} {v' : Value} {l : List Int} (h : SpW W0 W W1 v b cs v' l) (hF : Fr (fun _ => False) W1 W2) : SpW W0 W W2 v b cs v' l :=
  ⟨h.fr.trans hF (fun _ _ h => h.elim), h.bel.trans (hF.below h.bel.size (fun _ _ h => h)), hF.blk h.box id, hF.R h.row (fun _ _ => id), h.own⟩
theorem SpW.step {W0 W W1 W2 : World} {v : Value} {b : Nat} {cs : Array Value} {v' v2 : Value} {l l2 : List Int} (h : SpW W0 W W1 v b cs v' l) (hF : Fr (fun k => v'.ownBlock = some k) W1 W2) (hr : kI.R 3 W2 W0.heap.size (fun _ => True) v2 l2) (ho : ∀ k, v2.ownBlock = some k → v'.ownBlock = some k ∨ W1.heap.size ≤ k) : SpW W0 W W2 v b cs v2 l2 := by
  refine ⟨h.fr.trans hF (fun i hi e => (h.own i e).elim id (fun h2 => absurd hi (by omega))), below_own h.bel h.row hF, hF.blk h.box (fun e => ?_), hr, fun k hk => (ho k hk).elim (h.own k) (fun h2 => .inr (Nat.le_trans h.fr.size h2))⟩
  obtain ⟨c2, h2⟩ := Kd.R_typed h.row b e
  have h3 := h.box
  rw [h2] at h3
  injection h3 with h3
  injection h3 with _ h3
  exact absurd h3 (by decide)
end Go.Proofs.Ytdngobjcdajogaa.Gram
namespace Go.Proofs.Ytdngobjcdajogaa.Gram
open Go.RowKit Go.Proofs.YtdngobjcdajogaaW.PrintWords Go.Proofs.YtdngobjcdajogaaW.PrintLast Go.Proofs.YtdngobjcdajogaaW.PrintMore Go.Proofs.Ytdngobjcdajogaa.Fr Go.Proofs.Ytdngobjcdajogaa.PGramFirsts Go.Proofs.Ytdngobjcdajogaa.TextSet
def lenOf (K : Nat) (L : List Int) (x : Int) : Int := if x < K then 1 else rd L (x - K)
theorem siz_zero {G : Gr} {l : List Int} {n : Nat} (h : Siz G l n) : n = 0 → ∀ x, x ∈ l → ¬ x < G.kinds.length ∧ Der G false (x - G.kinds.length).toNat := by
  induction h with
  | nil => exact fun _ x hx => by cases hx
  | kind _ _ _ => exact fun e => by omega
  | @rule x l i m n hk hi hf _ _ ih1 ih2 =>
    intro e y hy
    rcases List.mem_cons.1 hy with rfl | hy
    · refine ⟨hk, ?_⟩
      rw [← hf]
      exact .mk i hi (fun j hj hlt => absurd hlt (ih1 (by omega) _ (rd_mem hj)).1) (fun j hj _ => (ih1 (by omega) _ (rd_mem hj)).2)
    · exact ih2 (by omega) y hy
end Go.Proofs.Ytdngobjcdajogaa.Gram
