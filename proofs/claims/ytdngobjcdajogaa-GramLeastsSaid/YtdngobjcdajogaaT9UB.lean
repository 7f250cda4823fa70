/-
A grammar without what is of no use: what is known of it, plainly.
-/
import Derived.Test.YtdngobjcdajogaaT9QZ
import Derived.Test.YtdngobjcdajogaaT9QV
namespace Go.Proofs.Ytdngobjcdajogaa.Gram
open Go.RowKit Go.Proofs.YtdngobjcdajogaaW.PrintWords Go.Proofs.YtdngobjcdajogaaW.PrintLast Go.Proofs.YtdngobjcdajogaaW.PrintMore Go.Proofs.Ytdngobjcdajogaa.Fr Go.Proofs.Ytdngobjcdajogaa.PGramFirsts Go.Proofs.Ytdngobjcdajogaa.TextSet
theorem namesF_iff {ok : Bool} {l : List ByteArray} : ∀ {k : Nat}, namesF ok l k = true ↔ ok = true ∧ ∀ j, j < k → nameF l j = true
  | 0 => ⟨fun h => ⟨h, fun j hj => by omega⟩, fun h => h.1⟩
  | k + 1 => by
    simp only [namesF, Bool.and_eq_true]
    rw [namesF_iff (k := k)]
    constructor
    · rintro ⟨⟨h1, h2⟩, h3⟩
      refine ⟨h1, fun j hj => ?_⟩
      by_cases e : j = k
      · rw [e]; exact h3
      · exact h2 j (by omega)
    · rintro ⟨h1, h2⟩
      exact ⟨⟨h1, fun j hj => h2 j (by omega)⟩, h2 k (by omega)⟩
theorem nameF_iff {l : List ByteArray} {k : Nat} : nameF l k = true ↔ (1 ≤ (rdS l k).size ∧ (rdS l k).size ≤ 4096) ∧ ¬ rdS l k ∈ l.take k := by
  simp only [nameF, Bool.and_eq_true, decide_eq_true_eq, Bool.not_eq_true', ← inS_iff (ks := l.take k)]
  constructor
  · rintro ⟨h1, h2, h3⟩
    exact ⟨⟨by omega, by omega⟩, by rw [h3]; decide⟩
  · rintro ⟨⟨h1, h2⟩, h3⟩
    exact ⟨by omega, by omega, by cases hb : inS (rdS l k) (l.take k) with
      | false => rfl
      | true => exact absurd hb h3⟩
end Go.Proofs.Ytdngobjcdajogaa.Gram
