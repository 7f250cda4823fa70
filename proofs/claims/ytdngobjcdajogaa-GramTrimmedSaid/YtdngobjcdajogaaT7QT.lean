/-
The productions by which rules make their least rows: gram.taken, walked.
-/
import Derived.Test.YtdngobjcdajogaaT7QS
import Derived.Test.YtdngobjcdajogaaT7QE
namespace Go.Proofs.Ytdngobjcdajogaa.Gram
open Go.RowKit Go.Proofs.YtdngobjcdajogaaW.PrintWords Go.Proofs.YtdngobjcdajogaaW.PrintLast Go.Proofs.YtdngobjcdajogaaW.PrintMore Go.Proofs.Ytdngobjcdajogaa.Fr Go.Proofs.Ytdngobjcdajogaa.PGramFirsts Go.Proofs.Ytdngobjcdajogaa.TextSet
theorem LeastOk.closed {G : Gr} {L : List Int} (h : LeastOk G L) (hP : ProdsOk G) {i : Nat} (hi : i < G.prods.length) : ClosedL G L i := fun h0 => by
  have hp := hP i hi
  obtain ⟨n, hn, e⟩ := size_sound h.sound _ 0 hp.2.2.2.syms h0
  change sizeF G.kinds.length L 0 _ = _ at e
  rw [Nat.zero_add] at e
  obtain ⟨a, ha⟩ := Int.eq_ofNat_of_zero_le hp.1
  have hz : Siz G [(G.kinds.length + a : Int)] n := by
    have := Siz.rule (G := G) (x := (G.kinds.length : Int) + a) (by omega) hi (by omega) hn .nil
    simpa using this
  have h3 := h.least a n hz
  rw [ha, e]
  exact h3
end Go.Proofs.Ytdngobjcdajogaa.Gram
