/-
Which rules the start leads to: gram.reached, walked, as gram.Trim calls it.
-/
import Derived.Test.YtdngobjcdajogaaT9QI
import Derived.Test.YtdngobjcdajogaaT9QY
import Derived.Test.YtdngobjcdajogaaT9QL
namespace Go.Proofs.Ytdngobjcdajogaa.Gram
open Go.RowKit Go.Proofs.YtdngobjcdajogaaW.PrintWords Go.Proofs.YtdngobjcdajogaaW.PrintLast Go.Proofs.YtdngobjcdajogaaW.PrintMore Go.Proofs.Ytdngobjcdajogaa.Fr Go.Proofs.Ytdngobjcdajogaa.PGramFirsts Go.Proofs.Ytdngobjcdajogaa.TextSet
end Go.Proofs.Ytdngobjcdajogaa.Gram
namespace Go.Proofs.Ytdngobjcdajogaa.Gram
open Go.RowKit Go.Proofs.YtdngobjcdajogaaW.PrintWords Go.Proofs.YtdngobjcdajogaaW.PrintLast Go.Proofs.YtdngobjcdajogaaW.PrintMore Go.Proofs.Ytdngobjcdajogaa.Fr Go.Proofs.Ytdngobjcdajogaa.PGramFirsts Go.Proofs.Ytdngobjcdajogaa.TextSet
/-- While a production's row is laid. -/
structure T3 (W6 W : World) (q : Nat) (a0 a2 a3 a4 : Int) (a5 : ByteArray) (QV KV : Value) (L : List Int) : Prop where
  fr : Fr (fun i => i = q) W6 W
  box : W.heap[q]? = some (.cells #[.int .i64 a0, QV, .int .i64 a2, .int .i64 a3, .int .i64 a4, .string a5, KV] 57 (0, 0))
  row : kI.R 3 W W6.heap.size (fun _ => True) QV L
theorem T3.go {W6 W W1 : World} {q : Nat} {a0 a2 a3 a4 : Int} {a5 : ByteArray} {QV KV : Value} {L : List Int} (h : T3 W6 W q a0 a2 a3 a4 a5 QV KV L) (hF : Fr (fun _ => False) W W1) : T3 W6 W1 q a0 a2 a3 a4 a5 QV KV L :=
  ⟨h.fr.trans hF (fun _ _ hf => hf.elim), hF.blk h.box id, Kd.R_below h.row hF.to_below⟩
abbrev z7 : Array Value := #[.int .i64 0, .slice none 0 0, .int .i64 0, .int .i64 0, .int .i64 0, .string ⟨#[]⟩, .slice none 0 0]
end Go.Proofs.Ytdngobjcdajogaa.Gram
