/-
A grammar without what is of no use: gram.Trim, walked.
-/
import Derived.Test.YtdngobjcdajogaaT9QZ
namespace Go.Proofs.Ytdngobjcdajogaa.Gram
open Go.RowKit Go.Proofs.YtdngobjcdajogaaW.PrintWords Go.Proofs.YtdngobjcdajogaaW.PrintLast Go.Proofs.YtdngobjcdajogaaW.PrintMore Go.Proofs.Ytdngobjcdajogaa.Fr Go.Proofs.Ytdngobjcdajogaa.PGramFirsts Go.Proofs.Ytdngobjcdajogaa.TextSet
theorem info7P : (Try.prog.info? 57).map (·.size) = some 7 := by kernel_rfl
theorem cells7 (A B : Option Addr) (a b a' b' : Nat) (n0 n2 n3 n4 : Int) (s : ByteArray) : (#[.int .i64 n0, .slice A a a', .int .i64 n2, .int .i64 n3, .int .i64 n4, .string s, .slice B b b'] : Array Value).all (·.oneCell') = true := by simp [Value.oneCell']
end Go.Proofs.Ytdngobjcdajogaa.Gram
