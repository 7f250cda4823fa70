/-
  NARROWER THAN 'FOR EVERY INPUT', by the rows' own cells (each row's printed sentence says how): GramFirsts: loops · GramTrimmed: loops · GramLeasts: loops · GramAgrees: loops · GramTrims: loops · GramOwn: loops.
  DERIVED. THE GIVEN ROWS OF THIS SEAT. 6 by the template 'for every input the law returns true; each argument reads behind the call as it read before'; 0 by the template 'total and deterministic' (their statements: YtdngobjcdajogaaTotals.lean).
  GIVEN WITH THE SEED: the statements are not yours to turn. If you find one false, say at which input.
  Laid BY PROGRAM, IN A SANDBOX (cutbox-rows.mjs): the forced cells as the released guide's own fill.sh prints them over the translation eb54828aaea7d7f8… (all of the seat's roots in one cut). By AI agents, Wed Nov 11 2026. No macro, syntax, notation, axiom, sorry.
-/
import Derived.Test.YtdngobjcdajogaaChecked
import GoSem.Claim
import GoSem.ClaimJoined
import GoSem.ClaimMapViews
import Derived.JoinedTies
import Derived.KernelRfl
namespace Go.Proofs.Ytdngobjcdajogaa
/- THE CELL 'sum', in the pinned program and in every row, IS THE sha256 OF THE DUMP (.gsa) THAT YtdngobjcdajogaaProg.lean LOADS. Nothing in Lean hashes anything: it is a label: what it is worth is what the hold of that sum in a sandbox is worth. -/
noncomputable def Try.pinned : Pinned := { name := "ytdngobjcdajogaa", sum := "eb54828aaea7d7f8c19ce18eca677120afd1a61f4c804740e69c61adb17d99d6", checked := Try.checked }
namespace Rows
def none {H : Type} : Left H := { results := [], args := [] }

/-- 'quoinlaw12.GramFirsts': WHATEVER THE INPUT: true; the input reads as it did. -/
def gramFirstsSpec : ChangeSpec := { name := "gramFirsts", fn := fun _ => fun
  | [d1, d2, d3] => { results := [.lit (.bool true)], args := [d1, d2, d3] }
  | _ => none }
def gramFirstsRow : OpenClaim := { program := "ytdngobjcdajogaa", sum := "eb54828aaea7d7f8c19ce18eca677120afd1a61f4c804740e69c61adb17d99d6", func := "quoin/quoinlaw12.GramFirsts", spec := "gramFirsts", unfollowed := true, recurses := true, loops := true, apart := false }
def GramFirstsSaid : Prop := gramFirstsRow.holds Try.pinned (OpenSpec.ofChange gramFirstsSpec)

/-- ITS FALSE NEIGHBOUR: 'it returns false'. Refute it at one input. -/
def gramFirstsWrong : ChangeSpec := { name := "gramFirsts", fn := fun _ => fun
  | [d1, d2, d3] => { results := [.lit (.bool false)], args := [d1, d2, d3] }
  | _ => none }
def GramFirstsWrongFalsely : Prop := gramFirstsRow.holds Try.pinned (OpenSpec.ofChange gramFirstsWrong)

/-- 'quoinlaw12.GramTrimmed': WHATEVER THE INPUT: true; the input reads as it did. -/
def gramTrimmedSpec : ChangeSpec := { name := "gramTrimmed", fn := fun _ => fun
  | [d] => { results := [.lit (.bool true)], args := [d] }
  | _ => none }
def gramTrimmedRow : OpenClaim := { program := "ytdngobjcdajogaa", sum := "eb54828aaea7d7f8c19ce18eca677120afd1a61f4c804740e69c61adb17d99d6", func := "quoin/quoinlaw12.GramTrimmed", spec := "gramTrimmed", unfollowed := true, recurses := true, loops := true, apart := false }
def GramTrimmedSaid : Prop := gramTrimmedRow.holds Try.pinned (OpenSpec.ofChange gramTrimmedSpec)

/-- ITS FALSE NEIGHBOUR: 'it returns false'. Refute it at one input. -/
def gramTrimmedWrong : ChangeSpec := { name := "gramTrimmed", fn := fun _ => fun
  | [d] => { results := [.lit (.bool false)], args := [d] }
  | _ => none }
def GramTrimmedWrongFalsely : Prop := gramTrimmedRow.holds Try.pinned (OpenSpec.ofChange gramTrimmedWrong)

/-- 'quoinlaw12.GramLeasts': WHATEVER THE INPUT: true; the input reads as it did. -/
def gramLeastsSpec : ChangeSpec := { name := "gramLeasts", fn := fun _ => fun
  | [d1, d2] => { results := [.lit (.bool true)], args := [d1, d2] }
  | _ => none }
def gramLeastsRow : OpenClaim := { program := "ytdngobjcdajogaa", sum := "eb54828aaea7d7f8c19ce18eca677120afd1a61f4c804740e69c61adb17d99d6", func := "quoin/quoinlaw12.GramLeasts", spec := "gramLeasts", unfollowed := true, recurses := true, loops := true, apart := false }
def GramLeastsSaid : Prop := gramLeastsRow.holds Try.pinned (OpenSpec.ofChange gramLeastsSpec)

/-- ITS FALSE NEIGHBOUR: 'it returns false'. Refute it at one input. -/
def gramLeastsWrong : ChangeSpec := { name := "gramLeasts", fn := fun _ => fun
  | [d1, d2] => { results := [.lit (.bool false)], args := [d1, d2] }
  | _ => none }
def GramLeastsWrongFalsely : Prop := gramLeastsRow.holds Try.pinned (OpenSpec.ofChange gramLeastsWrong)

/-- 'quoinlaw12.GramAgrees': WHATEVER THE INPUT: true; the input reads as it did. -/
def gramAgreesSpec : ChangeSpec := { name := "gramAgrees", fn := fun _ => fun
  | [d1, d2] => { results := [.lit (.bool true)], args := [d1, d2] }
  | _ => none }
def gramAgreesRow : OpenClaim := { program := "ytdngobjcdajogaa", sum := "eb54828aaea7d7f8c19ce18eca677120afd1a61f4c804740e69c61adb17d99d6", func := "quoin/quoinlaw12.GramAgrees", spec := "gramAgrees", unfollowed := true, recurses := true, loops := true, apart := false }
def GramAgreesSaid : Prop := gramAgreesRow.holds Try.pinned (OpenSpec.ofChange gramAgreesSpec)

/-- ITS FALSE NEIGHBOUR: 'it returns false'. Refute it at one input. -/
def gramAgreesWrong : ChangeSpec := { name := "gramAgrees", fn := fun _ => fun
  | [d1, d2] => { results := [.lit (.bool false)], args := [d1, d2] }
  | _ => none }
def GramAgreesWrongFalsely : Prop := gramAgreesRow.holds Try.pinned (OpenSpec.ofChange gramAgreesWrong)

/-- 'quoinlaw12.GramTrims': WHATEVER THE INPUT: true; the input reads as it did. -/
def gramTrimsSpec : ChangeSpec := { name := "gramTrims", fn := fun _ => fun
  | [d] => { results := [.lit (.bool true)], args := [d] }
  | _ => none }
def gramTrimsRow : OpenClaim := { program := "ytdngobjcdajogaa", sum := "eb54828aaea7d7f8c19ce18eca677120afd1a61f4c804740e69c61adb17d99d6", func := "quoin/quoinlaw12.GramTrims", spec := "gramTrims", unfollowed := true, recurses := true, loops := true, apart := false }
def GramTrimsSaid : Prop := gramTrimsRow.holds Try.pinned (OpenSpec.ofChange gramTrimsSpec)

/-- ITS FALSE NEIGHBOUR: 'it returns false'. Refute it at one input. -/
def gramTrimsWrong : ChangeSpec := { name := "gramTrims", fn := fun _ => fun
  | [d] => { results := [.lit (.bool false)], args := [d] }
  | _ => none }
def GramTrimsWrongFalsely : Prop := gramTrimsRow.holds Try.pinned (OpenSpec.ofChange gramTrimsWrong)

/-- 'quoinlaw12.GramOwn': WHATEVER THE INPUT: true; the input reads as it did. -/
def gramOwnSpec : ChangeSpec := { name := "gramOwn", fn := fun _ => fun
  | [d1, d2] => { results := [.lit (.bool true)], args := [d1, d2] }
  | _ => none }
def gramOwnRow : OpenClaim := { program := "ytdngobjcdajogaa", sum := "eb54828aaea7d7f8c19ce18eca677120afd1a61f4c804740e69c61adb17d99d6", func := "quoin/quoinlaw12.GramOwn", spec := "gramOwn", unfollowed := true, recurses := true, loops := true, apart := false }
def GramOwnSaid : Prop := gramOwnRow.holds Try.pinned (OpenSpec.ofChange gramOwnSpec)

/-- ITS FALSE NEIGHBOUR: 'it returns false'. Refute it at one input. -/
def gramOwnWrong : ChangeSpec := { name := "gramOwn", fn := fun _ => fun
  | [d1, d2] => { results := [.lit (.bool false)], args := [d1, d2] }
  | _ => none }
def GramOwnWrongFalsely : Prop := gramOwnRow.holds Try.pinned (OpenSpec.ofChange gramOwnWrong)

/- THE SECOND FORM. 'bulk': how many values and letters a reading holds, each counted each time it is reached (what is shared counts as often as it is met; a slice's spare places count too). A statement '..UptoSaid' is the law's where the arguments, and the package variables that the reading takes, are together of bulk at most 1048576: NARROWER than '..Said'. Prove '..Said' where nothing that the law and all that it calls make is longer than what came in: it says more and counts as full. Else prove '..UptoSaid'. A law counts once. -/
mutual
def uptoBulk {H : Type} : DataW H → Nat
  | .lit (.string bytes) => bytes.length + 1
  | .lit _ => 1
  | .nil => 1
  | .ptr d => uptoBulk d + 1
  | .slice elems spare => uptoBulkAll elems + uptoBulkAll spare + 1
  | .agg parts => uptoBulkAll parts + 1
  | .iface _ d => uptoBulk d + 1
  | .map entries => uptoBulkEntries entries + 1
  | .held _ => 1
def uptoBulkAll {H : Type} : List (DataW H) → Nat
  | [] => 0
  | d :: r => uptoBulk d + uptoBulkAll r
def uptoBulkEntries {H : Type} : List (Lit × DataW H) → Nat
  | [] => 0
  | x :: r => uptoBulkEntry x + uptoBulkEntries r
def uptoBulkEntry {H : Type} : Lit × DataW H → Nat
  | (.string bytes, d) => bytes.length + uptoBulk d + 1
  | (_, d) => uptoBulk d + 1
 end
def uptoSmall : (H : Type) → List (DataW H) → Bool := fun _ ds => decide (uptoBulkAll ds ≤ 1048576)
def OpenSpec.upto (s : _root_.Go.ChangeSpec) : _root_.Go.OpenSpec := { _root_.Go.OpenSpec.ofChange s with cond := some uptoSmall }

/-- 'quoinlaw12.GramFirsts', WHERE WHAT IT READS IS OF BULK AT MOST 1048576: true; the input reads as it did. -/
def gramFirstsUptoRow : OpenClaim := { program := "ytdngobjcdajogaa", sum := "eb54828aaea7d7f8c19ce18eca677120afd1a61f4c804740e69c61adb17d99d6", func := "quoin/quoinlaw12.GramFirsts", spec := "gramFirsts", unfollowed := true, recurses := true, loops := true, apart := false, narrowed := true }
def GramFirstsUptoSaid : Prop := gramFirstsUptoRow.holds Try.pinned (OpenSpec.upto gramFirstsSpec)

/-- 'quoinlaw12.GramTrimmed', WHERE WHAT IT READS IS OF BULK AT MOST 1048576: true; the input reads as it did. -/
def gramTrimmedUptoRow : OpenClaim := { program := "ytdngobjcdajogaa", sum := "eb54828aaea7d7f8c19ce18eca677120afd1a61f4c804740e69c61adb17d99d6", func := "quoin/quoinlaw12.GramTrimmed", spec := "gramTrimmed", unfollowed := true, recurses := true, loops := true, apart := false, narrowed := true }
def GramTrimmedUptoSaid : Prop := gramTrimmedUptoRow.holds Try.pinned (OpenSpec.upto gramTrimmedSpec)

/-- 'quoinlaw12.GramLeasts', WHERE WHAT IT READS IS OF BULK AT MOST 1048576: true; the input reads as it did. -/
def gramLeastsUptoRow : OpenClaim := { program := "ytdngobjcdajogaa", sum := "eb54828aaea7d7f8c19ce18eca677120afd1a61f4c804740e69c61adb17d99d6", func := "quoin/quoinlaw12.GramLeasts", spec := "gramLeasts", unfollowed := true, recurses := true, loops := true, apart := false, narrowed := true }
def GramLeastsUptoSaid : Prop := gramLeastsUptoRow.holds Try.pinned (OpenSpec.upto gramLeastsSpec)

/-- 'quoinlaw12.GramAgrees', WHERE WHAT IT READS IS OF BULK AT MOST 1048576: true; the input reads as it did. -/
def gramAgreesUptoRow : OpenClaim := { program := "ytdngobjcdajogaa", sum := "eb54828aaea7d7f8c19ce18eca677120afd1a61f4c804740e69c61adb17d99d6", func := "quoin/quoinlaw12.GramAgrees", spec := "gramAgrees", unfollowed := true, recurses := true, loops := true, apart := false, narrowed := true }
def GramAgreesUptoSaid : Prop := gramAgreesUptoRow.holds Try.pinned (OpenSpec.upto gramAgreesSpec)

/-- 'quoinlaw12.GramTrims', WHERE WHAT IT READS IS OF BULK AT MOST 1048576: true; the input reads as it did. -/
def gramTrimsUptoRow : OpenClaim := { program := "ytdngobjcdajogaa", sum := "eb54828aaea7d7f8c19ce18eca677120afd1a61f4c804740e69c61adb17d99d6", func := "quoin/quoinlaw12.GramTrims", spec := "gramTrims", unfollowed := true, recurses := true, loops := true, apart := false, narrowed := true }
def GramTrimsUptoSaid : Prop := gramTrimsUptoRow.holds Try.pinned (OpenSpec.upto gramTrimsSpec)

/-- 'quoinlaw12.GramOwn', WHERE WHAT IT READS IS OF BULK AT MOST 1048576: true; the input reads as it did. -/
def gramOwnUptoRow : OpenClaim := { program := "ytdngobjcdajogaa", sum := "eb54828aaea7d7f8c19ce18eca677120afd1a61f4c804740e69c61adb17d99d6", func := "quoin/quoinlaw12.GramOwn", spec := "gramOwn", unfollowed := true, recurses := true, loops := true, apart := false, narrowed := true }
def GramOwnUptoSaid : Prop := gramOwnUptoRow.holds Try.pinned (OpenSpec.upto gramOwnSpec)

end Rows
end Go.Proofs.Ytdngobjcdajogaa
