/-
  No cell of these rows narrows 'for every input' (looked for: loops, veiled, ifaces, maps, wideKeys, modest, calm, conditions, laid).
  DERIVED. THE GIVEN ROWS OF THIS SEAT. 3 by the template 'for every input the law returns true; each argument reads behind the call as it read before'; 0 by the template 'total and deterministic' (their statements: YtpjhflimaiaokaaTotals.lean).
  GIVEN WITH THE SEED: the statements are not yours to turn. If you find one false, say at which input.
  Laid BY PROGRAM, IN A SANDBOX (cutbox-rows.mjs): the forced cells as the released guide's own fill.sh prints them over the translation bfe347726ded6494… (all of the seat's roots in one cut). By AI agents, Wed Nov 11 2026. No macro, syntax, notation, axiom, sorry.
-/
import Derived.Test.YtpjhflimaiaokaaChecked
import GoSem.Claim
import GoSem.ClaimJoined
import GoSem.ClaimMapViews
import Derived.JoinedTies
import Derived.KernelRfl
namespace Go.Proofs.Ytpjhflimaiaokaa
/- THE CELL 'sum', in the pinned program and in every row, IS THE sha256 OF THE DUMP (.gsa) THAT YtpjhflimaiaokaaProg.lean LOADS. Nothing in Lean hashes anything: it is a label: what it is worth is what the hold of that sum in a sandbox is worth. -/
noncomputable def Try.pinned : Pinned := { name := "ytpjhflimaiaokaa", sum := "bfe347726ded64940efa0c587a63a19c90c4acbdbd136f6adb5535b73462401d", checked := Try.checked }
namespace Rows
def none {H : Type} : Left H := { results := [], args := [] }

/-- 'quoinlaw03.WorkLists': WHATEVER THE INPUT: true; the input reads as it did. -/
def workListsSpec : ChangeSpec := { name := "workLists", fn := fun _ => fun
  | [d] => { results := [.lit (.bool true)], args := [d] }
  | _ => none }
def workListsRow : OpenClaim := { program := "ytpjhflimaiaokaa", sum := "bfe347726ded64940efa0c587a63a19c90c4acbdbd136f6adb5535b73462401d", func := "quoin/quoinlaw03.WorkLists", spec := "workLists", unfollowed := true, recurses := true, apart := false }
def WorkListsSaid : Prop := workListsRow.holds Try.pinned (OpenSpec.ofChange workListsSpec)

/-- ITS FALSE NEIGHBOUR: 'it returns false'. Refute it at one input. -/
def workListsWrong : ChangeSpec := { name := "workLists", fn := fun _ => fun
  | [d] => { results := [.lit (.bool false)], args := [d] }
  | _ => none }
def WorkListsWrongFalsely : Prop := workListsRow.holds Try.pinned (OpenSpec.ofChange workListsWrong)

/-- 'quoinlaw03.WorkOrder': WHATEVER THE INPUT: true; the input reads as it did. -/
def workOrderSpec : ChangeSpec := { name := "workOrder", fn := fun _ => fun
  | [d] => { results := [.lit (.bool true)], args := [d] }
  | _ => none }
def workOrderRow : OpenClaim := { program := "ytpjhflimaiaokaa", sum := "bfe347726ded64940efa0c587a63a19c90c4acbdbd136f6adb5535b73462401d", func := "quoin/quoinlaw03.WorkOrder", spec := "workOrder", unfollowed := true, recurses := true, apart := false }
def WorkOrderSaid : Prop := workOrderRow.holds Try.pinned (OpenSpec.ofChange workOrderSpec)

/-- ITS FALSE NEIGHBOUR: 'it returns false'. Refute it at one input. -/
def workOrderWrong : ChangeSpec := { name := "workOrder", fn := fun _ => fun
  | [d] => { results := [.lit (.bool false)], args := [d] }
  | _ => none }
def WorkOrderWrongFalsely : Prop := workOrderRow.holds Try.pinned (OpenSpec.ofChange workOrderWrong)

/-- 'quoinlaw03.WorkOwn': WHATEVER THE INPUT: true; the input reads as it did. -/
def workOwnSpec : ChangeSpec := { name := "workOwn", fn := fun _ => fun
  | [d1, d2] => { results := [.lit (.bool true)], args := [d1, d2] }
  | _ => none }
def workOwnRow : OpenClaim := { program := "ytpjhflimaiaokaa", sum := "bfe347726ded64940efa0c587a63a19c90c4acbdbd136f6adb5535b73462401d", func := "quoin/quoinlaw03.WorkOwn", spec := "workOwn", unfollowed := true, recurses := true, apart := false }
def WorkOwnSaid : Prop := workOwnRow.holds Try.pinned (OpenSpec.ofChange workOwnSpec)

/-- ITS FALSE NEIGHBOUR: 'it returns false'. Refute it at one input. -/
def workOwnWrong : ChangeSpec := { name := "workOwn", fn := fun _ => fun
  | [d1, d2] => { results := [.lit (.bool false)], args := [d1, d2] }
  | _ => none }
def WorkOwnWrongFalsely : Prop := workOwnRow.holds Try.pinned (OpenSpec.ofChange workOwnWrong)

/- THE SECOND FORM. 'bulk': how many values and letters a reading holds, each counted each time it is reached (what is shared counts as often as it is met; a slice's spare places count too). A statement '..UptoSaid' is the law's where the arguments, and the package variables that the reading takes, are together of bulk at most 1048576: NARROWER than '..Said'. Prove '..Said' where nothing that the law and all that it calls make is longer than what came in: it says more and counts as full. Else prove '..UptoSaid'. A law counts once. -/
mutual
def uptoBulk {H : Type} : DataW H → Nat
  | .lit (.string bytes) => bytes.length + 1
  | .lit _ => 1
  | .nil => 1
  | .ptr d => uptoBulk d + 1
  | .slice elems spare => uptoBulkAll elems + uptoBulkAll spare + 1
  | .agg parts => uptoBulkAll parts + 1
  | .iface _ d => uptoBulk d + 1
  | .map entries => uptoBulkEntries entries + 1
  | .held _ => 1
def uptoBulkAll {H : Type} : List (DataW H) → Nat
  | [] => 0
  | d :: r => uptoBulk d + uptoBulkAll r
def uptoBulkEntries {H : Type} : List (Lit × DataW H) → Nat
  | [] => 0
  | x :: r => uptoBulkEntry x + uptoBulkEntries r
def uptoBulkEntry {H : Type} : Lit × DataW H → Nat
  | (.string bytes, d) => bytes.length + uptoBulk d + 1
  | (_, d) => uptoBulk d + 1
 end
def uptoSmall : (H : Type) → List (DataW H) → Bool := fun _ ds => decide (uptoBulkAll ds ≤ 1048576)
def OpenSpec.upto (s : _root_.Go.ChangeSpec) : _root_.Go.OpenSpec := { _root_.Go.OpenSpec.ofChange s with cond := some uptoSmall }

/-- 'quoinlaw03.WorkLists', WHERE WHAT IT READS IS OF BULK AT MOST 1048576: true; the input reads as it did. -/
def workListsUptoRow : OpenClaim := { program := "ytpjhflimaiaokaa", sum := "bfe347726ded64940efa0c587a63a19c90c4acbdbd136f6adb5535b73462401d", func := "quoin/quoinlaw03.WorkLists", spec := "workLists", unfollowed := true, recurses := true, apart := false, narrowed := true }
def WorkListsUptoSaid : Prop := workListsUptoRow.holds Try.pinned (OpenSpec.upto workListsSpec)

/-- 'quoinlaw03.WorkOrder', WHERE WHAT IT READS IS OF BULK AT MOST 1048576: true; the input reads as it did. -/
def workOrderUptoRow : OpenClaim := { program := "ytpjhflimaiaokaa", sum := "bfe347726ded64940efa0c587a63a19c90c4acbdbd136f6adb5535b73462401d", func := "quoin/quoinlaw03.WorkOrder", spec := "workOrder", unfollowed := true, recurses := true, apart := false, narrowed := true }
def WorkOrderUptoSaid : Prop := workOrderUptoRow.holds Try.pinned (OpenSpec.upto workOrderSpec)

/-- 'quoinlaw03.WorkOwn', WHERE WHAT IT READS IS OF BULK AT MOST 1048576: true; the input reads as it did. -/
def workOwnUptoRow : OpenClaim := { program := "ytpjhflimaiaokaa", sum := "bfe347726ded64940efa0c587a63a19c90c4acbdbd136f6adb5535b73462401d", func := "quoin/quoinlaw03.WorkOwn", spec := "workOwn", unfollowed := true, recurses := true, apart := false, narrowed := true }
def WorkOwnUptoSaid : Prop := workOwnUptoRow.holds Try.pinned (OpenSpec.upto workOwnSpec)

end Rows
end Go.Proofs.Ytpjhflimaiaokaa
