/-
What came in, opened: out of what an argument reads as, its kind's reading. And its way back: below the heap's old size nothing has turned.
-/
import Derived.Test.YtagokdbpgljgjaaDoorRows
import Derived.WalkKit
import Derived.ProofKit
import Derived.OpenShut
import Derived.ShutString
import Derived.ChangeOld
import Derived.Below
import Derived.SizedLaws
import Derived.Deep.Slices
import Derived.Deep.Strs
import Derived.Lib.SmallJoins
import Derived.Test.YtagokdbpgljgjaaDoorMAC
set_option linter.unusedSimpArgs false
set_option linter.unusedVariables false
namespace Go.Proofs.YtagokdbpgljgjaaDoor.Op
open Go.ChangeShapes Go.WideShapes Go.ChangeAt Go.RowKit
open Go.Proofs.YtagokdbpgljgjaaDoorW.PrintWords
theorem own : ownKnob Tryd.prog.godebug = none := by kernel_rfl
theorem laidOut : laidOutB Tryd.prog = true := by kernel_rfl
/-- Whatever reads as a value of type t is of kind d, and of ok. -/
def Opens {α : Type} (P : Program) (d : Kd α) (t : TypeId) (ok : α → Prop) : Prop :=
  ∀ (H : Type) (enc : TypeId × Value → H) (W : World) (base : Nat) (sp : Nat → Bool) (hd : Bool) (fuel : Nat) (cs : List Value) (x : DataW H × List MemPlace), DataW.trod enc P W base sp hd fuel t cs = some x → ∃ a, ok a ∧ d.K W a cs
variable {P : Program} {t : TypeId}
theorem Opens.iso {α β : Type} {d : Kd α} {ok : α → Prop} {f : β → α} {ok' : β → Prop} (h : Opens P d t ok) (g : α → β) (hg : ∀ a, f (g a) = a) (hok : ∀ a, ok a → ok' (g a)) : Opens P (Kd.iso d f) t ok' := by
  intro H enc W base sp hd fuel cs x hx
  obtain ⟨a, ha, hk⟩ := h H enc W base sp hd fuel cs x hx
  exact ⟨g a, hok a ha, by show d.K W (f (g a)) cs; rw [hg]; exact hk⟩
/-- Every argument reads on. -/
theorem all_below {H : Type} {enc : TypeId × Value → H} {W W' : World} (hl : laidOutB P = true) (hb : Below W.heap.size W W') : ∀ (ts : List TypeId) (vs : List Value) (ds : List (DataW H)) (ps : List MemPlace),
    (ts.all fun t => P.readableRec t && decide (t < P.types.size)) = true → DataW.TrodAll enc P W 0 (fun _ => true) true ts vs ds ps → DataW.TrodAll enc P W' 0 (fun b => decide (b < W.heap.size)) true ts vs ds ps
  | [], vs, ds, ps, _, h => by
    obtain ⟨rfl, rfl, rfl⟩ := trodAll_nil h
    exact rfl
  | t :: ts, vs, ds, ps, hr, h => by
    obtain ⟨v, vs', d, ds', p, q, rfl, rfl, rfl, h1, h2⟩ := trodAll_cons h
    simp only [List.all_cons, Bool.and_eq_true, decide_eq_true_eq] at hr
    exact trodAll_cons_mk (Below.trod hl hr.1.1 hr.1.2 h1 hb (by obtain ⟨m, hm⟩ := h1; exact DataW.trod_lt m _ _ _ hm)) (all_below hl hb ts vs' ds' q (by simpa using hr.2) h2)
end Go.Proofs.YtagokdbpgljgjaaDoor.Op
