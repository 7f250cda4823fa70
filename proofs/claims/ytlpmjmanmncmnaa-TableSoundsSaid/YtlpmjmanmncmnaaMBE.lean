/-
What came in, opened: out of what an argument reads as, its kind's reading. And its way back: below the heap's old size nothing has turned.
-/
import Derived.Test.YtlpmjmanmncmnaaRows
import Derived.WalkKit
import Derived.ProofKit
import Derived.OpenShut
import Derived.ShutString
import Derived.ChangeOld
import Derived.Below
import Derived.SizedLaws
import Derived.Deep.Slices
import Derived.Deep.Strs
import Derived.Lib.SmallJoins
import Derived.Test.YtlpmjmanmncmnaaMAE
set_option linter.unusedSimpArgs false
set_option linter.unusedVariables false
namespace Go.Proofs.Ytlpmjmanmncmnaa.Op
open Go.ChangeShapes Go.WideShapes Go.ChangeAt Go.RowKit
open Go.Proofs.YtlpmjmanmncmnaaW.PrintWords
theorem own : ownKnob Try.prog.godebug = none := by kernel_rfl
theorem laidOut : laidOutB Try.prog = true := by kernel_rfl
/-- Whatever reads as a value of type t is of kind d, and of ok. -/
def Opens {α : Type} (P : Program) (d : Kd α) (t : TypeId) (ok : α → Prop) : Prop :=
  ∀ (H : Type) (enc : TypeId × Value → H) (W : World) (base : Nat) (sp : Nat → Bool) (hd : Bool) (fuel : Nat) (cs : List Value) (x : DataW H × List MemPlace), DataW.trod enc P W base sp hd fuel t cs = some x → ∃ a, ok a ∧ d.K W a cs
variable {P : Program} {t : TypeId}
theorem opens_int {k : IntKind} (ht : P.underlying t = some (.int k)) : Opens P (Kd.int k) t (fun n => (Lit.int k n).wf = true) := by
  intro H enc W base sp hd fuel cs x h
  obtain ⟨n, rfl, _, hw⟩ := DataW.trod_int ht h
  exact ⟨n, hw, rfl⟩
theorem opens_string (ht : P.underlying t = some .string) : Opens P Kd.string t (fun s => s.size ≤ maxLen) := by
  intro H enc W base sp hd fuel cs x h
  obtain ⟨s, rfl, _, hw⟩ := DataW.trod_string ht h
  exact ⟨s, hw, rfl⟩
theorem Opens.iso {α β : Type} {d : Kd α} {ok : α → Prop} {f : β → α} {ok' : β → Prop} (h : Opens P d t ok) (g : α → β) (hg : ∀ a, f (g a) = a) (hok : ∀ a, ok a → ok' (g a)) : Opens P (Kd.iso d f) t ok' := by
  intro H enc W base sp hd fuel cs x hx
  obtain ⟨a, ha, hk⟩ := h H enc W base sp hd fuel cs x hx
  exact ⟨g a, hok a ha, by show d.K W (f (g a)) cs; rw [hg]; exact hk⟩
theorem opens_slice {α : Type} [Inhabited α] {d : Kd α} {e : TypeId} {ok : α → Prop} (q : Nat) (ht : P.underlying t = some (.slice e)) (hc : P.cellsOf e = d.sz) (h : Opens P d e ok) :
    Opens P (Kd.slice q d) t (fun xs => xs.length ≤ maxLen ∧ ∀ x ∈ xs, ok x) := by
  intro H enc W base sp hd fuel cs x hx
  rcases Go.Deep.open_slice ht hx with ⟨rfl, _⟩ | ⟨a, len, cap, m, n, D, Pl, rfl, _, hl, hm, hmm, _, hel⟩
  · exact ⟨[], ⟨Nat.zero_le _, by simp⟩, none, 0, rfl, Nat.le_refl _, rfl, by simp, fun hp => absurd hp (by simp)⟩
  · have hlm : len ≤ m := by rw [hmm]; split <;> omega
    have key : ∀ i, i < len → ∃ y cs', ok y ∧ d.K W y cs' ∧ cs'.length = d.sz ∧ ∀ j u, cs'[j]? = some u → W.cell? (a.add (i * d.sz + j)) = some u := by
      intro i hi
      obtain ⟨cs', h1, h2⟩ := hel i (by omega)
      rw [hc] at h1
      obtain ⟨y, hy, hk⟩ := h H enc W base sp hd n cs' _ h2
      obtain ⟨_, hlen, hcell⟩ := World.cells?_some h1
      refine ⟨y, cs', hy, hk, hlen, fun j u hu => ?_⟩
      have hj : j < d.sz := by rw [← hlen]; exact (List.getElem?_eq_some_iff.1 hu).1
      have := hcell j hj
      rw [Go.Deep.add_add] at this
      rw [this, hu]
    obtain ⟨Y, hY⟩ := Go.Deep.choose_lt (p := fun i y => ∃ cs', ok y ∧ d.K W y cs' ∧ cs'.length = d.sz ∧ ∀ j u, cs'[j]? = some u → W.cell? (a.add (i * d.sz + j)) = some u) key
    refine ⟨(List.range len).map Y, ⟨by simp; omega, ?_⟩, some a, cap, by simp, by simpa using hl, by simp, ?_, fun _ => ⟨a, rfl, ?_⟩⟩
    · intro y hy
      simp only [List.mem_map, List.mem_range] at hy
      obtain ⟨i, hi, rfl⟩ := hy
      obtain ⟨_, h1, _⟩ := hY i hi
      exact h1
    · have : maxLen ≤ 9223372036854775807 := by decide
      simp
      omega
    · intro j p hp
      simp only [List.getElem?_map, Option.map_eq_some_iff] at hp
      obtain ⟨i, hi, rfl⟩ := hp
      obtain ⟨hi1, hi2⟩ : j < len ∧ j = i := by
        have := List.getElem?_eq_some_iff.1 hi
        obtain ⟨h1, h2⟩ := this
        simp at h1 h2
        exact ⟨h1, h2⟩
      subst hi2
      obtain ⟨cs', _, h2, h3, h4⟩ := hY j hi1
      exact ⟨cs', h3, h2, h4⟩
theorem opens_fields2 {α β : Type} {a : Kd α} {b : Kd β} {oa : α → Prop} {ob : β → Prop} {f0 f1 : Field} (ht : P.underlying t = some (.struct #[f0, f1])) (hT : P.cellsOf t = a.sz + b.sz)
    (e0 : f0.offset = 0) (c0 : P.cellsOf f0.type = a.sz) (e1 : f1.offset = a.sz) (c1 : P.cellsOf f1.type = b.sz) (ha : Opens P a f0.type oa) (hb : Opens P b f1.type ob) :
    Opens P (Kd.pair a b) t (fun x => oa x.1 ∧ ob x.2) := by
  intro H enc W base sp hd fuel cs x hx
  obtain ⟨y0, y1, n, _, hl, h0, h1⟩ := trod_struct2 ht hx
  rw [e0, c0] at h0
  rw [e1, c1] at h1
  obtain ⟨x0, k0, r0⟩ := ha _ _ _ _ _ _ _ _ _ h0
  obtain ⟨x1, k1, r1⟩ := hb _ _ _ _ _ _ _ _ _ h1
  refine ⟨(x0, x1), ⟨k0, k1⟩, _, _, ?_, r0, r1⟩
  rw [List.drop_zero, List.take_of_length_le (l := cs.drop a.sz) (by simp; omega), List.take_append_drop]
/-- Every argument reads on. -/
theorem all_below {H : Type} {enc : TypeId × Value → H} {W W' : World} (hl : laidOutB P = true) (hb : Below W.heap.size W W') : ∀ (ts : List TypeId) (vs : List Value) (ds : List (DataW H)) (ps : List MemPlace),
    (ts.all fun t => P.readableRec t && decide (t < P.types.size)) = true → DataW.TrodAll enc P W 0 (fun _ => true) true ts vs ds ps → DataW.TrodAll enc P W' 0 (fun b => decide (b < W.heap.size)) true ts vs ds ps
  | [], vs, ds, ps, _, h => by
    obtain ⟨rfl, rfl, rfl⟩ := trodAll_nil h
    exact rfl
  | t :: ts, vs, ds, ps, hr, h => by
    obtain ⟨v, vs', d, ds', p, q, rfl, rfl, rfl, h1, h2⟩ := trodAll_cons h
    simp only [List.all_cons, Bool.and_eq_true, decide_eq_true_eq] at hr
    exact trodAll_cons_mk (Below.trod hl hr.1.1 hr.1.2 h1 hb (by obtain ⟨m, hm⟩ := h1; exact DataW.trod_lt m _ _ _ hm)) (all_below hl hb ts vs' ds' q (by simpa using hr.2) h2)
end Go.Proofs.Ytlpmjmanmncmnaa.Op
