/-
What came in, opened: out of what an argument reads as, its kind's reading. And its way back: below the heap's old size nothing has turned.
-/
import Derived.Test.YtagokdbpgljgjaaDoorRows
import Derived.WalkKit
import Derived.ProofKit
import Derived.OpenShut
import Derived.ShutString
import Derived.ChangeOld
import Derived.Below
import Derived.SizedLaws
import Derived.Deep.Slices
import Derived.Deep.Strs
import Derived.Lib.SmallJoins
import Derived.Test.YtagokdbpgljgjaaDoorMAC
set_option linter.unusedSimpArgs false
set_option linter.unusedVariables false
namespace Go.Proofs.YtagokdbpgljgjaaDoor.Op
open Go.ChangeShapes Go.WideShapes Go.ChangeAt Go.RowKit
open Go.Proofs.YtagokdbpgljgjaaDoorW.PrintWords
theorem own : ownKnob Tryd.prog.godebug = none := by kernel_rfl
theorem laidOut : laidOutB Tryd.prog = true := by kernel_rfl
/-- Whatever reads as a value of type t is of kind d, and of ok. -/
def Opens {α : Type} (P : Program) (d : Kd α) (t : TypeId) (ok : α → Prop) : Prop :=
  ∀ (H : Type) (enc : TypeId × Value → H) (W : World) (base : Nat) (sp : Nat → Bool) (hd : Bool) (fuel : Nat) (cs : List Value) (x : DataW H × List MemPlace), DataW.trod enc P W base sp hd fuel t cs = some x → ∃ a, ok a ∧ d.K W a cs
variable {P : Program} {t : TypeId}
theorem opens_int {k : IntKind} (ht : P.underlying t = some (.int k)) : Opens P (Kd.int k) t (fun n => (Lit.int k n).wf = true) := by
  intro H enc W base sp hd fuel cs x h
  obtain ⟨n, rfl, _, hw⟩ := DataW.trod_int ht h
  exact ⟨n, hw, rfl⟩
theorem opens_string (ht : P.underlying t = some .string) : Opens P Kd.string t (fun s => s.size ≤ maxLen) := by
  intro H enc W base sp hd fuel cs x h
  obtain ⟨s, rfl, _, hw⟩ := DataW.trod_string ht h
  exact ⟨s, hw, rfl⟩
theorem Opens.iso {α β : Type} {d : Kd α} {ok : α → Prop} {f : β → α} {ok' : β → Prop} (h : Opens P d t ok) (g : α → β) (hg : ∀ a, f (g a) = a) (hok : ∀ a, ok a → ok' (g a)) : Opens P (Kd.iso d f) t ok' := by
  intro H enc W base sp hd fuel cs x hx
  obtain ⟨a, ha, hk⟩ := h H enc W base sp hd fuel cs x hx
  exact ⟨g a, hok a ha, by show d.K W (f (g a)) cs; rw [hg]; exact hk⟩
theorem opens_slice {α : Type} [Inhabited α] {d : Kd α} {e : TypeId} {ok : α → Prop} (q : Nat) (ht : P.underlying t = some (.slice e)) (hc : P.cellsOf e = d.sz) (h : Opens P d e ok) :
    Opens P (Kd.slice q d) t (fun xs => xs.length ≤ maxLen ∧ ∀ x ∈ xs, ok x) := by
  intro H enc W base sp hd fuel cs x hx
  rcases Go.Deep.open_slice ht hx with ⟨rfl, _⟩ | ⟨a, len, cap, m, n, D, Pl, rfl, _, hl, hm, hmm, _, hel⟩
  · exact ⟨[], ⟨Nat.zero_le _, by simp⟩, none, 0, rfl, Nat.le_refl _, rfl, by simp, fun hp => absurd hp (by simp)⟩
  · have hlm : len ≤ m := by rw [hmm]; split <;> omega
    have key : ∀ i, i < len → ∃ y cs', ok y ∧ d.K W y cs' ∧ cs'.length = d.sz ∧ ∀ j u, cs'[j]? = some u → W.cell? (a.add (i * d.sz + j)) = some u := by
      intro i hi
      obtain ⟨cs', h1, h2⟩ := hel i (by omega)
      rw [hc] at h1
      obtain ⟨y, hy, hk⟩ := h H enc W base sp hd n cs' _ h2
      obtain ⟨_, hlen, hcell⟩ := World.cells?_some h1
      refine ⟨y, cs', hy, hk, hlen, fun j u hu => ?_⟩
      have hj : j < d.sz := by rw [← hlen]; exact (List.getElem?_eq_some_iff.1 hu).1
      have := hcell j hj
      rw [Go.Deep.add_add] at this
      rw [this, hu]
    obtain ⟨Y, hY⟩ := Go.Deep.choose_lt (p := fun i y => ∃ cs', ok y ∧ d.K W y cs' ∧ cs'.length = d.sz ∧ ∀ j u, cs'[j]? = some u → W.cell? (a.add (i * d.sz + j)) = some u) key
    refine ⟨(List.range len).map Y, ⟨by simp; omega, ?_⟩, some a, cap, by simp, by simpa using hl, by simp, ?_, fun _ => ⟨a, rfl, ?_⟩⟩
    · intro y hy
      simp only [List.mem_map, List.mem_range] at hy
      obtain ⟨i, hi, rfl⟩ := hy
      obtain ⟨_, h1, _⟩ := hY i hi
      exact h1
    · have : maxLen ≤ 9223372036854775807 := by decide
      simp
      omega
    · intro j p hp
      simp only [List.getElem?_map, Option.map_eq_some_iff] at hp
      obtain ⟨i, hi, rfl⟩ := hp
      obtain ⟨hi1, hi2⟩ : j < len ∧ j = i := by
        have := List.getElem?_eq_some_iff.1 hi
        obtain ⟨h1, h2⟩ := this
        simp at h1 h2
        exact ⟨h1, h2⟩
      subst hi2
      obtain ⟨cs', _, h2, h3, h4⟩ := hY j hi1
      exact ⟨cs', h3, h2, h4⟩
theorem opens_fields3 {α β γ : Type} {a : Kd α} {b : Kd β} {c : Kd γ} {oa : α → Prop} {ob : β → Prop} {oc : γ → Prop} {f0 f1 f2 : Field} (ht : P.underlying t = some (.struct #[f0, f1, f2])) (hT : P.cellsOf t = a.sz + (b.sz + c.sz))
    (e0 : f0.offset = 0) (c0 : P.cellsOf f0.type = a.sz) (e1 : f1.offset = a.sz) (c1 : P.cellsOf f1.type = b.sz) (e2 : f2.offset = a.sz + b.sz) (c2 : P.cellsOf f2.type = c.sz)
    (ha : Opens P a f0.type oa) (hb : Opens P b f1.type ob) (hc : Opens P c f2.type oc) :
    Opens P (Kd.pair a (Kd.pair b c)) t (fun x => oa x.1 ∧ ob x.2.1 ∧ oc x.2.2) := by
  intro H enc W base sp hd fuel cs x hx
  obtain ⟨y0, y1, y2, n, _, hl, h0, h1, h2⟩ := Go.Deep.trod_struct3 ht hx
  rw [e0, c0] at h0
  rw [e1, c1] at h1
  rw [e2, c2] at h2
  obtain ⟨x0, k0, r0⟩ := ha _ _ _ _ _ _ _ _ _ h0
  obtain ⟨x1, k1, r1⟩ := hb _ _ _ _ _ _ _ _ _ h1
  obtain ⟨x2, k2, r2⟩ := hc _ _ _ _ _ _ _ _ _ h2
  refine ⟨(x0, x1, x2), ⟨k0, k1, k2⟩, _, _, ?_, r0, _, _, rfl, r1, r2⟩
  rw [List.drop_zero, ← List.drop_drop, List.take_of_length_le (l := (cs.drop a.sz).drop b.sz) (by simp; omega), List.take_append_drop, List.take_append_drop]
/-- Every argument reads on. -/
theorem all_below {H : Type} {enc : TypeId × Value → H} {W W' : World} (hl : laidOutB P = true) (hb : Below W.heap.size W W') : ∀ (ts : List TypeId) (vs : List Value) (ds : List (DataW H)) (ps : List MemPlace),
    (ts.all fun t => P.readableRec t && decide (t < P.types.size)) = true → DataW.TrodAll enc P W 0 (fun _ => true) true ts vs ds ps → DataW.TrodAll enc P W' 0 (fun b => decide (b < W.heap.size)) true ts vs ds ps
  | [], vs, ds, ps, _, h => by
    obtain ⟨rfl, rfl, rfl⟩ := trodAll_nil h
    exact rfl
  | t :: ts, vs, ds, ps, hr, h => by
    obtain ⟨v, vs', d, ds', p, q, rfl, rfl, rfl, h1, h2⟩ := trodAll_cons h
    simp only [List.all_cons, Bool.and_eq_true, decide_eq_true_eq] at hr
    exact trodAll_cons_mk (Below.trod hl hr.1.1 hr.1.2 h1 hb (by obtain ⟨m, hm⟩ := h1; exact DataW.trod_lt m _ _ _ hm)) (all_below hl hb ts vs' ds' q (by simpa using hr.2) h2)
end Go.Proofs.YtagokdbpgljgjaaDoor.Op
/-
What a call may have turned: every block that was there, but for those of a set, is as it was.
-/
set_option linter.unusedSimpArgs false
set_option linter.unusedVariables false
namespace Go.Proofs.YtagokdbpgljgjaaDoor.Fr
open Go.RowKit Go.Proofs.YtagokdbpgljgjaaDoorW.PrintWords Go.Proofs.YtagokdbpgljgjaaDoorW.PrintLast Go.Proofs.YtagokdbpgljgjaaDoorW.PrintMore
/-- From w to w' nothing that was there has turned but blocks of S. -/
structure Fr (S : Nat → Prop) (w w' : World) : Prop where
  os : w'.os = w.os
  tape : w'.tape = w.tape
  output : w'.output = w.output
  size : w.heap.size ≤ w'.heap.size
  block : ∀ i, i < w.heap.size → ¬ S i → w'.heap[i]? = w.heap[i]?
theorem Fr.refl (S : Nat → Prop) (w : World) : Fr S w w := ⟨rfl, rfl, rfl, Nat.le_refl _, fun _ _ _ => rfl⟩
theorem Fr.trans {S T : Nat → Prop} {a b c : World} (h : Fr S a b) (k : Fr T b c) (hT : ∀ i, i < a.heap.size → T i → S i) : Fr S a c :=
  ⟨k.os.trans h.os, k.tape.trans h.tape, k.output.trans h.output, Nat.le_trans h.size k.size, fun i hi hS =>
    (k.block i (Nat.lt_of_lt_of_le hi h.size) (fun hTi => hS (hT i hi hTi))).trans (h.block i hi hS)⟩
theorem Fr.mono {S T : Nat → Prop} {w w' : World} (h : Fr S w w') (hT : ∀ i, S i → T i) : Fr T w w' :=
  ⟨h.os, h.tape, h.output, h.size, fun i hi hS => h.block i hi (fun hs => hS (hT i hs))⟩
theorem Fr.of_below {S : Nat → Prop} {w w' : World} (h : Below w.heap.size w w') : Fr S w w' := ⟨h.os, h.tape, h.output, h.size, fun i hi _ => h.block i hi⟩
theorem Fr.to_below {w w' : World} (h : Fr (fun _ => False) w w') : Below w.heap.size w w' := ⟨h.os, h.tape, h.output, h.size, fun i hi => h.block i hi id⟩
theorem Fr.below {S : Nat → Prop} {w w' : World} (h : Fr S w w') {B : Nat} (hB : B ≤ w.heap.size) (hS : ∀ i, i < B → ¬ S i) : Below B w w' :=
  ⟨h.os, h.tape, h.output, h.size, fun i hi => h.block i (Nat.lt_of_lt_of_le hi hB) (hS i hi)⟩
theorem Fr.drawn {S : Nat → Prop} {w w' : World} (h : Drawn0 w w') : Fr S w w' := Fr.of_below h.below
theorem Fr.alloc {S : Nat → Prop} {w w1 : World} (h : Fr S w w1) (o : Obj) : Fr S w (w1.alloc o) :=
  h.trans (Fr.of_below (S := fun _ => False) (below_alloc (Below.refl _ _) o)) (fun _ _ hf => hf.elim)
theorem Fr.drewN {S : Nat → Prop} {w w1 : World} (h : Fr S w w1) (n : Nat) : Fr S w (w1.drewN n) :=
  h.trans (Fr.of_below (S := fun _ => False) (pw_below_drewN (Below.refl _ _) n)) (fun _ _ hf => hf.elim)
theorem Fr.drew {S : Nat → Prop} {w w1 : World} (h : Fr S w w1) : Fr S w w1.drew :=
  h.trans (Fr.of_below (S := fun _ => False) (below_drew (Below.refl _ _))) (fun _ _ hf => hf.elim)
theorem Fr.drawn' {S : Nat → Prop} {w w1 w2 : World} (h : Fr S w w1) (hd : Drawn0 w1 w2) : Fr S w w2 := h.trans (Fr.drawn (S := fun _ => False) hd) (fun _ _ hf => hf.elim)
theorem Fr.grown {S : Nat → Prop} {w w1 w2 : World} (h : Fr S w w1) {row : Option Nat} (hg : w1.grownBy w2 row) (hr : ∀ k, row = some k → k < w.heap.size → S k) : Fr S w w2 :=
  h.trans (T := fun i => row = some i) ⟨hg.os, hg.tape, hg.output, hg.size, fun i hi hn => hg.block i hi (fun e => hn e.symm)⟩ (fun i hi e => hr i e hi)
theorem Fr.set {S : Nat → Prop} {w w1 : World} (h : Fr S w w1) {g o : Nat} (v : Value) (hg : g < w.heap.size → S g) : Fr S w (w1.setCell ⟨g, o, none⟩ v) :=
  h.trans (T := fun i => i = g) ⟨rfl, rfl, rfl, by rw [World.size_setCell]; exact Nat.le_refl _, fun i _ hn => Below.heap_setCell w1 _ v i hn⟩ (fun i hi e => by subst e; exact hg hi)
theorem Fr.blk {S : Nat → Prop} {w w1 : World} (h : Fr S w w1) {g : Nat} {o : Obj} (hb : w.heap[g]? = some o) (hg : ¬ S g) : w1.heap[g]? = some o := (h.block g (blk_lt hb) hg).trans hb
theorem Fr.cell {S : Nat → Prop} {w w1 : World} (h : Fr S w w1) {a : Addr} {v : Value} (hc : w.cell? a = some v) (hg : ¬ S a.block) : w1.cell? a = some v :=
  (World.cell?_of_block (h.block a.block (World.block_lt_of_cell? w a hc) hg)).trans hc
theorem Fr.R {S : Nat → Prop} {w w1 : World} {α : Type} {d : Kd α} {e base : Nat} {ok : Nat → Prop} {v : Value} {xs : List α} (h : Fr S w w1) (hr : d.R e w base ok v xs) (hok : ∀ k, ok k → ¬ S k) : d.R e w1 base ok v xs :=
  Kd.R_step hr (fun k ho hk => h.block k hk (hok k ho))
theorem add_block (a : Addr) (j : Nat) : (a.add j).block = a.block := by unfold Addr.add; split <;> rfl
/-- A slice of one cell elements is read on, where its block has not turned. -/
theorem Fr.C {S : Nat → Prop} {w w1 : World} {α : Type} {enc : α → Value} {h1 : ∀ x, (enc x).oneCell' = true} (d : α) {A : Option Addr} {n : Nat} {xs : List α} (h : Fr S w w1) (hc : (Kd.scalar enc h1).C w A n xs) (hA : ∀ ad, A = some ad → 0 < n → ¬ S ad.block) : (Kd.scalar enc h1).C w1 A n xs := by
  obtain ⟨e1, e2, e3⟩ := Kd.reads_of_C (d := d) hc
  refine Kd.C_of_reads (d := d) ⟨e1, e2, fun hp => ?_⟩
  obtain ⟨ad, e, hcell⟩ := e3 hp
  exact ⟨ad, e, fun j hj => h.cell (hcell j hj) (by rw [add_block]; exact hA ad e hp)⟩
end Go.Proofs.YtagokdbpgljgjaaDoor.Fr
