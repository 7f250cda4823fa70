/-
What a call may have turned: every block that was there, but for those of a set, is as it was.
-/
import Derived.Test.YtlpmjmanmncmnaaR1WMore
set_option linter.unusedSimpArgs false
set_option linter.unusedVariables false
namespace Go.Proofs.Ytlpmjmanmncmnaa.Fr
open Go.RowKit Go.Proofs.YtlpmjmanmncmnaaW.PrintWords Go.Proofs.YtlpmjmanmncmnaaW.PrintLast Go.Proofs.YtlpmjmanmncmnaaW.PrintMore
/-- From w to w' nothing that was there has turned but blocks of S. -/
structure Fr (S : Nat → Prop) (w w' : World) : Prop where
  os : w'.os = w.os
  tape : w'.tape = w.tape
  output : w'.output = w.output
  size : w.heap.size ≤ w'.heap.size
  block : ∀ i, i < w.heap.size → ¬ S i → w'.heap[i]? = w.heap[i]?
theorem Fr.refl (S : Nat → Prop) (w : World) : Fr S w w := ⟨rfl, rfl, rfl, Nat.le_refl _, fun _ _ _ => rfl⟩
theorem Fr.trans {S T : Nat → Prop} {a b c : World} (h : Fr S a b) (k : Fr T b c) (hT : ∀ i, i < a.heap.size → T i → S i) : Fr S a c :=
  ⟨k.os.trans h.os, k.tape.trans h.tape, k.output.trans h.output, Nat.le_trans h.size k.size, fun i hi hS =>
    (k.block i (Nat.lt_of_lt_of_le hi h.size) (fun hTi => hS (hT i hi hTi))).trans (h.block i hi hS)⟩
theorem Fr.mono {S T : Nat → Prop} {w w' : World} (h : Fr S w w') (hT : ∀ i, S i → T i) : Fr T w w' :=
  ⟨h.os, h.tape, h.output, h.size, fun i hi hS => h.block i hi (fun hs => hS (hT i hs))⟩
theorem Fr.of_below {S : Nat → Prop} {w w' : World} (h : Below w.heap.size w w') : Fr S w w' := ⟨h.os, h.tape, h.output, h.size, fun i hi _ => h.block i hi⟩
theorem Fr.to_below {w w' : World} (h : Fr (fun _ => False) w w') : Below w.heap.size w w' := ⟨h.os, h.tape, h.output, h.size, fun i hi => h.block i hi id⟩
theorem Fr.below {S : Nat → Prop} {w w' : World} (h : Fr S w w') {B : Nat} (hB : B ≤ w.heap.size) (hS : ∀ i, i < B → ¬ S i) : Below B w w' :=
  ⟨h.os, h.tape, h.output, h.size, fun i hi => h.block i (Nat.lt_of_lt_of_le hi hB) (hS i hi)⟩
theorem Fr.drawn {S : Nat → Prop} {w w' : World} (h : Drawn0 w w') : Fr S w w' := Fr.of_below h.below
theorem Fr.alloc {S : Nat → Prop} {w w1 : World} (h : Fr S w w1) (o : Obj) : Fr S w (w1.alloc o) :=
  h.trans (Fr.of_below (S := fun _ => False) (below_alloc (Below.refl _ _) o)) (fun _ _ hf => hf.elim)
theorem Fr.drewN {S : Nat → Prop} {w w1 : World} (h : Fr S w w1) (n : Nat) : Fr S w (w1.drewN n) :=
  h.trans (Fr.of_below (S := fun _ => False) (pw_below_drewN (Below.refl _ _) n)) (fun _ _ hf => hf.elim)
theorem Fr.drew {S : Nat → Prop} {w w1 : World} (h : Fr S w w1) : Fr S w w1.drew :=
  h.trans (Fr.of_below (S := fun _ => False) (below_drew (Below.refl _ _))) (fun _ _ hf => hf.elim)
theorem Fr.drawn' {S : Nat → Prop} {w w1 w2 : World} (h : Fr S w w1) (hd : Drawn0 w1 w2) : Fr S w w2 := h.trans (Fr.drawn (S := fun _ => False) hd) (fun _ _ hf => hf.elim)
theorem Fr.grown {S : Nat → Prop} {w w1 w2 : World} (h : Fr S w w1) {row : Option Nat} (hg : w1.grownBy w2 row) (hr : ∀ k, row = some k → k < w.heap.size → S k) : Fr S w w2 :=
  h.trans (T := fun i => row = some i) ⟨hg.os, hg.tape, hg.output, hg.size, fun i hi hn => hg.block i hi (fun e => hn e.symm)⟩ (fun i hi e => hr i e hi)
theorem Fr.set {S : Nat → Prop} {w w1 : World} (h : Fr S w w1) {g o : Nat} (v : Value) (hg : g < w.heap.size → S g) : Fr S w (w1.setCell ⟨g, o, none⟩ v) :=
  h.trans (T := fun i => i = g) ⟨rfl, rfl, rfl, by rw [World.size_setCell]; exact Nat.le_refl _, fun i _ hn => Below.heap_setCell w1 _ v i hn⟩ (fun i hi e => by subst e; exact hg hi)
theorem Fr.blk {S : Nat → Prop} {w w1 : World} (h : Fr S w w1) {g : Nat} {o : Obj} (hb : w.heap[g]? = some o) (hg : ¬ S g) : w1.heap[g]? = some o := (h.block g (blk_lt hb) hg).trans hb
theorem Fr.cell {S : Nat → Prop} {w w1 : World} (h : Fr S w w1) {a : Addr} {v : Value} (hc : w.cell? a = some v) (hg : ¬ S a.block) : w1.cell? a = some v :=
  (World.cell?_of_block (h.block a.block (World.block_lt_of_cell? w a hc) hg)).trans hc
theorem Fr.R {S : Nat → Prop} {w w1 : World} {α : Type} {d : Kd α} {e base : Nat} {ok : Nat → Prop} {v : Value} {xs : List α} (h : Fr S w w1) (hr : d.R e w base ok v xs) (hok : ∀ k, ok k → ¬ S k) : d.R e w1 base ok v xs :=
  Kd.R_step hr (fun k ho hk => h.block k hk (hok k ho))
theorem add_block (a : Addr) (j : Nat) : (a.add j).block = a.block := by unfold Addr.add; split <;> rfl
/-- A slice of one cell elements is read on, where its block has not turned. -/
theorem Fr.C {S : Nat → Prop} {w w1 : World} {α : Type} {enc : α → Value} {h1 : ∀ x, (enc x).oneCell' = true} (d : α) {A : Option Addr} {n : Nat} {xs : List α} (h : Fr S w w1) (hc : (Kd.scalar enc h1).C w A n xs) (hA : ∀ ad, A = some ad → 0 < n → ¬ S ad.block) : (Kd.scalar enc h1).C w1 A n xs := by
  obtain ⟨e1, e2, e3⟩ := Kd.reads_of_C (d := d) hc
  refine Kd.C_of_reads (d := d) ⟨e1, e2, fun hp => ?_⟩
  obtain ⟨ad, e, hcell⟩ := e3 hp
  exact ⟨ad, e, fun j hj => h.cell (hcell j hj) (by rw [add_block]; exact hA ad e hp)⟩
end Go.Proofs.Ytlpmjmanmncmnaa.Fr
