/-
A fresh index: NewIndex and At, walked.
-/
import Derived.Test.YtpjhflimaiaokaaDoorFr
import Derived.Test.YtpjhflimaiaokaaDoorProg
import Derived.Lib.Hide
import Derived.Outline
import Derived.IntWalk
import Derived.Carry
import Derived.Maps.OwnSet
import Derived.WalkSpells
namespace Go.Proofs.YtpjhflimaiaokaaDoor.IxW
open Go.RowKit Go.Proofs.YtpjhflimaiaokaaDoorW.PrintWords Go.Proofs.YtpjhflimaiaokaaDoorW.PrintLast Go.Proofs.YtpjhflimaiaokaaDoorW.PrintMore Go.Proofs.YtpjhflimaiaokaaDoor.Fr

/-- A fresh numbering: block g, over the map of block m. -/
structure FreshIx (w : World) (g m : Nat) : Prop where
  blk : w.heap[g]? = some (.cells #[.map (some m), .slice none 0 0] 106 (0, 0))
  map : w.heap[m]? = some (.map #[] 0)

set_option maxRecDepth 100000 in
theorem newIx_calls (w : World) : Calls Tryd.prog 32 #[] w fun e w' => e = .returned (.pointer (some ⟨w.heap.size + 1, 0, none⟩)) ∧ FreshIx w' (w.heap.size + 1) w.heap.size ∧ Fr (fun _ => False) w w' := by
  have hu := Tryd.underlying106
  have hmm := @run_makeMap Tryd.prog
  go_enter Tryd.func32, Tryd.ntmps32
  go_wp2
  go_ret
  exact ⟨rfl, ⟨by simpa using blk_new (w.alloc (.map #[] 0)) (.cells #[.map (some w.heap.size), .slice none 0 0] 106), blk_alloc (blk_new _ _) _⟩, ((Fr.refl _ _).alloc _).alloc _⟩

theorem getObj_map {w : World} {m : Nat} {es : Array MapEntry} {c : Nat} (hm : w.heap[m]? = some (.map es c)) : (getObj m).run Tryd.prog w = .ok (.map es c) w := by
  simp [getObj, Sem.run, hm]
theorem look_empty (w : World) (m : Nat) (hm : w.heap[m]? = some (.map #[] 0)) (s : ByteArray) : (Instr.lookup 103 (.map (some m)) (.string s) true).run Tryd.prog w = .ok (.tuple #[.int .i64 0, .bool false]) w := by
  have hu := Tryd.underlying103
  have hz : ∀ w, (zeroValue 3).run Tryd.prog w = .ok (.int .i64 0) w := fun w => by kernel_rfl
  have hf : ∀ w, (Instr.findKey 9 (.string s) []).run Tryd.prog w = .ok none w := fun w => by kernel_rfl
  have hc : ∀ w, (Instr.checkKey true 10000 9 (.string s)).run Tryd.prog w = .ok () w := fun w => by kernel_rfl
  simp [Instr.lookup, run_underlying hu, getObj_map hm, hz, hf, hc, go_sem]
def madeOne (w : World) (m : Nat) (s : ByteArray) (n : Int) : World := { w with heap := w.heap.setIfInBounds m (.map #[{ key := .string s, val := .int .i64 n, born := 0 }] 1) }
theorem upd_empty (w : World) (m : Nat) (hm : w.heap[m]? = some (.map #[] 0)) (s : ByteArray) (n : Int) : (Instr.mapUpdate 103 (.map (some m)) (.string s) (.int .i64 n)).run Tryd.prog w = .ok () (madeOne w m s n) := by
  have hu := Tryd.underlying103
  have hf : ∀ w, (Instr.findKey 9 (.string s) []).run Tryd.prog w = .ok none w := fun w => by kernel_rfl
  have hc : ∀ w, (Instr.checkKey false 10000 9 (.string s)).run Tryd.prog w = .ok () w := fun w => by kernel_rfl
  simp [Instr.mapUpdate, run_underlying hu, getObj_map hm, hf, hc, go_sem]
  simp [setObj, Sem.run, hm, madeOne]

theorem madeOne_heap (w : World) (m : Nat) (s : ByteArray) (n : Int) (k : Nat) (h : k ≠ m) : (madeOne w m s n).heap[k]? = w.heap[k]? := by simp [madeOne, h.symm]
theorem madeOne_fr {S : Nat → Prop} {w0 w : World} (h : Fr S w0 w) (m : Nat) (s : ByteArray) (n : Int) (hm : m < w0.heap.size → S m) : Fr S w0 (madeOne w m s n) :=
  h.trans (T := fun i => i = m) ⟨rfl, rfl, rfl, by simp [madeOne], fun i _ hn => madeOne_heap w m s n i hn⟩ (fun i hi e => by subst e; exact hm hi)
theorem str_info : (Tryd.prog.info? 9).map (fun i => (i.zero, i.size, i.bytes)) = some (some (.string ⟨#[]⟩), Kd.string.sz, 16) := by kernel_rfl

set_option maxRecDepth 100000 in
theorem at_calls (w : World) (g m : Nat) (s : ByteArray) (h : FreshIx w g m) :
    Calls Tryd.prog 24 #[.pointer (some ⟨g, 0, none⟩), .string s] w fun e w' => e = .returned (.tuple #[.int .i64 0, .bool true, .int .i64 0]) ∧ Fr (fun i => i = g ∨ i = m) w w' := by
  have hu := Tryd.underlying106
  have hl := look_empty w m h.map s
  have hmn := fun wx => run_eql_map_nil (P := Tryd.prog) wx 103 _ _ (some m) Tryd.underlying103
  have hup := upd_empty w.drew m h.map s 0
  have c1 : w.cell? ⟨g, 0, none⟩ = some (.map (some m)) := (blk_cell h.blk 0).trans rfl
  have c2 : w.cell? ⟨g, 1, none⟩ = some (.slice none 0 0) := (blk_cell h.blk 1).trans rfl
  have hgm : g ≠ m := fun e => by have := h.blk; rw [e, h.map] at this; cases this
  have hb3 : (madeOne w.drew m s 0).heap[g]? = some (.cells #[.map (some m), .slice none 0 0] 106 (0, 0)) := (madeOne_heap _ m s 0 g hgm).trans h.blk
  have c4 : (madeOne w.drew m s 0).cell? ⟨g, 1, none⟩ = some (.slice none 0 0) := (blk_cell hb3 1).trans rfl
  have HB3 := Aside0.mk hb3
  clear hb3
  go_enter Tryd.func24, Tryd.ntmps24
  go_wp2
  go_region
  go_wp2_with (at_builtin; refine Kd.R_append Kd.string (w0 := madeOne w.drew m s 0) (madeOne w.drew m s 0).heap.size rfl _ _ 104 9 _ 16 rfl Tryd.underlying104 str_info rfl (by decide) (by decide) (.slice none 0 0) [] s [.string s] (fun _ => True) (fun _ => False) rfl rfl rfl (fun _ hf => hf.elim) (fun _ _ => trivial) (Kd.R_nil _ _ _ _ _) (Below.refl _ _) (Nat.le_refl _) (by simp) ?_; intro v1 w1 h1 _ h2 _; obtain ⟨A1, k1, rfl⟩ := Kd.R_slice h1; have hb4 := blk_grown HB3.out h2 (by simp [Value.ownBlock]); have HB4 := Aside0.mk hb4; have c5 : w1.cell? ⟨g, 1, none⟩ = some (.slice none 0 0) := (blk_cell hb4 1).trans rfl; have f5 := blk_frozen hb4 1; have HG := Aside0.mk h2; clear h1 h2 hb4)
  go_ret3
  exact ⟨rfl, ((madeOne_fr ((Fr.refl (fun i => i = g ∨ i = m) w).drew) m s 0 (fun _ => .inr rfl)).grown HG.out (fun k hk _ => by simp [Value.ownBlock] at hk)).set _ (fun _ => .inl rfl)⟩
end Go.Proofs.YtpjhflimaiaokaaDoor.IxW
