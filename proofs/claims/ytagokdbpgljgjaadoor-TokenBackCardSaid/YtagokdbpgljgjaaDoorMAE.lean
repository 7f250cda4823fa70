/-
A strings.Builder, written: copyCheck, WriteString and WriteByte, walked.
-/
import Derived.Test.YtagokdbpgljgjaaDoorProg
import Derived.Lib.Builder
import Derived.Lib.FrozenHead
import Derived.Outline
import Derived.Deep.DeepMust
import Derived.Laws.Externs
import Derived.Lib.Hide
import Derived.Test.YtagokdbpgljgjaaDoorMAD
set_option linter.unusedSimpArgs false
set_option linter.unusedVariables false
namespace Go.Proofs.YtagokdbpgljgjaaDoor.Bld
open Go.RowKit Go.Proofs.YtagokdbpgljgjaaDoorW.PrintWords Go.Proofs.YtagokdbpgljgjaaDoorW.PrintLast Go.Proofs.YtagokdbpgljgjaaDoorW.PrintMore Go.Proofs.YtagokdbpgljgjaaDoor.Fr
abbrev kB : Kd Int := Kd.int .u8
/-- Block b is a builder of the bytes bs; its row lies at B or above. -/
structure Bd (w : World) (B b : Nat) (p v : Value) (bs : List Int) : Prop where
  blk : w.heap[b]? = some (.cells #[p, v] 79 (0, 0))
  row : kB.R 5 w B (fun _ => True) v bs
  addr : p = .pointer none ∨ p = .pointer (some ⟨b, 0, none⟩)
theorem size_builder : (Tryd.prog.info? 79).map (·.size) = some 2 := by kernel_rfl
theorem lies_builder : liesAt Tryd.prog Tryd.prog.depth 79 (2 / Tryd.prog.cellsOf 79) 0 79 1 = true := by kernel_rfl
theorem Bd.shape {w : World} {B b : Nat} {p v : Value} {bs : List Int} (h : Bd w B b p v bs) : w.shape? b = some (79, 2) := by simp [World.shape?, h.blk]
theorem Bd.ne {w : World} {B b : Nat} {p v : Value} {bs : List Int} (h : Bd w B b p v bs) : some b ≠ v.ownBlock := Kd.R_ne h.row h.blk (by decide)
theorem no_escape (a : Addr) (w : World) : (callFunc 56 #[.pointer (some a)]).run Tryd.prog w = .ok (.value (.pointer (some a))) w := by
  rw [run_callFunc_extern Tryd.func56 (by kernel_rfl) (by kernel_rfl) (by kernel_rfl) (e := Extern.AbiNoEscape.same) (by kernel_rfl), Lib.run_noEscape]
  rfl
set_option maxRecDepth 100000 in
theorem check_calls (w : World) (B b : Nat) (p v : Value) (bs : List Int) (h : Bd w B b p v bs) :
    Calls Tryd.prog 47 #[.pointer (some ⟨b, 0, none⟩)] w fun e w' => e = .returned (.tuple #[]) ∧ Bd w' B b (.pointer (some ⟨b, 0, none⟩)) v bs ∧ Fr (fun k => k = b) w w' := by
  have hu := Tryd.underlying79
  have hc : w.cell? ⟨b, 0, none⟩ = some p := (blk_cell h.blk 0).trans rfl
  have hf := blk_frozen h.blk 0
  have hd := h.addr
  have HH := Aside0.mk h
  clear h
  rcases hd with rfl | rfl
  · obtain ⟨j, hj, hjs⟩ := Option.map_eq_some_iff.1 size_builder
    have e1 := Lib.run_to_unsafe (P := Tryd.prog) w ⟨b, 0, none⟩ Tryd.underlying76 Tryd.underlying105 hj (by rw [hjs]; decide) HH.out.shape (Nat.zero_lt_succ 1)
    have e2 := Lib.run_from_unsafe (P := Tryd.prog) w ⟨b, 0, none⟩ Tryd.underlying105 Tryd.underlying76 hj HH.out.shape lies_builder
    have e3 := no_escape ⟨b, 0, none⟩ w
    go_enter Tryd.func47, Tryd.ntmps47
    go_wp2_with (fail)
    go_end0
    exact ⟨rfl, ⟨blk_put HH.out.blk 0 _ rfl, Kd.R_mono (Kd.R_set HH.out.row HH.out.blk (by intro q hq; simp only [List.mem_cons] at hq; rcases hq with rfl | hq; decide; exact absurd hq (by simp [Kd.int, Kd.scalar])) 0 _) (fun _ _ => trivial), .inr rfl⟩, (Fr.refl _ _).set _ (fun _ => rfl)⟩
  · obtain ⟨j, hj, hjs⟩ := Option.map_eq_some_iff.1 size_builder
    have e1 := Lib.run_neq_ptr_same (P := Tryd.prog) w ⟨b, 0, none⟩ Tryd.underlying76 hj
    go_enter Tryd.func47, Tryd.ntmps47
    go_wp2_with (fail)
    go_end0
    exact ⟨rfl, HH.out, Fr.refl _ _⟩
theorem byte_info : (Tryd.prog.info? 5).map (fun i => (i.zero, i.size, i.bytes)) = some (some (.int .u8 0), 1, 1) := by kernel_rfl
/-- A call has left the bytes bs' in the builder of block b. -/
def BPost (w : World) (B b : Nat) (bs : List Int) (w' : World) : Prop := ∃ v', Bd w' B b (.pointer (some ⟨b, 0, none⟩)) v' bs ∧ Fr (fun k => B ≤ k) w w'
theorem Bd.store {w : World} {B b : Nat} {p v0 v : Value} {bs : List Int} (hb : w.heap[b]? = some (.cells #[p, v0] 79 (0, 0))) (hR : kB.R 5 w B (fun _ => True) v bs) (hp : p = .pointer none ∨ p = .pointer (some ⟨b, 0, none⟩)) : Bd (w.setCell ⟨b, 1, none⟩ v) B b p v bs :=
  ⟨blk_put hb 1 _ rfl, Kd.R_mono (Kd.R_set hR hb (by intro q hq; simp only [List.mem_cons] at hq; rcases hq with rfl | hq; decide; exact absurd hq (by simp [Kd.int, Kd.scalar])) 1 _) (fun _ _ => trivial), hp⟩
set_option maxRecDepth 100000 in
theorem writeByte_calls (w : World) (B b : Nat) (p v : Value) (bs : List Int) (c : Int) (h : Bd w B b p v bs) (hB : B ≤ w.heap.size) (hb : B ≤ b) (hl : bs.length ≤ 1099511627776) :
    Calls Tryd.prog 53 #[.pointer (some ⟨b, 0, none⟩), .int .u8 c] w fun e w' => e = .returned .nilIface ∧ BPost w B b (bs ++ [c]) w' := by
  have hu := Tryd.underlying79
  have HH := Aside0.mk h
  clear h
  go_enter Tryd.func53, Tryd.ntmps53
  go_wp2_with (fail)
  refine (check_calls w B b p v bs HH.out).mono ?_
  rintro e W1 ⟨rfl, hB1, hF1⟩
  obtain ⟨A, cap, rfl⟩ := Kd.R_slice hB1.row
  have hc1 : W1.cell? ⟨b, 1, none⟩ = some (.slice A bs.length cap) := (blk_cell hB1.blk 1).trans rfl
  have hf1 := blk_frozen hB1.blk 1
  have hsz := hF1.size
  have H1 := Aside0.mk hB1
  have HF1 := Aside0.mk hF1
  clear hB1 hF1
  go_wp2_with (at_builtin; go_must (refine Kd.R_append kB (w0 := W1) (W := W1) B rfl _ _ 77 5 _ 1 rfl Tryd.underlying77 byte_info rfl (by decide) (by decide) (.slice A bs.length cap) bs c [.int .u8 c] (fun _ => True) (fun _ => False) rfl rfl rfl (fun _ hf => hf.elim) (fun _ _ => trivial) H1.out.row (Below.refl _ _) (by omega) (by omega) ?_; intro v2 w2 h1 _ h2 h3; obtain ⟨A2, c2, rfl⟩ := Kd.R_slice h1; have HR := Aside0.mk (show kB.R 5 w2 B (fun _ => True) (.slice A2 (bs.length + 1) c2) (bs ++ [c]) by simpa using h1); have HB2 := Aside0.mk (blk_grown H1.out.blk h2 H1.out.ne); have HF2 := Aside0.mk ((HF1.out.mono (T := fun k => B ≤ k) (fun _ hk => by omega)).grown h2 (fun q hq _ => Kd.R_base H1.out.row q hq)); have hx1 := (blk_cell HB2.out 1).trans (show _ = some (Value.slice A bs.length cap) from rfl); have hxf := blk_frozen HB2.out 1; clear h1 h2 h3))
  go_ret
  exact ⟨rfl, _, Bd.store HB2.out HR.out (.inr rfl), HF2.out.set _ (fun _ => hb)⟩
/-- append(v, s...) of a text. -/
theorem app_text {ops : Array Oper} {rest : List Oper} {o : Oper} {a : Act} {Q : Exit → Act → World → Prop} {W : World} (B : Nat) (hgd : o.guard = none) (s x : Operand) (u : TypeId) (ho : o.op = .call { callee := .builtin .append, args := #[s, x], argTypes := #[77, u] }) (hu : Tryd.prog.underlying u = some .string)
    (v : Value) (xs : List Int) (y : ByteArray) (hs : a.eval s = v) (hx : a.eval x = .string y) (HO : kB.R 5 W B (fun _ => True) v xs) (hB : B ≤ W.heap.size) (hl : xs.length + y.size ≤ 140737488355328)
    (h : ∀ v1 w1, kB.R 5 w1 B (fun _ => True) v1 (xs ++ bytesOf y) → W.grownBy w1 v.ownBlock → wpList Tryd.prog ops Q rest (a.put o.dst v1) w1) : wpList Tryd.prog ops Q (o :: rest) a W :=
  print_append_str (w0 := W) B hgd s x 77 u 5 ho Tryd.underlying77 hu byte_info v xs y hs hx (by have := Kd.own_of_R HO; exact this) (by have := Below.refl B W; exact this) hB hl
    (fun v1 w1 h1 _ h3 => h v1 w1 (Kd.R_of_own (by exact h1) (fun _ _ => trivial)) h3)
set_option maxRecDepth 100000 in
theorem writeString_calls (w : World) (B b : Nat) (p v : Value) (bs : List Int) (y : ByteArray) (h : Bd w B b p v bs) (hB : B ≤ w.heap.size) (hb : B ≤ b) (hl : bs.length + y.size ≤ 1099511627776) :
    Calls Tryd.prog 37 #[.pointer (some ⟨b, 0, none⟩), .string y] w fun e w' => (∃ r, e = .returned r) ∧ BPost w B b (bs ++ bytesOf y) w' := by
  have hu := Tryd.underlying79
  have HH := Aside0.mk h
  clear h
  go_enter Tryd.func37, Tryd.ntmps37
  go_wp2_with (fail)
  refine (check_calls w B b p v bs HH.out).mono ?_
  rintro e W1 ⟨rfl, hB1, hF1⟩
  obtain ⟨A, cap, rfl⟩ := Kd.R_slice hB1.row
  have hc1 : W1.cell? ⟨b, 1, none⟩ = some (.slice A bs.length cap) := (blk_cell hB1.blk 1).trans rfl
  have hf1 := blk_frozen hB1.blk 1
  have hsz := hF1.size
  have H1 := Aside0.mk hB1
  have HF1 := Aside0.mk hF1
  clear hB1 hF1
  go_wp2_with (at_builtin; go_must (refine app_text B rfl _ _ 9 rfl Tryd.underlying9 (.slice A bs.length cap) bs y rfl rfl H1.out.row (by omega) (by omega) ?_; intro v2 w2 h1 h2; obtain ⟨A2, c2, rfl⟩ := Kd.R_slice h1; have HR := Aside0.mk (show kB.R 5 w2 B (fun _ => True) (.slice A2 (bs.length + (bytesOf y).length) c2) (bs ++ bytesOf y) by simpa using h1); have HB2 := Aside0.mk (blk_grown H1.out.blk h2 H1.out.ne); have HF2 := Aside0.mk ((HF1.out.mono (T := fun k => B ≤ k) (fun _ hk => by omega)).grown h2 (fun q hq _ => Kd.R_base H1.out.row q hq)); have hx1 := (blk_cell HB2.out 1).trans (show _ = some (Value.slice A bs.length cap) from rfl); have hxf := blk_frozen HB2.out 1; clear h1 h2))
  go_ret2
  exact ⟨⟨_, rfl⟩, _, Bd.store HB2.out HR.out (.inr rfl), HF2.out.set _ (fun _ => hb)⟩
end Go.Proofs.YtagokdbpgljgjaaDoor.Bld
