/-
What a set, a list and a numbering that no call made answer, walked.
-/
import Derived.Test.YtpjhflimaiaokaaDoorKB
import Derived.Test.YtpjhflimaiaokaaDoorIA
namespace Go.Proofs.YtpjhflimaiaokaaDoor.NilW
open Go.RowKit Go.Proofs.YtpjhflimaiaokaaDoorW.PrintWords Go.Proofs.YtpjhflimaiaokaaDoorW.PrintLast Go.Proofs.YtpjhflimaiaokaaDoorW.PrintMore Go.Proofs.YtpjhflimaiaokaaDoor.Fr Go.Proofs.YtpjhflimaiaokaaDoor.Sets Go.Proofs.YtpjhflimaiaokaaDoor.SetW Go.Proofs.YtpjhflimaiaokaaDoor.Keys Go.Proofs.YtpjhflimaiaokaaDoor.Bld

theorem nHas (w : World) (n : Int) : Calls Tryd.prog 12 #[.pointer none, .int .i64 n] w fun e w' => e = .returned (.bool false) ∧ w = w' := by
  go_enter Tryd.func12, Tryd.ntmps12
  go_wp2
  go_ret
  exact ⟨rfl, rfl⟩
theorem nAdd (w : World) (v : Value) : Calls Tryd.prog 21 #[.pointer none, v] w fun e w' => e = .returned (.tuple #[.int .i64 0, .int .i64 2]) ∧ w = w' := by
  go_enter Tryd.func21, Tryd.ntmps21
  go_wp2
  go_ret2
  exact ⟨rfl, rfl⟩
theorem nLen (w : World) : Calls Tryd.prog 13 #[.pointer none] w fun e w' => e = .returned (.int .i64 0) ∧ w = w' := by
  go_enter Tryd.func13, Tryd.ntmps13
  go_wp2
  go_ret
  exact ⟨rfl, rfl⟩
theorem nAll (w : World) : Calls Tryd.prog 11 #[.pointer none] w fun e w' => e = .returned (.slice none 0 0) ∧ w = w' := by
  go_enter Tryd.func11, Tryd.ntmps11
  go_wp2
  go_ret
  exact ⟨rfl, rfl⟩
theorem nCopy (w : World) : Calls Tryd.prog 9 #[.pointer none] w fun e w' => e = .returned (.pointer none) ∧ w = w' := by
  go_enter Tryd.func9, Tryd.ntmps9
  go_wp2
  go_ret
  exact ⟨rfl, rfl⟩
theorem nJoin (w : World) (g : Nat) : Calls Tryd.prog 10 #[.pointer (some ⟨g, 0, none⟩), .pointer none] w fun e w' => e = .returned (.int .i64 0) ∧ w = w' := by
  go_enter Tryd.func10, Tryd.ntmps10
  go_wp2
  go_ret
  exact ⟨rfl, rfl⟩
theorem nPush (w : World) (n x : Int) : Calls Tryd.prog 22 #[.pointer none, .int .i64 n, .int .i64 x] w fun e w' => e = .returned (.tuple #[.bool false, .int .i64 2]) ∧ w = w' := by
  go_enter Tryd.func22, Tryd.ntmps22
  go_wp2
  go_ret2
  exact ⟨rfl, rfl⟩
theorem nPop (w : World) : Calls Tryd.prog 23 #[.pointer none] w fun e w' => e = .returned (.tuple #[.int .i64 0, .int .i64 0, .bool false]) ∧ w = w' := by
  go_enter Tryd.func23, Tryd.ntmps23
  go_wp2
  go_ret3
  exact ⟨rfl, rfl⟩
theorem nLLen (w : World) : Calls Tryd.prog 28 #[.pointer none] w fun e w' => e = .returned (.int .i64 0) ∧ w = w' := by
  go_enter Tryd.func28, Tryd.ntmps28
  go_wp2
  go_ret
  exact ⟨rfl, rfl⟩
theorem nXAt (w : World) (s : ByteArray) : Calls Tryd.prog 24 #[.pointer none, .string s] w fun e w' => e = .returned (.tuple #[.int .i64 0, .bool false, .int .i64 2]) ∧ w = w' := by
  go_enter Tryd.func24, Tryd.ntmps24
  go_wp2
  go_ret3
  exact ⟨rfl, rfl⟩
theorem nXFind (w : World) (s : ByteArray) : Calls Tryd.prog 25 #[.pointer none, .string s] w fun e w' => e = .returned (.tuple #[.int .i64 0, .bool false]) ∧ w = w' := by
  go_enter Tryd.func25, Tryd.ntmps25
  go_wp2
  go_ret2
  exact ⟨rfl, rfl⟩
theorem nXKey (w : World) (n : Int) : Calls Tryd.prog 26 #[.pointer none, .int .i64 n] w fun e w' => e = .returned (.tuple #[.string ⟨#[]⟩, .int .i64 2]) ∧ Fr (fun _ => False) w w' := by
  go_enter Tryd.func26, Tryd.ntmps26
  go_wp2
  go_ret2
  exact ⟨rfl, Fr.refl _ _⟩
theorem nXLen (w : World) : Calls Tryd.prog 29 #[.pointer none] w fun e w' => e = .returned (.int .i64 0) ∧ w = w' := by
  go_enter Tryd.func29, Tryd.ntmps29
  go_wp2
  go_ret
  exact ⟨rfl, rfl⟩
set_option maxRecDepth 100000 in
theorem nDrop (w : World) (ys : List Int) (A : Option Addr) (c : Nat) (hA : kI.C w A ys.length ys) : Calls Tryd.prog 27 #[.pointer none, .slice A ys.length c] w fun e w' => e = .returned (.int .i64 0) ∧ w = w' := by
  have hm := Kd.C_max hA
  go_enter Tryd.func27, Tryd.ntmps27
  go_wp2_with (fail)
  go_loopw [11, 5, 7, 8] (fun a b _ _ W => ∃ (i : Nat), a = .int .i64 i ∧ b = .int .i64 0 ∧ i ≤ ys.length ∧ W = w) (fun a _ _ _ _ => ys.length - (intOf a).toNat)
  case atStart => exact ⟨0, rfl, rfl, Nat.zero_le _, rfl⟩
  case round =>
    obtain ⟨i, rfl, rfl, hi, rfl⟩ := hrel
    by_cases hil : i < ys.length
    · obtain ⟨ad, rfl, hx⟩ := Kd.at_int hA (i : Int) (by omega) (by omega)
      simp only [Int.toNat_natCast] at hx
      go_wp2_with (fail)
      refine (nHas _ _).mono ?_
      rintro e W1 ⟨rfl, rfl⟩
      go_wp2_with (fail)
      exact ⟨⟨i + 1, by go_num, rfl, by omega, by first | rfl | trivial⟩, by simp [intOf]; omega⟩
    · go_wp2_with (fail)
      go_ret
      exact ⟨rfl, rfl⟩
set_option maxRecDepth 100000 in
theorem nMeets (w : World) (B g : Nat) (sv : Value) (h : Nums w B g sv []) : Calls Tryd.prog 15 #[.pointer (some ⟨g, 0, none⟩), .pointer none] w fun e w' => e = .returned (.bool false) ∧ w = w' := by
  obtain ⟨A, c, rfl⟩ := Kd.R_slice h.row
  have hu := Tryd.underlying67
  have hc : w.cell? ⟨g, 0, none⟩ = some (.slice A ([] : List Int).length c) := (blk_cell h.blk 0).trans rfl
  simp only [List.length_nil] at hc
  go_enter Tryd.func15, Tryd.ntmps15
  go_wp2
  go_loop [14] (fun a => a = .int .i64 0) (fun _ => 0)
  case atStart => rfl
  case round =>
    obtain rfl := hrel
    go_wp2
    go_ret
    exact ⟨rfl, rfl⟩
set_option maxRecDepth 100000 in
theorem nKey (w : World) : Calls Tryd.prog 17 #[.pointer none] w fun e w' => e = .returned (.string ⟨#[]⟩) ∧ Fr (fun _ => False) w w' := by
  have HBL := Aside0.mk (show Lib.IsBuilder 84 5 w.heap.size w.heap.size (Lib.byteCells []) (w.alloc (.cells #[.pointer none, .slice none 0 0] 84)) by
    have hR2 : (w.alloc (.cells #[.pointer none, .slice none 0 0] 84)).ownsRow w.heap.size 5 1 (.slice none 0 0) (Lib.byteCells []).length (Lib.byteCells []) := by
      simpa [encs, Lib.byteCells] using Kd.own_of_R (Kd.R_nil (Kd.int .u8) 5 (w.alloc (.cells #[.pointer none, .slice none 0 0] 84)) w.heap.size (fun _ => True))
    exact .inl ⟨Nat.le_refl _, .slice none 0 0, blk_new _ _, hR2, by simp [Value.ownBlock]⟩)
  go_enter Tryd.func17, Tryd.ntmps17
  go_wp2_with (fail)
  refine (Tryd.Builder_String_any w.heap.size w.heap.size [] _ HBL.out (by simp)).mono ?_
  rintro e W1 ⟨rfl, hb⟩
  have HB1 := Aside0.mk hb
  clear hb
  go_wp2_with (fail)
  go_ret
  exact ⟨rfl, Fr.of_below ((((Fr.refl (fun _ => False) w).alloc _).to_below).trans HB1.out)⟩
theorem look_nil (w : World) (n : Int) : (Instr.lookup 69 (.map none) (.int .i64 n) true).run Tryd.prog w = .ok (.tuple #[.int .i64 0, .bool false]) w := by
  have hu := Tryd.underlying69
  have hz : ∀ w, (zeroValue 3).run Tryd.prog w = .ok (.int .i64 0) w := fun w => by kernel_rfl
  have hf : ∀ w, (Instr.findKey 3 (.int .i64 n) []).run Tryd.prog w = .ok none w := fun w => by kernel_rfl
  have hc : ∀ w, (Instr.checkKey true 10000 3 (.int .i64 n)).run Tryd.prog w = .ok () w := fun w => by kernel_rfl
  simp [Instr.lookup, run_underlying hu, hz, hf, hc, go_sem]
def madeI (w : World) (m : Nat) (k n : Int) : World := { w with heap := w.heap.setIfInBounds m (.map #[{ key := .int .i64 k, val := .int .i64 n, born := 0 }] 1) }
theorem upd_empty (w : World) (m : Nat) (hm : w.heap[m]? = some (.map #[] 0)) (k n : Int) : (Instr.mapUpdate 69 (.map (some m)) (.int .i64 k) (.int .i64 n)).run Tryd.prog w = .ok () (madeI w m k n) := by
  have hu := Tryd.underlying69
  have hf : ∀ w, (Instr.findKey 3 (.int .i64 k) []).run Tryd.prog w = .ok none w := fun w => by kernel_rfl
  have hc : ∀ w, (Instr.checkKey false 10000 3 (.int .i64 k)).run Tryd.prog w = .ok () w := fun w => by kernel_rfl
  simp [Instr.mapUpdate, run_underlying hu, IxW.getObj_map hm, hf, hc, go_sem]
  simp [setObj, Sem.run, hm, madeI]
theorem madeI_heap (w : World) (m : Nat) (s n : Int) (k : Nat) (h : k ≠ m) : (madeI w m s n).heap[k]? = w.heap[k]? := by simp [madeI, h.symm]
theorem madeI_fr {S : Nat → Prop} {w0 w : World} (h : Fr S w0 w) (m : Nat) (s n : Int) (hm : m < w0.heap.size → S m) : Fr S w0 (madeI w m s n) :=
  h.trans (T := fun i => i = m) ⟨rfl, rfl, rfl, by simp [madeI], fun i _ hn => madeI_heap w m s n i hn⟩ (fun i hi e => by subst e; exact hm hi)
set_option maxRecDepth 100000 in
theorem iAt (w : World) (g : Nat) (n : Int) (hb : w.heap[g]? = some (.cells #[.map none, .slice none 0 0] 71 (0, 0))) :
    Calls Tryd.prog 30 #[.pointer (some ⟨g, 0, none⟩), .int .i64 n] w fun e w' => e = .returned (.tuple #[.int .i64 0, .bool true, .int .i64 0]) ∧ Fr (fun i => i = g) w w' := by
  have hu := Tryd.underlying71
  have hg := blk_lt hb
  have hl := look_nil w n
  have c1 : w.cell? ⟨g, 0, none⟩ = some (.map none) := (blk_cell hb 0).trans rfl
  have f1 := blk_frozen hb 0
  have c2 : w.cell? ⟨g, 1, none⟩ = some (.slice none 0 0) := (blk_cell hb 1).trans rfl
  have hmn := fun wx => run_eql_map_nil (P := Tryd.prog) wx 69 _ _ none Tryd.underlying69
  have hmm := @run_makeMap Tryd.prog
  go_enter Tryd.func30, Tryd.ntmps30
  go_wp2_with (fail)
  have hb1 : ((w.setCell ⟨g, 0, none⟩ (.map (some w.heap.size))).alloc (.map #[] 0)).heap[g]? = some (.cells #[.map (some w.heap.size), .slice none 0 0] 71 (0, 0)) := blk_alloc (blk_set hb 0 _) _
  have hmp : ((w.setCell ⟨g, 0, none⟩ (.map (some w.heap.size))).alloc (.map #[] 0)).heap[w.heap.size]? = some (.map #[] 0) := by simpa using blk_new (w.setCell ⟨g, 0, none⟩ (.map (some w.heap.size))) (.map #[] 0)
  have hup := upd_empty ((w.setCell ⟨g, 0, none⟩ (.map (some w.heap.size))).alloc (.map #[] 0)).drew w.heap.size hmp n 0
  have HW := Aside0.mk (show Fr (fun i => i = g) w ((w.setCell ⟨g, 0, none⟩ (.map (some w.heap.size))).alloc (.map #[] 0)) from ((Fr.refl (fun i => i = g) w).set (g := g) (o := 0) (.map (some w.heap.size)) (fun _ => rfl)).alloc (.map #[] 0))
  generalize hwa : (w.setCell ⟨g, 0, none⟩ (.map (some w.heap.size))).alloc (.map #[] 0) = wa at hb1 hmp hup HW ⊢
  clear hwa c1 c2 f1 hb hl
  have hgm : g ≠ w.heap.size := by omega
  have c3 : wa.cell? ⟨g, 0, none⟩ = some (.map (some w.heap.size)) := (blk_cell hb1 0).trans rfl
  have c4 : wa.cell? ⟨g, 1, none⟩ = some (.slice none 0 0) := (blk_cell hb1 1).trans rfl
  have hb3 : (madeI wa.drew w.heap.size n 0).heap[g]? = some (.cells #[.map (some w.heap.size), .slice none 0 0] 71 (0, 0)) := (madeI_heap _ _ n 0 g hgm).trans hb1
  have c5 : (madeI wa.drew w.heap.size n 0).cell? ⟨g, 1, none⟩ = some (.slice none 0 0) := (blk_cell hb3 1).trans rfl
  have HB3 := Aside0.mk hb3
  clear hb3 hb1
  go_region
  go_wp2_with (at_builtin; refine Kd.R_append kI (w0 := madeI wa.drew w.heap.size n 0) (madeI wa.drew w.heap.size n 0).heap.size rfl _ _ 22 3 _ 8 rfl Tryd.underlying22 int_info rfl (by decide) (by decide) (.slice none 0 0) [] n [.int .i64 n] (fun _ => True) (fun _ => False) rfl rfl rfl (fun _ hf => hf.elim) (fun _ _ => trivial) (Kd.R_nil _ _ _ _ _) (Below.refl _ _) (Nat.le_refl _) (by simp) ?_; intro v1 w1 h1 _ h2 _; obtain ⟨A1, k1, rfl⟩ := Kd.R_slice h1; have hb4 := blk_grown HB3.out h2 (by simp [Value.ownBlock]); have HB4 := Aside0.mk hb4; have c6 : w1.cell? ⟨g, 1, none⟩ = some (.slice none 0 0) := (blk_cell hb4 1).trans rfl; have f5 := blk_frozen hb4 1; have HG := Aside0.mk h2; clear h1 h2 hb4)
  go_ret3
  exact ⟨rfl, ((madeI_fr (HW.out.drew) _ n 0 (fun h => absurd h (Nat.lt_irrefl _))).grown HG.out (fun k hk _ => by simp [Value.ownBlock] at hk)).set _ (fun _ => rfl)⟩
end Go.Proofs.YtpjhflimaiaokaaDoor.NilW
