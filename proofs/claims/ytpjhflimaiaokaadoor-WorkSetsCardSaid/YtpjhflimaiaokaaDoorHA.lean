/-
The heap of tasks: Len, Less, Swap, Push and Pop as methods of the slice, walked.
-/
import Derived.Test.YtpjhflimaiaokaaDoorFr
import Derived.Test.YtpjhflimaiaokaaDoorProg
import Derived.Lib.Hide
import Derived.Outline
import Derived.Deep.RegionLaw
namespace Go.Proofs.YtpjhflimaiaokaaDoor.Hand
open Go.RowKit Go.Proofs.YtpjhflimaiaokaaDoorW.PrintWords Go.Proofs.YtpjhflimaiaokaaDoorW.PrintLast Go.Proofs.YtpjhflimaiaokaaDoorW.PrintMore Go.Proofs.YtpjhflimaiaokaaDoor.Fr

theorem mLen0 (w : World) (a : Addr) : (method 245 95 (.pointer (some a)) "Len").run Tryd.prog w = (do let v ← load a; pure (84, v) : Sem (FuncId × Value)).run Tryd.prog w := by kernel_rfl
theorem mLen (w : World) (a : Addr) (sv : Value) (hb : w.cell? a = some sv) : (method 245 95 (.pointer (some a)) "Len").run Tryd.prog w = .ok (84, sv) w := by
  rw [mLen0]
  simp [hb, go_sem]
theorem mLess0 (w : World) (a : Addr) : (method 245 95 (.pointer (some a)) "Less").run Tryd.prog w = (do let v ← load a; pure (85, v) : Sem (FuncId × Value)).run Tryd.prog w := by kernel_rfl
theorem mLess (w : World) (a : Addr) (sv : Value) (hb : w.cell? a = some sv) : (method 245 95 (.pointer (some a)) "Less").run Tryd.prog w = .ok (85, sv) w := by
  rw [mLess0]
  simp [hb, go_sem]
theorem mSwap0 (w : World) (a : Addr) : (method 245 95 (.pointer (some a)) "Swap").run Tryd.prog w = (do let v ← load a; pure (86, v) : Sem (FuncId × Value)).run Tryd.prog w := by kernel_rfl
theorem mSwap (w : World) (a : Addr) (sv : Value) (hb : w.cell? a = some sv) : (method 245 95 (.pointer (some a)) "Swap").run Tryd.prog w = .ok (86, sv) w := by
  rw [mSwap0]
  simp [hb, go_sem]
theorem mPush (w : World) (a : Addr) : (method 245 95 (.pointer (some a)) "Push").run Tryd.prog w = .ok (90, .pointer (some a)) w := by kernel_rfl
theorem mPop (w : World) (a : Addr) : (method 245 95 (.pointer (some a)) "Pop").run Tryd.prog w = .ok (89, .pointer (some a)) w := by kernel_rfl

/-- A task. -/
structure Tk where
  n : Int
  w : Int
  deriving DecidableEq
def Tk.z : Tk := ⟨0, 0⟩
def kT : Kd Tk := Kd.iso (Kd.pair (Kd.int .i64) (Kd.int .i64)) (fun x : Tk => (x.n, x.w))
theorem kT_open {w : World} {x : Tk} {cs : List Value} (h : kT.K w x cs) : cs = [.int .i64 x.n, .int .i64 x.w] := by
  obtain ⟨_, _, rfl, rfl, rfl⟩ := h
  exact rfl
theorem kT_openM {w : World} {base : Nat} {ok : Nat → Prop} {x : Tk} {cs : List Value} (h : kT.M w base ok x cs) : cs = [.int .i64 x.n, .int .i64 x.w] := by
  obtain ⟨_, _, rfl, rfl, rfl⟩ := h
  exact rfl
theorem kT_mkM (w : World) (base : Nat) (ok : Nat → Prop) (x : Tk)  : kT.M w base ok x [.int .i64 x.n, .int .i64 x.w] := ⟨[.int .i64 x.n], [.int .i64 x.w], rfl, rfl, rfl⟩
/-- An element of a row of tasks that is read. -/
theorem at_tk {w : World} {A : Option Addr} {n : Nat} {xs : List Tk} (h : Kd.C kT w A n xs) (i : Int) (h0 : 0 ≤ i) (h1 : i < n) : ∃ ad , A = some ad ∧ w.cell? (ad.add (i.toNat * 2)) = some (.int .i64 (xs.getD i.toNat Tk.z).n) ∧ w.cell? ⟨(ad.add (i.toNat * 2)).block, (ad.add (i.toNat * 2)).off + 1, none⟩ = some (.int .i64 (xs.getD i.toNat Tk.z).w) := by
  obtain ⟨ad, c, e, _, hK, hc0⟩ := Kd.C_get h Tk.z i h0 h1
  have hc : ∀ j u, c[j]? = some u → w.cell? (ad.add (i.toNat * 2 + j)) = some u := hc0
  obtain rfl := kT_open hK
  exact ⟨ad, e, hc 0 _ rfl, by rw [← add_field _ _ 1 (by omega)]; exact hc 1 _ rfl⟩
theorem ret_b {x y : Bool} (h : x = y) : Ending.returned (.bool x) = .returned (.bool y) := by rw [h]
theorem ret_i {x y : Int} (h : x = y) : Ending.returned (.int .i64 x) = .returned (.int .i64 y) := by rw [h]
theorem grown_drew {w w1 : World} {row : Option Nat} (h : w.grownBy w1 row) : w.grownBy w1.drew row := ⟨h.os, h.tape, h.output, h.size, h.block⟩
def less (a b : Tk) : Bool := decide (a.w < b.w) || (decide (a.w = b.w) && decide (a.n < b.n))

set_option maxRecDepth 100000 in
theorem tLen_calls (w : World) (A : Option Addr) (n c : Nat) : Calls Tryd.prog 84 #[.slice A n c] w fun e w' => e = .returned (.int .i64 n) ∧ w = w' := by
  go_enter Tryd.func84, Tryd.ntmps84
  go_wp2
  go_ret
  exact ⟨rfl, rfl⟩

set_option maxRecDepth 100000 in
theorem tLess_calls (w : World) (A : Option Addr) (n c : Nat) (ts : List Tk) (hr : Kd.C kT w A n ts) (i j : Int) (hi : 0 ≤ i) (hin : i < n) (hj : 0 ≤ j) (hjn : j < n) :
    Calls Tryd.prog 85 #[.slice A n c, .int .i64 i, .int .i64 j] w fun e w' => e = .returned (.bool (less (ts.getD i.toNat Tk.z) (ts.getD j.toNat Tk.z))) ∧ Drawn0 w w' := by
  obtain ⟨ad, rfl, i1, i2⟩ := at_tk hr i hi hin
  obtain ⟨ad', e, j1, j2⟩ := at_tk hr j hj hjn
  cases e
  have hm := Kd.C_max hr
  have hu := Tryd.underlying99
  clear hr
  generalize ts.getD i.toNat Tk.z = a at *
  generalize ts.getD j.toNat Tk.z = b at *
  by_cases h1 : a.w < b.w
  · have he : less a b = true := by simp [less, h1]
    have HE := Lib.hid he
    clear he
    go_enter Tryd.func85, Tryd.ntmps85
    go_wp2
    go_quiet (fail)
    go_wp2
    go_ret
    exact ⟨ret_b HE.out.symm, Drawn0.step (Drawn0.refl _) _⟩
  · by_cases h2 : a.w = b.w
    · have h1b : decide (a.w < b.w) = false := decide_eq_false h1
      have h2b : (a.w == b.w) = true := beq_iff_eq.mpr h2
      have he : less a b = decide (a.n < b.n) := by simp [less, h2]
      clear h1 h2
      have HE := Lib.hid he
      clear he
      go_enter Tryd.func85, Tryd.ntmps85
      go_wp2
      go_quiet (fail)
      go_wp2
      go_ret
      exact ⟨ret_b HE.out.symm, Drawn0.step (Drawn0.refl _) _⟩
    · have h1b : decide (a.w < b.w) = false := decide_eq_false h1
      have h2b : (a.w == b.w) = false := beq_eq_false_iff_ne.mpr h2
      have he : less a b = false := by simp [less, h1, h2]
      clear h1 h2
      have HE := Lib.hid he
      clear he
      go_enter Tryd.func85, Tryd.ntmps85
      go_wp2
      go_quiet (fail)
      go_wp2
      go_ret
      exact ⟨ret_b HE.out.symm, Drawn0.step (Drawn0.refl _) _⟩

theorem cell_set_some (w : World) {p q : Addr} {v u : Value} (h : w.cell? q = some v) : ∃ v', (w.setCell p u).cell? q = some v' := cell?_setCell_some (w := w) (p := p) (x := u) (q := q) (v := v) h
def swapT (ts : List Tk) (i j : Nat) : List Tk := (ts.set i (ts.getD j Tk.z)).set j (ts.getD i Tk.z)
set_option maxRecDepth 100000 in
theorem tSwap_calls (w : World) (B g n cap : Nat) (ok : Nat → Prop) (ts : List Tk) (hr : kT.R 99 w B ok (.slice (some ⟨g, 0, none⟩) n cap) ts) (i j : Int) (hi : 0 ≤ i) (hin : i < n) (hj : 0 ≤ j) (hjn : j < n) :
    Calls Tryd.prog 86 #[.slice (some ⟨g, 0, none⟩) n cap, .int .i64 i, .int .i64 j] w fun e w' => e = .returned (.tuple #[]) ∧
      kT.R 99 w' B ok (.slice (some ⟨g, 0, none⟩) n cap) (swapT ts i.toNat j.toNat) ∧ w.grownBy w' (some g) := by
  obtain ⟨hn, hnc, hC⟩ := Kd.R_reads' hr
  have hm := Kd.C_max hC
  obtain ⟨ci, hci, hMi, hi0, hif⟩ := Kd.R_elem hr Tk.z i hi hin
  obtain ⟨cj, hcj, hMj, hj0, hjf⟩ := Kd.R_elem hr Tk.z j hj hjn
  obtain rfl := kT_openM hMi
  obtain rfl := kT_openM hMj
  -- the end
  have hend : kT.R 99 ((((w.setCell ⟨g, i.toNat * 2, none⟩ (.int .i64 (ts.getD j.toNat Tk.z).n)).setCell ⟨g, i.toNat * 2 + 1, none⟩ (.int .i64 (ts.getD j.toNat Tk.z).w)).setCell ⟨g, j.toNat * 2, none⟩ (.int .i64 (ts.getD i.toNat Tk.z).n)).setCell ⟨g, j.toNat * 2 + 1, none⟩ (.int .i64 (ts.getD i.toNat Tk.z).w)) B ok (.slice (some ⟨g, 0, none⟩) n cap) (swapT ts i.toNat j.toNat) ∧
      w.grownBy ((((w.setCell ⟨g, i.toNat * 2, none⟩ (.int .i64 (ts.getD j.toNat Tk.z).n)).setCell ⟨g, i.toNat * 2 + 1, none⟩ (.int .i64 (ts.getD j.toNat Tk.z).w)).setCell ⟨g, j.toNat * 2, none⟩ (.int .i64 (ts.getD i.toNat Tk.z).n)).setCell ⟨g, j.toNat * 2 + 1, none⟩ (.int .i64 (ts.getD i.toNat Tk.z).w)) (some g) := by
    obtain ⟨r1, g1⟩ := Kd.R_seg hr i hi hin (seg := [.int .i64 (ts.getD j.toNat Tk.z).n, .int .i64 (ts.getD j.toNat Tk.z).w]) (j := 0) hci hi0 (Nat.le_refl 2) (kT_mkM w B (fun _ => False) (ts.getD j.toNat Tk.z)) (fun _ hf => hf.elim)
    obtain ⟨dj, hdj, hMd, hd0, hdf⟩ := Kd.R_elem r1 Tk.z j hj (by omega)
    obtain ⟨r2, g2⟩ := Kd.R_seg r1 j hj (by omega) (seg := [.int .i64 (ts.getD i.toNat Tk.z).n, .int .i64 (ts.getD i.toNat Tk.z).w]) (j := 0) hdj hd0 (Nat.le_refl 2) (x' := ts.getD i.toNat Tk.z) (okp := fun _ => False)
      (by obtain rfl := kT_openM hMd; exact kT_mkM _ B (fun _ => False) (ts.getD i.toNat Tk.z)) (fun _ hf => hf.elim)
    exact ⟨r2, g1.trans g2⟩
  have i1 := hi0 0 _ rfl
  have i2 := hi0 1 _ rfl
  have i3 := hif 0
  have i4 := hif 1
  have j1 := hj0 0 _ rfl
  have j2 := hj0 1 _ rfl
  have j3 := hjf 0
  have j4 := hjf 1
  have hu := Tryd.underlying99
  simp only [show kT.sz = 2 from rfl, Nat.add_zero] at i1 i2 i3 i4 j1 j2 j3 j4
  clear hi0 hj0 hif hjf hMi hMj hr hC hn hci hcj
  generalize ts.getD i.toNat Tk.z = a at *
  generalize ts.getD j.toNat Tk.z = b at *
  have HE := Aside0.mk hend
  clear hend
  obtain ⟨k1, hk1⟩ := cell_set_some w (p := ⟨g, i.toNat * 2, none⟩) (u := .int .i64 b.n) j1
  obtain ⟨k2, hk2⟩ := cell_set_some w (p := ⟨g, i.toNat * 2, none⟩) (u := .int .i64 b.n) j2
  obtain ⟨k3, hk3⟩ := cell_set_some (w.setCell ⟨g, i.toNat * 2, none⟩ (.int .i64 b.n)) (p := ⟨g, i.toNat * 2 + 1, none⟩) (u := .int .i64 b.w) hk1
  obtain ⟨k4, hk4⟩ := cell_set_some (w.setCell ⟨g, i.toNat * 2, none⟩ (.int .i64 b.n)) (p := ⟨g, i.toNat * 2 + 1, none⟩) (u := .int .i64 b.w) hk2
  obtain ⟨k5, hk5⟩ := cell_set_some ((w.setCell ⟨g, i.toNat * 2, none⟩ (.int .i64 b.n)).setCell ⟨g, i.toNat * 2 + 1, none⟩ (.int .i64 b.w)) (p := ⟨g, j.toNat * 2, none⟩) (u := .int .i64 a.n) hk4
  go_enter Tryd.func86, Tryd.ntmps86
  go_wp2
  go_region
  all_goals (go_end0; exact ⟨rfl, Kd.R_drew HE.out.1, grown_drew HE.out.2⟩)

/-- Block g is a list: its one cell is the slice sv, a row of the tasks ts. -/
structure Tasks (w : World) (B g : Nat) (sv : Value) (ts : List Tk) : Prop where
  blk : w.heap[g]? = some (.cells #[sv] 76 (0, 0))
  row : kT.R 99 w B (fun _ => True) sv ts
theorem Tasks.cell {w : World} {B g : Nat} {sv : Value} {ts : List Tk} (h : Tasks w B g sv ts) : w.cell? ⟨g, 0, none⟩ = some sv := (blk_cell h.blk 0).trans rfl
theorem Tasks.frozen {w : World} {B g : Nat} {sv : Value} {ts : List Tk} (h : Tasks w B g sv ts) : w.frozen? ⟨g, 0, none⟩ = false := blk_frozen h.blk 0
theorem Tasks.ne {w : World} {B g : Nat} {sv : Value} {ts : List Tk} (h : Tasks w B g sv ts) : some g ≠ sv.ownBlock := Kd.R_ne h.row h.blk (by decide)
theorem Tasks.drewN {w : World} {B g : Nat} {sv : Value} {ts : List Tk} (h : Tasks w B g sv ts) (q : Nat) : Tasks (w.drewN q) B g sv ts := ⟨h.blk, Kd.R_drewN h.row q⟩
theorem Tasks.drawn {w w1 : World} {B g : Nat} {sv : Value} {ts : List Tk} (h : Tasks w B g sv ts) (hd : Drawn0 w w1) : Tasks w1 B g sv ts := by
  obtain ⟨q, rfl⟩ := hd
  exact h.drewN q
theorem Tasks.alloc {w : World} {B g : Nat} {sv : Value} {ts : List Tk} (h : Tasks w B g sv ts) (o : Obj) : Tasks (w.alloc o) B g sv ts := ⟨blk_alloc h.blk o, Kd.R_alloc h.row o⟩
theorem Tasks.grown {w w1 : World} {B g gr n cap : Nat} {ts us : List Tk} (h : Tasks w B g (.slice (some ⟨gr, 0, none⟩) n cap) ts) (hR : kT.R 99 w1 B (fun _ => True) (.slice (some ⟨gr, 0, none⟩) n cap) us) (hG : w.grownBy w1 (some gr)) :
    Tasks w1 B g (.slice (some ⟨gr, 0, none⟩) n cap) us := ⟨blk_grown h.blk hG h.ne, hR⟩
/-- What a call on a list may turn. -/
def Foot (g : Nat) (sv : Value) (i : Nat) : Prop := i = g ∨ sv.ownBlock = some i
/-- A call has left the list ts' in block g. -/
def Turned (w : World) (B g : Nat) (sv : Value) (ts' : List Tk) (w' : World) : Prop :=
  ∃ sv', Tasks w' B g sv' ts' ∧ Fr (Foot g sv) w w' ∧ (sv'.ownBlock = sv.ownBlock ∨ ∃ b, sv'.ownBlock = some b ∧ w.heap.size ≤ b)

theorem tasks_row_set {w1 : World} {B g : Nat} {sv sv1 : Value} {ts1 : List Tk} (hR : kT.R 99 w1 B (fun _ => True) sv1 ts1) (hb : w1.heap[g]? = some (.cells #[sv] 76 (0, 0))) (u : Value) : kT.R 99 (w1.setCell ⟨g, 0, none⟩ u) B (fun _ => True) sv1 ts1 :=
  Kd.R_mono (Kd.R_set hR hb (by intro q hq; simp only [List.mem_cons] at hq; rcases hq with rfl | hq; decide; exact absurd hq (by simp [kT, Kd.iso, Kd.pair, Kd.int, Kd.scalar])) 0 u) (fun _ _ => trivial)
theorem turned_store {w w1 : World} {B g : Nat} {sv sv1 : Value} {ts ts1 : List Tk} (_h : Tasks w B g sv ts) (hR : kT.R 99 w1 B (fun _ => True) sv1 ts1) (hb : w1.heap[g]? = some (.cells #[sv] 76 (0, 0)))
    (hF : Fr (Foot g sv) w w1) (hA : sv1.ownBlock = sv.ownBlock ∨ ∃ b, sv1.ownBlock = some b ∧ w.heap.size ≤ b) : Turned w B g sv ts1 (w1.setCell ⟨g, 0, none⟩ sv1) :=
  ⟨sv1, ⟨blk_set hb 0 sv1, tasks_row_set hR hb sv1⟩, hF.set _ (fun _ => .inl rfl), hA⟩

theorem foot_step {w w1 w2 : World} {g : Nat} {sv sv1 : Value} (hF : Fr (Foot g sv) w w1) (hA : sv1.ownBlock = sv.ownBlock ∨ ∃ b, sv1.ownBlock = some b ∧ w.heap.size ≤ b) (hF2 : Fr (Foot g sv1) w1 w2) : Fr (Foot g sv) w w2 :=
  hF.trans hF2 (fun i hi hk => by
    rcases hk with rfl | hk
    · exact .inl rfl
    · rcases hA with e | ⟨b, e, hb⟩
      · exact .inr (e ▸ hk)
      · rw [e] at hk; injection hk with hk; omega)
theorem ptask_info : (Tryd.prog.info? 99).map (fun i => (i.zero, i.size, i.bytes)) = some (some (.agg #[.int .i64 0, .int .i64 0]), 2, 16) := by kernel_rfl

set_option maxRecDepth 100000 in
theorem tPush_calls (w : World) (B g : Nat) (sv : Value) (ts : List Tk) (x : Tk) (h : Tasks w B g sv ts) (hB : B ≤ w.heap.size) (hl : ts.length ≤ 1048576) :
    Calls Tryd.prog 90 #[.pointer (some ⟨g, 0, none⟩), .iface 99 (.agg #[.int .i64 x.n, .int .i64 x.w])] w fun e w' => e = .returned (.tuple #[]) ∧ Turned w B g sv (ts ++ [x]) w' := by
  have hc := h.cell
  have hf := h.frozen
  have hc2 : (w.alloc (.cells #[.int .i64 x.n, .int .i64 x.w] 99)).cell? ⟨g, 0, none⟩ = some sv := (blk_cell (blk_alloc h.blk _) 0).trans rfl
  have hu := Tryd.underlying74
  have hta : ∀ (v : Value) (W : World), (Instr.typeAssert (.iface 99 v) 20 99 false).run Tryd.prog W = .ok v W := fun v W => by rfl
  go_enter Tryd.func90, Tryd.ntmps90
  go_wp2
  go_region_law (refine Kd.R_append_step kT (w0 := w) (W := w.drew) B rfl _ _ 74 99 _ 16 rfl Tryd.underlying74 ptask_info rfl (by decide) (by decide) sv ts x [.int .i64 x.n, .int .i64 x.w] (fun _ => True) (fun _ => False) (by simp [Act.eval]) (by simp [Act.eval]) (kT_mkM _ _ _ x) (fun _ hf => hf.elim) (fun _ _ => trivial) (Kd.R_drew h.row) (below_drew (Below.refl _ _)) hB (by omega) ?_; intro v1 w1 hR hBl hG hA; obtain ⟨A1, k1, rfl⟩ := Kd.R_slice hR; have hb1 : w1.heap[g]? = some (.cells #[sv] 76 (0, 0)) := (hG.block g (blk_lt h.blk) h.ne).trans h.blk; have c1 : w1.cell? ⟨g, 0, none⟩ = some sv := (blk_cell hb1 0).trans rfl; have f1 := blk_frozen hb1 0; have HR := Aside0.mk hR; have HG := Aside0.mk hG; have HA := Aside0.mk hA; have HB1 := Aside0.mk hb1; clear hR hBl hG hA hb1)
  all_goals (go_end0; exact ⟨rfl, turned_store h (by simpa using HR.out) HB1.out ((Fr.refl _ _).drew.grown HG.out (fun k hk _ => .inr hk)) (by simpa using HA.out)⟩)

end Go.Proofs.YtpjhflimaiaokaaDoor.Hand
