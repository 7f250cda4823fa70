/-
The set of numbers: the helpers, walked.
-/
import Derived.Test.YtpjhflimaiaokaaDoorCp
import Derived.Test.YtpjhflimaiaokaaDoorSP
import Derived.Test.YtpjhflimaiaokaaDoorProg
import Derived.Lib.Hide
import Derived.Outline
import Derived.IntWalk
namespace Go.Proofs.YtpjhflimaiaokaaDoor.SetW
open Go.RowKit Go.Proofs.YtpjhflimaiaokaaDoorW.PrintWords Go.Proofs.YtpjhflimaiaokaaDoorW.PrintLast Go.Proofs.YtpjhflimaiaokaaDoorW.PrintMore Go.Proofs.YtpjhflimaiaokaaDoor.Fr Go.Proofs.YtpjhflimaiaokaaDoor.Sets

/-- Whole numbers. -/
abbrev kI : Kd Int := Kd.int .i64
theorem ret_b {x y : Bool} (h : x = y) : Ending.returned (.bool x) = .returned (.bool y) := by rw [h]
theorem ret_i {x y : Int} (h : x = y) : Ending.returned (.int .i64 x) = .returned (.int .i64 y) := by rw [h]
set_option maxRecDepth 100000 in
theorem number_calls (n : Int) (w : World) : Calls Tryd.prog 43 #[.int .i64 n] w fun e w' => e = .returned (.bool (isNum n)) ∧ w = w' := by
  by_cases h0 : 0 ≤ n
  · have HE := Lib.hid (show isNum n = decide (n < 1048576) by simp [isNum, h0])
    go_enter Tryd.func43, Tryd.ntmps43
    go_wp2
    go_ret
    exact ⟨ret_b HE.out.symm, rfl⟩
  · have HE := Lib.hid (show isNum n = false by simp [isNum, h0])
    go_enter Tryd.func43, Tryd.ntmps43
    go_wp2
    go_ret
    exact ⟨ret_b HE.out.symm, rfl⟩

/-- Block g is a set: its one cell is the slice sv, a row of the numbers l. -/
structure Nums (w : World) (B g : Nat) (sv : Value) (l : List Int) : Prop where
  blk : w.heap[g]? = some (.cells #[sv] 67 (0, 0))
  row : kI.R 3 w B (fun _ => True) sv l
theorem Nums.cell {w : World} {B g : Nat} {sv : Value} {l : List Int} (h : Nums w B g sv l) : w.cell? ⟨g, 0, none⟩ = some sv := (blk_cell h.blk 0).trans rfl
theorem Nums.frozen {w : World} {B g : Nat} {sv : Value} {l : List Int} (h : Nums w B g sv l) : w.frozen? ⟨g, 0, none⟩ = false := blk_frozen h.blk 0
theorem Nums.ne {w : World} {B g : Nat} {sv : Value} {l : List Int} (h : Nums w B g sv l) : some g ≠ sv.ownBlock := Kd.R_ne h.row h.blk (by decide)
theorem Nums.drewN {w : World} {B g : Nat} {sv : Value} {l : List Int} (h : Nums w B g sv l) (q : Nat) : Nums (w.drewN q) B g sv l := ⟨h.blk, Kd.R_drewN h.row q⟩
theorem Nums.drawn {w w1 : World} {B g : Nat} {sv : Value} {l : List Int} (h : Nums w B g sv l) (hd : Drawn0 w w1) : Nums w1 B g sv l := by
  obtain ⟨q, rfl⟩ := hd
  exact h.drewN q
theorem Nums.alloc {w : World} {B g : Nat} {sv : Value} {l : List Int} (h : Nums w B g sv l) (o : Obj) : Nums (w.alloc o) B g sv l := ⟨blk_alloc h.blk o, Kd.R_alloc h.row o⟩

/-! ### rising rows -/
structure PlaceInv (l : List Int) (n a b : Int) : Prop where
  a0 : 0 ≤ a
  ab : a ≤ b
  bl : b ≤ l.length
  lo : ∀ j, 0 ≤ j → j < a → rd l j < n
  hi : ∀ j, b ≤ j → j < l.length → n ≤ rd l j
theorem PlaceInv.start (l : List Int) (n : Int) : PlaceInv l n 0 l.length := ⟨by omega, by omega, by omega, by intros; omega, by intros; omega⟩
theorem PlaceInv.up {l : List Int} {n a b : Int} (h : PlaceInv l n a b) (hs : Rising l) (hab : a < b) (hlt : rd l ((a + b) / 2) < n) : PlaceInv l n ((a + b) / 2 + 1) b := by
  have := h.a0; have := h.bl
  refine ⟨by omega, by omega, h.bl, fun j h0 hj => ?_, h.hi⟩
  by_cases e : j = (a + b) / 2
  · rw [e]; exact hlt
  · have := hs j ((a + b) / 2) h0 (by omega) (by omega); omega
theorem PlaceInv.down {l : List Int} {n a b : Int} (h : PlaceInv l n a b) (hs : Rising l) (hab : a < b) (hge : ¬ rd l ((a + b) / 2) < n) : PlaceInv l n a ((a + b) / 2) := by
  have := h.a0; have := h.bl
  refine ⟨h.a0, by omega, by omega, h.lo, fun j h0 hj => ?_⟩
  by_cases e : j = (a + b) / 2
  · rw [e]; omega
  · have := hs ((a + b) / 2) j (by omega) (by omega) (by omega); omega
theorem PlaceInv.done {l : List Int} {n a b : Int} (h : PlaceInv l n a b) (hab : ¬ a < b) : Stands l n a := by
  have := h.ab
  exact ⟨h.a0, by have := h.bl; omega, h.lo, fun j h0 hj => h.hi j (by omega) hj⟩
def PlacePost (l : List Int) (n : Int) (w : World) (e : Ending) (w' : World) : Prop := ∃ k : Int, e = .returned (.int .i64 k) ∧ Stands l n k ∧ Drawn0 w w'
set_option maxRecDepth 100000 in
theorem place_calls (w : World) (B g : Nat) (sv : Value) (l : List Int) (n : Int) (h : Nums w B g sv l) (hl : Rising l) (hlen : l.length ≤ 1048577) :
    Calls Tryd.prog 33 #[.pointer (some ⟨g, 0, none⟩), .int .i64 n] w (PlacePost l n w) := by
  obtain ⟨A, c, rfl, hlc, hC⟩ := Kd.R_reads h.row
  have hcell := h.cell
  have hu78 := Tryd.underlying67
  have HC := Aside0.mk hC
  have HL := Aside0.mk hl
  clear hC hl h
  go_enter Tryd.func33, Tryd.ntmps33
  go_wp2
  go_quiet (fail)
  go_wp2
  go_loopw [5, 6, 7] (fun a b m W => ∃ x y : Int, a = .int .i64 x ∧ b = .int .i64 y ∧ Aside0 (PlaceInv l n x y) ∧ Drawn0 w W) (fun a b m W => (intOf b - intOf a).toNat)
  case atStart => exact ⟨_, _, rfl, rfl, ⟨PlaceInv.start l n⟩, Drawn0.step (Drawn0.refl _) _⟩
  case round =>
    obtain ⟨x, y, rfl, rfl, HI, ⟨k, rfl⟩⟩ := hrel
    have b1 := HI.out.a0
    have b2 := HI.out.ab
    have b3 := HI.out.bl
    by_cases hxy : x < y
    · obtain ⟨ad, rfl, hx⟩ := Kd.at_int HC.out ((x + y) / 2) (by omega) (by omega)
      have hx' : (w.drewN k).cell? (ad.add ((x + y) / 2).toNat) = some (.int .i64 (rd l ((x + y) / 2))) := hx
      by_cases hlt : rd l ((x + y) / 2) < n
      · go_wp2
        exact ⟨⟨_, _, rfl, rfl, ⟨HI.out.up HL.out hxy hlt⟩, ⟨_, rfl⟩⟩, by simp [intOf]; omega⟩
      · have hge : n ≤ rd l ((x + y) / 2) := by omega
        have HLT := Lib.hid hlt
        clear hlt
        go_wp2
        exact ⟨⟨_, _, rfl, rfl, ⟨HI.out.down HL.out hxy (Int.not_lt.mpr hge)⟩, ⟨_, rfl⟩⟩, by simp [intOf]; omega⟩
    · go_wp2
      go_ret
      exact ⟨x, rfl, HI.out.done (by omega), ⟨_, rfl⟩⟩

set_option maxRecDepth 100000 in
theorem has_calls (w : World) (B g : Nat) (sv : Value) (l : List Int) (n : Int) (h : Nums w B g sv l) (hl : Rising l) (hlen : l.length ≤ 1048577) :
    Calls Tryd.prog 12 #[.pointer (some ⟨g, 0, none⟩), .int .i64 n] w fun e w' => e = .returned (.bool (decide (n ∈ l))) ∧ Drawn0 w w' := by
  obtain ⟨A, c, rfl⟩ := Kd.R_slice h.row
  have hu := Tryd.underlying67
  go_enter Tryd.func12, Tryd.ntmps12
  go_wp2_with (fail)
  refine (place_calls _ B g _ l n h hl hlen).mono ?_
  rintro e W1 ⟨k, rfl, hk, hd⟩
  have HN := Aside0.mk (h.drawn hd)
  have HD := Aside0.mk hd
  have HK := Aside0.mk hk
  have hc1 := HN.out.cell
  have hk0 := hk.1
  have hmem := hk.mem hl
  clear hd hk h
  by_cases hlt : k < l.length
  · obtain ⟨_, _, hC⟩ := Kd.R_reads' HN.out.row
    obtain ⟨ad, rfl, hx⟩ := Kd.at_int hC k hk0 hlt
    by_cases he : rd l k = n
    · have HE := Lib.hid (show decide (n ∈ l) = true from decide_eq_true (hmem.2 ⟨hlt, he⟩))
      have heb := beq_iff_eq.mpr he
      clear hmem he hC
      go_wp2_with (fail)
      go_ret
      exact ⟨ret_b HE.out.symm, HD.out⟩
    · have HE := Lib.hid (show decide (n ∈ l) = false from decide_eq_false (fun hm => he (hmem.1 hm).2))
      have heb := beq_eq_false_iff_ne.mpr he
      clear hmem he hC
      go_wp2_with (fail)
      go_ret
      exact ⟨ret_b HE.out.symm, HD.out⟩
  · have HE := Lib.hid (show decide (n ∈ l) = false from decide_eq_false (fun hm => hlt (hmem.1 hm).1))
    clear hmem
    go_wp2_with (fail)
    go_ret
    exact ⟨ret_b HE.out.symm, HD.out⟩

set_option maxRecDepth 100000 in
theorem slen_calls (w : World) (B g : Nat) (sv : Value) (l : List Int) (h : Nums w B g sv l) : Calls Tryd.prog 13 #[.pointer (some ⟨g, 0, none⟩)] w fun e w' => e = .returned (.int .i64 l.length) ∧ w = w' := by
  obtain ⟨A, c, rfl⟩ := Kd.R_slice h.row
  have hc := h.cell
  have hu := Tryd.underlying67
  go_enter Tryd.func13, Tryd.ntmps13
  go_wp2
  go_ret
  exact ⟨rfl, rfl⟩

section
variable {ops : Array Oper} {rest : List Oper} {o : Oper} {a : Act} {Q : Exit → Act → World → Prop}
theorem int_info : (Tryd.prog.info? 3).map (fun i => (i.zero, i.size, i.bytes)) = some (some (.int .i64 0), 1, 8) := by kernel_rfl
theorem int_size : (Tryd.prog.info? 3).map (·.size) = some 1 := by kernel_rfl
theorem kI_openM {w : World} {base : Nat} {ok : Nat → Prop} {x : Int} {cs : List Value} (h : kI.M w base ok x cs) : cs = [.int .i64 x] := h
/-- append(v, ys...) of whole numbers. -/
theorem app_ints {W : World} (B : Nat) (hgd : o.guard = none) (s x : Operand) (ho : o.op = .call { callee := .builtin .append, args := #[s, x], argTypes := #[22, 22] })
    (v : Value) (xs ys : List Int) (A : Option Addr) (m c : Nat) (hs : a.eval s = v) (hx : a.eval x = .slice A m c) (HO : kI.R 3 W B (fun _ => True) v xs) (HR : kI.C W A m ys) (hB : B ≤ W.heap.size) (hl : xs.length + m ≤ 4194304)
    (h : ∀ v1 w1, kI.R 3 w1 B (fun _ => True) v1 (xs ++ ys) → W.grownBy w1 v.ownBlock → (v1.ownBlock = v.ownBlock ∨ ∃ b, v1.ownBlock = some b ∧ W.heap.size ≤ b) → wpList Tryd.prog ops Q rest (a.put o.dst v1) w1) : wpList Tryd.prog ops Q (o :: rest) a W :=
  Kd.R_append_rows kI B hgd s x 22 3 _ 8 ho Tryd.underlying22 int_info rfl (by decide) (by decide) v xs ys A m c (fun _ => True) (fun _ => False) hs hx HO HR
    (fun y cs hy => hy) (fun _ hf => hf.elim) (fun _ _ => trivial) (Below.refl _ _) hB (by omega) (fun v1 w1 h1 _ h3 h4 => h v1 w1 h1 h3 h4)
/-- append(v, n) of a whole number. -/
theorem app_int {W : World} (B : Nat) (hgd : o.guard = none) (s x : Operand) (ho : o.op = .call { callee := .builtin .append, args := #[s, x], argTypes := #[22, 22] })
    (v : Value) (xs : List Int) (p : Int) (hs : a.eval s = v) (hx : a.eval x = .slice (some ⟨W.heap.size, 0, none⟩) 1 1) (HO : kI.R 3 W B (fun _ => True) v xs) (hB : B ≤ W.heap.size) (hl : xs.length ≤ 4194304)
    (h : ∀ v1 w1, kI.R 3 w1 B (fun _ => True) v1 (xs ++ [p]) → W.grownBy w1 v.ownBlock → (v1.ownBlock = v.ownBlock ∨ ∃ b, v1.ownBlock = some b ∧ W.heap.size ≤ b) → wpList Tryd.prog ops Q rest (a.put o.dst v1) w1) : wpList Tryd.prog ops Q (o :: rest) a (W.alloc (.cells #[.int .i64 p] 3)) :=
  Kd.R_append kI (w0 := W) B hgd s x 22 3 _ 8 ho Tryd.underlying22 int_info rfl (by decide) (by decide) v xs p [.int .i64 p] (fun _ => True) (fun _ => False) hs hx rfl (fun _ hf => hf.elim) (fun _ _ => trivial) HO (Below.refl _ _) hB (by omega) (fun v1 w1 h1 _ h3 h4 => h v1 w1 h1 h3 h4)
end

set_option maxRecDepth 100000 in
theorem all_calls (w : World) (B g : Nat) (sv : Value) (l : List Int) (h : Nums w B g sv l) (hlen : l.length ≤ 1048577) :
    Calls Tryd.prog 11 #[.pointer (some ⟨g, 0, none⟩)] w fun e w' => ∃ v, e = .returned v ∧ kI.R 3 w' w.heap.size (fun _ => True) v l ∧ Fr (fun _ => False) w w' := by
  obtain ⟨A, c, rfl, _, hC⟩ := Kd.R_reads h.row
  have hc := h.cell
  have hu := Tryd.underlying67
  have HC := Aside0.mk hC
  clear hC h
  go_enter Tryd.func11, Tryd.ntmps11
  go_wp2_with (at_builtin; refine app_ints w.heap.size rfl _ _ rfl (.slice none 0 0) [] l A _ _ rfl rfl (Kd.R_nil _ _ _ _ _) HC.out (Nat.le_refl _) (by simp; omega) ?_; intro v1 w1 h1 h2 _)
  go_ret
  exact ⟨v1, rfl, h1, (Fr.refl _ _).grown h2 (fun k hk _ => by simp [Value.ownBlock] at hk)⟩
end Go.Proofs.YtpjhflimaiaokaaDoor.SetW
