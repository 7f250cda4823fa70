/-
A cursor, walked.
-/
import Derived.Test.YtagokdbpgljgjaaDoorBU
import Derived.Test.YtagokdbpgljgjaaDoorVM
import Derived.Deep.QuietTactic
import Derived.BigQuiet
import Derived.StillTailTactics
import Derived.Test.YtagokdbpgljgjaaDoorTK
namespace Go.Proofs.YtagokdbpgljgjaaDoor.Cur
open Go.RowKit Go.Proofs.YtagokdbpgljgjaaDoorW.PrintWords Go.Proofs.YtagokdbpgljgjaaDoorW.PrintLast Go.Proofs.YtagokdbpgljgjaaDoorW.PrintMore Go.Proofs.YtagokdbpgljgjaaDoor.Fr Go.Proofs.YtagokdbpgljgjaaDoor.PGramFirsts Go.Proofs.YtagokdbpgljgjaaDoor.Tok Go.Proofs.YtagokdbpgljgjaaDoor.Bld

/-- Block c is a cursor over l at a place; its row lies at B or above. -/
structure Cu (w : World) (B c : Nat) (ok : Nat → Prop) (v : Value) (l : List S55) (at_ : Nat) : Prop where
  blk : w.heap[c]? = some (.cells #[v, .int .i64 at_, .bool true] 71 (0, 0))
  row : k55.R 55 w B ok v l
  le : at_ ≤ l.length
  max : l.length ≤ MaxT
theorem Cu.fr {w w1 : World} {B c : Nat} {ok S : Nat → Prop} {v : Value} {l : List S55} {at_ : Nat} (h : Cu w B c ok v l at_) (hF : Fr S w w1) (hc : ¬ S c) (hok : ∀ k, ok k → ¬ S k) : Cu w1 B c ok v l at_ := ⟨hF.blk h.blk hc, hF.R h.row hok, h.le, h.max⟩
def lastTo (l : List S55) : Int := if l.length = 0 then 0 else (rd_T55 l ((l.length - 1 : Nat) : Int)).f2
/-- The token at a place. -/
def pk (l : List S55) (i : Nat) : S55 := if i < l.length then rd_T55 l i else ⟨0, lastTo l, lastTo l⟩
def tv (x : S55) : Value := .agg #[.int .i64 x.f0, .int .i64 x.f1, .int .i64 x.f2]
set_option maxRecDepth 100000 in
theorem ahead_calls (w : World) (B c : Nat) (ok : Nat → Prop) (v : Value) (l : List S55) (i : Nat) (h : Cu w B c ok v l i) : Calls Tryd.prog 44 #[.pointer (some ⟨c, 0, none⟩)] w fun e w' => e = .returned (.int .i64 ((l.length : Int) - i)) ∧ ∃ n, w' = w.drewN n := by
  obtain ⟨A, n, rfl, hcn, hC⟩ := Kd.R_reads h.row
  have hc0 : w.cell? ⟨c, 0, none⟩ = some (.slice A l.length n) := (blk_cell h.blk 0).trans rfl
  have hc1 : w.cell? ⟨c, 1, none⟩ = some (.int .i64 i) := (blk_cell h.blk 1).trans rfl
  have hm := h.max
  have hM : MaxT = 5864062014634 := rfl
  have hle := h.le
  have hwr : IntKind.i64.wrap ((l.length : Int) - i) = (l.length : Int) - i := IntWalk.i64_in _ (by omega)
  clear h hC
  go_enter Tryd.func44, Tryd.ntmps44
  go_wp2_with (fail)
  go_quiet (fail)
  go_wp2_with (fail)
  go_ret
  exact ⟨rfl, _, rfl⟩
/-- Three stores into a token's block. -/
theorem put3 {W : World} {b : Nat} {x0 x1 x2 : Value} {t : TypeId} (h : W.heap[b]? = some (.cells #[x0, x1, x2] t (0, 0))) (y0 y1 y2 : Value) : (((W.setCell ⟨b, 0, none⟩ y0).setCell ⟨b, 1, none⟩ y1).setCell ⟨b, 2, none⟩ y2).heap[b]? = some (.cells #[y0, y1, y2] t (0, 0)) :=
  blk_put (blk_put (blk_put h 0 y0 rfl) 1 y1 rfl) 2 y2 rfl
theorem fr3 {w W : World} {S : Nat → Prop} (h : Fr S w W) {b : Nat} (hb : w.heap.size ≤ b) (y0 y1 y2 : Value) : Fr S w (((W.setCell ⟨b, 0, none⟩ y0).setCell ⟨b, 1, none⟩ y1).setCell ⟨b, 2, none⟩ y2) :=
  ((h.set _ (fun h => absurd h (by omega))).set _ (fun h => absurd h (by omega))).set _ (fun h => absurd h (by omega))
set_option maxHeartbeats 4000000 in
set_option maxRecDepth 100000 in
theorem peek_calls (w : World) (B c : Nat) (ok : Nat → Prop) (v : Value) (l : List S55) (i : Nat) (h : Cu w B c ok v l i) : Calls Tryd.prog 31 #[.pointer (some ⟨c, 0, none⟩)] w fun e w' => e = .returned (tv (pk l i)) ∧ Fr (fun _ => False) w w' := by
  obtain ⟨A, n, rfl, hcn, hC⟩ := Kd.R_reads h.row
  have hm := h.max
  have hM : MaxT = 5864062014634 := rfl
  have hle := h.le
  have H := Aside0.mk h
  have HC := Aside0.mk hC
  have hc2 : w.cell? ⟨c, 2, none⟩ = some (.bool true) := (blk_cell h.blk 2).trans rfl
  clear h hC
  have HF0 := Aside0.mk ((Fr.refl (fun _ => False) w).alloc (.cells #[.int .i64 0, .int .i64 0, .int .i64 0] 55))
  have HT0 := Aside0.mk (blk_new w (.cells #[.int .i64 0, .int .i64 0, .int .i64 0] 55))
  replace hc2 := HF0.out.cell hc2 id
  go_enter Tryd.func31, Tryd.ntmps31
  go_wp2_with (fail)
  refine (ahead_calls _ B c ok _ l i (H.out.fr HF0.out id (fun _ _ => id))).mono ?_
  rintro e W1 ⟨rfl, m1, hW⟩
  have HF1 := Aside0.mk (show Fr (fun _ => False) w W1 from by rw [hW]; exact HF0.out.drewN _)
  have HT1 := Aside0.mk (show W1.heap[w.heap.size]? = some (.cells #[.int .i64 0, .int .i64 0, .int .i64 0] 55 (0, 0)) from by rw [hW]; exact ((Fr.refl (fun _ => False) _).drewN _).blk HT0.out id)
  clear hW HF0 HT0 hc2
  have H1 := Aside0.mk (H.out.fr HF1.out id (fun _ _ => id))
  have hc0 : W1.cell? ⟨c, 0, none⟩ = some (.slice A l.length n) := (blk_cell H1.out.blk 0).trans rfl
  have hc1 : W1.cell? ⟨c, 1, none⟩ = some (.int .i64 i) := (blk_cell H1.out.blk 1).trans rfl
  have ht0 : W1.cell? ⟨w.heap.size, 0, none⟩ = some (.int .i64 0) := (blk_cell HT1.out 0).trans rfl
  have ht1 : W1.cell? ⟨w.heap.size, 1, none⟩ = some (.int .i64 0) := (blk_cell HT1.out 1).trans rfl
  have ht2 : W1.cell? ⟨w.heap.size, 2, none⟩ = some (.int .i64 0) := (blk_cell HT1.out 2).trans rfl
  have hf0 := blk_frozen HT1.out 0
  have hf1 := blk_frozen HT1.out 1
  have hf2 := blk_frozen HT1.out 2
  have hB := HF1.out.size
  obtain ⟨B0, hB0⟩ : ∃ B0, w.heap.size = B0 := ⟨_, rfl⟩
  rw [hB0] at ht0 ht1 ht2 hf0 hf1 hf2 HT1
  simp only [hB0]
  by_cases hlt : i < l.length
  · obtain ⟨ad, rfl, hx0, hx1, hx2⟩ := at_T55 HC.out (i : Int) (by omega) (by omega)
    replace hx0 := HF1.out.cell hx0 id
    replace hx1 := HF1.out.cell hx1 id
    replace hx2 := HF1.out.cell hx2 id
    simp only [Int.toNat_natCast] at hx0 hx1 hx2
    have HPK := Aside0.mk (show pk l i = rd_T55 l i by unfold pk; rw [if_pos hlt])
    generalize rd_T55 l i = t at hx0 hx1 hx2 HPK
    have k1 : (i : Int) < (l.length : Int) := by omega
    have k2 : (0 : Int) ≤ (i : Int) := by omega
    go_wp2_with (fail)
    go_still_tail 12, (by kernel_rfl)
    change wpList _ _ _ _ _ W1.drew
    obtain ⟨W2, hW2⟩ : ∃ W2, W1.drew = W2 := ⟨_, rfl⟩
    have HF2 := Aside0.mk (show Fr (fun _ => False) w W2 from by rw [← hW2]; exact HF1.out.drew)
    have HT2 := Aside0.mk (show W2.heap[B0]? = some (.cells #[.int .i64 0, .int .i64 0, .int .i64 0] 55 (0, 0)) from by rw [← hW2]; exact HT1.out)
    rw [hW2]
    clear hW2 hc0 hc1 ht0 ht1 ht2 hf0 hf1 hf2 hx0 hx1 hx2
    have ht0 : W2.cell? ⟨B0, 0, none⟩ = some (.int .i64 0) := (blk_cell HT2.out 0).trans rfl
    have ht1 : W2.cell? ⟨B0, 1, none⟩ = some (.int .i64 0) := (blk_cell HT2.out 1).trans rfl
    have ht2 : W2.cell? ⟨B0, 2, none⟩ = some (.int .i64 0) := (blk_cell HT2.out 2).trans rfl
    have hf0 := blk_frozen HT2.out 0
    have hf1 := blk_frozen HT2.out 1
    have hf2 := blk_frozen HT2.out 2
    go_wp2_with (fail)
    refine bodyPost_ret (results_cell_row rfl _ _ B0 _ _ _ _ rfl (put3 HT2.out _ _ _) Tryd.underlying55 rfl (by kernel_rfl)) rfl ?_
    exact ⟨by rw [HPK.out]; rfl, fr3 HF2.out (by omega) _ _ _⟩
  · obtain rfl : i = l.length := by omega
    by_cases h0 : l.length = 0
    · have HPK := Aside0.mk (show pk l l.length = ⟨0, 0, 0⟩ by unfold pk lastTo; rw [if_neg (by omega), if_pos h0])
      go_wp2_with (fail)
      refine bodyPost_ret (results_cell_row rfl _ _ B0 _ _ _ _ rfl (put3 HT1.out _ _ _) Tryd.underlying55 rfl (by kernel_rfl)) rfl ?_
      exact ⟨by rw [HPK.out]; rfl, fr3 HF1.out (by omega) _ _ _⟩
    · obtain ⟨j, hj⟩ : ∃ j, l.length = j + 1 := ⟨l.length - 1, by omega⟩
      obtain ⟨ad, rfl, hx0, hx1, hx2⟩ := at_T55 HC.out (j : Int) (by omega) (by omega)
      replace hx2 := HF1.out.cell hx2 id
      simp only [Int.toNat_natCast] at hx2
      have HPK := Aside0.mk (show pk l l.length = ⟨0, (rd_T55 l j).f2, (rd_T55 l j).f2⟩ by
        unfold pk lastTo
        rw [if_neg (by omega), if_neg h0, hj]
        rfl)
      generalize (rd_T55 l j).f2 = t2 at hx2 HPK
      clear hx0 hx1
      have k0 : (0 : Int) < (l.length : Int) := by omega
      have k1 : (j : Int) < (l.length : Int) := by omega
      have k2 : (0 : Int) ≤ (j : Int) := by omega
      have k3 : IntKind.i64.wrap ((l.length : Int) - 1) = (j : Int) := (IntWalk.i64_in _ (by omega)).trans (by omega)
      have k4 : ((j : Int)).toNat = j := by omega
      go_wp2_with (fail)
      go_quiet (fail)
      obtain ⟨W2, hW2⟩ : ∃ W2, W1.drewN nq = W2 := ⟨_, rfl⟩
      have HF2 := Aside0.mk (show Fr (fun _ => False) w W2 from by rw [← hW2]; exact HF1.out.drewN _)
      have HT2 := Aside0.mk (show W2.heap[B0]? = some (.cells #[.int .i64 0, .int .i64 0, .int .i64 0] 55 (0, 0)) from by rw [← hW2]; exact HT1.out)
      rw [hW2]
      clear hW2 hc0 hc1 ht0 ht1 ht2 hf0 hf1 hf2 hx2
      have ht0 : W2.cell? ⟨B0, 0, none⟩ = some (.int .i64 0) := (blk_cell HT2.out 0).trans rfl
      have ht1 : W2.cell? ⟨B0, 1, none⟩ = some (.int .i64 0) := (blk_cell HT2.out 1).trans rfl
      have ht2 : W2.cell? ⟨B0, 2, none⟩ = some (.int .i64 0) := (blk_cell HT2.out 2).trans rfl
      have hf0 := blk_frozen HT2.out 0
      have hf1 := blk_frozen HT2.out 1
      have hf2 := blk_frozen HT2.out 2
      go_wp2_with (fail)
      refine bodyPost_ret (results_cell_row rfl _ _ B0 _ _ _ _ rfl (put3 HT2.out _ _ _) Tryd.underlying55 rfl (by kernel_rfl)) rfl ?_
      exact ⟨by rw [HPK.out]; rfl, fr3 HF2.out (by omega) _ _ _⟩
def nxt (l : List S55) (i : Nat) : Nat := if i < l.length then i + 1 else i
theorem tok_ne_cursor : ∀ q, q ∈ 55 :: k55.E → q ≠ 71 := (show ∀ q, q ∈ [55] → q ≠ 71 by decide)
/-- The place of a cursor, turned. -/
theorem Cu.put {w : World} {B c : Nat} {ok : Nat → Prop} {v : Value} {l : List S55} {i : Nat} (h : Cu w B c ok v l i) (j : Nat) (hj : j ≤ l.length) : Cu (w.setCell ⟨c, 1, none⟩ (.int .i64 j)) B c ok v l j :=
  ⟨blk_put h.blk 1 _ rfl, Kd.R_set h.row h.blk tok_ne_cursor 1 _, hj, h.max⟩
/-- A cursor whose block alone has turned. -/
theorem Cu.turned {w w1 : World} {B c : Nat} {ok : Nat → Prop} {v : Value} {l : List S55} {i j : Nat} (h : Cu w B c ok v l i) (hF : Fr (fun k => k = c) w w1) (hj : j ≤ l.length) (hb : w1.heap[c]? = some (.cells #[v, .int .i64 j, .bool true] 71 (0, 0))) : Cu w1 B c ok v l j := by
  refine ⟨hb, Kd.R_mono (hF.R (Kd.R_bound h.row) ?_) (fun k hk => hk.1), hj, h.max⟩
  rintro k ⟨_, _, _, q, hq, cells, hk⟩ rfl
  rw [h.blk] at hk
  injection hk with hk
  injection hk with _ hk _
  exact tok_ne_cursor q hq hk.symm
theorem away3 {W : World} {b c : Nat} {o : Obj} (h : W.heap[c]? = some o) (hn : c ≠ b) (y0 y1 y2 : Value) : (((W.setCell ⟨b, 0, none⟩ y0).setCell ⟨b, 1, none⟩ y1).setCell ⟨b, 2, none⟩ y2).heap[c]? = some o :=
  (Below.heap_setCell _ ⟨b, 2, none⟩ y2 c hn).trans ((Below.heap_setCell _ ⟨b, 1, none⟩ y1 c hn).trans ((Below.heap_setCell _ ⟨b, 0, none⟩ y0 c hn).trans h))
set_option maxHeartbeats 4000000 in
set_option maxRecDepth 100000 in
theorem next_calls (w : World) (B c : Nat) (ok : Nat → Prop) (v : Value) (l : List S55) (i : Nat) (h : Cu w B c ok v l i) : Calls Tryd.prog 27 #[.pointer (some ⟨c, 0, none⟩)] w fun e w' => e = .returned (tv (pk l i)) ∧ Cu w' B c ok v l (nxt l i) ∧ Fr (fun k => k = c) w w' := by
  have hm := h.max
  have hM : MaxT = 5864062014634 := rfl
  have hle := h.le
  have H := Aside0.mk h
  have hlt0 := blk_lt h.blk
  clear h
  have HF0 := Aside0.mk ((Fr.refl (fun _ => False) w).alloc (.cells #[.int .i64 0, .int .i64 0, .int .i64 0] 55))
  have HT0 := Aside0.mk (blk_new w (.cells #[.int .i64 0, .int .i64 0, .int .i64 0] 55))
  go_enter Tryd.func27, Tryd.ntmps27
  go_wp2_with (fail)
  refine (peek_calls _ B c ok _ l i (H.out.fr HF0.out id (fun _ _ => id))).mono ?_
  rintro e W1 ⟨rfl, hF⟩
  generalize hx : pk l i = x
  have HX := Aside0.mk hx
  clear hx
  obtain ⟨x0, x1, x2⟩ := x
  unfold tv
  have HF1 := Aside0.mk (HF0.out.trans hF (fun _ _ h => h))
  have HT1 := Aside0.mk (hF.blk HT0.out id)
  have hs1 := HF1.out.size
  have hs0 : w.heap.size < W1.heap.size := by have := hF.size; simp at this; omega
  clear hF HF0 HT0
  have HF2 := Aside0.mk (HF1.out.alloc (.cells #[.int .i64 x0, .int .i64 x1, .int .i64 x2] 55))
  have HT2 := Aside0.mk (blk_alloc HT1.out (.cells #[.int .i64 x0, .int .i64 x1, .int .i64 x2] 55))
  have HX2 := Aside0.mk (blk_new W1 (.cells #[.int .i64 x0, .int .i64 x1, .int .i64 x2] 55))
  have hc2 := (blk_cell (H.out.fr HF2.out id (fun _ _ => id)).blk 2).trans (show _ = some (Value.bool true) from rfl)
  go_wp2_with (fail)
  refine (ahead_calls _ B c ok _ l i (H.out.fr HF2.out id (fun _ _ => id))).mono ?_
  rintro e W3 ⟨rfl, m3, hW⟩
  have HF3 := Aside0.mk (show Fr (fun _ => False) w W3 from by rw [hW]; exact HF2.out.drewN _)
  have HT3 := Aside0.mk (show W3.heap[w.heap.size]? = some (.cells #[.int .i64 0, .int .i64 0, .int .i64 0] 55 (0, 0)) from by rw [hW]; exact HT2.out)
  have HX3 := Aside0.mk (show W3.heap[W1.heap.size]? = some (.cells #[.int .i64 x0, .int .i64 x1, .int .i64 x2] 55 (0, 0)) from by rw [hW]; exact HX2.out)
  clear hW HF2 HT2 HX2 HF1 HT1 hc2
  have H3 := Aside0.mk (H.out.fr HF3.out id (fun _ _ => id))
  obtain ⟨B0, hB0⟩ : ∃ B0, w.heap.size = B0 := ⟨_, rfl⟩
  obtain ⟨B1, hB1⟩ : ∃ B1, W1.heap.size = B1 := ⟨_, rfl⟩
  rw [hB0] at HT3 hs0
  rw [hB1] at HX3 hs0
  simp only [hB0, hB1]
  have hcB0 : c ≠ B0 := by omega
  have hcB1 : c ≠ B1 := by omega
  have hc1 : W3.cell? ⟨c, 1, none⟩ = some (.int .i64 i) := (blk_cell H3.out.blk 1).trans rfl
  have hcf := blk_frozen H3.out.blk 1
  by_cases hlt : i < l.length
  · have HW4 := Aside0.mk (H3.out.put (i + 1) (by omega))
    have HF4 := Aside0.mk (show Fr (fun k => k = c) w (W3.setCell ⟨c, 1, none⟩ (.int .i64 ((i + 1 : Nat) : Int))) from (HF3.out.mono (T := fun k => k = c) (fun _ h => h.elim)).set _ (fun _ => rfl))
    have HT4 := Aside0.mk ((Below.heap_setCell W3 ⟨c, 1, none⟩ (.int .i64 ((i + 1 : Nat) : Int)) B0 (Ne.symm hcB0)).trans HT3.out)
    have HX4 := Aside0.mk ((Below.heap_setCell W3 ⟨c, 1, none⟩ (.int .i64 ((i + 1 : Nat) : Int)) B1 (Ne.symm hcB1)).trans HX3.out)
    have HN := Aside0.mk (show nxt l i = i + 1 by unfold nxt; rw [if_pos hlt])
    have ht0 := (blk_cell HT4.out 0).trans (show _ = some (Value.int .i64 0) from rfl)
    have ht1 := (blk_cell HT4.out 1).trans (show _ = some (Value.int .i64 0) from rfl)
    have ht2 := (blk_cell HT4.out 2).trans (show _ = some (Value.int .i64 0) from rfl)
    have hf0 := blk_frozen HT4.out 0
    have hf1 := blk_frozen HT4.out 1
    have hf2 := blk_frozen HT4.out 2
    have hx0 := (blk_cell HX4.out 0).trans (show _ = some (Value.int .i64 x0) from rfl)
    have hx1 := (blk_cell HX4.out 1).trans (show _ = some (Value.int .i64 x1) from rfl)
    have hx2 := (blk_cell HX4.out 2).trans (show _ = some (Value.int .i64 x2) from rfl)
    simp only [Int.natCast_add, Int.cast_ofNat_Int] at ht0 ht1 ht2 hf0 hf1 hf2 hx0 hx1 hx2
    go_wp2_with (fail)
    refine bodyPost_ret (results_cell_row rfl _ _ B0 _ _ _ _ rfl (put3 HT4.out _ _ _) Tryd.underlying55 rfl (by kernel_rfl)) rfl ?_
    have hF := fr3 HF4.out (b := B0) (by omega) (.int .i64 x0) (.int .i64 x1) (.int .i64 x2)
    refine ⟨by rw [HX.out]; rfl, ?_, hF⟩
    rw [HN.out]
    exact H.out.turned hF (by omega) (away3 HW4.out.blk hcB0 _ _ _)
  · have HN := Aside0.mk (show nxt l i = i by unfold nxt; rw [if_neg hlt])
    have ht0 := (blk_cell HT3.out 0).trans (show _ = some (Value.int .i64 0) from rfl)
    have ht1 := (blk_cell HT3.out 1).trans (show _ = some (Value.int .i64 0) from rfl)
    have ht2 := (blk_cell HT3.out 2).trans (show _ = some (Value.int .i64 0) from rfl)
    have hf0 := blk_frozen HT3.out 0
    have hf1 := blk_frozen HT3.out 1
    have hf2 := blk_frozen HT3.out 2
    have hx0 := (blk_cell HX3.out 0).trans (show _ = some (Value.int .i64 x0) from rfl)
    have hx1 := (blk_cell HX3.out 1).trans (show _ = some (Value.int .i64 x1) from rfl)
    have hx2 := (blk_cell HX3.out 2).trans (show _ = some (Value.int .i64 x2) from rfl)
    go_wp2_with (fail)
    refine bodyPost_ret (results_cell_row rfl _ _ B0 _ _ _ _ rfl (put3 HT3.out _ _ _) Tryd.underlying55 rfl (by kernel_rfl)) rfl ?_
    have hF := fr3 (HF3.out.mono (T := fun k => k = c) (fun _ h => h.elim)) (b := B0) (by omega) (.int .i64 x0) (.int .i64 x1) (.int .i64 x2)
    refine ⟨by rw [HX.out]; rfl, ?_, hF⟩
    rw [HN.out]
    exact H.out.turned hF hle (away3 H3.out.blk hcB0 _ _ _)
set_option maxRecDepth 100000 in
theorem left_calls (w : World) (B c : Nat) (ok : Nat → Prop) (v : Value) (l : List S55) (i : Nat) (h : Cu w B c ok v l i) : Calls Tryd.prog 28 #[.pointer (some ⟨c, 0, none⟩)] w fun e w' => e = .returned (.int .i64 ((l.length : Int) - i)) ∧ Fr (fun _ => False) w w' := by
  have H := Aside0.mk h
  clear h
  go_enter Tryd.func28, Tryd.ntmps28
  go_wp2_with (fail)
  refine (ahead_calls _ B c ok _ l i H.out).mono ?_
  rintro e W3 ⟨rfl, m3, rfl⟩
  go_wp2_with (fail)
  go_ret
  exact ⟨rfl, (Fr.refl _ _).drewN _⟩
set_option maxRecDepth 100000 in
theorem at_calls (w : World) (B c : Nat) (ok : Nat → Prop) (v : Value) (l : List S55) (i : Nat) (h : Cu w B c ok v l i) : Calls Tryd.prog 30 #[.pointer (some ⟨c, 0, none⟩)] w fun e w' => e = .returned (.int .i64 i) ∧ Fr (fun _ => False) w w' := by
  have hc1 : w.cell? ⟨c, 1, none⟩ = some (.int .i64 i) := (blk_cell h.blk 1).trans rfl
  clear h
  go_enter Tryd.func30, Tryd.ntmps30
  go_wp2_with (fail)
  go_ret
  exact ⟨rfl, Fr.refl _ _⟩
set_option maxHeartbeats 4000000 in
set_option maxRecDepth 100000 in
theorem back_calls (w : World) (B c : Nat) (ok : Nat → Prop) (v : Value) (l : List S55) (i : Nat) (h : Cu w B c ok v l i) (n : Int) (h0 : -9223372036854775808 ≤ n) (h1 : n ≤ 9223372036854775807) : Calls Tryd.prog 29 #[.pointer (some ⟨c, 0, none⟩), .int .i64 n] w fun e w' => e = .returned (.bool (decide (0 ≤ n ∧ n ≤ i))) ∧ Cu w' B c ok v l (if 0 ≤ n ∧ n ≤ i then i - n.toNat else i) ∧ Fr (fun k => k = c) w w' := by
  have hm := h.max
  have hM : MaxT = 5864062014634 := rfl
  have hle := h.le
  have hc1 : w.cell? ⟨c, 1, none⟩ = some (.int .i64 i) := (blk_cell h.blk 1).trans rfl
  have hc2 : w.cell? ⟨c, 2, none⟩ = some (.bool true) := (blk_cell h.blk 2).trans rfl
  have hcf := blk_frozen h.blk 1
  have H := Aside0.mk h
  clear h
  go_enter Tryd.func29, Tryd.ntmps29
  by_cases k0 : n < 0
  · have HK := Aside0.mk (show ¬ (0 ≤ n ∧ n ≤ i) by omega)
    go_wp2_with (fail)
    go_ret
    exact ⟨rfl, H.out, Fr.refl _ _⟩
  by_cases k1 : (i : Int) < n
  · have HK := Aside0.mk (show ¬ (0 ≤ n ∧ n ≤ i) by omega)
    go_wp2_with (fail)
    go_ret
    exact ⟨rfl, H.out, Fr.refl _ _⟩
  have HK := Aside0.mk (show 0 ≤ n ∧ n ≤ i by omega)
  go_wp2_with (fail)
  go_ret
  have he : (i : Int) - n = ((i - n.toNat : Nat) : Int) := by omega
  refine ⟨rfl, ?_, (Fr.refl _ _).set _ (fun _ => rfl)⟩
  have h := H.out.put (i - n.toNat) (by omega)
  rw [← he] at h
  exact h
set_option maxHeartbeats 4000000 in
set_option maxRecDepth 100000 in
theorem new_calls (w : World) (l : List S55) (hl : l.length ≤ MaxT) (A : Option Addr) (n : Nat) (hC : Kd.C k55 w A l.length l) : Calls Tryd.prog 26 #[.slice A l.length n] w fun e w' => ∃ c v, e = .returned (.pointer (some ⟨c, 0, none⟩)) ∧ w.heap.size ≤ c ∧ Cu w' w.heap.size c (fun k => w.heap.size ≤ k) v l 0 ∧ Fr (fun _ => False) w w' := by
  have hM : MaxT = 5864062014634 := rfl
  have HC := Aside0.mk hC
  clear hC
  go_enter Tryd.func26, Tryd.ntmps26
  go_wp2_with (at_builtin; go_must (refine Kd.R_append_rows k55 (w0 := w) w.heap.size rfl (.const (.slice none 0 0)) (.tmp 3) 23 55 (.agg #[(.int .i64 0), (.int .i64 0), (.int .i64 0)]) 24 rfl Tryd.underlying23 info55 rfl (by decide) (by decide) (.slice none 0 0) [] l A l.length n (fun k => w.heap.size ≤ k) (fun _ => False) rfl rfl (Kd.R_nil _ _ _ _ _) HC.out (fun x cs h => by rw [k55_open h]; exact k55_mkM _ _ _ x) (fun _ hk => hk.elim) (fun _ h => h) (Below.refl _ _) (Nat.le_refl _) (by simp; omega) ?_; intro v1 w1 h1 hb h2 _; obtain ⟨A2, c2, rfl⟩ := Kd.R_slice h1; have HV := Aside0.mk (show k55.R 55 w1 w.heap.size (fun k => w.heap.size ≤ k) (.slice A2 l.length c2) l from by simpa using h1); have HF := Aside0.mk (Fr.of_below (S := fun _ => False) hb); have hsz := hb.size; clear h1 h2 hb))
  go_ret
  refine ⟨_, _, rfl, hsz, ⟨blk_new w1 _, Kd.R_alloc HV.out _, Nat.zero_le _, hl⟩, HF.out.alloc _⟩
set_option maxHeartbeats 4000000 in
set_option maxRecDepth 100000 in
theorem mark_calls (w : World) (B c : Nat) (ok : Nat → Prop) (v : Value) (l : List S55) (i : Nat) (h : Cu w B c ok v l i) : Calls Tryd.prog 32 #[.pointer (some ⟨c, 0, none⟩)] w fun e w' => ∃ c' v', e = .returned (.pointer (some ⟨c', 0, none⟩)) ∧ w.heap.size ≤ c' ∧ Cu w' w.heap.size c' (fun k => w.heap.size ≤ k) v' l i ∧ Fr (fun _ => False) w w' := by
  obtain ⟨A, n, rfl, hcn, hC⟩ := Kd.R_reads h.row
  have hm := h.max
  have hM : MaxT = 5864062014634 := rfl
  have hle := h.le
  have hc0 : w.cell? ⟨c, 0, none⟩ = some (.slice A l.length n) := (blk_cell h.blk 0).trans rfl
  have hc1 : w.cell? ⟨c, 1, none⟩ = some (.int .i64 i) := (blk_cell h.blk 1).trans rfl
  have hc2 : w.cell? ⟨c, 2, none⟩ = some (.bool true) := (blk_cell h.blk 2).trans rfl
  have H := Aside0.mk h
  have HC := Aside0.mk hC
  clear h hC
  go_enter Tryd.func32, Tryd.ntmps32
  go_wp2_with (fail)
  refine wp_region_last_drew (S := fun w' => w'.cell? ⟨c, 0, none⟩ = some (.slice A l.length n) ∧ w'.cell? ⟨c, 1, none⟩ = some (.int .i64 i)) (ds := []) (by kernel_rfl) ⟨hc0, hc1⟩ (fun hHeld => ?_)
  refine tk 0 ?_
  refine tk 1 ?_
  refine tk 2 ?_
  refine tk 3 ?_
  refine tk 4 ?_
  refine tk 6 ?_
  refine tk 7 ?_
  refine tk 8 ?_
  refine tk 9 ?_
  refine tk 10 ?_
  refine on 5 (fun K hK => ?_)
  refine Kd.R_append_rows_step k55 (w0 := w.drew) (W := w.drew) w.heap.size (by rfl) (.const (.slice none 0 0)) (.tmp 17) 23 55 (.agg #[(.int .i64 0), (.int .i64 0), (.int .i64 0)]) 24 rfl Tryd.underlying23 info55 rfl (by decide) (by decide) (.slice none 0 0) [] l A l.length n (fun k => w.heap.size ≤ k) (fun _ => False) rfl rfl (Kd.R_nil _ _ _ _ _) (Kd.C_drew HC.out) (fun x cs h => by rw [k55_open h]; exact k55_mkM _ _ _ x) (fun _ hk => hk.elim) (fun _ h => h) (Below.refl _ _) (Nat.le_refl _) (by simp; omega) ?_
  intro v1 W1 h1 hb h2 _
  obtain ⟨A2, c2, rfl⟩ := Kd.R_slice h1
  have HV := Aside0.mk (show k55.R 55 W1 w.heap.size (fun k => w.heap.size ≤ k) (.slice A2 l.length c2) l from by simpa using h1)
  have HF := Aside0.mk ((Fr.refl (fun _ => False) w).drew.trans (Fr.of_below (S := fun _ => False) hb) (fun _ _ h => h))
  have hsz := HF.out.size
  clear h1 h2 hb
  refine hK.out _ _ ⟨HF.out.cell hc0 id, HF.out.cell hc1 id⟩ (fun hHeld => ?_)
  clear hK K
  try simp only [Act.put, List.setIfInBounds_toArray, List.set_cons_zero, List.set_cons_succ]
  refine tk 11 ?_
  refine tk 12 ?_
  refine on 13 (fun K hK => ?_)
  go_simp
  refine hK.out _ _ ⟨(HF.out.alloc _).cell hc0 id, (HF.out.alloc _).cell hc1 id⟩ (fun hHeld => ?_)
  clear hK K
  try simp only [Act.put, List.setIfInBounds_toArray, List.set_cons_zero, List.set_cons_succ]
  refine tk 14 ?_
  refine dn ?_
  go_wp2_with (fail)
  go_ret
  exact ⟨_, _, rfl, hsz, ⟨blk_new W1 _, Kd.R_alloc HV.out _, hle, hm⟩, HF.out.alloc _⟩
theorem Cu.bound {w : World} {B c : Nat} {ok : Nat → Prop} {v : Value} {l : List S55} {i : Nat} (h : Cu w B c ok v l i) : Cu w B c (fun k => k < w.heap.size) v l i := ⟨h.blk, Kd.R_mono (Kd.R_bound h.row) (fun _ hk => hk.2.2.1), h.le, h.max⟩
theorem pk_lt {l : List S55} {i : Nat} (h : i < l.length) : pk l i = rd_T55 l i := by unfold pk; rw [if_pos h]
end Go.Proofs.YtagokdbpgljgjaaDoor.Cur
