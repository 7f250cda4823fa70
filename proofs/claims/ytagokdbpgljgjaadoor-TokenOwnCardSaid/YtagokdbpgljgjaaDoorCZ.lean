/-
A cursor that no call made, walked: nil, or the zero cursor.
-/
import Derived.Test.YtagokdbpgljgjaaDoorVT
namespace Go.Proofs.YtagokdbpgljgjaaDoor.Cur
open Go.RowKit Go.Proofs.YtagokdbpgljgjaaDoorW.PrintWords Go.Proofs.YtagokdbpgljgjaaDoorW.PrintLast Go.Proofs.YtagokdbpgljgjaaDoorW.PrintMore Go.Proofs.YtagokdbpgljgjaaDoor.Fr Go.Proofs.YtagokdbpgljgjaaDoor.PGramFirsts Go.Proofs.YtagokdbpgljgjaaDoor.Tok Go.Proofs.YtagokdbpgljgjaaDoor.Bld

/-- A cursor that no call made. -/
def Dead (w : World) (p : Option Addr) : Prop := p = none ∨ ∃ c, p = some ⟨c, 0, none⟩ ∧ w.heap[c]? = some (.cells #[.slice none 0 0, .int .i64 0, .bool false] 71 (0, 0))
theorem Dead.fr {w w1 : World} {p : Option Addr} (h : Dead w p) (hF : Fr (fun _ => False) w w1) : Dead w1 p := by
  rcases h with rfl | ⟨c, rfl, hb⟩
  · exact .inl rfl
  · exact .inr ⟨c, rfl, hF.blk hb id⟩
set_option maxRecDepth 100000 in
theorem dead_at (w : World) (p : Option Addr) (h : Dead w p) : Calls Tryd.prog 30 #[.pointer p] w fun e w' => e = .returned (.int .i64 0) ∧ Fr (fun _ => False) w w' := by
  rcases h with rfl | ⟨c, rfl, hb⟩
  · go_enter Tryd.func30, Tryd.ntmps30
    go_wp2_with (fail)
    go_ret
    exact ⟨rfl, Fr.refl _ _⟩
  · have hc1 : w.cell? ⟨c, 1, none⟩ = some (.int .i64 0) := (blk_cell hb 1).trans rfl
    clear hb
    go_enter Tryd.func30, Tryd.ntmps30
    go_wp2_with (fail)
    go_ret
    exact ⟨rfl, Fr.refl _ _⟩
set_option maxRecDepth 100000 in
theorem dead_mark (w : World) (p : Option Addr) (h : Dead w p) : Calls Tryd.prog 32 #[.pointer p] w fun e w' => e = .returned (.pointer none) ∧ Fr (fun _ => False) w w' := by
  rcases h with rfl | ⟨c, rfl, hb⟩
  · go_enter Tryd.func32, Tryd.ntmps32
    go_wp2_with (fail)
    go_ret
    exact ⟨rfl, Fr.refl _ _⟩
  · have hc2 : w.cell? ⟨c, 2, none⟩ = some (.bool false) := (blk_cell hb 2).trans rfl
    clear hb
    go_enter Tryd.func32, Tryd.ntmps32
    go_wp2_with (fail)
    go_ret
    exact ⟨rfl, Fr.refl _ _⟩
set_option maxRecDepth 100000 in
theorem dead_back (w : World) (p : Option Addr) (h : Dead w p) : Calls Tryd.prog 29 #[.pointer p, .int .i64 0] w fun e w' => e = .returned (.bool false) ∧ Fr (fun _ => False) w w' := by
  rcases h with rfl | ⟨c, rfl, hb⟩
  · go_enter Tryd.func29, Tryd.ntmps29
    go_wp2_with (fail)
    go_ret
    exact ⟨rfl, Fr.refl _ _⟩
  · have hc2 : w.cell? ⟨c, 2, none⟩ = some (.bool false) := (blk_cell hb 2).trans rfl
    clear hb
    go_enter Tryd.func29, Tryd.ntmps29
    go_wp2_with (fail)
    go_ret
    exact ⟨rfl, Fr.refl _ _⟩
set_option maxRecDepth 100000 in
theorem dead_left (w : World) (p : Option Addr) (h : Dead w p) : Calls Tryd.prog 28 #[.pointer p] w fun e w' => e = .returned (.int .i64 0) ∧ Fr (fun _ => False) w w' := by
  rcases h with rfl | ⟨c, rfl, hb⟩
  · go_enter Tryd.func28, Tryd.ntmps28
    go_wp2_with (fail)
    go_ret
    exact ⟨rfl, Fr.refl _ _⟩
  · have hah : Calls Tryd.prog 44 #[.pointer (some ⟨c, 0, none⟩)] w fun e w' => e = .returned (.int .i64 0) ∧ ∃ n, w' = w.drewN n := by
      have hc0 : w.cell? ⟨c, 0, none⟩ = some (.slice none 0 0) := (blk_cell hb 0).trans rfl
      have hc1 : w.cell? ⟨c, 1, none⟩ = some (.int .i64 0) := (blk_cell hb 1).trans rfl
      go_enter Tryd.func44, Tryd.ntmps44
      go_wp2_with (fail)
      go_quiet (fail)
      go_wp2_with (fail)
      go_ret
      exact ⟨rfl, _, rfl⟩
    have HAH := Aside0.mk hah
    clear hah hb
    go_enter Tryd.func28, Tryd.ntmps28
    go_wp2_with (fail)
    refine HAH.out.mono ?_
    rintro e W1 ⟨rfl, n, rfl⟩
    go_wp2_with (fail)
    go_ret
    exact ⟨rfl, (Fr.refl _ _).drewN _⟩
theorem tv0 : tv ⟨0, 0, 0⟩ = .agg #[.int .i64 0, .int .i64 0, .int .i64 0] := rfl
set_option maxHeartbeats 4000000 in
set_option maxRecDepth 100000 in
theorem dead_peek (w : World) (p : Option Addr) (h : Dead w p) : Calls Tryd.prog 31 #[.pointer p] w fun e w' => e = .returned (tv ⟨0, 0, 0⟩) ∧ Fr (fun _ => False) w w' := by
  have HF0 := Aside0.mk ((Fr.refl (fun _ => False) w).alloc (.cells #[.int .i64 0, .int .i64 0, .int .i64 0] 55))
  have HT0 := Aside0.mk (blk_new w (.cells #[.int .i64 0, .int .i64 0, .int .i64 0] 55))
  rcases h with rfl | ⟨c, rfl, hb⟩
  · go_enter Tryd.func31, Tryd.ntmps31
    go_wp2_with (fail)
    refine bodyPost_ret (results_cell_row rfl _ _ w.heap.size _ _ _ _ rfl HT0.out Tryd.underlying55 rfl (by kernel_rfl)) rfl ?_
    exact ⟨rfl, HF0.out⟩
  · have hc2 := HF0.out.cell ((blk_cell hb 2).trans (show _ = some (Value.bool false) from rfl)) id
    clear hb
    go_enter Tryd.func31, Tryd.ntmps31
    go_wp2_with (fail)
    refine bodyPost_ret (results_cell_row rfl _ _ w.heap.size _ _ _ _ rfl HT0.out Tryd.underlying55 rfl (by kernel_rfl)) rfl ?_
    exact ⟨rfl, HF0.out⟩
set_option maxHeartbeats 4000000 in
set_option maxRecDepth 100000 in
theorem dead_next (w : World) (p : Option Addr) (h : Dead w p) : Calls Tryd.prog 27 #[.pointer p] w fun e w' => e = .returned (tv ⟨0, 0, 0⟩) ∧ Fr (fun _ => False) w w' := by
  have H := Aside0.mk h
  clear h
  have HF0 := Aside0.mk ((Fr.refl (fun _ => False) w).alloc (.cells #[.int .i64 0, .int .i64 0, .int .i64 0] 55))
  have HT0 := Aside0.mk (blk_new w (.cells #[.int .i64 0, .int .i64 0, .int .i64 0] 55))
  go_enter Tryd.func27, Tryd.ntmps27
  go_wp2_with (fail)
  refine (dead_peek _ p (H.out.fr HF0.out)).mono ?_
  rintro e W1 ⟨rfl, hF⟩
  rw [tv0]
  have HF1 := Aside0.mk (HF0.out.trans hF (fun _ _ h => h))
  have HT1 := Aside0.mk (hF.blk HT0.out id)
  have hs1 := HF1.out.size
  clear hF HF0 HT0
  have HF2 := Aside0.mk (HF1.out.alloc (.cells #[.int .i64 0, .int .i64 0, .int .i64 0] 55))
  have HT2 := Aside0.mk (blk_alloc HT1.out (.cells #[.int .i64 0, .int .i64 0, .int .i64 0] 55))
  have ht0 := (blk_cell HT2.out 0).trans (show _ = some (Value.int .i64 0) from rfl)
  have ht1 := (blk_cell HT2.out 1).trans (show _ = some (Value.int .i64 0) from rfl)
  have ht2 := (blk_cell HT2.out 2).trans (show _ = some (Value.int .i64 0) from rfl)
  have hf0 := blk_frozen HT2.out 0
  have hf1 := blk_frozen HT2.out 1
  have hf2 := blk_frozen HT2.out 2
  have hD := H.out.fr HF2.out
  rcases hD with rfl | ⟨c, rfl, hb⟩
  · go_wp2_with (fail)
    refine bodyPost_ret (results_cell_row rfl _ _ w.heap.size _ _ _ _ rfl (put3 HT2.out _ _ _) Tryd.underlying55 rfl (by kernel_rfl)) rfl ?_
    exact ⟨rfl, fr3 HF2.out (Nat.le_refl _) _ _ _⟩
  · have hc2 := (blk_cell hb 2).trans (show _ = some (Value.bool false) from rfl)
    clear hb
    go_wp2_with (fail)
    refine bodyPost_ret (results_cell_row rfl _ _ w.heap.size _ _ _ _ rfl (put3 HT2.out _ _ _) Tryd.underlying55 rfl (by kernel_rfl)) rfl ?_
    exact ⟨rfl, fr3 HF2.out (Nat.le_refl _) _ _ _⟩
end Go.Proofs.YtagokdbpgljgjaaDoor.Cur
