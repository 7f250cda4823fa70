/-
Whether a state's moves and its Goto may be: the two checks, walked.
-/
import Derived.Deep.QuietTactic
import Derived.BigQuiet
import Derived.WalkArith
import Derived.IntWalk
import Derived.Test.YtlpmjmanmncmnaaR1XC
import Derived.Test.YtlpmjmanmncmnaaR1TK
set_option linter.unusedSimpArgs false
set_option linter.unusedVariables false
namespace Go.Proofs.Ytlpmjmanmncmnaa.Tab
open Go.RowKit Go.Maps Go.Proofs.YtlpmjmanmncmnaaW.PrintWords Go.Proofs.YtlpmjmanmncmnaaW.PrintLast Go.Proofs.YtlpmjmanmncmnaaW.PrintMore Go.Proofs.Ytlpmjmanmncmnaa.Fr Go.Proofs.Ytlpmjmanmncmnaa.PT
/-- A table in memory. -/
structure TAt (w : World) (T : Tb) (A0 A1 : Option Addr) (c0 c1 : Nat) : Prop where
  mv : Kd.C (Kd.slice 48 k48) w A0 T.mv.length T.mv
  gt : Kd.C (Kd.slice 3 (Kd.int .i64)) w A1 T.gt.length T.gt
  l0 : T.mv.length ≤ c0
  l1 : T.gt.length ≤ c1
theorem TAt.fr {w w1 : World} {T : Tb} {A0 A1 : Option Addr} {c0 c1 : Nat} (h : TAt w T A0 A1 c0 c1) (hF : Fr (fun _ => False) w w1) : TAt w1 T A0 A1 c0 c1 :=
  ⟨Kd.C_below h.mv hF.to_below, Kd.C_below h.gt hF.to_below, h.l0, h.l1⟩
/-- May a move be? -/
def moveOk (states prods : Int) (x : S48) : Bool :=
  if x.f0 = 1 then decide (0 ≤ x.f1 ∧ x.f1 < states) else if x.f0 = 2 then decide (0 ≤ x.f1 ∧ x.f1 < prods) else if x.f0 = 0 ∨ x.f0 = 3 then x.f1 == 0 else false
def MvOk (kinds states prods : Int) (row : List S48) : Prop := (row.length : Int) = kinds ∧ ∀ i : Nat, i < row.length → moveOk states prods (rd_T48 row i) = true
/-- What checks looks at. -/
structure ChkAt (w : World) (g : Nat) (T : Tb) (A0 A1 : Option Addr) (c0 c1 : Nat) (kinds rules prods : Int) (each : Value) : Prop where
  t : TAt w T A0 A1 c0 c1
  blk : w.heap[g]? = some (.cells #[.slice A0 T.mv.length c0, .slice A1 T.gt.length c1, .int .i64 kinds, .int .i64 rules, .int .i64 prods, each] 83)
theorem ChkAt.fr {w w1 : World} {g : Nat} {T : Tb} {A0 A1 : Option Addr} {c0 c1 : Nat} {kinds rules prods : Int} {each : Value} (h : ChkAt w g T A0 A1 c0 c1 kinds rules prods each) (hF : Fr (fun _ => False) w w1) : ChkAt w1 g T A0 A1 c0 c1 kinds rules prods each :=
  ⟨h.t.fr hF, hF.blk h.blk id⟩
theorem ChkAt.cells {w : World} {g : Nat} {T : Tb} {A0 A1 : Option Addr} {c0 c1 : Nat} {kinds rules prods : Int} {each : Value} (h : ChkAt w g T A0 A1 c0 c1 kinds rules prods each) :
    w.cell? ⟨g, 0, none⟩ = some (.slice A0 T.mv.length c0) ∧ w.cell? ⟨g, 1, none⟩ = some (.slice A1 T.gt.length c1) ∧ w.cell? ⟨g, 2, none⟩ = some (.int .i64 kinds) ∧ w.cell? ⟨g, 3, none⟩ = some (.int .i64 rules) ∧ w.cell? ⟨g, 4, none⟩ = some (.int .i64 prods) ∧ w.cell? ⟨g, 5, none⟩ = some each :=
  ⟨(blk_cell h.blk 0).trans rfl, (blk_cell h.blk 1).trans rfl, (blk_cell h.blk 2).trans rfl, (blk_cell h.blk 3).trans rfl, (blk_cell h.blk 4).trans rfl, (blk_cell h.blk 5).trans rfl⟩
def BoolPost (w : World) (P : Prop) (e : Ending) (w' : World) : Prop := ∃ b : Bool, e = .returned (.bool b) ∧ (b = true ↔ P) ∧ Fr (fun _ => False) w w'
set_option maxHeartbeats 8000000 in
set_option maxRecDepth 100000 in
theorem moves_calls (w : World) (g : Nat) (T : Tb) (A0 A1 : Option Addr) (c0 c1 : Nat) (kinds rules prods : Int) (each : Value) (h : ChkAt w g T A0 A1 c0 c1 kinds rules prods each) (s : Nat) (hs : s < T.mv.length) :
    Calls Try.prog 36 #[.pointer (some ⟨g, 0, none⟩), .int .i64 s] w (BoolPost w (MvOk kinds T.mv.length prods (rd_L2 T.mv s))) := by
  obtain ⟨k0, k1, k2, k3, k4, k5⟩ := h.cells
  obtain ⟨ad, B, cb, rfl, hx, hlb, hCB⟩ := at_L2 h.t.mv (s : Int) (by omega) (by omega)
  simp only [Int.toNat_natCast] at hx
  have hmx := Kd.C_max hCB
  have HH := Aside0.mk h
  have HCB := Aside0.mk hCB
  clear h hCB
  generalize hrow : rd_L2 T.mv (s : Int) = row at hx hlb hmx HCB ⊢
  have HROW := Aside0.mk hrow
  clear hrow
  have ks0 : (0 : Int) ≤ (s : Int) := by omega
  have ks1 : (s : Int) < (T.mv.length : Int) := by omega
  by_cases hk : (row.length : Int) = kinds
  case neg =>
    have hkb : ((row.length : Int) != kinds) = true := bne_iff_ne.2 hk
    have HK := Aside0.mk hk
    clear hk
    go_enter Try.func36, Try.ntmps36
    go_wp2_with (fail)
    go_quiet (fail)
    go_wp2_with (fail)
    go_ret
    exact ⟨false, rfl, ⟨fun h => (by cases h), fun h => absurd h.1 HK.out⟩, (Fr.refl _ _).drewN _⟩
  have hkb : ((row.length : Int) != kinds) = false := bne_eq_false_iff_eq.2 hk
  have HK := Aside0.mk hk
  clear hk
  go_enter Try.func36, Try.ntmps36
  go_wp2_with (fail)
  go_quiet (fail)
  go_wp2_with (fail)
  have HF0 := Aside0.mk ((Fr.refl (fun _ => False) w).drewN nq)
  go_loopw [31] (fun a W => ∃ i : Nat, a = .int .i64 i ∧ i ≤ row.length ∧ Aside0 (∀ j : Nat, j < i → moveOk T.mv.length prods (rd_T48 row j) = true) ∧ Aside0 (Fr (fun _ => False) w W)) (fun a _ => row.length - (intOf a).toNat)
  case atStart => exact ⟨0, rfl, Nat.zero_le _, ⟨fun j hj => absurd hj (by omega)⟩, HF0⟩
  case round =>
    clear HF0 hx k0 k1 k2 k3 k4 k5
    obtain ⟨i, rfl, hi, HALL, HF⟩ := hrel
    by_cases hlt : i < row.length
    · obtain ⟨adr, rfl, hx0, hx1⟩ := at_T48 HCB.out (i : Int) (by omega) (by omega)
      replace hx0 := HF.out.cell hx0 id
      replace hx1 := HF.out.cell hx1 id
      simp only [Int.toNat_natCast] at hx0 hx1
      have HGO := Aside0.mk (show moveOk T.mv.length prods (rd_T48 row i) = true → ∀ j : Nat, j < i + 1 → moveOk T.mv.length prods (rd_T48 row j) = true from fun h j hj => by
        by_cases e : j = i
        · subst e
          exact h
        · exact HALL.out j (by omega))
      have HNO := Aside0.mk (show moveOk T.mv.length prods (rd_T48 row i) = false → ¬ MvOk kinds T.mv.length prods row from fun h hm => by
        have := hm.2 i hlt
        rw [h] at this
        cases this)
      clear HALL
      generalize rd_T48 row i = x at hx0 hx1 HGO HNO
      obtain ⟨f, n⟩ := x
      go_upto_region 6 with (fail)
      have HF1 := Aside0.mk (HF.out.alloc (.cells #[.int .i64 f, .int .i64 n] 48))
      have HXB := Aside0.mk (blk_new wr (.cells #[.int .i64 f, .int .i64 n] 48))
      clear hx0 hx1 HF
      generalize wr.alloc (.cells #[.int .i64 f, .int .i64 n] 48) = W1 at HF1 HXB ⊢
      generalize wr.heap.size = q at HXB ⊢
      have HF2 := Aside0.mk (fun q => HF1.out.drewN q)
      obtain ⟨k0, k1, k2, k3, k4, k5⟩ := (HH.out.fr HF1.out).cells
      have x0 := (blk_cell HXB.out 0).trans (show _ = some (Value.int .i64 f) from rfl)
      have x1 := (blk_cell HXB.out 1).trans (show _ = some (Value.int .i64 n) from rfl)
      by_cases f1 : f = 1
      · subst f1
        by_cases n0 : 0 ≤ n
        · by_cases n1 : n < T.mv.length
          · have HOK := Aside0.mk (HGO.out (by unfold moveOk; rw [if_pos rfl]; exact decide_eq_true ⟨n0, n1⟩))
            go_wp2_with (fail)
            go_quiet (fail)
            go_wp2_with (fail)
            exact ⟨⟨i + 1, by go_num, by omega, HOK, (⟨HF2.out _⟩ : Aside0 _)⟩, by simp [intOf]; omega⟩
          · have HBAD := Aside0.mk (HNO.out (by unfold moveOk; rw [if_pos rfl]; exact decide_eq_false (fun h => n1 h.2)))
            have nb : decide (n < (T.mv.length : Int)) = false := decide_eq_false n1
            go_wp2_with (fail)
            go_quiet (fail)
            go_wp2_with (fail)
            go_ret
            exact ⟨false, rfl, ⟨fun h => (by cases h), fun h => absurd h HBAD.out⟩, HF2.out _⟩
        · have HBAD := Aside0.mk (HNO.out (by unfold moveOk; rw [if_pos rfl]; exact decide_eq_false (fun h => n0 h.1)))
          have nb : decide (0 ≤ n) = false := decide_eq_false n0
          go_wp2_with (fail)
          go_quiet (fail)
          go_wp2_with (fail)
          go_ret
          exact ⟨false, rfl, ⟨fun h => (by cases h), fun h => absurd h HBAD.out⟩, HF2.out _⟩
      by_cases f2 : f = 2
      · subst f2
        clear f1
        by_cases n0 : 0 ≤ n
        · by_cases n1 : n < prods
          · have HOK := Aside0.mk (HGO.out (by unfold moveOk; rw [if_neg (show ¬ (2 : Int) = 1 by decide), if_pos rfl]; exact decide_eq_true ⟨n0, n1⟩))
            go_wp2_with (fail)
            go_quiet (fail)
            go_wp2_with (fail)
            exact ⟨⟨i + 1, by go_num, by omega, HOK, (⟨HF2.out _⟩ : Aside0 _)⟩, by simp [intOf]; omega⟩
          · have HBAD := Aside0.mk (HNO.out (by unfold moveOk; rw [if_neg (show ¬ (2 : Int) = 1 by decide), if_pos rfl]; exact decide_eq_false (fun h => n1 h.2)))
            have nb : decide (n < prods) = false := decide_eq_false n1
            go_wp2_with (fail)
            go_quiet (fail)
            go_wp2_with (fail)
            go_ret
            exact ⟨false, rfl, ⟨fun h => (by cases h), fun h => absurd h HBAD.out⟩, HF2.out _⟩
        · have HBAD := Aside0.mk (HNO.out (by unfold moveOk; rw [if_neg (show ¬ (2 : Int) = 1 by decide), if_pos rfl]; exact decide_eq_false (fun h => n0 h.1)))
          have nb : decide (0 ≤ n) = false := decide_eq_false n0
          go_wp2_with (fail)
          go_quiet (fail)
          go_wp2_with (fail)
          go_ret
          exact ⟨false, rfl, ⟨fun h => (by cases h), fun h => absurd h HBAD.out⟩, HF2.out _⟩
      have f1b : (f == 1) = false := beq_eq_false_iff_ne.2 f1
      have f2b : (f == 2) = false := beq_eq_false_iff_ne.2 f2
      by_cases f3 : f = 0 ∨ f = 3
      · have HF3 := Aside0.mk f3
        by_cases n0 : n = 0
        · have HOK := Aside0.mk (HGO.out (by unfold moveOk; rw [if_neg f1, if_neg f2, if_pos f3]; exact beq_iff_eq.2 n0))
          subst n0
          clear f1 f2
          rcases f3 with rfl | rfl
          · go_wp2_with (fail)
            exact ⟨⟨i + 1, by go_num, by omega, HOK, HF1⟩, by simp [intOf]; omega⟩
          · go_wp2_with (fail)
            exact ⟨⟨i + 1, by go_num, by omega, HOK, HF1⟩, by simp [intOf]; omega⟩
        · have HBAD := Aside0.mk (HNO.out (by unfold moveOk; rw [if_neg f1, if_neg f2, if_pos f3]; exact beq_eq_false_iff_ne.2 n0))
          have nb : (n == 0) = false := beq_eq_false_iff_ne.2 n0
          clear f1 f2 n0
          rcases f3 with rfl | rfl
          · go_wp2_with (fail)
            go_ret
            exact ⟨false, rfl, ⟨fun h => (by cases h), fun h => absurd h HBAD.out⟩, HF1.out⟩
          · go_wp2_with (fail)
            go_ret
            exact ⟨false, rfl, ⟨fun h => (by cases h), fun h => absurd h HBAD.out⟩, HF1.out⟩
      · have HBAD := Aside0.mk (HNO.out (by unfold moveOk; rw [if_neg f1, if_neg f2, if_neg f3]))
        have f3b : (f == 0) = false := beq_eq_false_iff_ne.2 (fun h => f3 (.inl h))
        have f4b : (f == 3) = false := beq_eq_false_iff_ne.2 (fun h => f3 (.inr h))
        clear f1 f2 f3
        go_wp2_with (fail)
        go_ret
        exact ⟨false, rfl, ⟨fun h => (by cases h), fun h => absurd h HBAD.out⟩, HF1.out⟩
    · obtain rfl : i = row.length := by omega
      have HYES := Aside0.mk (show MvOk kinds T.mv.length prods row from ⟨HK.out, HALL.out⟩)
      go_wp2_with (fail)
      go_ret
      exact ⟨true, rfl, ⟨fun _ => HYES.out, fun _ => rfl⟩, HF.out⟩
/-- May a state's Goto be? -/
def GtOk (rules states : Int) (row : List Int) : Prop := (row.length : Int) = rules ∧ ∀ i : Nat, i < row.length → -1 ≤ rd row i ∧ rd row i < states
set_option maxHeartbeats 8000000 in
set_option maxRecDepth 100000 in
theorem gotos_calls (w : World) (g : Nat) (T : Tb) (A0 A1 : Option Addr) (c0 c1 : Nat) (kinds rules prods : Int) (each : Value) (h : ChkAt w g T A0 A1 c0 c1 kinds rules prods each) (s : Nat) (hs : s < T.gt.length) :
    Calls Try.prog 37 #[.pointer (some ⟨g, 0, none⟩), .int .i64 s] w (BoolPost w (GtOk rules T.mv.length (rd_L3 T.gt s))) := by
  obtain ⟨k0, k1, k2, k3, k4, k5⟩ := h.cells
  obtain ⟨ad, B, cb, rfl, hx, hlb, hCB⟩ := at_L3 h.t.gt (s : Int) (by omega) (by omega)
  simp only [Int.toNat_natCast] at hx
  have hmx := Kd.C_max hCB
  have HH := Aside0.mk h
  have HCB := Aside0.mk hCB
  clear h hCB
  generalize hrow : rd_L3 T.gt (s : Int) = row at hx hlb hmx HCB ⊢
  clear hrow
  have ks0 : (0 : Int) ≤ (s : Int) := by omega
  have ks1 : (s : Int) < (T.gt.length : Int) := by omega
  by_cases hk : (row.length : Int) = rules
  case neg =>
    have hkb : ((row.length : Int) != rules) = true := bne_iff_ne.2 hk
    have HK := Aside0.mk hk
    clear hk
    go_enter Try.func37, Try.ntmps37
    go_wp2_with (fail)
    go_quiet (fail)
    go_wp2_with (fail)
    go_ret
    exact ⟨false, rfl, ⟨fun h => (by cases h), fun h => absurd h.1 HK.out⟩, (Fr.refl _ _).drewN _⟩
  have hkb : ((row.length : Int) != rules) = false := bne_eq_false_iff_eq.2 hk
  have HK := Aside0.mk hk
  clear hk
  go_enter Try.func37, Try.ntmps37
  go_wp2_with (fail)
  go_quiet (fail)
  go_wp2_with (fail)
  have HF0 := Aside0.mk ((Fr.refl (fun _ => False) w).drewN nq)
  go_loopw [30] (fun a W => ∃ i : Nat, a = .int .i64 i ∧ i ≤ row.length ∧ Aside0 (∀ j : Nat, j < i → -1 ≤ rd row j ∧ rd row j < T.mv.length) ∧ Aside0 (Fr (fun _ => False) w W)) (fun a _ => row.length - (intOf a).toNat)
  case atStart => exact ⟨0, rfl, Nat.zero_le _, ⟨fun j hj => absurd hj (by omega)⟩, HF0⟩
  case round =>
    clear HF0 hx k0 k1 k2 k3 k4 k5
    obtain ⟨i, rfl, hi, HALL, HF⟩ := hrel
    obtain ⟨k0, k1, k2, k3, k4, k5⟩ := (HH.out.fr HF.out).cells
    by_cases hlt : i < row.length
    · obtain ⟨adr, rfl, hx0⟩ := Kd.at_int HCB.out (i : Int) (by omega) (by omega)
      replace hx0 := HF.out.cell hx0 id
      simp only [Int.toNat_natCast] at hx0
      have HGO := Aside0.mk (show (-1 ≤ rd row i ∧ rd row i < T.mv.length) → ∀ j : Nat, j < i + 1 → -1 ≤ rd row j ∧ rd row j < T.mv.length from fun h j hj => by
        by_cases e : j = i
        · subst e
          exact h
        · exact HALL.out j (by omega))
      have HNO := Aside0.mk (show ¬ (-1 ≤ rd row i ∧ rd row i < T.mv.length) → ¬ GtOk rules T.mv.length row from fun h hm => h (hm.2 i hlt))
      clear HALL
      generalize rd row i = n at hx0 HGO HNO
      by_cases n0 : n < -1
      · have HBAD := Aside0.mk (HNO.out (fun h => by omega))
        go_wp2_with (fail)
        go_ret
        exact ⟨false, rfl, ⟨fun h => (by cases h), fun h => absurd h HBAD.out⟩, HF.out⟩
      · by_cases n1 : n < T.mv.length
        · have HOK := Aside0.mk (HGO.out ⟨by omega, n1⟩)
          go_wp2_with (fail)
          exact ⟨⟨i + 1, by go_num, by omega, HOK, HF⟩, by simp [intOf]; omega⟩
        · have HBAD := Aside0.mk (HNO.out (fun h => n1 h.2))
          go_wp2_with (fail)
          go_ret
          exact ⟨false, rfl, ⟨fun h => (by cases h), fun h => absurd h HBAD.out⟩, HF.out⟩
    · obtain rfl : i = row.length := by omega
      have HYES := Aside0.mk (show GtOk rules T.mv.length row from ⟨HK.out, HALL.out⟩)
      go_wp2_with (fail)
      go_ret
      exact ⟨true, rfl, ⟨fun _ => HYES.out, fun _ => rfl⟩, HF.out⟩
end Go.Proofs.Ytlpmjmanmncmnaa.Tab
