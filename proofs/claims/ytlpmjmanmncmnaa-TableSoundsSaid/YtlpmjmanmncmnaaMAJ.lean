/-
Whether a state's moves and its Goto may be: the two checks, walked.
-/
import Derived.Deep.QuietTactic
import Derived.BigQuiet
import Derived.WalkArith
import Derived.IntWalk
import Derived.Test.YtlpmjmanmncmnaaMAI
import Derived.Test.YtlpmjmanmncmnaaMAG
set_option linter.unusedSimpArgs false
set_option linter.unusedVariables false
namespace Go.Proofs.Ytlpmjmanmncmnaa.Tab
open Go.RowKit Go.Maps Go.Proofs.YtlpmjmanmncmnaaW.PrintWords Go.Proofs.YtlpmjmanmncmnaaW.PrintLast Go.Proofs.YtlpmjmanmncmnaaW.PrintMore Go.Proofs.Ytlpmjmanmncmnaa.Fr Go.Proofs.Ytlpmjmanmncmnaa.PT
/-- A table in memory. -/
structure TAt (w : World) (T : Tb) (A0 A1 : Option Addr) (c0 c1 : Nat) : Prop where
  mv : Kd.C (Kd.slice 48 k48) w A0 T.mv.length T.mv
  gt : Kd.C (Kd.slice 3 (Kd.int .i64)) w A1 T.gt.length T.gt
  l0 : T.mv.length ≤ c0
  l1 : T.gt.length ≤ c1
theorem TAt.fr {w w1 : World} {T : Tb} {A0 A1 : Option Addr} {c0 c1 : Nat} (h : TAt w T A0 A1 c0 c1) (hF : Fr (fun _ => False) w w1) : TAt w1 T A0 A1 c0 c1 :=
  ⟨Kd.C_below h.mv hF.to_below, Kd.C_below h.gt hF.to_below, h.l0, h.l1⟩
/-- May a move be? -/
def moveOk (states prods : Int) (x : S48) : Bool :=
  if x.f0 = 1 then decide (0 ≤ x.f1 ∧ x.f1 < states) else if x.f0 = 2 then decide (0 ≤ x.f1 ∧ x.f1 < prods) else if x.f0 = 0 ∨ x.f0 = 3 then x.f1 == 0 else false
def MvOk (kinds states prods : Int) (row : List S48) : Prop := (row.length : Int) = kinds ∧ ∀ i : Nat, i < row.length → moveOk states prods (rd_T48 row i) = true
/-- What checks looks at. -/
structure ChkAt (w : World) (g : Nat) (T : Tb) (A0 A1 : Option Addr) (c0 c1 : Nat) (kinds rules prods : Int) (each : Value) : Prop where
  t : TAt w T A0 A1 c0 c1
  blk : w.heap[g]? = some (.cells #[.slice A0 T.mv.length c0, .slice A1 T.gt.length c1, .int .i64 kinds, .int .i64 rules, .int .i64 prods, each] 83)
theorem ChkAt.fr {w w1 : World} {g : Nat} {T : Tb} {A0 A1 : Option Addr} {c0 c1 : Nat} {kinds rules prods : Int} {each : Value} (h : ChkAt w g T A0 A1 c0 c1 kinds rules prods each) (hF : Fr (fun _ => False) w w1) : ChkAt w1 g T A0 A1 c0 c1 kinds rules prods each :=
  ⟨h.t.fr hF, hF.blk h.blk id⟩
theorem ChkAt.cells {w : World} {g : Nat} {T : Tb} {A0 A1 : Option Addr} {c0 c1 : Nat} {kinds rules prods : Int} {each : Value} (h : ChkAt w g T A0 A1 c0 c1 kinds rules prods each) :
    w.cell? ⟨g, 0, none⟩ = some (.slice A0 T.mv.length c0) ∧ w.cell? ⟨g, 1, none⟩ = some (.slice A1 T.gt.length c1) ∧ w.cell? ⟨g, 2, none⟩ = some (.int .i64 kinds) ∧ w.cell? ⟨g, 3, none⟩ = some (.int .i64 rules) ∧ w.cell? ⟨g, 4, none⟩ = some (.int .i64 prods) ∧ w.cell? ⟨g, 5, none⟩ = some each :=
  ⟨(blk_cell h.blk 0).trans rfl, (blk_cell h.blk 1).trans rfl, (blk_cell h.blk 2).trans rfl, (blk_cell h.blk 3).trans rfl, (blk_cell h.blk 4).trans rfl, (blk_cell h.blk 5).trans rfl⟩
def BoolPost (w : World) (P : Prop) (e : Ending) (w' : World) : Prop := ∃ b : Bool, e = .returned (.bool b) ∧ (b = true ↔ P) ∧ Fr (fun _ => False) w w'
set_option maxHeartbeats 8000000 in
set_option maxRecDepth 100000 in
theorem moves_calls (w : World) (g : Nat) (T : Tb) (A0 A1 : Option Addr) (c0 c1 : Nat) (kinds rules prods : Int) (each : Value) (h : ChkAt w g T A0 A1 c0 c1 kinds rules prods each) (s : Nat) (hs : s < T.mv.length) :
    Calls Try.prog 36 #[.pointer (some ⟨g, 0, none⟩), .int .i64 s] w (BoolPost w (MvOk kinds T.mv.length prods (rd_L2 T.mv s))) := by
  obtain ⟨k0, k1, k2, k3, k4, k5⟩ := h.cells
  obtain ⟨ad, B, cb, rfl, hx, hlb, hCB⟩ := at_L2 h.t.mv (s : Int) (by omega) (by omega)
  simp only [Int.toNat_natCast] at hx
  have hmx := Kd.C_max hCB
  have HH := Aside0.mk h
  have HCB := Aside0.mk hCB
  clear h hCB
  generalize hrow : rd_L2 T.mv (s : Int) = row at hx hlb hmx HCB ⊢
  have HROW := Aside0.mk hrow
  clear hrow
  have ks0 : (0 : Int) ≤ (s : Int) := by omega
  have ks1 : (s : Int) < (T.mv.length : Int) := by omega
  by_cases hk : (row.length : Int) = kinds
  case neg =>
    have hkb : ((row.length : Int) != kinds) = true := bne_iff_ne.2 hk
    have HK := Aside0.mk hk
    clear hk
    go_enter Try.func36, Try.ntmps36
    go_wp2_with (fail)
    go_quiet (fail)
    go_wp2_with (fail)
    go_ret
    exact ⟨false, rfl, ⟨fun h => (by cases h), fun h => absurd h.1 HK.out⟩, (Fr.refl _ _).drewN _⟩
  have hkb : ((row.length : Int) != kinds) = false := bne_eq_false_iff_eq.2 hk
  have HK := Aside0.mk hk
  clear hk
  go_enter Try.func36, Try.ntmps36
  go_wp2_with (fail)
  go_quiet (fail)
  go_wp2_with (fail)
  have HF0 := Aside0.mk ((Fr.refl (fun _ => False) w).drewN nq)
  go_loopw [31] (fun a W => ∃ i : Nat, a = .int .i64 i ∧ i ≤ row.length ∧ Aside0 (∀ j : Nat, j < i → moveOk T.mv.length prods (rd_T48 row j) = true) ∧ Aside0 (Fr (fun _ => False) w W)) (fun a _ => row.length - (intOf a).toNat)
  case atStart => exact ⟨0, rfl, Nat.zero_le _, ⟨fun j hj => absurd hj (by omega)⟩, HF0⟩
  case round =>
    clear HF0 hx k0 k1 k2 k3 k4 k5
    obtain ⟨i, rfl, hi, HALL, HF⟩ := hrel
    by_cases hlt : i < row.length
    · obtain ⟨adr, rfl, hx0, hx1⟩ := at_T48 HCB.out (i : Int) (by omega) (by omega)
      replace hx0 := HF.out.cell hx0 id
      replace hx1 := HF.out.cell hx1 id
      simp only [Int.toNat_natCast] at hx0 hx1
      have HGO := Aside0.mk (show moveOk T.mv.length prods (rd_T48 row i) = true → ∀ j : Nat, j < i + 1 → moveOk T.mv.length prods (rd_T48 row j) = true from fun h j hj => by
        by_cases e : j = i
        · subst e
          exact h
        · exact HALL.out j (by omega))
      have HNO := Aside0.mk (show moveOk T.mv.length prods (rd_T48 row i) = false → ¬ MvOk kinds T.mv.length prods row from fun h hm => by
        have := hm.2 i hlt
        rw [h] at this
        cases this)
      clear HALL
      generalize rd_T48 row i = x at hx0 hx1 HGO HNO
      obtain ⟨f, n⟩ := x
      go_upto_region 6 with (fail)
      have HF1 := Aside0.mk (HF.out.alloc (.cells #[.int .i64 f, .int .i64 n] 48))
      have HXB := Aside0.mk (blk_new wr (.cells #[.int .i64 f, .int .i64 n] 48))
      clear hx0 hx1 HF
      generalize wr.alloc (.cells #[.int .i64 f, .int .i64 n] 48) = W1 at HF1 HXB ⊢
      generalize wr.heap.size = q at HXB ⊢
      have HF2 := Aside0.mk (fun q => HF1.out.drewN q)
      obtain ⟨k0, k1, k2, k3, k4, k5⟩ := (HH.out.fr HF1.out).cells
      have x0 := (blk_cell HXB.out 0).trans (show _ = some (Value.int .i64 f) from rfl)
      have x1 := (blk_cell HXB.out 1).trans (show _ = some (Value.int .i64 n) from rfl)
      by_cases f1 : f = 1
      · subst f1
        by_cases n0 : 0 ≤ n
        · by_cases n1 : n < T.mv.length
          · have HOK := Aside0.mk (HGO.out (by unfold moveOk; rw [if_pos rfl]; exact decide_eq_true ⟨n0, n1⟩))
            go_wp2_with (fail)
            go_quiet (fail)
            go_wp2_with (fail)
            exact ⟨⟨i + 1, by go_num, by omega, HOK, (⟨HF2.out _⟩ : Aside0 _)⟩, by simp [intOf]; omega⟩
          · have HBAD := Aside0.mk (HNO.out (by unfold moveOk; rw [if_pos rfl]; exact decide_eq_false (fun h => n1 h.2)))
            have nb : decide (n < (T.mv.length : Int)) = false := decide_eq_false n1
            go_wp2_with (fail)
            go_quiet (fail)
            go_wp2_with (fail)
            go_ret
            exact ⟨false, rfl, ⟨fun h => (by cases h), fun h => absurd h HBAD.out⟩, HF2.out _⟩
        · have HBAD := Aside0.mk (HNO.out (by unfold moveOk; rw [if_pos rfl]; exact decide_eq_false (fun h => n0 h.1)))
          have nb : decide (0 ≤ n) = false := decide_eq_false n0
          go_wp2_with (fail)
          go_quiet (fail)
          go_wp2_with (fail)
          go_ret
          exact ⟨false, rfl, ⟨fun h => (by cases h), fun h => absurd h HBAD.out⟩, HF2.out _⟩
      by_cases f2 : f = 2
      · subst f2
        clear f1
        by_cases n0 : 0 ≤ n
        · by_cases n1 : n < prods
          · have HOK := Aside0.mk (HGO.out (by unfold moveOk; rw [if_neg (show ¬ (2 : Int) = 1 by decide), if_pos rfl]; exact decide_eq_true ⟨n0, n1⟩))
            go_wp2_with (fail)
            go_quiet (fail)
            go_wp2_with (fail)
            exact ⟨⟨i + 1, by go_num, by omega, HOK, (⟨HF2.out _⟩ : Aside0 _)⟩, by simp [intOf]; omega⟩
          · have HBAD := Aside0.mk (HNO.out (by unfold moveOk; rw [if_neg (show ¬ (2 : Int) = 1 by decide), if_pos rfl]; exact decide_eq_false (fun h => n1 h.2)))
            have nb : decide (n < prods) = false := decide_eq_false n1
            go_wp2_with (fail)
            go_quiet (fail)
            go_wp2_with (fail)
            go_ret
            exact ⟨false, rfl, ⟨fun h => (by cases h), fun h => absurd h HBAD.out⟩, HF2.out _⟩
        · have HBAD := Aside0.mk (HNO.out (by unfold moveOk; rw [if_neg (show ¬ (2 : Int) = 1 by decide), if_pos rfl]; exact decide_eq_false (fun h => n0 h.1)))
          have nb : decide (0 ≤ n) = false := decide_eq_false n0
          go_wp2_with (fail)
          go_quiet (fail)
          go_wp2_with (fail)
          go_ret
          exact ⟨false, rfl, ⟨fun h => (by cases h), fun h => absurd h HBAD.out⟩, HF2.out _⟩
      have f1b : (f == 1) = false := beq_eq_false_iff_ne.2 f1
      have f2b : (f == 2) = false := beq_eq_false_iff_ne.2 f2
      by_cases f3 : f = 0 ∨ f = 3
      · have HF3 := Aside0.mk f3
        by_cases n0 : n = 0
        · have HOK := Aside0.mk (HGO.out (by unfold moveOk; rw [if_neg f1, if_neg f2, if_pos f3]; exact beq_iff_eq.2 n0))
          subst n0
          clear f1 f2
          rcases f3 with rfl | rfl
          · go_wp2_with (fail)
            exact ⟨⟨i + 1, by go_num, by omega, HOK, HF1⟩, by simp [intOf]; omega⟩
          · go_wp2_with (fail)
            exact ⟨⟨i + 1, by go_num, by omega, HOK, HF1⟩, by simp [intOf]; omega⟩
        · have HBAD := Aside0.mk (HNO.out (by unfold moveOk; rw [if_neg f1, if_neg f2, if_pos f3]; exact beq_eq_false_iff_ne.2 n0))
          have nb : (n == 0) = false := beq_eq_false_iff_ne.2 n0
          clear f1 f2 n0
          rcases f3 with rfl | rfl
          · go_wp2_with (fail)
            go_ret
            exact ⟨false, rfl, ⟨fun h => (by cases h), fun h => absurd h HBAD.out⟩, HF1.out⟩
          · go_wp2_with (fail)
            go_ret
            exact ⟨false, rfl, ⟨fun h => (by cases h), fun h => absurd h HBAD.out⟩, HF1.out⟩
      · have HBAD := Aside0.mk (HNO.out (by unfold moveOk; rw [if_neg f1, if_neg f2, if_neg f3]))
        have f3b : (f == 0) = false := beq_eq_false_iff_ne.2 (fun h => f3 (.inl h))
        have f4b : (f == 3) = false := beq_eq_false_iff_ne.2 (fun h => f3 (.inr h))
        clear f1 f2 f3
        go_wp2_with (fail)
        go_ret
        exact ⟨false, rfl, ⟨fun h => (by cases h), fun h => absurd h HBAD.out⟩, HF1.out⟩
    · obtain rfl : i = row.length := by omega
      have HYES := Aside0.mk (show MvOk kinds T.mv.length prods row from ⟨HK.out, HALL.out⟩)
      go_wp2_with (fail)
      go_ret
      exact ⟨true, rfl, ⟨fun _ => HYES.out, fun _ => rfl⟩, HF.out⟩
/-- May a state's Goto be? -/
def GtOk (rules states : Int) (row : List Int) : Prop := (row.length : Int) = rules ∧ ∀ i : Nat, i < row.length → -1 ≤ rd row i ∧ rd row i < states
set_option maxHeartbeats 8000000 in
set_option maxRecDepth 100000 in
theorem gotos_calls (w : World) (g : Nat) (T : Tb) (A0 A1 : Option Addr) (c0 c1 : Nat) (kinds rules prods : Int) (each : Value) (h : ChkAt w g T A0 A1 c0 c1 kinds rules prods each) (s : Nat) (hs : s < T.gt.length) :
    Calls Try.prog 37 #[.pointer (some ⟨g, 0, none⟩), .int .i64 s] w (BoolPost w (GtOk rules T.mv.length (rd_L3 T.gt s))) := by
  obtain ⟨k0, k1, k2, k3, k4, k5⟩ := h.cells
  obtain ⟨ad, B, cb, rfl, hx, hlb, hCB⟩ := at_L3 h.t.gt (s : Int) (by omega) (by omega)
  simp only [Int.toNat_natCast] at hx
  have hmx := Kd.C_max hCB
  have HH := Aside0.mk h
  have HCB := Aside0.mk hCB
  clear h hCB
  generalize hrow : rd_L3 T.gt (s : Int) = row at hx hlb hmx HCB ⊢
  clear hrow
  have ks0 : (0 : Int) ≤ (s : Int) := by omega
  have ks1 : (s : Int) < (T.gt.length : Int) := by omega
  by_cases hk : (row.length : Int) = rules
  case neg =>
    have hkb : ((row.length : Int) != rules) = true := bne_iff_ne.2 hk
    have HK := Aside0.mk hk
    clear hk
    go_enter Try.func37, Try.ntmps37
    go_wp2_with (fail)
    go_quiet (fail)
    go_wp2_with (fail)
    go_ret
    exact ⟨false, rfl, ⟨fun h => (by cases h), fun h => absurd h.1 HK.out⟩, (Fr.refl _ _).drewN _⟩
  have hkb : ((row.length : Int) != rules) = false := bne_eq_false_iff_eq.2 hk
  have HK := Aside0.mk hk
  clear hk
  go_enter Try.func37, Try.ntmps37
  go_wp2_with (fail)
  go_quiet (fail)
  go_wp2_with (fail)
  have HF0 := Aside0.mk ((Fr.refl (fun _ => False) w).drewN nq)
  go_loopw [30] (fun a W => ∃ i : Nat, a = .int .i64 i ∧ i ≤ row.length ∧ Aside0 (∀ j : Nat, j < i → -1 ≤ rd row j ∧ rd row j < T.mv.length) ∧ Aside0 (Fr (fun _ => False) w W)) (fun a _ => row.length - (intOf a).toNat)
  case atStart => exact ⟨0, rfl, Nat.zero_le _, ⟨fun j hj => absurd hj (by omega)⟩, HF0⟩
  case round =>
    clear HF0 hx k0 k1 k2 k3 k4 k5
    obtain ⟨i, rfl, hi, HALL, HF⟩ := hrel
    obtain ⟨k0, k1, k2, k3, k4, k5⟩ := (HH.out.fr HF.out).cells
    by_cases hlt : i < row.length
    · obtain ⟨adr, rfl, hx0⟩ := Kd.at_int HCB.out (i : Int) (by omega) (by omega)
      replace hx0 := HF.out.cell hx0 id
      simp only [Int.toNat_natCast] at hx0
      have HGO := Aside0.mk (show (-1 ≤ rd row i ∧ rd row i < T.mv.length) → ∀ j : Nat, j < i + 1 → -1 ≤ rd row j ∧ rd row j < T.mv.length from fun h j hj => by
        by_cases e : j = i
        · subst e
          exact h
        · exact HALL.out j (by omega))
      have HNO := Aside0.mk (show ¬ (-1 ≤ rd row i ∧ rd row i < T.mv.length) → ¬ GtOk rules T.mv.length row from fun h hm => h (hm.2 i hlt))
      clear HALL
      generalize rd row i = n at hx0 HGO HNO
      by_cases n0 : n < -1
      · have HBAD := Aside0.mk (HNO.out (fun h => by omega))
        go_wp2_with (fail)
        go_ret
        exact ⟨false, rfl, ⟨fun h => (by cases h), fun h => absurd h HBAD.out⟩, HF.out⟩
      · by_cases n1 : n < T.mv.length
        · have HOK := Aside0.mk (HGO.out ⟨by omega, n1⟩)
          go_wp2_with (fail)
          exact ⟨⟨i + 1, by go_num, by omega, HOK, HF⟩, by simp [intOf]; omega⟩
        · have HBAD := Aside0.mk (HNO.out (fun h => n1 h.2))
          go_wp2_with (fail)
          go_ret
          exact ⟨false, rfl, ⟨fun h => (by cases h), fun h => absurd h HBAD.out⟩, HF.out⟩
    · obtain rfl : i = row.length := by omega
      have HYES := Aside0.mk (show GtOk rules T.mv.length row from ⟨HK.out, HALL.out⟩)
      go_wp2_with (fail)
      go_ret
      exact ⟨true, rfl, ⟨fun _ => HYES.out, fun _ => rfl⟩, HF.out⟩
end Go.Proofs.Ytlpmjmanmncmnaa.Tab
/-
Whether a table may be: table.Check, walked.
-/
set_option linter.unusedSimpArgs false
set_option linter.unusedVariables false
namespace Go.Proofs.Ytlpmjmanmncmnaa.Tab
open Go.RowKit Go.Maps Go.Proofs.YtlpmjmanmncmnaaW.PrintWords Go.Proofs.YtlpmjmanmncmnaaW.PrintLast Go.Proofs.YtlpmjmanmncmnaaW.PrintMore Go.Proofs.Ytlpmjmanmncmnaa.Fr Go.Proofs.Ytlpmjmanmncmnaa.PT
/-- A state may be. -/
def StOk (T : Tb) (kinds rules prods : Int) (s : Nat) : Prop := MvOk kinds T.mv.length prods (rd_L2 T.mv s) ∧ GtOk rules T.mv.length (rd_L3 T.gt s)
def bad1 (kinds rules prods : Int) : Prop := kinds < 2 ∨ rules < 0 ∨ prods < 0
def bad2 (T : Tb) : Prop := T.mv.length < 1 ∨ 4096 < T.mv.length ∨ T.gt.length ≠ T.mv.length
/-- What Check answers. -/
structure IsChk (T : Tb) (kinds rules prods : Int) (e : Int) : Prop where
  one : bad1 kinds rules prods → e = 1
  two : ¬ bad1 kinds rules prods → bad2 T → e = 170
  ok : ¬ bad1 kinds rules prods → ¬ bad2 T → (∀ s : Nat, s < T.mv.length → StOk T kinds rules prods s) → e = 0
  no : ¬ bad1 kinds rules prods → ¬ bad2 T → ∀ s : Nat, s < T.mv.length → ¬ StOk T kinds rules prods s → e = 170
theorem chk_1 {T : Tb} {kinds rules prods : Int} (b : bad1 kinds rules prods) : IsChk T kinds rules prods 1 := ⟨fun _ => rfl, fun h => absurd b h, fun h => absurd b h, fun h => absurd b h⟩
theorem chk_2 {T : Tb} {kinds rules prods : Int} (b1 : ¬ bad1 kinds rules prods) (b : bad2 T) : IsChk T kinds rules prods 170 := ⟨fun h => absurd h b1, fun _ _ => rfl, fun _ h => absurd b h, fun _ h => absurd b h⟩
theorem chk_3 {T : Tb} {kinds rules prods : Int} (b1 : ¬ bad1 kinds rules prods) (b2 : ¬ bad2 T) (h : ∀ s : Nat, s < T.mv.length → StOk T kinds rules prods s) : IsChk T kinds rules prods 0 := ⟨fun h => absurd h b1, fun _ h => absurd h b2, fun _ _ _ => rfl, fun _ _ s hs hn => absurd (h s hs) hn⟩
theorem chk_4 {T : Tb} {kinds rules prods : Int} (b1 : ¬ bad1 kinds rules prods) (b2 : ¬ bad2 T) {s : Nat} (hs : s < T.mv.length) (h : ¬ StOk T kinds rules prods s) : IsChk T kinds rules prods 170 := ⟨fun h => absurd h b1, fun _ h => absurd h b2, fun _ _ ha => absurd (ha s hs) h, fun _ _ _ _ _ => rfl⟩
def ChkPost (w : World) (T : Tb) (kinds rules prods : Int) (e : Ending) (w' : World) : Prop := ∃ r : Int, e = .returned (.int .i64 r) ∧ IsChk T kinds rules prods r ∧ Fr (fun _ => False) w w'
set_option maxHeartbeats 8000000 in
set_option maxRecDepth 100000 in
theorem check_calls (w : World) (T : Tb) (A0 A1 : Option Addr) (c0 c1 : Nat) (h : TAt w T A0 A1 c0 c1) (kinds rules prods : Int) :
    Calls Try.prog 12 #[.agg #[.slice A0 T.mv.length c0, .slice A1 T.gt.length c1], .int .i64 kinds, .int .i64 rules, .int .i64 prods] w (ChkPost w T kinds rules prods) := by
  have hu := Try.underlying25
  have hu2 := Try.underlying83
  have hm0 := Kd.C_max h.mv
  have hm1 := Kd.C_max h.gt
  have HT := Aside0.mk h
  clear h
  have HF0 := Aside0.mk ((Fr.refl (fun _ => False) w).alloc (.cells #[.slice A0 T.mv.length c0, .slice A1 T.gt.length c1] 25))
  go_enter Try.func12, Try.ntmps12
  by_cases b1 : kinds < 2
  · have HB := Aside0.mk (chk_1 (T := T) (.inl b1 : bad1 kinds rules prods))
    go_wp2_with (fail)
    go_ret
    exact ⟨1, rfl, HB.out, HF0.out⟩
  by_cases b2 : rules < 0
  · have HB := Aside0.mk (chk_1 (T := T) (.inr (.inl b2) : bad1 kinds rules prods))
    go_wp2_with (fail)
    go_ret
    exact ⟨1, rfl, HB.out, HF0.out⟩
  by_cases b3 : prods < 0
  · have HB := Aside0.mk (chk_1 (T := T) (.inr (.inr b3) : bad1 kinds rules prods))
    go_wp2_with (fail)
    go_ret
    exact ⟨1, rfl, HB.out, HF0.out⟩
  have HB1 := Aside0.mk (show ¬ bad1 kinds rules prods from fun h => by unfold bad1 at h; omega)
  by_cases d1 : T.mv.length < 1
  · have HB := Aside0.mk (chk_2 (T := T) HB1.out (.inl d1))
    go_wp2_with (fail)
    go_ret
    exact ⟨170, rfl, HB.out, HF0.out⟩
  by_cases d2 : 4096 < T.mv.length
  · have HB := Aside0.mk (chk_2 (T := T) HB1.out (.inr (.inl d2)))
    go_wp2_with (fail)
    go_ret
    exact ⟨170, rfl, HB.out, HF0.out⟩
  by_cases d3 : T.gt.length = T.mv.length
  case neg =>
    have HB := Aside0.mk (chk_2 (T := T) HB1.out (.inr (.inr d3)))
    have d3b : ((T.gt.length : Int) != (T.mv.length : Int)) = true := bne_iff_ne.2 (by omega)
    clear d3
    go_wp2_with (fail)
    go_ret
    exact ⟨170, rfl, HB.out, HF0.out⟩
  have HB2 := Aside0.mk (show ¬ bad2 T from fun h => by unfold bad2 at h; omega)
  have d3b : ((T.gt.length : Int) != (T.mv.length : Int)) = false := bne_eq_false_iff_eq.2 (by omega)
  have HLEN := Aside0.mk d3
  have d1b : decide ((T.mv.length : Int) < 1) = false := decide_eq_false (by omega)
  have d2b : decide (4096 < (T.mv.length : Int)) = false := decide_eq_false (by omega)
  have HN1 := Aside0.mk (And.intro d1 d2)
  clear d3 d1 d2
  go_wp2_with (fail)
  have HF1 := Aside0.mk ((HF0.out.alloc (.cells #[.slice A0 T.mv.length c0, .slice A1 T.gt.length c1, .int .i64 kinds, .int .i64 rules, .int .i64 prods, .slice (some ⟨w.heap.size + 1 + 1, 0, none⟩) 2 2] 83)).alloc (.cells #[.func (.func 36) #[.pointer (some ⟨w.heap.size + 1, 0, none⟩)] #[], .func (.func 37) #[.pointer (some ⟨w.heap.size + 1, 0, none⟩)] #[]] 84))
  have HTB := Aside0.mk (blk_alloc (blk_alloc (blk_new w (.cells #[.slice A0 T.mv.length c0, .slice A1 T.gt.length c1] 25)) (.cells #[.slice A0 T.mv.length c0, .slice A1 T.gt.length c1, .int .i64 kinds, .int .i64 rules, .int .i64 prods, .slice (some ⟨w.heap.size + 1 + 1, 0, none⟩) 2 2] 83)) (.cells #[.func (.func 36) #[.pointer (some ⟨w.heap.size + 1, 0, none⟩)] #[], .func (.func 37) #[.pointer (some ⟨w.heap.size + 1, 0, none⟩)] #[]] 84))
  have HCK := Aside0.mk (show (((w.alloc (.cells #[.slice A0 T.mv.length c0, .slice A1 T.gt.length c1] 25)).alloc (.cells #[.slice A0 T.mv.length c0, .slice A1 T.gt.length c1, .int .i64 kinds, .int .i64 rules, .int .i64 prods, .slice (some ⟨w.heap.size + 1 + 1, 0, none⟩) 2 2] 83)).alloc (.cells #[.func (.func 36) #[.pointer (some ⟨w.heap.size + 1, 0, none⟩)] #[], .func (.func 37) #[.pointer (some ⟨w.heap.size + 1, 0, none⟩)] #[]] 84)).heap[w.heap.size + 1]? = some (.cells #[.slice A0 T.mv.length c0, .slice A1 T.gt.length c1, .int .i64 kinds, .int .i64 rules, .int .i64 prods, .slice (some ⟨w.heap.size + 1 + 1, 0, none⟩) 2 2] 83) from by
    have h := blk_alloc (blk_new (w.alloc (.cells #[.slice A0 T.mv.length c0, .slice A1 T.gt.length c1] 25)) (.cells #[.slice A0 T.mv.length c0, .slice A1 T.gt.length c1, .int .i64 kinds, .int .i64 rules, .int .i64 prods, .slice (some ⟨w.heap.size + 1 + 1, 0, none⟩) 2 2] 83)) (.cells #[.func (.func 36) #[.pointer (some ⟨w.heap.size + 1, 0, none⟩)] #[], .func (.func 37) #[.pointer (some ⟨w.heap.size + 1, 0, none⟩)] #[]] 84)
    rwa [World.size_alloc] at h)
  have HFN := Aside0.mk (show (((w.alloc (.cells #[.slice A0 T.mv.length c0, .slice A1 T.gt.length c1] 25)).alloc (.cells #[.slice A0 T.mv.length c0, .slice A1 T.gt.length c1, .int .i64 kinds, .int .i64 rules, .int .i64 prods, .slice (some ⟨w.heap.size + 1 + 1, 0, none⟩) 2 2] 83)).alloc (.cells #[.func (.func 36) #[.pointer (some ⟨w.heap.size + 1, 0, none⟩)] #[], .func (.func 37) #[.pointer (some ⟨w.heap.size + 1, 0, none⟩)] #[]] 84)).heap[w.heap.size + 1 + 1]? = some (.cells #[.func (.func 36) #[.pointer (some ⟨w.heap.size + 1, 0, none⟩)] #[], .func (.func 37) #[.pointer (some ⟨w.heap.size + 1, 0, none⟩)] #[]] 84) from by
    have h := blk_new ((w.alloc (.cells #[.slice A0 T.mv.length c0, .slice A1 T.gt.length c1] 25)).alloc (.cells #[.slice A0 T.mv.length c0, .slice A1 T.gt.length c1, .int .i64 kinds, .int .i64 rules, .int .i64 prods, .slice (some ⟨w.heap.size + 1 + 1, 0, none⟩) 2 2] 83)) (.cells #[.func (.func 36) #[.pointer (some ⟨w.heap.size + 1, 0, none⟩)] #[], .func (.func 37) #[.pointer (some ⟨w.heap.size + 1, 0, none⟩)] #[]] 84)
    rwa [World.size_alloc, World.size_alloc] at h)
  obtain ⟨W0, hW0⟩ : ∃ W0, ((w.alloc (.cells #[.slice A0 T.mv.length c0, .slice A1 T.gt.length c1] 25)).alloc (.cells #[.slice A0 T.mv.length c0, .slice A1 T.gt.length c1, .int .i64 kinds, .int .i64 rules, .int .i64 prods, .slice (some ⟨w.heap.size + 1 + 1, 0, none⟩) 2 2] 83)).alloc (.cells #[.func (.func 36) #[.pointer (some ⟨w.heap.size + 1, 0, none⟩)] #[], .func (.func 37) #[.pointer (some ⟨w.heap.size + 1, 0, none⟩)] #[]] 84) = W0 := ⟨_, rfl⟩
  rw [hW0] at HF1 HTB HCK HFN
  simp only [hW0]
  clear hW0 HF0
  have HC0 := Aside0.mk (show ChkAt W0 (w.heap.size + 1) T A0 A1 c0 c1 kinds rules prods _ from ⟨HT.out.fr HF1.out, HCK.out⟩)
  clear HCK
  generalize w.heap.size + 1 + 1 = q2 at HC0 HFN ⊢
  generalize w.heap.size + 1 = q1 at HC0 HFN ⊢
  generalize w.heap.size = q0 at HTB ⊢
  have HE := Aside0.mk (Fr.refl (fun _ => False) W0)
  go_loopw [59] (fun a W => ∃ i : Nat, a = .int .i64 i ∧ i ≤ T.mv.length ∧ Aside0 (∀ s : Nat, s < i → StOk T kinds rules prods s) ∧ Aside0 (Fr (fun _ => False) W0 W)) (fun a _ => T.mv.length - (intOf a).toNat)
  case atStart => exact ⟨0, rfl, Nat.zero_le _, ⟨fun s hs => absurd hs (by omega)⟩, HE⟩
  case round =>
    clear HE
    obtain ⟨i, rfl, hi, HALL, HF⟩ := hrel
    obtain ⟨k0, k1, k2, k3, k4, k5⟩ := (HC0.out.fr HF.out).cells
    by_cases hlt : i < T.mv.length
    · have hltb : decide (i < T.mv.length) = true := decide_eq_true hlt
      go_wp2_with (fail)
      have HE := Aside0.mk (Fr.refl (fun _ => False) wr)
      go_loopw [67] (fun a W => ∃ j : Nat, a = .int .i64 j ∧ j ≤ 2 ∧ Aside0 (1 ≤ j → MvOk kinds T.mv.length prods (rd_L2 T.mv i)) ∧ Aside0 (2 ≤ j → GtOk rules T.mv.length (rd_L3 T.gt i)) ∧ Aside0 (Fr (fun _ => False) wr W)) (fun a _ => 2 - (intOf a).toNat)
      case atStart => exact ⟨0, rfl, by omega, ⟨fun h => absurd h (by omega)⟩, ⟨fun h => absurd h (by omega)⟩, HE⟩
      case round =>
        clear HE
        obtain ⟨j, rfl, hj, HM, HG, HE⟩ := hrel
        have HFE := Aside0.mk (HF.out.trans HE.out (fun _ _ h => h))
        have HFN2 := Aside0.mk (HFE.out.blk HFN.out id)
        rcases (by omega : j = 0 ∨ j = 1 ∨ j = 2) with rfl | rfl | rfl
        · have hx := (blk_cell HFN2.out 0).trans (show _ = some (Value.func (.func 36) #[.pointer (some ⟨q1, 0, none⟩)] #[]) from rfl)
          go_wp2_with (fail)
          refine (moves_calls _ q1 T A0 A1 c0 c1 kinds rules prods _ (HC0.out.fr HFE.out) i hlt).mono ?_
          rintro e W5 ⟨b, rfl, hb, hF⟩
          have HE5 := Aside0.mk (HE.out.trans hF (fun _ _ h => h))
          have HB5 := Aside0.mk hb
          clear hF hb
          cases b with
          | true =>
            have HM5 := Aside0.mk (HB5.out.1 rfl)
            go_wp2_with (fail)
            exact ⟨⟨1, rfl, by omega, ⟨fun _ => HM5.out⟩, ⟨fun h => absurd h (by omega)⟩, HE5⟩, by simp [intOf]⟩
          | false =>
            have HN5 := Aside0.mk (chk_4 HB1.out HB2.out hlt (fun h => by have := HB5.out.2 h.1; cases this))
            go_wp2_with (fail)
            go_ret
            exact ⟨170, rfl, HN5.out, HF1.out.trans (HF.out.trans HE5.out (fun _ _ h => h)) (fun _ _ h => h)⟩
        · have hx := (blk_cell HFN2.out 1).trans (show _ = some (Value.func (.func 37) #[.pointer (some ⟨q1, 0, none⟩)] #[]) from rfl)
          go_wp2_with (fail)
          refine (gotos_calls _ q1 T A0 A1 c0 c1 kinds rules prods _ (HC0.out.fr HFE.out) i (by rw [HLEN.out]; exact hlt)).mono ?_
          rintro e W5 ⟨b, rfl, hb, hF⟩
          have HE5 := Aside0.mk (HE.out.trans hF (fun _ _ h => h))
          have HB5 := Aside0.mk hb
          clear hF hb
          cases b with
          | true =>
            have HM5 := Aside0.mk (HB5.out.1 rfl)
            go_wp2_with (fail)
            exact ⟨⟨2, rfl, by omega, ⟨fun _ => HM.out (by omega)⟩, ⟨fun _ => HM5.out⟩, HE5⟩, by simp [intOf]⟩
          | false =>
            have HN5 := Aside0.mk (chk_4 HB1.out HB2.out hlt (fun h => by have := HB5.out.2 h.2; cases this))
            go_wp2_with (fail)
            go_ret
            exact ⟨170, rfl, HN5.out, HF1.out.trans (HF.out.trans HE5.out (fun _ _ h => h)) (fun _ _ h => h)⟩
        · have HST := Aside0.mk (show ∀ s : Nat, s < i + 1 → StOk T kinds rules prods s from fun s hs => by
            by_cases e : s = i
            · subst e
              exact ⟨HM.out (by omega), HG.out (by omega)⟩
            · exact HALL.out s (by omega))
          go_wp2_with (fail)
          exact ⟨⟨i + 1, by go_num, by omega, HST, HFE⟩, by simp [intOf]; omega⟩
    · obtain rfl : i = T.mv.length := by omega
      have hltb : decide (T.mv.length < T.mv.length) = false := decide_eq_false hlt
      have HB := Aside0.mk (chk_3 HB1.out HB2.out HALL.out)
      go_wp2_with (fail)
      go_ret
      exact ⟨0, rfl, HB.out, HF1.out.trans HF.out (fun _ _ h => h)⟩
end Go.Proofs.Ytlpmjmanmncmnaa.Tab
/-
What the reference says of whether a table may be: in plain Lean.
-/
set_option linter.unusedSimpArgs false
set_option linter.unusedVariables false
namespace Go.Proofs.Ytlpmjmanmncmnaa.Tab
open Go.RowKit Go.Maps Go.Proofs.YtlpmjmanmncmnaaW.PrintWords Go.Proofs.YtlpmjmanmncmnaaW.PrintLast Go.Proofs.YtlpmjmanmncmnaaW.PrintMore Go.Proofs.Ytlpmjmanmncmnaa.Fr Go.Proofs.Ytlpmjmanmncmnaa.PT
theorem refmove (x : S48) (states prods : Int) : quoinref17_move.f x.f0 x.f1 states prods = some (moveOk states prods x) := by
  unfold quoinref17_move.f moveOk
  by_cases c1 : x.f0 = 1
  · rw [if_pos c1, if_pos c1]
    by_cases c : x.f1 ≥ 0
    · rw [if_pos c]
      congr 1
      exact decide_eq_decide.2 ⟨fun h => ⟨c, h⟩, fun h => h.2⟩
    · rw [if_neg c, decide_eq_false (fun h => c h.1)]
  · rw [if_neg c1, if_neg c1]
    by_cases c2 : x.f0 = 2
    · rw [if_pos c2, if_pos c2]
      by_cases c : x.f1 ≥ 0
      · rw [if_pos c]
        congr 1
        exact decide_eq_decide.2 ⟨fun h => ⟨c, h⟩, fun h => h.2⟩
      · rw [if_neg c, decide_eq_false (fun h => c h.1)]
    · rw [if_neg c2, if_neg c2]
      by_cases c3 : x.f0 = 0
      · rw [if_pos c3, if_pos (.inl c3)]
      · rw [if_neg c3]
        by_cases c4 : x.f0 = 3
        · rw [if_pos c4, if_pos (.inr c4)]
        · rw [if_neg c4, if_neg (by omega)]
section
variable {T : Tb} {kinds rules prods r : Int} (hr : IsChk T kinds rules prods r) (b1 : ¬ bad1 kinds rules prods) (b2 : ¬ bad2 T) (hL : ∀ i : Nat, i < T.mv.length → (rd_L2 T.mv i).length ≤ 9223372036854775807 ∧ (rd_L3 T.gt i).length ≤ 9223372036854775807)
include hr b1 b2 hL
theorem rl2 (i : Nat) (hi : i < T.mv.length) (hl : ((rd_L3 T.gt i).length : Int) = rules) (hmv : MvOk kinds T.mv.length prods (rd_L2 T.mv i)) (h0 : StOk T kinds rules prods i → Fin (fun k => quoinref17_Check.l0 k kinds rules prods T.mv.length ((i + 1 : Nat) : Int) T.mv T.gt) r) :
    ∀ (m j : Nat), j + m = (rd_L3 T.gt i).length → (∀ q : Nat, q < j → -1 ≤ rd (rd_L3 T.gt i) q ∧ rd (rd_L3 T.gt i) q < T.mv.length) → Fin (fun k => quoinref17_Check.l2 k kinds rules prods T.mv.length i j T.mv T.gt) r
  | 0, j, h, hq => by
    have hn : T.mv.length ≤ 4096 ∧ T.gt.length = T.mv.length := by unfold bad2 at b2; omega
    refine (h0 ⟨hmv, hl, fun q hq' => hq q (by omega)⟩).step (fun k => ?_)
    show quoinref17_Check.l2 (k + 1) _ _ _ _ _ _ _ _ = _
    rw [quoinref17_Check.l2, if_neg (by omega), wrapN _ (by omega)]
  | m + 1, j, h, hq => by
    have hn : T.mv.length ≤ 4096 ∧ T.gt.length = T.mv.length := by unfold bad2 at b2; omega
    by_cases c : -1 ≤ rd (rd_L3 T.gt i) j ∧ rd (rd_L3 T.gt i) j < T.mv.length
    · have hj := hL i hi
      refine (rl2 i hi hl hmv h0 m (j + 1) (by omega) (fun q hq' => by
        by_cases e : q = j
        · subst e
          exact c
        · exact hq q (by omega))).step (fun k => ?_)
      show quoinref17_Check.l2 (k + 1) _ _ _ _ _ _ _ _ = _
      rw [quoinref17_Check.l2, if_pos (by omega), if_pos (by omega), if_pos (by omega), if_pos (by omega), if_pos (by omega), if_neg (by omega), if_neg (by omega), wrapN _ (by omega)]
    · have hf : r = 170 := hr.no b1 b2 i hi (fun h => c (h.2.2 j (by omega)))
      rw [hf]
      refine Fin.one (fun k => ?_)
      show quoinref17_Check.l2 (k + 1) _ _ _ _ _ _ _ _ = _
      rw [quoinref17_Check.l2, if_pos (by omega), if_pos (by omega), if_pos (by omega), if_pos (by omega), if_pos (by omega)]
      by_cases c1 : rd (rd_L3 T.gt i) j < -1
      · rw [if_pos c1]
      · rw [if_neg c1, if_pos (by omega)]
theorem rl1 (i : Nat) (hi : i < T.mv.length) (hl : ((rd_L3 T.gt i).length : Int) = rules) (hk : ((rd_L2 T.mv i).length : Int) = kinds) (h0 : StOk T kinds rules prods i → Fin (fun k => quoinref17_Check.l0 k kinds rules prods T.mv.length ((i + 1 : Nat) : Int) T.mv T.gt) r) :
    ∀ (m j : Nat), j + m = (rd_L2 T.mv i).length → (∀ q : Nat, q < j → moveOk T.mv.length prods (rd_T48 (rd_L2 T.mv i) q) = true) → Fin (fun k => quoinref17_Check.l1 k kinds rules prods T.mv.length i j T.mv T.gt) r
  | 0, j, h, hq => by
    have hn : T.mv.length ≤ 4096 ∧ T.gt.length = T.mv.length := by unfold bad2 at b2; omega
    refine (rl2 hr b1 b2 hL i hi hl ⟨hk, fun q hq' => hq q (by omega)⟩ h0 (rd_L3 T.gt i).length 0 (by omega) (fun q hq' => absurd hq' (by omega))).step (fun k => ?_)
    show quoinref17_Check.l1 (k + 1) _ _ _ _ _ _ _ _ = _
    rw [quoinref17_Check.l1, if_neg (by omega)]
    rfl
  | m + 1, j, h, hq => by
    have hn : T.mv.length ≤ 4096 ∧ T.gt.length = T.mv.length := by unfold bad2 at b2; omega
    have hj := hL i hi
    cases c : moveOk T.mv.length prods (rd_T48 (rd_L2 T.mv i) j) with
    | true =>
      refine (rl1 i hi hl hk h0 m (j + 1) (by omega) (fun q hq' => by
        by_cases e : q = j
        · subst e
          exact c
        · exact hq q (by omega))).step (fun k => ?_)
      show quoinref17_Check.l1 (k + 1) _ _ _ _ _ _ _ _ = _
      rw [quoinref17_Check.l1, if_pos (by omega), if_pos (by omega), if_pos (by omega), if_pos (by omega), if_pos (by omega), refmove, c, Option.bind_some, if_pos rfl, wrapN _ (by omega)]
    | false =>
      have hf : r = 170 := hr.no b1 b2 i hi (fun h => by have := h.1.2 j (by omega); rw [c] at this; cases this)
      rw [hf]
      refine Fin.one (fun k => ?_)
      show quoinref17_Check.l1 (k + 1) _ _ _ _ _ _ _ _ = _
      rw [quoinref17_Check.l1, if_pos (by omega), if_pos (by omega), if_pos (by omega), if_pos (by omega), if_pos (by omega), refmove, c, Option.bind_some, if_neg (by decide)]
theorem rl0 : ∀ (n i : Nat), i + n = T.mv.length → (∀ s : Nat, s < i → StOk T kinds rules prods s) → Fin (fun k => quoinref17_Check.l0 k kinds rules prods T.mv.length i T.mv T.gt) r
  | 0, i, h, hs => by
    obtain rfl : i = T.mv.length := by omega
    rw [hr.ok b1 b2 hs]
    refine Fin.one (fun k => ?_)
    show quoinref17_Check.l0 (k + 1) _ _ _ _ _ _ _ = _
    rw [quoinref17_Check.l0, if_neg (by omega)]
  | n + 1, i, h, hs => by
    have hn : T.mv.length ≤ 4096 ∧ T.gt.length = T.mv.length := by unfold bad2 at b2; omega
    have hi : i < T.mv.length := by omega
    have bad : ∀ b : Bool, b = true → ¬ StOk T kinds rules prods i → Fin (fun k => quoinref17_Check.j3 k kinds rules prods T.mv.length i b T.mv T.gt) r := fun b hb hn => by
      rw [hr.no b1 b2 i hi hn]
      refine Fin.one (fun k => ?_)
      show quoinref17_Check.j3 (k + 1) _ _ _ _ _ _ _ _ = _
      rw [quoinref17_Check.j3, if_pos hb]
    by_cases c1 : ((rd_L2 T.mv i).length : Int) = kinds
    · by_cases c2 : ((rd_L3 T.gt i).length : Int) = rules
      · refine Fin.step (g := fun k => quoinref17_Check.j3 k kinds rules prods T.mv.length i (((rd_L3 T.gt i).length : Int) != rules) T.mv T.gt) ?_ (fun k => ?_)
        · refine (rl1 hr b1 b2 hL i hi c2 c1 (fun hst => rl0 n (i + 1) (by omega) (fun s hs' => by
            by_cases e : s = i
            · subst e
              exact hst
            · exact hs s (by omega))) (rd_L2 T.mv i).length 0 (by omega) (fun q hq => absurd hq (by omega))).step (fun k => ?_)
          show quoinref17_Check.j3 (k + 1) _ _ _ _ _ _ _ _ = _
          rw [quoinref17_Check.j3, if_neg (by rw [Bool.not_eq_true, bne_eq_false_iff_eq]; exact c2)]
          rfl
        · show quoinref17_Check.l0 (k + 1) _ _ _ _ _ _ _ = _
          rw [quoinref17_Check.l0, if_pos (by omega), if_pos (by omega), if_pos (by omega), if_pos c1, if_pos (by omega)]
      · refine (bad (((rd_L3 T.gt i).length : Int) != rules) (by rw [bne_iff_ne]; exact c2) (fun h => c2 h.2.1)).step (fun k => ?_)
        show quoinref17_Check.l0 (k + 1) _ _ _ _ _ _ _ = _
        rw [quoinref17_Check.l0, if_pos (by omega), if_pos (by omega), if_pos (by omega), if_pos c1, if_pos (by omega)]
    · refine (bad true rfl (fun h => c1 h.1.1)).step (fun k => ?_)
      show quoinref17_Check.l0 (k + 1) _ _ _ _ _ _ _ = _
      rw [quoinref17_Check.l0, if_pos (by omega), if_pos (by omega), if_pos (by omega), if_neg c1]
end
/-- The reference's Check. -/
theorem refchk_some (T : Tb) (kinds rules prods r : Int) (hr : IsChk T kinds rules prods r) (hL : ∀ i : Nat, i < T.mv.length → (rd_L2 T.mv i).length ≤ 9223372036854775807 ∧ (rd_L3 T.gt i).length ≤ 9223372036854775807) : ∃ k, quoinref17_Check.f k T.mv T.gt kinds rules prods = some r := by
  have one : ∀ b : Bool, b = true → bad1 kinds rules prods → Fin (fun k => quoinref17_Check.j0 k kinds rules prods b T.mv T.gt) r := fun b hb h1 => by
    rw [hr.one h1]
    refine Fin.one (fun k => ?_)
    show quoinref17_Check.j0 (k + 1) _ _ _ _ _ _ = _
    rw [quoinref17_Check.j0, if_pos hb]
  by_cases c1 : kinds < 2
  · obtain ⟨k, hk⟩ := (one true rfl (.inl c1)).get
    exact ⟨k, by rw [quoinref17_Check.f, if_pos c1]; exact hk⟩
  by_cases c2 : rules < 0
  · obtain ⟨k, hk⟩ := (one true rfl (.inr (.inl c2))).get
    exact ⟨k, by rw [quoinref17_Check.f, if_neg c1, if_pos c2]; exact hk⟩
  by_cases c3 : prods < 0
  · obtain ⟨k, hk⟩ := (one (decide (prods < 0)) (decide_eq_true c3) (.inr (.inr c3))).get
    exact ⟨k, by rw [quoinref17_Check.f, if_neg c1, if_neg c2]; exact hk⟩
  have b1 : ¬ bad1 kinds rules prods := fun h => by unfold bad1 at h; omega
  have two : ∀ b : Bool, b = true → bad2 T → Fin (fun k => quoinref17_Check.j1 k kinds rules prods T.mv.length b T.mv T.gt) r := fun b hb h2 => by
    rw [hr.two b1 h2]
    refine Fin.one (fun k => ?_)
    show quoinref17_Check.j1 (k + 1) _ _ _ _ _ _ _ = _
    rw [quoinref17_Check.j1, if_pos hb]
  have fin : ∀ b : Bool, b = false → Fin (fun k => quoinref17_Check.j0 k kinds rules prods b T.mv T.gt) r := fun b hb => by
    by_cases d1 : T.mv.length < 1
    · refine (two true rfl (.inl d1)).step (fun k => ?_)
      show quoinref17_Check.j0 (k + 1) _ _ _ _ _ _ = _
      rw [quoinref17_Check.j0, if_neg (by rw [hb]; decide), if_pos (by omega)]
    by_cases d2 : 4096 < T.mv.length
    · refine (two true rfl (.inr (.inl d2))).step (fun k => ?_)
      show quoinref17_Check.j0 (k + 1) _ _ _ _ _ _ = _
      rw [quoinref17_Check.j0, if_neg (by rw [hb]; decide), if_neg (by omega), if_pos (by omega)]
    refine Fin.step (g := fun k => quoinref17_Check.j1 k kinds rules prods T.mv.length ((T.gt.length : Int) != (T.mv.length : Int)) T.mv T.gt) ?_ (fun k => ?_)
    · by_cases d3 : T.gt.length = T.mv.length
      · have b2 : ¬ bad2 T := fun h => by unfold bad2 at h; omega
        refine (rl0 hr b1 b2 hL T.mv.length 0 (by omega) (fun s hs => absurd hs (by omega))).step (fun k => ?_)
        show quoinref17_Check.j1 (k + 1) _ _ _ _ _ _ _ = _
        rw [quoinref17_Check.j1, if_neg (by rw [Bool.not_eq_true, bne_eq_false_iff_eq]; omega)]
        rfl
      · exact two _ (by rw [bne_iff_ne]; omega) (.inr (.inr d3))
    · show quoinref17_Check.j0 (k + 1) _ _ _ _ _ _ = _
      rw [quoinref17_Check.j0, if_neg (by rw [hb]; decide), if_neg (by omega), if_neg (by omega)]
  obtain ⟨k, hk⟩ := (fin (decide (prods < 0)) (decide_eq_false c3)).get
  exact ⟨k, by rw [quoinref17_Check.f, if_neg c1, if_neg c2]; exact hk⟩
end Go.Proofs.Ytlpmjmanmncmnaa.Tab
/-
A row's default: table.usual, walked.
-/
set_option linter.unusedSimpArgs false
set_option linter.unusedVariables false
namespace Go.Proofs.Ytlpmjmanmncmnaa.Tab
open Go.RowKit Go.Maps Go.Proofs.YtlpmjmanmncmnaaW.PrintWords Go.Proofs.YtlpmjmanmncmnaaW.PrintLast Go.Proofs.YtlpmjmanmncmnaaW.PrintMore Go.Proofs.Ytlpmjmanmncmnaa.Fr Go.Proofs.Ytlpmjmanmncmnaa.PT
theorem law3 : Keyed Try.prog 3 := int_keyed Try.underlying3
noncomputable abbrev El : Value → Option (DataW Unit × List MemPlace) := plainElem Try.prog 3
def UsualPost (w : World) (row : List S48) (e : Ending) (w' : World) : Prop := ∃ m : S48, e = .returned (.agg #[.int .i64 m.f0, .int .i64 m.f1]) ∧ IsUsual row m ∧ Fr (fun _ => False) w w'
theorem zero3 (w : World) : (zeroValue 3).run Try.prog w = .ok (.int .i64 0) w := by go_simp
set_option maxHeartbeats 8000000 in
set_option maxRecDepth 100000 in
theorem usual_calls (w : World) (row : List S48) (A : Option Addr) (c : Nat) (hC : Kd.C k48 w A row.length row) (hl : row.length ≤ 8796093022208) (hb : ∀ x, x ∈ row → (Lit.int .i64 x.f1).wf = true) :
    Calls Try.prog 33 #[.slice A row.length c] w (UsualPost w row) := by
  have hmm := @run_makeMap Try.prog
  go_enter Try.func33, Try.ntmps33
  have HC := Aside0.mk hC
  have HB := Aside0.mk hb
  clear hC hb
  have hmx : 8796093022208 < maxLen := by decide
  go_wp2_with (fail)
  obtain ⟨WA, hWA⟩ : ∃ WA, w.alloc (.cells #[.int .i64 0, .int .i64 0] 48) = WA := ⟨_, rfl⟩
  have HFA := Aside0.mk (show Fr (fun _ => False) w (WA.alloc (.map #[] 0)) from by rw [← hWA]; exact ((Fr.refl _ _).alloc _).alloc _)
  have HBA := Aside0.mk (show (WA.alloc (.map #[] 0)).heap[w.heap.size]? = some (.cells #[.int .i64 0, .int .i64 0] 48) from by rw [← hWA]; exact blk_alloc (blk_new _ _) _)
  have HOA := Aside0.mk (World.ownsMap_made WA Try.prog 3 El)
  have hsA : WA.heap.size = w.heap.size + 1 := by rw [← hWA, World.size_alloc]
  rw [hsA] at HOA
  simp only [hWA]
  obtain ⟨W0, hW0⟩ : ∃ W0, WA.alloc (.map #[] 0) = W0 := ⟨_, rfl⟩
  obtain ⟨b, hb⟩ : ∃ b, w.heap.size + 1 = b := ⟨_, rfl⟩
  rw [hW0] at HFA HBA HOA
  simp only [hW0, hb] at HOA ⊢
  have hbw : w.heap.size < b := by omega
  have HCN := Aside0.mk cnts_nil
  clear hWA hW0 hsA hb
  have hb := hbw
  clear hbw
  go_loopw [12] (fun a W => ∃ (i : Nat) (D : DataW Unit), a = .int .i64 i ∧ i ≤ row.length ∧ Aside0 (W.ownsMap Try.prog 3 El b i D) ∧ Aside0 (Cnts D (row.take i)) ∧ Aside0 (W.heap[w.heap.size]? = some (.cells #[.int .i64 0, .int .i64 0] 48)) ∧ Aside0 (Fr (fun _ => False) w W)) (fun a _ => row.length - (intOf a).toNat)
  case atStart => exact ⟨0, _, rfl, Nat.zero_le _, HOA, HCN, HBA, HFA⟩
  case round =>
    clear HOA HCN HBA HFA
    obtain ⟨i, D, rfl, hi, HO, HN, HBL, HF⟩ := hrel
    by_cases hlt : i < row.length
    · obtain ⟨ad, rfl, hx0, hx1⟩ := at_T48 HC.out (i : Int) (by omega) (by omega)
      replace hx0 := HF.out.cell hx0 id
      replace hx1 := HF.out.cell hx1 id
      simp only [Int.toNat_natCast] at hx0 hx1
      have HT := Aside0.mk (take_48 hlt)
      have hwx := HB.out _ (rd_mem hlt)
      have HWX := Aside0.mk hwx
      clear hwx
      generalize rd_T48 row i = x at hx0 hx1 HT HWX
      have HCX := Aside0.mk (cnt_le (row.take i) x.f1)
      have HO1 := Aside0.mk (HO.out.alloc (.cells #[.int .i64 x.f0, .int .i64 x.f1] 48))
      have HBL1 := Aside0.mk (blk_alloc HBL.out (.cells #[.int .i64 x.f0, .int .i64 x.f1] 48))
      have HF1 := Aside0.mk (HF.out.alloc (.cells #[.int .i64 x.f0, .int .i64 x.f1] 48))
      by_cases h2 : x.f0 = 2
      · have h2b : (x.f0 == 2) = true := beq_iff_eq.2 h2
        have HH2 := Aside0.mk h2
        have hq : (cntR (row.take i) x.f1 : Int) ≤ 8796093022208 := by have := HCX.out; simp only [List.length_take] at this; omega
        have HAT := Aside0.mk (HN.out.at_ x.f1)
        have HPUT := Aside0.mk (cnts_put HN.out h2)
        have hq0 : (0 : Int) ≤ (cntR (row.take i) x.f1 : Int) := by omega
        generalize (cntR (row.take i) x.f1 : Int) = qn at hq hq0 HAT HPUT
        have HWQ := Aside0.mk (show (Lit.int .i64 (qn + 1)).wf = true from WalkArith.wf_i64 (by omega))
        clear h2
        go_wp2_with (first
          | (at_lookup; refine wpList_lookup_own_int _ rfl _ _ 116 rfl 3 3 .i64 law3 Try.underlying116 Try.underlying3 (zero3 _) b i D rfl HO1.out _ _ rfl (keyOf_int_mk Try.underlying3 HWX.out) ?_; intro cc hat _; obtain rfl : qn = cc := (by rw [HAT.out] at hat; injection hat with hat; injection hat))
          | (at_mapUpdate; refine wpList_mapUpdate_own _ rfl _ _ _ 116 rfl 3 3 law3 Try.underlying116 _ b i D rfl HO1.out (by omega) _ _ _ rfl rfl (keyOf_int_mk Try.underlying3 HWX.out) _ [] (plainElem_int Try.underlying3 HWQ.out) ?_; intro w2 hout2 hg2; have HO2 := Aside0.mk hout2; have HF2 := Aside0.mk (HF1.out.grown hg2 (fun k hk hl => (by injection hk with hk; omega))); have HBL2 := Aside0.mk (blk_grown HBL1.out hg2 (fun e => (by injection e with e; omega))); clear hout2 hg2))
        exact ⟨⟨i + 1, _, by go_num, by omega, HO2, (⟨by rw [HT.out]; exact HPUT.out⟩ : Aside0 _), HBL2, HF2⟩, by simp [intOf]; omega⟩
      · have h2b : (x.f0 == 2) = false := beq_eq_false_iff_ne.2 h2
        have HS2 := Aside0.mk (cnts_skip HN.out h2)
        have HO2 := Aside0.mk (HO1.out.mono (Nat.le_succ i))
        clear h2
        go_wp2_with (fail)
        exact ⟨⟨i + 1, _, by go_num, by omega, HO2, (⟨by rw [HT.out]; exact HS2.out⟩ : Aside0 _), HBL1, HF1⟩, by simp [intOf]; omega⟩
    · obtain rfl : i = row.length := by omega
      have HN1 := Aside0.mk (show Cnts D row from by have h := HN.out; rwa [List.take_length] at h)
      go_upto_region 9 with (fail)
      have HO1 := Aside0.mk (HO.out.alloc (.cells #[.int .i64 0, .int .i64 0] 48))
      have HBL1 := Aside0.mk (blk_alloc HBL.out (.cells #[.int .i64 0, .int .i64 0] 48))
      have HBB1 := Aside0.mk (blk_new wr (.cells #[.int .i64 0, .int .i64 0] 48))
      have HF1 := Aside0.mk (HF.out.alloc (.cells #[.int .i64 0, .int .i64 0] 48))
      have hbw := HO.out.lt
      have hsz := World.size_alloc wr (.cells #[.int .i64 0, .int .i64 0] 48)
      obtain ⟨W1, hW1⟩ : ∃ W1, wr.alloc (.cells #[.int .i64 0, .int .i64 0] 48) = W1 := ⟨_, rfl⟩
      obtain ⟨g, hg⟩ : ∃ g, wr.heap.size = g := ⟨_, rfl⟩
      have hg1 := HF.out.size
      rw [hg] at hbw hg1 hsz HBB1
      simp only [hW1, hg] at HO1 HBL1 HBB1 HF1 hsz ⊢
      have hsz1 : g < W1.heap.size := by omega
      clear HO HN HBL HF hsz hW1 hg
      go_wp2_with (at_range; refine wpList_range_own _ rfl _ 116 rfl 3 3 law3 Try.underlying116 _ b row.length D rfl HO1.out ?_; intro W2 hrg0 hg0 _; have HRG := Aside0.mk hrg0; have HF2 := Aside0.mk (HF1.out.grown hg0 (fun k hk _ => by cases hk)); have HBL2 := Aside0.mk (blk_grown HBL1.out hg0 (by simp)); have HBB2 := Aside0.mk (blk_grown HBB1.out hg0 (by simp)); clear hrg0 hg0)
      go_frame
      obtain ⟨r, hr⟩ : ∃ r, W1.heap.size = r := ⟨_, rfl⟩
      simp only [hr] at HRG hsz1 ⊢
      clear hr HO1 HBL1 HBB1 HF1
      have HBST := Aside0.mk (best_start HN1.out)
      go_loopw [7] (fun _ W => ∃ (left : Lit → Bool) (cnt : Nat) (m : S48), Aside0 (W.ranges Try.prog 3 El b r row.length D left cnt) ∧ Aside0 (Best row left m) ∧ Aside0 (W.heap[g]? = some (.cells #[.int .i64 m.f0, .int .i64 m.f1] 48)) ∧ Aside0 (W.heap[w.heap.size]? = some (.cells #[.int .i64 0, .int .i64 0] 48)) ∧ Aside0 (Fr (fun _ => False) w W)) (fun _ W => W.rangeLeft b r)
      case atStart => exact ⟨_, _, ⟨0, 0⟩, HRG, HBST, HBB2, HBL2, HF2⟩
      case round =>
        clear HRG HBST HBB2 HBL2 HF2
        obtain ⟨left, cnt, m, HRG, HBST, HBB, HBL, HF⟩ := hrel
        go_wp2_with (at_next; refine wpList_next_ranges_ii _ rfl _ rfl 3 3 .i64 .i64 law3 Try.underlying3 Try.underlying3 b r row.length D left cnt rfl HRG.out ?_ ?_)
        · intro _ hl0
          have HEND := Aside0.mk (best_end HBST.out hl0)
          clear hl0
          have hm0 := (blk_cell HBB.out 0).trans (show _ = some (Value.int .i64 m.f0) from rfl)
          have hm1 := (blk_cell HBB.out 1).trans (show _ = some (Value.int .i64 m.f1) from rfl)
          have hr0 := (blk_cell HBL.out 0).trans (show _ = some (Value.int .i64 0) from rfl)
          have hr1 := (blk_cell HBL.out 1).trans (show _ = some (Value.int .i64 0) from rfl)
          have hf0 := blk_frozen HBL.out 0
          have hf1 := blk_frozen HBL.out 1
          go_wp2_with (fail)
          refine bodyPost_ret (results_cell_row rfl _ _ w.heap.size _ _ _ _ rfl (blk_put (blk_put HBL.out 0 (.int .i64 m.f0) rfl) 1 (.int .i64 m.f1) rfl) Try.underlying48 rfl (by kernel_rfl)) rfl ?_
          exact ⟨m, rfl, HEND.out, (HF.out.set _ (fun h => absurd h (by omega))).set _ (fun h => absurd h (by omega))⟩
        · intro x cc w1 cnt1 hwx _ hlx hat hrg1 hlt1 hg1' hs1 hen
          have hcc : (cc : Int) = cntR row x := by
            have h1 := HN1.out.at_ x
            rw [hat] at h1
            injection h1 with h1
            injection h1
          have HCC := Aside0.mk hcc
          have HHX := Aside0.mk (show 0 < cntR row x from by
            have h1 := HN1.out.has x
            rw [has_true_of_atKey hat] at h1
            exact of_decide_eq_true h1.symm)
          have HRG1 := Aside0.mk hrg1
          have HF1 := Aside0.mk (HF.out.grown hg1' (fun k hk hl => (by injection hk with hk; omega)))
          have HBB1 := Aside0.mk (blk_grown HBB.out hg1' (fun e => (by injection e with e; omega)))
          have HBL1 := Aside0.mk (blk_grown HBL.out hg1' (fun e => (by injection e with e; omega)))
          have HLT := Aside0.mk hlt1
          have HOL := Aside0.mk HRG.out.left_eq
          have hm0 := (blk_cell HBB1.out 0).trans (show _ = some (Value.int .i64 m.f0) from rfl)
          have hm1 := (blk_cell HBB1.out 1).trans (show _ = some (Value.int .i64 m.f1) from rfl)
          have hf0 := blk_frozen HBB1.out 0
          have hf1 := blk_frozen HBB1.out 1
          clear hat hrg1 hlt1 hg1' hs1 hlx hcc HRG HBB HBL HF
          have hfin : ∀ (W : World) (M : S48), Fr (fun k => k = g) w1 W → W.heap[g]? = some (.cells #[.int .i64 M.f0, .int .i64 M.f1] 48) → Best row (fun z => left z && !z.sameKey (.int .i64 x)) M →
              (∃ (left : Lit → Bool) (cnt : Nat) (m : S48), Aside0 (W.ranges Try.prog 3 El b r row.length D left cnt) ∧ Aside0 (Best row left m) ∧ Aside0 (W.heap[g]? = some (.cells #[.int .i64 m.f0, .int .i64 m.f1] 48)) ∧ Aside0 (W.heap[w.heap.size]? = some (.cells #[.int .i64 0, .int .i64 0] 48)) ∧ Aside0 (Fr (fun _ => False) w W)) ∧ W.rangeLeft b r < wr.rangeLeft b r := by
            intro W M hF hG hB
            have hgr : w1.grownBy W (some g) := ⟨hF.os, hF.tape, hF.output, hF.size, fun k hk hn => hF.block k hk (fun e => hn (by rw [e]))⟩
            have hrg := HRG1.out.kept hgr (fun e => (by injection e with e; omega)) (fun e => (by injection e with e; omega))
            refine ⟨⟨_, _, M, ⟨hrg⟩, ⟨hB⟩, ⟨hG⟩, ⟨hF.blk HBL1.out (fun e => by omega)⟩, ⟨HF1.out.trans hF (fun k hk e => by omega)⟩⟩, ?_⟩
            rw [hrg.left_eq, HOL.out]
            exact HLT.out
          have HFIN := Aside0.mk hfin
          clear hfin
          rcases best_form HBST.out with h0 | h0
          · have h0b : (m.f0 == 0) = true := beq_iff_eq.2 h0
            have HTK := Aside0.mk (best_take HBST.out HHX.out (.inl h0))
            clear h0
            go_wp2_with (fail)
            exact HFIN.out _ ⟨2, x⟩ (((Fr.refl (fun k => k = g) w1).set _ (fun _ => rfl)).set _ (fun _ => rfl)) (blk_put (blk_put HBB1.out 0 (.int .i64 2) rfl) 1 (.int .i64 x) rfl) HTK.out
          · have h0b : (m.f0 == 0) = false := beq_eq_false_iff_ne.2 (by omega)
            have HM0 := Aside0.mk h0
            have HPM := Aside0.mk (show 0 < cntR row m.f1 from by
              rcases HBST.out with ⟨h, _⟩ | ⟨_, h, _⟩
              · rw [h] at h0
                cases h0
              · exact h)
            have HWM := Aside0.mk (show (Lit.int .i64 m.f1).wf = true from by
              obtain ⟨y, hy, _, he⟩ := cnt_mem HPM.out
              rw [← he]
              exact HB.out y hy)
            obtain ⟨q, hq⟩ : ∃ q : Int, q = cntR row m.f1 := ⟨_, rfl⟩
            have HAM := Aside0.mk (show D.atKey (.int .i64 m.f1) (.lit (.int .i64 0)) = .lit (.int .i64 q) from by rw [hq]; exact HN1.out.at_ _)
            have HQ := Aside0.mk hq
            clear h0 hq
            obtain ⟨c3, hrun, hat3, _⟩ := HRG1.out.owns.lookup_int law3 Try.underlying116 Try.underlying3 (zero3 _) (keyOf_int_mk Try.underlying3 HWM.out)
            obtain rfl : q = c3 := by rw [HAM.out] at hat3; injection hat3 with hat3; injection hat3
            clear hat3
            by_cases c1 : q < cc
            · have HTK := Aside0.mk (best_take HBST.out HHX.out (.inr (.inl (by have h1 := HQ.out; have h2 := HCC.out; omega))))
              go_wp2_with (fail)
              exact HFIN.out _ ⟨2, x⟩ (((Fr.refl (fun k => k = g) w1).set _ (fun _ => rfl)).set _ (fun _ => rfl)) (blk_put (blk_put HBB1.out 0 (.int .i64 2) rfl) 1 (.int .i64 x) rfl) HTK.out
            · by_cases c2 : cc = q
              · have c2b : (cc == q) = true := beq_iff_eq.2 c2
                have HC2 := Aside0.mk c2
                clear c2
                by_cases c3 : x < m.f1
                · have HTK := Aside0.mk (best_take HBST.out HHX.out (.inr (.inr ⟨by have h1 := HQ.out; have h2 := HCC.out; have h3 := HC2.out; omega, c3⟩)))
                  go_wp2_with (fail)
                  exact HFIN.out _ ⟨2, x⟩ (((Fr.refl (fun k => k = g) w1).set _ (fun _ => rfl)).set _ (fun _ => rfl)) (blk_put (blk_put HBB1.out 0 (.int .i64 2) rfl) 1 (.int .i64 x) rfl) HTK.out
                · have HTK := Aside0.mk (best_leave HBST.out (m := m) (x := x) (by have := HM0.out; omega) (by have h1 := HQ.out; have h2 := HCC.out; omega) (fun h => c3 h.2))
                  go_wp2_with (fail)
                  exact HFIN.out _ m (Fr.refl _ w1) HBB1.out HTK.out
              · have c2b : (cc == q) = false := beq_eq_false_iff_ne.2 c2
                have HC2 := Aside0.mk c2
                clear c2
                have HTK := Aside0.mk (best_leave HBST.out (m := m) (x := x) (by have := HM0.out; omega) (by have h1 := HQ.out; have h2 := HCC.out; omega) (fun h => HC2.out (by have h1 := HQ.out; have h2 := HCC.out; omega)))
                go_wp2_with (fail)
                exact HFIN.out _ m (Fr.refl _ w1) HBB1.out HTK.out
end Go.Proofs.Ytlpmjmanmncmnaa.Tab
