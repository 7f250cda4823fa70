/-
A table with defaults: what it is, and the words of its walk.
-/
import Derived.Test.YtlpmjmanmncmnaaR1XE
import Derived.Test.YtlpmjmanmncmnaaR1XB
set_option linter.unusedSimpArgs false
set_option linter.unusedVariables false
namespace Go.Proofs.Ytlpmjmanmncmnaa.Tab
open Go.RowKit Go.Maps Go.Proofs.YtlpmjmanmncmnaaW.PrintWords Go.Proofs.YtlpmjmanmncmnaaW.PrintLast Go.Proofs.YtlpmjmanmncmnaaW.PrintMore Go.Proofs.Ytlpmjmanmncmnaa.Fr Go.Proofs.Ytlpmjmanmncmnaa.PT
/-- The bounds of a table that came in. -/
structure TOk (T : Tb) : Prop where
  m : T.mv.length ≤ 5864062014634
  g : T.gt.length ≤ 5864062014634
  rows : ∀ s : Nat, s < T.mv.length → (rd_L2 T.mv s).length ≤ 8796093022208 ∧ ∀ x, x ∈ rd_L2 T.mv s → (Lit.int .i64 x.f1).wf = true
  gos : ∀ s : Nat, s < T.gt.length → (rd_L3 T.gt s).length ≤ 17592186043904
/-- A row with its default. -/
def withD (m : S48) (row : List S48) : List S48 := row.map (fun x => if x.f0 = 0 then m else x)
theorem withD_len (m : S48) (row : List S48) : (withD m row).length = row.length := by simp [withD]
/-- Rows with their defaults. -/
def IsDef (l d : List (List S48)) : Prop := l.length = d.length ∧ ∀ s : Nat, s < l.length → ∃ m, IsUsual (rd_L2 l s) m ∧ rd_L2 d s = withD m (rd_L2 l s)
theorem ext_L2 {d e : List (List S48)} (hl : d.length = e.length) (h : ∀ s : Nat, s < d.length → rd_L2 d s = rd_L2 e s) : d = e := by
  apply List.ext_getElem hl
  intro i h1 h2
  have := h i h1
  simpa [rd_L2, List.getD_eq_getElem?_getD, h1, h2] using this
theorem def_one {l d e : List (List S48)} (h : IsDef l d) (k : IsDef l e) : d = e := by
  refine ext_L2 (h.1.symm.trans k.1) (fun s hs => ?_)
  have hs' : s < l.length := by have := h.1; omega
  obtain ⟨m, hm, e1⟩ := h.2 s hs'
  obtain ⟨n, hn, e2⟩ := k.2 s hs'
  rw [e1, e2, usual_one hm hn]
theorem rdL2_append {l : List (List S48)} {x : List S48} {s : Nat} : rd_L2 (l ++ [x]) s = if s < l.length then rd_L2 l s else if s = l.length then x else [] := by
  simp only [rd_L2, Int.toNat_natCast, List.getD_eq_getElem?_getD]
  by_cases c : s < l.length
  · rw [if_pos c, List.getElem?_append_left c]
  · rw [if_neg c, List.getElem?_append_right (by omega)]
    by_cases e : s = l.length
    · subst e
      simp
    · rw [if_neg e]
      have : s - l.length ≠ 0 := by omega
      obtain ⟨q, hq⟩ : ∃ q, s - l.length = q + 1 := ⟨s - l.length - 1, by omega⟩
      rw [hq]
      simp
theorem take_L3 {l : List (List Int)} {i : Nat} (h : i < l.length) : l.take (i + 1) = l.take i ++ [rd_L3 l i] := by
  rw [List.take_add_one]
  simp [rd_L3, List.getD_eq_getElem?_getD, h]
theorem rdL2_take {l : List (List S48)} {i s : Nat} (h : s < i) : rd_L2 (l.take i) s = rd_L2 l s := by
  simp only [rd_L2, Int.toNat_natCast, List.getD_eq_getElem?_getD]
  rw [List.getElem?_take_of_lt h]
theorem def_nil : IsDef [] [] := ⟨rfl, fun s hs => absurd hs (by simp)⟩
theorem def_snoc {l d : List (List S48)} {i : Nat} (h : IsDef (l.take i) d) (hi : i < l.length) {m : S48} (hm : IsUsual (rd_L2 l i) m) : IsDef (l.take (i + 1)) (d ++ [withD m (rd_L2 l i)]) := by
  have hl := h.1
  rw [List.length_take] at hl
  refine ⟨by simp [List.length_take]; omega, fun s hs => ?_⟩
  rw [List.length_take] at hs
  rw [rdL2_take (by omega), rdL2_append]
  by_cases c : s < d.length
  · rw [if_pos c]
    obtain ⟨n, hn, e⟩ := h.2 s (by rw [List.length_take]; omega)
    rw [rdL2_take (by omega)] at hn e
    exact ⟨n, hn, e⟩
  · obtain rfl : s = i := by omega
    rw [if_neg c, if_pos (by omega)]
    exact ⟨m, hm, rfl⟩
/-- The table that is made: block ob, its rows at or above b0. -/
structure Out (W : World) (ob b0 : Nat) (vm vg : Value) (Lm : List (List S48)) (Lg : List (List Int)) : Prop where
  blk : W.heap[ob]? = some (.cells #[vm, vg] 25 (0, 0))
  m : (Kd.slice 48 k48).R 38 W b0 (fun k => b0 ≤ k) vm Lm
  g : (Kd.slice 3 (Kd.int .i64)).R 39 W b0 (fun k => b0 ≤ k) vg Lg
theorem Out.fr {W W1 : World} {ob b0 : Nat} {vm vg : Value} {Lm : List (List S48)} {Lg : List (List Int)} {S : Nat → Prop} (h : Out W ob b0 vm vg Lm Lg) (hF : Fr S W W1) (hS : ∀ k, k < W.heap.size → ¬ S k) : Out W1 ob b0 vm vg Lm Lg :=
  ⟨hF.blk h.blk (hS _ (blk_lt h.blk)), Kd.R_step h.m (fun k _ hk => hF.block k hk (hS k hk)), Kd.R_step h.g (fun k _ hk => hF.block k hk (hS k hk))⟩
theorem Out.mform {W : World} {ob b0 : Nat} {vm vg : Value} {Lm : List (List S48)} {Lg : List (List Int)} (h : Out W ob b0 vm vg Lm Lg) : ∃ A c, vm = .slice A Lm.length c := Kd.R_slice h.m
theorem ne25m : ∀ q, q ∈ 38 :: (Kd.slice 48 k48).E → q ≠ 25 := (show ∀ q, q ∈ [38, 48] → q ≠ 25 by decide)
theorem ne25g : ∀ q, q ∈ 39 :: (Kd.slice 3 (Kd.int .i64)).E → q ≠ 25 := (show ∀ q, q ∈ [39, 3] → q ≠ 25 by decide)
theorem neGM : ∀ q, q ∈ 39 :: (Kd.slice 3 (Kd.int .i64)).E → q ≠ 38 := (show ∀ q, q ∈ [39, 3] → q ≠ 38 by decide)
theorem neMG : ∀ q, q ∈ 38 :: (Kd.slice 48 k48).E → q ≠ 39 := (show ∀ q, q ∈ [38, 48] → q ≠ 39 by decide)
/-- A row has come. -/
theorem Out.appM {W W1 : World} {ob b0 : Nat} {vm vg v1 : Value} {Lm L1 : List (List S48)} {Lg : List (List Int)} (h : Out W ob b0 vm vg Lm Lg) (hg : W.grownBy W1 vm.ownBlock) (h1 : (Kd.slice 48 k48).R 38 W1 b0 (fun k => b0 ≤ k) v1 L1) : Out (W1.setCell ⟨ob, 0, none⟩ v1) ob b0 v1 vg L1 Lg := by
  have hb : W1.heap[ob]? = some (.cells #[vm, vg] 25 (0, 0)) := blk_grown h.blk hg (Kd.R_ne h.m h.blk (by decide))
  exact ⟨blk_put hb 0 v1 rfl, Kd.R_set h1 hb ne25m 0 v1, Kd.R_set (Kd.R_over h.g h.m neGM hg) hb ne25g 0 v1⟩
theorem Out.appG {W W1 : World} {ob b0 : Nat} {vm vg v1 : Value} {Lm : List (List S48)} {Lg L1 : List (List Int)} (h : Out W ob b0 vm vg Lm Lg) (hg : W.grownBy W1 vg.ownBlock) (h1 : (Kd.slice 3 (Kd.int .i64)).R 39 W1 b0 (fun k => b0 ≤ k) v1 L1) : Out (W1.setCell ⟨ob, 1, none⟩ v1) ob b0 vm v1 Lm L1 := by
  have hb : W1.heap[ob]? = some (.cells #[vm, vg] 25 (0, 0)) := blk_grown h.blk hg (Kd.R_ne h.g h.blk (by decide))
  exact ⟨blk_put hb 1 v1 rfl, Kd.R_set (Kd.R_over h.m h.g neMG hg) hb ne25m 1 v1, Kd.R_set h1 hb ne25g 1 v1⟩
theorem grown_fr {W W1 : World} {b0 : Nat} {row : Option Nat} (hg : W.grownBy W1 row) (hb : ∀ k, row = some k → b0 ≤ k) : Fr (fun k => b0 ≤ k) W W1 :=
  ⟨hg.os, hg.tape, hg.output, hg.size, fun i hi hn => hg.block i hi (fun e => hn (hb i e.symm))⟩
def DefPost (w : World) (T : Tb) (e : Ending) (w' : World) : Prop :=
  (¬ Even T ∧ e = .returned (.tuple #[.agg #[.slice none 0 0, .slice none 0 0], .int .i64 170]) ∧ Fr (fun _ => False) w w') ∨
  (Even T ∧ ∃ (vm vg : Value) (D : List (List S48)), IsDef T.mv D ∧ e = .returned (.tuple #[.agg #[vm, vg], .int .i64 0]) ∧ (Kd.slice 48 k48).R 38 w' w.heap.size (fun _ => True) vm D ∧ (Kd.slice 3 (Kd.int .i64)).R 39 w' w.heap.size (fun _ => True) vg T.gt ∧ Fr (fun _ => False) w w')
theorem results_cell_row_tmp {P : Program} {fn : Func} {p u : Tmp} {ty : TypeId} (h : fn.results = #[.cell p ty, .tmp u]) (tmps : Array Value) (w : World) (g : Nat) (t : TypeId) (cs : Array Value) (fr : Nat × Nat) (d : TypeDesc)
    (hp : tmps.getD p undef = .pointer (some ⟨g, 0, none⟩)) (hg : w.heap[g]? = some (.cells cs t fr))
    (hu : P.underlying ty = some d) (hd : (match d with | .struct _ | .array _ _ => true | _ => false) = true) (hi : (P.info? ty).map (·.size) = some cs.size) :
    (results fn tmps).run P w = .ok (.tuple #[.agg cs, tmps.getD u undef]) w := by
  have hp' : tmps[p]?.getD undef = .pointer (some ⟨g, 0, none⟩) := by simpa using hp
  simp [results, h, hp', asAddr, run_loadVar_row w g t ty cs fr d hg hu hd hi]
end Go.Proofs.Ytlpmjmanmncmnaa.Tab
