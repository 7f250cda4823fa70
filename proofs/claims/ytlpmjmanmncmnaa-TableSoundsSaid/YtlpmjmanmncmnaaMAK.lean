/-
A table with defaults: what it is, and the words of its walk.
-/
import Derived.Test.YtlpmjmanmncmnaaMAJ
import Derived.Test.YtlpmjmanmncmnaaMAH
set_option linter.unusedSimpArgs false
set_option linter.unusedVariables false
namespace Go.Proofs.Ytlpmjmanmncmnaa.Tab
open Go.RowKit Go.Maps Go.Proofs.YtlpmjmanmncmnaaW.PrintWords Go.Proofs.YtlpmjmanmncmnaaW.PrintLast Go.Proofs.YtlpmjmanmncmnaaW.PrintMore Go.Proofs.Ytlpmjmanmncmnaa.Fr Go.Proofs.Ytlpmjmanmncmnaa.PT
/-- The bounds of a table that came in. -/
structure TOk (T : Tb) : Prop where
  m : T.mv.length ≤ 5864062014634
  g : T.gt.length ≤ 5864062014634
  rows : ∀ s : Nat, s < T.mv.length → (rd_L2 T.mv s).length ≤ 8796093022208 ∧ ∀ x, x ∈ rd_L2 T.mv s → (Lit.int .i64 x.f1).wf = true
  gos : ∀ s : Nat, s < T.gt.length → (rd_L3 T.gt s).length ≤ 17592186043904
/-- A row with its default. -/
def withD (m : S48) (row : List S48) : List S48 := row.map (fun x => if x.f0 = 0 then m else x)
theorem withD_len (m : S48) (row : List S48) : (withD m row).length = row.length := by simp [withD]
/-- Rows with their defaults. -/
def IsDef (l d : List (List S48)) : Prop := l.length = d.length ∧ ∀ s : Nat, s < l.length → ∃ m, IsUsual (rd_L2 l s) m ∧ rd_L2 d s = withD m (rd_L2 l s)
theorem ext_L2 {d e : List (List S48)} (hl : d.length = e.length) (h : ∀ s : Nat, s < d.length → rd_L2 d s = rd_L2 e s) : d = e := by
  apply List.ext_getElem hl
  intro i h1 h2
  have := h i h1
  simpa [rd_L2, List.getD_eq_getElem?_getD, h1, h2] using this
theorem def_one {l d e : List (List S48)} (h : IsDef l d) (k : IsDef l e) : d = e := by
  refine ext_L2 (h.1.symm.trans k.1) (fun s hs => ?_)
  have hs' : s < l.length := by have := h.1; omega
  obtain ⟨m, hm, e1⟩ := h.2 s hs'
  obtain ⟨n, hn, e2⟩ := k.2 s hs'
  rw [e1, e2, usual_one hm hn]
theorem rdL2_append {l : List (List S48)} {x : List S48} {s : Nat} : rd_L2 (l ++ [x]) s = if s < l.length then rd_L2 l s else if s = l.length then x else [] := by
  simp only [rd_L2, Int.toNat_natCast, List.getD_eq_getElem?_getD]
  by_cases c : s < l.length
  · rw [if_pos c, List.getElem?_append_left c]
  · rw [if_neg c, List.getElem?_append_right (by omega)]
    by_cases e : s = l.length
    · subst e
      simp
    · rw [if_neg e]
      have : s - l.length ≠ 0 := by omega
      obtain ⟨q, hq⟩ : ∃ q, s - l.length = q + 1 := ⟨s - l.length - 1, by omega⟩
      rw [hq]
      simp
theorem take_L3 {l : List (List Int)} {i : Nat} (h : i < l.length) : l.take (i + 1) = l.take i ++ [rd_L3 l i] := by
  rw [List.take_add_one]
  simp [rd_L3, List.getD_eq_getElem?_getD, h]
theorem rdL2_take {l : List (List S48)} {i s : Nat} (h : s < i) : rd_L2 (l.take i) s = rd_L2 l s := by
  simp only [rd_L2, Int.toNat_natCast, List.getD_eq_getElem?_getD]
  rw [List.getElem?_take_of_lt h]
theorem def_nil : IsDef [] [] := ⟨rfl, fun s hs => absurd hs (by simp)⟩
theorem def_snoc {l d : List (List S48)} {i : Nat} (h : IsDef (l.take i) d) (hi : i < l.length) {m : S48} (hm : IsUsual (rd_L2 l i) m) : IsDef (l.take (i + 1)) (d ++ [withD m (rd_L2 l i)]) := by
  have hl := h.1
  rw [List.length_take] at hl
  refine ⟨by simp [List.length_take]; omega, fun s hs => ?_⟩
  rw [List.length_take] at hs
  rw [rdL2_take (by omega), rdL2_append]
  by_cases c : s < d.length
  · rw [if_pos c]
    obtain ⟨n, hn, e⟩ := h.2 s (by rw [List.length_take]; omega)
    rw [rdL2_take (by omega)] at hn e
    exact ⟨n, hn, e⟩
  · obtain rfl : s = i := by omega
    rw [if_neg c, if_pos (by omega)]
    exact ⟨m, hm, rfl⟩
/-- The table that is made: block ob, its rows at or above b0. -/
structure Out (W : World) (ob b0 : Nat) (vm vg : Value) (Lm : List (List S48)) (Lg : List (List Int)) : Prop where
  blk : W.heap[ob]? = some (.cells #[vm, vg] 25 (0, 0))
  m : (Kd.slice 48 k48).R 38 W b0 (fun k => b0 ≤ k) vm Lm
  g : (Kd.slice 3 (Kd.int .i64)).R 39 W b0 (fun k => b0 ≤ k) vg Lg
theorem Out.fr {W W1 : World} {ob b0 : Nat} {vm vg : Value} {Lm : List (List S48)} {Lg : List (List Int)} {S : Nat → Prop} (h : Out W ob b0 vm vg Lm Lg) (hF : Fr S W W1) (hS : ∀ k, k < W.heap.size → ¬ S k) : Out W1 ob b0 vm vg Lm Lg :=
  ⟨hF.blk h.blk (hS _ (blk_lt h.blk)), Kd.R_step h.m (fun k _ hk => hF.block k hk (hS k hk)), Kd.R_step h.g (fun k _ hk => hF.block k hk (hS k hk))⟩
theorem Out.mform {W : World} {ob b0 : Nat} {vm vg : Value} {Lm : List (List S48)} {Lg : List (List Int)} (h : Out W ob b0 vm vg Lm Lg) : ∃ A c, vm = .slice A Lm.length c := Kd.R_slice h.m
theorem ne25m : ∀ q, q ∈ 38 :: (Kd.slice 48 k48).E → q ≠ 25 := (show ∀ q, q ∈ [38, 48] → q ≠ 25 by decide)
theorem ne25g : ∀ q, q ∈ 39 :: (Kd.slice 3 (Kd.int .i64)).E → q ≠ 25 := (show ∀ q, q ∈ [39, 3] → q ≠ 25 by decide)
theorem neGM : ∀ q, q ∈ 39 :: (Kd.slice 3 (Kd.int .i64)).E → q ≠ 38 := (show ∀ q, q ∈ [39, 3] → q ≠ 38 by decide)
theorem neMG : ∀ q, q ∈ 38 :: (Kd.slice 48 k48).E → q ≠ 39 := (show ∀ q, q ∈ [38, 48] → q ≠ 39 by decide)
/-- A row has come. -/
theorem Out.appM {W W1 : World} {ob b0 : Nat} {vm vg v1 : Value} {Lm L1 : List (List S48)} {Lg : List (List Int)} (h : Out W ob b0 vm vg Lm Lg) (hg : W.grownBy W1 vm.ownBlock) (h1 : (Kd.slice 48 k48).R 38 W1 b0 (fun k => b0 ≤ k) v1 L1) : Out (W1.setCell ⟨ob, 0, none⟩ v1) ob b0 v1 vg L1 Lg := by
  have hb : W1.heap[ob]? = some (.cells #[vm, vg] 25 (0, 0)) := blk_grown h.blk hg (Kd.R_ne h.m h.blk (by decide))
  exact ⟨blk_put hb 0 v1 rfl, Kd.R_set h1 hb ne25m 0 v1, Kd.R_set (Kd.R_over h.g h.m neGM hg) hb ne25g 0 v1⟩
theorem Out.appG {W W1 : World} {ob b0 : Nat} {vm vg v1 : Value} {Lm : List (List S48)} {Lg L1 : List (List Int)} (h : Out W ob b0 vm vg Lm Lg) (hg : W.grownBy W1 vg.ownBlock) (h1 : (Kd.slice 3 (Kd.int .i64)).R 39 W1 b0 (fun k => b0 ≤ k) v1 L1) : Out (W1.setCell ⟨ob, 1, none⟩ v1) ob b0 vm v1 Lm L1 := by
  have hb : W1.heap[ob]? = some (.cells #[vm, vg] 25 (0, 0)) := blk_grown h.blk hg (Kd.R_ne h.g h.blk (by decide))
  exact ⟨blk_put hb 1 v1 rfl, Kd.R_set (Kd.R_over h.m h.g neMG hg) hb ne25m 1 v1, Kd.R_set h1 hb ne25g 1 v1⟩
theorem grown_fr {W W1 : World} {b0 : Nat} {row : Option Nat} (hg : W.grownBy W1 row) (hb : ∀ k, row = some k → b0 ≤ k) : Fr (fun k => b0 ≤ k) W W1 :=
  ⟨hg.os, hg.tape, hg.output, hg.size, fun i hi hn => hg.block i hi (fun e => hn (hb i e.symm))⟩
def DefPost (w : World) (T : Tb) (e : Ending) (w' : World) : Prop :=
  (¬ Even T ∧ e = .returned (.tuple #[.agg #[.slice none 0 0, .slice none 0 0], .int .i64 170]) ∧ Fr (fun _ => False) w w') ∨
  (Even T ∧ ∃ (vm vg : Value) (D : List (List S48)), IsDef T.mv D ∧ e = .returned (.tuple #[.agg #[vm, vg], .int .i64 0]) ∧ (Kd.slice 48 k48).R 38 w' w.heap.size (fun _ => True) vm D ∧ (Kd.slice 3 (Kd.int .i64)).R 39 w' w.heap.size (fun _ => True) vg T.gt ∧ Fr (fun _ => False) w w')
theorem results_cell_row_tmp {P : Program} {fn : Func} {p u : Tmp} {ty : TypeId} (h : fn.results = #[.cell p ty, .tmp u]) (tmps : Array Value) (w : World) (g : Nat) (t : TypeId) (cs : Array Value) (fr : Nat × Nat) (d : TypeDesc)
    (hp : tmps.getD p undef = .pointer (some ⟨g, 0, none⟩)) (hg : w.heap[g]? = some (.cells cs t fr))
    (hu : P.underlying ty = some d) (hd : (match d with | .struct _ | .array _ _ => true | _ => false) = true) (hi : (P.info? ty).map (·.size) = some cs.size) :
    (results fn tmps).run P w = .ok (.tuple #[.agg cs, tmps.getD u undef]) w := by
  have hp' : tmps[p]?.getD undef = .pointer (some ⟨g, 0, none⟩) := by simpa using hp
  simp [results, h, hp', asAddr, run_loadVar_row w g t ty cs fr d hg hu hd hi]
end Go.Proofs.Ytlpmjmanmncmnaa.Tab
/-
Numbers and tables as bytes: how they are written and read, in plain Lean.
-/
set_option linter.unusedSimpArgs false
set_option linter.unusedVariables false
namespace Go.Proofs.Ytlpmjmanmncmnaa.Tab
open Go.RowKit Go.Maps Go.Proofs.YtlpmjmanmncmnaaW.PrintWords Go.Proofs.YtlpmjmanmncmnaaW.PrintLast Go.Proofs.YtlpmjmanmncmnaaW.PrintMore Go.Proofs.Ytlpmjmanmncmnaa.Fr Go.Proofs.Ytlpmjmanmncmnaa.PT
/-- A number's bytes. -/
def encN (n : Nat) : List Int := if 128 ≤ n then ((n % 128 + 128 : Nat) : Int) :: encN (n / 128) else [(n : Int)]
termination_by n
decreasing_by omega
/-- The greatest number that is written. -/
def mostN : Int := 2147483647
/-- A row of moves as bytes. -/
def encM : List S48 → List Int
  | [] => []
  | x :: l => encN x.f0.toNat ++ (encN x.f1.toNat ++ encM l)
def encG : List Int → List Int
  | [] => []
  | n :: l => encN (n + 1).toNat ++ encG l
def encR : List (List S48) → List (List Int) → List Int
  | m :: ms, g :: gs => encM m ++ (encG g ++ encR ms gs)
  | _, _ => []
def encT (T : Tb) : List Int := encN T.mv.length ++ (encN (rd_L2 T.mv 0).length ++ (encN (rd_L3 T.gt 0).length ++ encR T.mv T.gt))
def OkM (x : S48) : Prop := 0 ≤ x.f0 ∧ x.f0 ≤ mostN ∧ 0 ≤ x.f1 ∧ x.f1 ≤ mostN
def OkG (n : Int) : Prop := -1 ≤ n ∧ n < mostN
/-- A table that can be written. -/
def WrOk (T : Tb) : Prop := Even T ∧ (∀ l, l ∈ T.mv → ∀ x, x ∈ l → OkM x) ∧ (∀ l, l ∈ T.gt → ∀ x, x ∈ l → OkG x)
end Go.Proofs.Ytlpmjmanmncmnaa.Tab
/-
A table as bytes: what table.Bytes and the reference's Bytes answer, in plain Lean.
-/
set_option linter.unusedSimpArgs false
set_option linter.unusedVariables false
namespace Go.Proofs.Ytlpmjmanmncmnaa.Tab
open Go.RowKit Go.Maps Go.Proofs.YtlpmjmanmncmnaaW.PrintWords Go.Proofs.YtlpmjmanmncmnaaW.PrintLast Go.Proofs.YtlpmjmanmncmnaaW.PrintMore Go.Proofs.Ytlpmjmanmncmnaa.Fr Go.Proofs.Ytlpmjmanmncmnaa.PT
theorem mem_int {l : List Int} {x : Int} : x ∈ l ↔ ∃ s : Nat, s < l.length ∧ rd l s = x := by
  rw [List.mem_iff_getElem]
  constructor
  · rintro ⟨i, hi, rfl⟩
    exact ⟨i, hi, by simp [rd, List.getD_eq_getElem?_getD, hi]⟩
  · rintro ⟨i, hi, rfl⟩
    exact ⟨i, hi, by simp [rd, List.getD_eq_getElem?_getD, hi]⟩
/-- What Bytes answers. -/
structure IsBytes (T : Tb) (R : List Int × Int) : Prop where
  ok : WrOk T → R = (encT T, 0)
  no : ¬ WrOk T → R = ([], 170)
section
variable {T : Tb} {R : List Int × Int} (hR : IsBytes T R) (hE : Even T) (hL : (encT T).length < 140737488355328) (hO : TOk T)
include hR hE hL hO
end
end Go.Proofs.Ytlpmjmanmncmnaa.Tab
/-
The steps to each state of a table, and which states some way leads to: in plain Lean.
-/
set_option linter.unusedSimpArgs false
set_option linter.unusedVariables false
namespace Go.Proofs.Ytlpmjmanmncmnaa.Tab
open Go.RowKit Go.Maps Go.Proofs.YtlpmjmanmncmnaaW.PrintWords Go.Proofs.YtlpmjmanmncmnaaW.PrintLast Go.Proofs.YtlpmjmanmncmnaaW.PrintMore Go.Proofs.Ytlpmjmanmncmnaa.Fr Go.Proofs.Ytlpmjmanmncmnaa.PT
/-- From state s by symbol y a step leads to state q. -/
def IsEd (T : Tb) (nk s : Nat) (y : Int) (q : Nat) : Prop :=
  (∃ k : Nat, y = k ∧ k < (rd_L2 T.mv s).length ∧ (rd_T48 (rd_L2 T.mv s) k).f0 = 1 ∧ (rd_T48 (rd_L2 T.mv s) k).f1 = q) ∨ (∃ r : Nat, y = (nk : Int) + r ∧ r < (rd_L3 T.gt s).length ∧ rd (rd_L3 T.gt s) r = q)
/-- Some way leads to a state. -/
inductive Rc (T : Tb) (nk : Nat) : Nat → Prop
  | zero : Rc T nk 0
  | step {s q : Nat} {y : Int} : Rc T nk s → IsEd T nk s y q → Rc T nk q
/-- What Check says of a table: its rows' lengths, and where its steps lead. -/
structure TChk (T : Tb) (nk nr np : Nat) : Prop where
  one : 1 ≤ T.mv.length
  max : T.mv.length ≤ 4096
  len : T.gt.length = T.mv.length
  mv : ∀ s : Nat, s < T.mv.length → MvOk nk T.mv.length np (rd_L2 T.mv s)
  gt : ∀ s : Nat, s < T.mv.length → GtOk nr T.mv.length (rd_L3 T.gt s)
theorem TChk.wide {T : Tb} {nk nr np : Nat} (h : TChk T nk nr np) {s : Nat} (hs : s < T.mv.length) : (rd_L2 T.mv s).length = nk ∧ (rd_L3 T.gt s).length = nr := ⟨by exact_mod_cast (h.mv s hs).1, by exact_mod_cast (h.gt s hs).1⟩
theorem TChk.shift {T : Tb} {nk nr np : Nat} (h : TChk T nk nr np) {s k : Nat} (hs : s < T.mv.length) (hk : k < nk) (h1 : (rd_T48 (rd_L2 T.mv s) k).f0 = 1) : 0 ≤ (rd_T48 (rd_L2 T.mv s) k).f1 ∧ (rd_T48 (rd_L2 T.mv s) k).f1 < T.mv.length := by
  have h2 := (h.mv s hs).2 k (by rw [(h.wide hs).1]; exact hk)
  unfold moveOk at h2
  rw [if_pos h1] at h2
  exact of_decide_eq_true h2
theorem TChk.reduce {T : Tb} {nk nr np : Nat} (h : TChk T nk nr np) {s k : Nat} (hs : s < T.mv.length) (hk : k < nk) (h1 : (rd_T48 (rd_L2 T.mv s) k).f0 = 2) : 0 ≤ (rd_T48 (rd_L2 T.mv s) k).f1 ∧ (rd_T48 (rd_L2 T.mv s) k).f1 < np := by
  have h2 := (h.mv s hs).2 k (by rw [(h.wide hs).1]; exact hk)
  unfold moveOk at h2
  rw [if_neg (by omega), if_pos h1] at h2
  exact of_decide_eq_true h2
theorem TChk.goto {T : Tb} {nk nr np : Nat} (h : TChk T nk nr np) {s r : Nat} (hs : s < T.mv.length) (hr : r < nr) : -1 ≤ rd (rd_L3 T.gt s) r ∧ rd (rd_L3 T.gt s) r < T.mv.length := (h.gt s hs).2 r (by rw [(h.wide hs).2]; exact hr)
theorem TChk.ed {T : Tb} {nk nr np : Nat} (h : TChk T nk nr np) {s q : Nat} {y : Int} (hs : s < T.mv.length) (he : IsEd T nk s y q) : 0 ≤ y ∧ y < nk + nr ∧ q < T.mv.length := by
  have hw := h.wide hs
  rcases he with ⟨k, rfl, h1, h2, h3⟩ | ⟨r, rfl, h1, h2⟩
  · have := h.shift hs (k := k) (by omega) h2
    omega
  · have := h.goto hs (r := r) (by omega)
    omega
theorem TChk.one_ed {T : Tb} {nk nr np : Nat} (h : TChk T nk nr np) {s q q' : Nat} {y : Int} (hs : s < T.mv.length) (he : IsEd T nk s y q) (hf : IsEd T nk s y q') : q = q' := by
  have hw := h.wide hs
  rcases he with ⟨k, rfl, h1, h2, h3⟩ | ⟨r, rfl, h1, h2⟩
  · rcases hf with ⟨k', e, g1, g2, g3⟩ | ⟨r', e, g1, g2⟩
    · obtain rfl : k = k' := by omega
      omega
    · omega
  · rcases hf with ⟨k', e, g1, g2, g3⟩ | ⟨r', e, g1, g2⟩
    · omega
    · obtain rfl : r = r' := by omega
      omega
theorem TChk.rc {T : Tb} {nk nr np : Nat} (h : TChk T nk nr np) {q : Nat} (hq : Rc T nk q) : q < T.mv.length := by
  induction hq with
  | zero => have := h.one; omega
  | step _ he ih => exact (h.ed ih he).2.2
theorem cnt_setT : ∀ (l : List Bool) (i : Nat), i < l.length → rdOf false l (i : Int) = false → (l.set i true).count true = l.count true + 1
  | b :: l, 0, _, h => by
    have hb : b = false := by simpa [rdOf] using h
    subst hb
    simp
  | b :: l, i + 1, hi, h => by
    have h2 : rdOf false l (i : Int) = false := by
      simp only [rdOf, Int.toNat_natCast, List.getD_eq_getElem?_getD, List.getElem?_cons_succ] at h ⊢
      exact h
    have := cnt_setT l i (by simpa using hi) h2
    simp only [List.set_cons_succ, List.count_cons, this]
    omega
theorem rdOf_setT {l : List Bool} {i j : Nat} (hi : i < l.length) : rdOf false (l.set i true) (j : Int) = if j = i then true else rdOf false l (j : Int) := by
  simp only [rdOf, Int.toNat_natCast, List.getD_eq_getElem?_getD, List.getElem?_set]
  by_cases e : i = j
  · subst e
    simp [hi]
  · rw [if_neg e, if_neg (fun h => e h.symm)]
theorem rdL2_setT {l : List (List S48)} {i j : Nat} (hi : i < l.length) (r : List S48) : rd_L2 (l.set i r) (j : Int) = if j = i then r else rd_L2 l (j : Int) := by
  simp only [rd_L2, Int.toNat_natCast, List.getD_eq_getElem?_getD, List.getElem?_set]
  by_cases e : i = j
  · subst e
    simp [hi]
  · rw [if_neg e, if_neg (fun h => e h.symm)]
theorem rd_snoc {l : List Int} {x : Int} {j : Nat} (hj : j < l.length) : rd (l ++ [x]) (j : Int) = rd l (j : Int) := by
  simp only [rd, Int.toNat_natCast, List.getD_eq_getElem?_getD]
  rw [List.getElem?_append_left hj]
theorem rd_in {l : List Int} {j : Nat} (hj : j < l.length) : rd l (j : Int) ∈ l := mem_int.2 ⟨j, hj, rfl⟩
/-- How far edges has come: states before i are gone on from, and state i by the symbols below c. -/
structure Bfs (T : Tb) (nk w i : Nat) (c : Int) (TD : List Int) (IN : List (List S48)) (ME : List Bool) : Prop where
  lin : IN.length = T.mv.length
  lme : ME.length = T.mv.length
  td : ∀ x, x ∈ TD → 0 ≤ x ∧ x < T.mv.length ∧ Rc T nk x.toNat
  ct : ME.count true = TD.length
  me : ∀ q : Nat, q < T.mv.length → (rdOf false ME (q : Int) = true ↔ (q : Int) ∈ TD)
  z : (0 : Int) ∈ TD
  ins : ∀ q : Nat, q < T.mv.length → ∀ x : S48, x ∈ rd_L2 IN (q : Int) ↔ ∃ j : Nat, j < TD.length ∧ rd TD (j : Int) = x.f0 ∧ (j < i ∨ j = i ∧ x.f1 < c) ∧ IsEd T nk x.f0.toNat x.f1 q
  cl : ∀ j : Nat, j < TD.length → ∀ (y : Int) (q : Nat), (j < i ∨ j = i ∧ y < c) → IsEd T nk (rd TD (j : Int)).toNat y q → (q : Int) ∈ TD
  cnt : ∀ q : Nat, (rd_L2 IN (q : Int)).length ≤ i * w + c.toNat
theorem Bfs.td_le {T : Tb} {nk w i : Nat} {c : Int} {TD : List Int} {IN : List (List S48)} {ME : List Bool} (h : Bfs T nk w i c TD IN ME) : TD.length ≤ T.mv.length := by
  rw [← h.ct, ← h.lme]
  exact List.count_le_length
theorem Bfs.at_ {T : Tb} {nk w i : Nat} {c : Int} {TD : List Int} {IN : List (List S48)} {ME : List Bool} (h : Bfs T nk w i c TD IN ME) (hi : i < TD.length) : 0 ≤ rd TD (i : Int) ∧ rd TD (i : Int) < T.mv.length ∧ Rc T nk (rd TD (i : Int)).toNat := h.td _ (rd_in hi)
theorem Bfs.start {T : Tb} {nk nr np : Nat} (h : TChk T nk nr np) : Bfs T nk (nk + nr) 0 0 [0] (List.replicate T.mv.length []) ((List.replicate T.mv.length false).set 0 true) := by
  have h1 := h.one
  have hr : ∀ q : Nat, rd_L2 (List.replicate T.mv.length []) (q : Int) = [] := fun q => by
    simp only [rd_L2, List.getD_eq_getElem?_getD, List.getElem?_replicate]
    split <;> rfl
  have hb : ∀ q : Nat, rdOf false (List.replicate T.mv.length false) (q : Int) = false := fun q => by
    simp only [rdOf, List.getD_eq_getElem?_getD, List.getElem?_replicate]
    split <;> rfl
  refine ⟨by simp, by simp, fun x hx => ?_, ?_, fun q hq => ?_, by simp, fun q hq x => ?_, fun j hj y q hd he => ?_, fun q => by rw [hr]; simp⟩
  · obtain rfl : x = 0 := by simpa using hx
    exact ⟨by omega, by omega, Rc.zero⟩
  · rw [cnt_setT _ 0 (by rw [List.length_replicate]; omega) (hb 0)]
    simp [List.count_replicate]
  · rw [rdOf_setT (by rw [List.length_replicate]; omega), hb]
    by_cases e : q = 0
    · subst e
      simp
    · rw [if_neg e]
      simp only [Bool.false_eq_true, false_iff, List.mem_singleton]
      omega
  · rw [hr]
    constructor
    · intro hx
      cases hx
    · rintro ⟨j, hj, e, hd, he⟩
      have hj0 : j = 0 := by simpa using hj
      subst hj0
      have hx0 : x.f0 = 0 := by rw [← e]; rfl
      rw [hx0] at he
      have := (h.ed (s := 0) (by omega) he).1
      omega
  · have hj0 : j = 0 := by simpa using hj
    subst hj0
    have := (h.ed (s := 0) (by omega) he).1
    omega
section
variable {T : Tb} {nk nr np i : Nat} {c : Int} {TD : List Int} {IN : List (List S48)} {ME : List Bool} (hT : TChk T nk nr np) (h : Bfs T nk (nk + nr) i c TD IN ME) (hi : i < TD.length) (hc : 0 ≤ c)
include hT h hi hc
omit hT in
/-- A symbol by which nothing leads on. -/
theorem Bfs.skip (hn : ∀ q, ¬ IsEd T nk (rd TD (i : Int)).toNat c q) : Bfs T nk (nk + nr) i (c + 1) TD IN ME := by
  refine ⟨h.lin, h.lme, h.td, h.ct, h.me, h.z, fun q hq x => ?_, fun j hj y q hd he => ?_, fun q => by have := h.cnt q; omega⟩
  · rw [h.ins q hq x]
    constructor
    · rintro ⟨j, hj, e, hd, he⟩
      exact ⟨j, hj, e, by omega, he⟩
    · rintro ⟨j, hj, e, hd, he⟩
      refine ⟨j, hj, e, ?_, he⟩
      rcases hd with hd | ⟨rfl, hd⟩
      · exact .inl hd
      · by_cases e2 : x.f1 = c
        · rw [e2, ← e] at he
          exact absurd he (hn q)
        · exact .inr ⟨rfl, by omega⟩
  · rcases hd with hd | ⟨rfl, hd⟩
    · exact h.cl j hj y q (.inl hd) he
    · by_cases e2 : y = c
      · rw [e2] at he
        exact absurd he (hn q)
      · exact h.cl j hj y q (.inr ⟨rfl, by omega⟩) he
/-- A symbol by which a step leads to q. -/
theorem Bfs.step {q : Nat} (he : IsEd T nk (rd TD (i : Int)).toNat c q) : Bfs T nk (nk + nr) i (c + 1) (if rdOf false ME (q : Int) = true then TD else TD ++ [(q : Int)]) (IN.set q (rd_L2 IN (q : Int) ++ [⟨rd TD (i : Int), c⟩])) (if rdOf false ME (q : Int) = true then ME else ME.set q true) := by
  obtain ⟨a0, a1, a2⟩ := h.at_ hi
  have hs : (rd TD (i : Int)).toNat < T.mv.length := by omega
  obtain ⟨y0, y1, hq⟩ := hT.ed hs he
  have hqi : q < IN.length := by rw [h.lin]; exact hq
  have hqm : q < ME.length := by rw [h.lme]; exact hq
  have hins : ∀ TD1 : List Int, (∀ j : Nat, j < TD.length → rd TD1 (j : Int) = rd TD (j : Int)) → TD.length ≤ TD1.length → ∀ q1 : Nat, q1 < T.mv.length → ∀ x : S48, x ∈ rd_L2 (IN.set q (rd_L2 IN (q : Int) ++ [⟨rd TD (i : Int), c⟩])) (q1 : Int) ↔ ∃ j : Nat, j < TD1.length ∧ rd TD1 (j : Int) = x.f0 ∧ (j < i ∨ j = i ∧ x.f1 < c + 1) ∧ IsEd T nk x.f0.toNat x.f1 q1 := by
    intro TD1 hT1 hl q1 hq1 x
    rw [rdL2_setT hqi]
    have old : ∀ {j : Nat}, (j < i ∨ j = i ∧ x.f1 < c + 1) → j < TD.length := fun hd => by omega
    constructor
    · intro hx
      have go : x ∈ rd_L2 IN (q1 : Int) → ∃ j : Nat, j < TD1.length ∧ rd TD1 (j : Int) = x.f0 ∧ (j < i ∨ j = i ∧ x.f1 < c + 1) ∧ IsEd T nk x.f0.toNat x.f1 q1 := fun hx => by
        obtain ⟨j, hj, e, hd, he⟩ := (h.ins q1 hq1 x).1 hx
        exact ⟨j, by omega, by rw [hT1 j hj]; exact e, by omega, he⟩
      split at hx
      · rename_i e
        subst e
        rcases List.mem_append.1 hx with hx | hx
        · exact go hx
        · obtain rfl : x = ⟨rd TD (i : Int), c⟩ := by simpa using hx
          exact ⟨i, by omega, hT1 i hi, .inr ⟨rfl, by simp only; omega⟩, he⟩
      · exact go hx
    · rintro ⟨j, hj, e, hd, hed⟩
      have hjl := old hd
      rw [hT1 j hjl] at e
      by_cases hnew : j = i ∧ x.f1 = c
      · obtain ⟨rfl, e2⟩ := hnew
        have e3 : q1 = q := hT.one_ed hs (by rw [e, ← e2]; exact hed) he
        rw [if_pos e3]
        refine List.mem_append_right _ ?_
        rw [List.mem_singleton]
        cases x
        simp only at e e2
        rw [e, e2]
      · have hx : x ∈ rd_L2 IN (q1 : Int) := (h.ins q1 hq1 x).2 ⟨j, hjl, e, by omega, hed⟩
        split
        · rename_i e2
          subst e2
          exact List.mem_append_left _ hx
        · exact hx
  have hcl : ∀ TD1 : List Int, (∀ j : Nat, j < TD.length → rd TD1 (j : Int) = rd TD (j : Int)) → (∀ x, x ∈ TD → x ∈ TD1) → (q : Int) ∈ TD1 → ∀ j : Nat, j < TD1.length → ∀ (y : Int) (q1 : Nat), (j < i ∨ j = i ∧ y < c + 1) → IsEd T nk (rd TD1 (j : Int)).toNat y q1 → (q1 : Int) ∈ TD1 := by
    intro TD1 hT1 hsub hqin j hj y q1 hd hed
    have hjl : j < TD.length := by omega
    rw [hT1 j hjl] at hed
    by_cases hnew : j = i ∧ y = c
    · obtain ⟨rfl, rfl⟩ := hnew
      rw [hT.one_ed hs hed he]
      exact hqin
    · exact hsub _ (h.cl j hjl y q1 (by omega) hed)
  have hcnt : ∀ q1 : Nat, (rd_L2 (IN.set q (rd_L2 IN (q : Int) ++ [⟨rd TD (i : Int), c⟩])) (q1 : Int)).length ≤ i * (nk + nr) + (c + 1).toNat := fun q1 => by
    rw [rdL2_setT hqi]
    have h1 := h.cnt q
    have h2 := h.cnt q1
    split
    · rw [List.length_append, List.length_singleton]
      omega
    · omega
  cases hme : rdOf false ME (q : Int) with
  | true =>
    rw [if_pos rfl, if_pos rfl]
    exact ⟨by simp [h.lin], h.lme, h.td, h.ct, h.me, h.z, hins TD (fun _ _ => rfl) (Nat.le_refl _), hcl TD (fun _ _ => rfl) (fun _ h => h) ((h.me q hq).1 hme), hcnt⟩
  | false =>
    rw [if_neg (by decide), if_neg (by decide)]
    refine ⟨by simp [h.lin], by simp [h.lme], fun x hx => ?_, ?_, fun q1 hq1 => ?_, List.mem_append_left _ h.z, hins _ (fun j hj => rd_snoc hj) (by simp), hcl _ (fun j hj => rd_snoc hj) (fun x hx => List.mem_append_left _ hx) (by simp), hcnt⟩
    · rcases List.mem_append.1 hx with hx | hx
      · exact h.td x hx
      · obtain rfl : x = q := by simpa using hx
        exact ⟨by omega, by omega, by rw [Int.toNat_natCast]; exact Rc.step a2 he⟩
    · rw [cnt_setT _ _ hqm hme, h.ct]
      simp
    · rw [rdOf_setT hqm]
      by_cases e : q1 = q
      · subst e
        simp
      · rw [if_neg e, h.me q1 hq1]
        simp only [List.mem_append, List.mem_singleton]
        constructor
        · intro hx
          exact .inl hx
        · rintro (hx | hx)
          · exact hx
          · omega
end
theorem Bfs.next {T : Tb} {nk nr np i : Nat} {TD : List Int} {IN : List (List S48)} {ME : List Bool} (hT : TChk T nk nr np) (h : Bfs T nk (nk + nr) i ((nk : Int) + nr) TD IN ME) : Bfs T nk (nk + nr) (i + 1) 0 TD IN ME := by
  have hed : ∀ {j : Nat} {y : Int} {q : Nat}, j < TD.length → IsEd T nk (rd TD (j : Int)).toNat y q → 0 ≤ y ∧ y < (nk : Int) + nr := fun {j y q} hj he => by
    obtain ⟨a0, a1, _⟩ := h.td _ (rd_in hj)
    have := hT.ed (s := (rd TD (j : Int)).toNat) (by omega) he
    omega
  refine ⟨h.lin, h.lme, h.td, h.ct, h.me, h.z, fun q hq x => ?_, fun j hj y q hd he => ?_, fun q => ?_⟩
  · rw [h.ins q hq x]
    constructor
    · rintro ⟨j, hj, e, hd, he⟩
      exact ⟨j, hj, e, by omega, he⟩
    · rintro ⟨j, hj, e, hd, he⟩
      have := hed hj (by rw [e]; exact he)
      exact ⟨j, hj, e, by omega, he⟩
  · have := hed hj he
    exact h.cl j hj y q (by omega) he
  · have h1 := h.cnt q
    rw [Nat.succ_mul]
    omega
/-- What edges answers. -/
structure IsEdges (T : Tb) (nk : Nat) (IN : List (List S48)) (ME : List Bool) : Prop where
  lin : IN.length = T.mv.length
  lme : ME.length = T.mv.length
  me : ∀ q : Nat, q < T.mv.length → (rdOf false ME (q : Int) = true ↔ Rc T nk q)
  ins : ∀ q : Nat, q < T.mv.length → ∀ x : S48, x ∈ rd_L2 IN (q : Int) ↔ 0 ≤ x.f0 ∧ Rc T nk x.f0.toNat ∧ IsEd T nk x.f0.toNat x.f1 q
  cnt : ∀ q : Nat, (rd_L2 IN (q : Int)).length ≤ 1099511627776
theorem Bfs.fin {T : Tb} {nk nr np : Nat} {TD : List Int} {IN : List (List S48)} {ME : List Bool} (hT : TChk T nk nr np) (hk : nk ≤ 1048576) (hr : nr ≤ 1048576) (h : Bfs T nk (nk + nr) TD.length 0 TD IN ME) : IsEdges T nk IN ME := by
  have hall : ∀ q : Nat, Rc T nk q → (q : Int) ∈ TD := by
    intro q hq
    induction hq with
    | zero => exact h.z
    | step _ he ih =>
      obtain ⟨j, hj, e⟩ := mem_int.1 ih
      exact h.cl j hj _ _ (.inl hj) (by rw [e, Int.toNat_natCast]; exact he)
  refine ⟨h.lin, h.lme, fun q hq => ?_, fun q hq x => ?_, fun q => ?_⟩
  · rw [h.me q hq]
    constructor
    · intro hx
      have := (h.td _ hx).2.2
      rwa [Int.toNat_natCast] at this
    · exact hall q
  · rw [h.ins q hq x]
    constructor
    · rintro ⟨j, hj, e, _, he⟩
      obtain ⟨a0, _, a2⟩ := h.td _ (rd_in hj)
      rw [e] at a0 a2
      exact ⟨a0, a2, he⟩
    · rintro ⟨a0, a2, he⟩
      obtain ⟨j, hj, e⟩ := mem_int.1 (hall _ a2)
      exact ⟨j, hj, by rw [e]; omega, .inl hj, he⟩
  · have h1 := h.cnt q
    have h2 := h.td_le
    have h3 := hT.max
    have h4 : TD.length * (nk + nr) ≤ 4096 * 2097152 := Nat.mul_le_mul (by omega) (by omega)
    omega
end Go.Proofs.Ytlpmjmanmncmnaa.Tab
