/-
Whether a row is whole: the plain law of gram.whole.
-/
import Derived.Test.YtdngobjcdajogaaMAG
import Derived.Test.YtdngobjcdajogaaMAI
set_option linter.unusedSimpArgs false
set_option linter.unusedVariables false
namespace Go.Proofs.Ytdngobjcdajogaa.Gram
open Go.RowKit Go.Proofs.YtdngobjcdajogaaW.PrintWords Go.Proofs.YtdngobjcdajogaaW.PrintLast Go.Proofs.YtdngobjcdajogaaW.PrintMore Go.Proofs.Ytdngobjcdajogaa.Fr Go.Proofs.Ytdngobjcdajogaa.PGramFirsts Go.Proofs.Ytdngobjcdajogaa.TextSet
def symF (K : Nat) (marks : List Bool) (kinds : Bool) (x : Int) : Bool := if x < K then kinds else rdOf false marks (x - K)
def wholeF (K : Nat) (marks : List Bool) (kinds : Bool) (row : List Int) : Bool := row.all (symF K marks kinds)
def RowOk (K R : Nat) (row : List Int) : Prop := ∀ j : Nat, j < row.length → 1 ≤ rd row j ∧ rd row j < K + R
theorem drop_rd {row : List Int} {i : Nat} (h : i < row.length) : row.drop i = rd row i :: row.drop (i + 1) := by
 rw [List.drop_eq_getElem_cons h]; simp [rd, List.getD_eq_getElem?_getD, h]
theorem isRule_f (a b c d e) (x : Int) (hK : a.length ≤ 1024) (hx : 1 ≤ x) (hx2 : x ≤ 1000000) : gram_isRule.f a b c d e x = some (if x < a.length then -1 else x - a.length) := by
 unfold gram_isRule.f; have hw : wrap64 (x - (a.length : Int)) = x - a.length := by simp only [wrap64]; omega
 rw [hw]; congr 1
 by_cases h : x < a.length
 · rw [if_pos h]; unfold mx; split <;> omega
 · rw [if_neg h]; unfold mx; split <;> omega
theorem whole_l (a b c d e) (marks : List Bool) (kinds : Bool) (row : List Int) (R : Nat) (hK : a.length ≤ 1024) (hR : R ≤ 2048) (hm : marks.length = R) (hrow : RowOk a.length R row) (hl : row.length ≤ 4611686018427387904) :
 ∀ (n i : Nat), i + n = row.length → gram_whole.l0 (n + 1) marks kinds row row.length i a b c d e = some ((row.drop i).all (symF a.length marks kinds))
 | 0, i, h => by
  unfold gram_whole.l0; rw [if_neg (by omega), List.drop_eq_nil_of_le (by omega)]; rfl
 | n + 1, i, h => by
  have ih := whole_l a b c d e marks kinds row R hK hR hm hrow hl n (i + 1) (by omega); have hw : wrap64 ((i : Int) + 1) = ((i + 1 : Nat) : Int) := by simp only [wrap64]; omega
  obtain ⟨h1, h2⟩ := hrow i (by omega); have hd : row.drop i = rd row i :: row.drop (i + 1) := drop_rd (by omega); unfold gram_whole.l0; rw [if_pos (by omega), if_pos (by omega), if_pos (by omega), isRule_f a b c d e _ hK h1 (by omega), hw, ih, hd, List.all_cons]; simp only [Option.bind_some]; generalize (row.drop (i + 1)).all (symF a.length marks kinds) = t; by_cases hx : rd row i < a.length
  · rw [if_pos hx]
    cases kinds <;> simp [symF, hx]
  · rw [if_neg hx]
    have e1 : ¬ (rd row i - (a.length : Int)) < 0 := by omega
    have e2 : 0 ≤ rd row i - (a.length : Int) := by omega
    have e3 : rd row i - (a.length : Int) < marks.length := by omega
    have e4 : rd row i - (a.length : Int) ≥ 0 := by omega
    rw [if_neg e1, if_pos e4, if_pos e2, if_pos e3]; cases hb : rdOf false marks (rd row i - (a.length : Int)) <;> simp [symF, hx, hb]
theorem whole_some (a b c d e) (marks : List Bool) (kinds : Bool) (row : List Int) (R : Nat) (hK : a.length ≤ 1024) (hR : R ≤ 2048) (hm : marks.length = R) (hrow : RowOk a.length R row) (hl : row.length ≤ 4611686018427387904) :
 gram_whole.f (row.length + 1) a b c d e marks row kinds = some (wholeF a.length marks kinds row) := by
 have := whole_l a b c d e marks kinds row R hK hR hm hrow hl row.length 0 (by omega); exact this
inductive Der (G : Gr) (kinds : Bool) : Nat → Prop where
 | mk (i : Nat) (hi : i < G.prods.length) (hk : ∀ j : Nat, j < (rd_T57 G.prods i).f1.length → rd (rd_T57 G.prods i).f1 j < G.kinds.length → kinds = true)
  (hr : ∀ j : Nat, j < (rd_T57 G.prods i).f1.length → ¬ rd (rd_T57 G.prods i).f1 j < G.kinds.length → Der G kinds (rd (rd_T57 G.prods i).f1 j - G.kinds.length).toNat) : Der G kinds (rd_T57 G.prods i).f0.toNat
def ProdsOk (G : Gr) : Prop := ∀ i : Nat, i < G.prods.length → 0 ≤ (rd_T57 G.prods i).f0 ∧ (rd_T57 G.prods i).f0 < G.rules.length ∧ (rd_T57 G.prods i).f1.length ≤ 64 ∧ RowOk G.kinds.length G.rules.length (rd_T57 G.prods i).f1
theorem CheckOk.prodsOk {G : Gr} (h : CheckOk G) : ProdsOk G := fun i hi => ⟨(h.prods i hi).l0, (h.prods i hi).l1, (h.prods i hi).len, (h.prods i hi).syms⟩
theorem mem_rd {row : List Int} {x : Int} (h : x ∈ row) : ∃ j : Nat, j < row.length ∧ rd row j = x := by
 obtain ⟨j, hj, e⟩ := List.getElem_of_mem h; exact ⟨j, hj, by simp [rd, List.getD_eq_getElem?_getD, hj, e]⟩
theorem rd_mem {row : List Int} {j : Nat} (h : j < row.length) : rd row j ∈ row := by
 simp only [rd, Int.toNat_natCast, List.getD_eq_getElem?_getD, List.getElem?_eq_getElem h, Option.getD_some]; exact List.getElem_mem h
theorem der_step {G : Gr} {kinds : Bool} {marks : List Bool} (hs : ∀ a : Nat, rdOf false marks a = true → Der G kinds a) {i : Nat} (hi : i < G.prods.length) (hP : ProdsOk G) (hw : wholeF G.kinds.length marks kinds (rd_T57 G.prods i).f1 = true) : Der G kinds (rd_T57 G.prods i).f0.toNat := by
 have hall := List.all_eq_true.1 hw; refine .mk i hi (fun j hj hlt => ?_) (fun j hj hge => ?_)
 · have := hall _ (rd_mem hj)
   simpa [symF, hlt] using this
 · have := hall _ (rd_mem hj)
   have h1 := ((hP i hi).2.2.2 j hj).1; simp only [symF, if_neg hge] at this; refine hs _ ?_; rw [Int.toNat_of_nonneg (by omega)]; exact this
theorem der_done {G : Gr} {kinds : Bool} {marks : List Bool} (hP : ProdsOk G) (hc : ∀ i : Nat, i < G.prods.length → wholeF G.kinds.length marks kinds (rd_T57 G.prods i).f1 = true → rdOf false marks (rd_T57 G.prods i).f0 = true) {a : Nat} (h : Der G kinds a) : rdOf false marks a = true := by
 induction h with
 | mk i hi hk hr ih =>
  have h0 := (hP i hi).1; rw [Int.toNat_of_nonneg h0]; refine hc i hi (List.all_eq_true.2 fun x hx => ?_); obtain ⟨j, hj, rfl⟩ := mem_rd hx; by_cases hlt : rd (rd_T57 G.prods i).f1 j < G.kinds.length
  · simp [symF, hlt, hk j hj hlt]
  · have := ih j hj hlt
    rw [Int.toNat_of_nonneg (by omega)] at this; simpa [symF, hlt] using this
open Classical in
noncomputable def closedL (G : Gr) (kinds : Bool) : List Bool := (List.range G.rules.length).map fun a => decide (Der G kinds a)
theorem closedL_length (G : Gr) (kinds : Bool) : (closedL G kinds).length = G.rules.length := by simp [closedL]
theorem closedL_at {G : Gr} {kinds : Bool} {a : Nat} (h : a < G.rules.length) : rdOf false (closedL G kinds) a = true ↔ Der G kinds a := by
 simp [closedL, rdOf, List.getD_eq_getElem?_getD, h]
theorem closed_eq {G : Gr} {kinds : Bool} {marks : List Bool} (hl : marks.length = G.rules.length) (h : ∀ a : Nat, a < G.rules.length → (rdOf false marks a = true ↔ Der G kinds a)) : marks = closedL G kinds := by
 apply List.ext_getElem (by rw [hl, closedL_length])
 intro a h1 h2; have e1 : rdOf false marks a = marks[a] := by simp [rdOf, List.getD_eq_getElem?_getD, h1]
 have e2 : rdOf false (closedL G kinds) a = (closedL G kinds)[a] := by simp [rdOf, List.getD_eq_getElem?_getD, h2]
 have h3 := h a (by omega); have h4 := closedL_at (kinds := kinds) (G := G) (a := a) (by omega); rw [e1] at h3; rw [e2] at h4; cases hm : marks[a] <;> cases hc : (closedL G kinds)[a] <;> simp_all
end Go.Proofs.Ytdngobjcdajogaa.Gram
