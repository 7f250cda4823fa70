/-
A table as bytes: what the reference's Bytes answers, in plain Lean.
-/
import Derived.Test.YtlpmjmanmncmnaaR1XT
set_option linter.unusedSimpArgs false
set_option linter.unusedVariables false
namespace Go.Proofs.Ytlpmjmanmncmnaa.Tab
open Go.RowKit Go.Maps Go.Proofs.YtlpmjmanmncmnaaW.PrintWords Go.Proofs.YtlpmjmanmncmnaaW.PrintLast Go.Proofs.YtlpmjmanmncmnaaW.PrintMore Go.Proofs.Ytlpmjmanmncmnaa.Fr Go.Proofs.Ytlpmjmanmncmnaa.PT
section
variable {T : Tb} {R : List Int × Int} (hR : IsBytes T R) (hE : Even T) (hL : (encT T).length < 140737488355328) (hO : TOk T)
include hR hE hL hO
theorem rb2 (i : Nat) (hi : i < T.mv.length) (hm : ∀ x, x ∈ rd_L2 T.mv i → OkM x) (h0 : RowGood T i → ∀ out, out ++ encR (T.mv.drop (i + 1)) (T.gt.drop (i + 1)) = encT T → Fin (fun k => quoinref17_Bytes.l0 k out ((i + 1 : Nat) : Int) T.mv T.gt) R) :
    ∀ (n j : Nat) (out : List Int), j + n = (rd_L3 T.gt i).length → (∀ q : Nat, q < j → OkG (rd (rd_L3 T.gt i) q)) → out ++ (encG ((rd_L3 T.gt i).drop j) ++ encR (T.mv.drop (i + 1)) (T.gt.drop (i + 1))) = encT T →
      Fin (fun k => quoinref17_Bytes.l2 k out i j T.mv T.gt) R
  | 0, j, out, h, hq, e => by
    have hj : j = (rd_L3 T.gt i).length := by omega
    have hm1 := hO.m
    have hgl := hE.2.2.1
    refine (h0 ⟨hm, fun x hx => ?_⟩ out (by rw [hj, List.drop_length] at e; exact e)).step (fun k => ?_)
    · obtain ⟨q, hq', rfl⟩ := mem_int.1 hx
      exact hq q (by omega)
    · show quoinref17_Bytes.l2 (k + 1) _ _ _ _ _ = _
      rw [quoinref17_Bytes.l2, if_pos (by omega), if_pos (by omega), if_neg (by omega), wrapN _ (by omega)]
  | n + 1, j, out, h, hq, e => by
    have hgl := hE.2.2.1
    have hg := hO.gos i (by omega)
    have hj : j < (rd_L3 T.gt i).length := by omega
    have bad : ¬ OkG (rd (rd_L3 T.gt i) j) → R = ([], 170) := fun hn => hR.no (fun hw => hn (hw.2.2 _ (mem_L3.2 ⟨i, by omega, rfl⟩) _ (mem_int.2 ⟨j, hj, rfl⟩)))
    rw [drop_int hj, encG, List.append_assoc, ← List.append_assoc out] at e
    by_cases c1 : rd (rd_L3 T.gt i) j < -1
    · rw [bad (fun h => by have := h.1; omega)]
      refine Fin.one (fun k => ?_)
      show quoinref17_Bytes.l2 (k + 1) _ _ _ _ _ = _
      rw [quoinref17_Bytes.l2, if_pos (by omega), if_pos (by omega), if_pos (by omega), if_pos (by omega), if_pos c1]
    · by_cases c2 : rd (rd_L3 T.gt i) j ≥ 2147483647
      · rw [bad (fun h => by have := h.2; simp only [mostN] at this; omega)]
        refine Fin.one (fun k => ?_)
        show quoinref17_Bytes.l2 (k + 1) _ _ _ _ _ = _
        rw [quoinref17_Bytes.l2, if_pos (by omega), if_pos (by omega), if_pos (by omega), if_pos (by omega), if_neg c1, if_pos c2]
      · have hl : (out ++ encN (rd (rd_L3 T.gt i) j + 1).toNat).length ≤ (encT T).length := by rw [← e]; simp only [List.length_append]; omega
        rw [List.length_append] at hl
        refine Fin.step (g := fun k => (quoinref17_uint.f k (((rd (rd_L3 T.gt i) j + 1).toNat : Nat) : Int)).bind fun t => if out.length + t.length < 140737488355328 then quoinref17_Bytes.l2 k (out ++ t) i ((j + 1 : Nat) : Int) T.mv T.gt else none) ?_ (fun k => ?_)
        · refine Fin.bind (uint_fin _ (by omega) (by omega)) ?_
          simp only [if_pos (show out.length + (encN (rd (rd_L3 T.gt i) j + 1).toNat).length < 140737488355328 by omega)]
          exact rb2 i hi hm h0 n (j + 1) _ (by omega) (fun q hq' => by
            by_cases e : q = j
            · subst e
              exact ⟨by omega, by simp only [mostN]; omega⟩
            · exact hq q (by omega)) e
        · show quoinref17_Bytes.l2 (k + 1) _ _ _ _ _ = _
          have ew : wrap64 (rd (rd_L3 T.gt i) j + 1) = (((rd (rd_L3 T.gt i) j + 1).toNat : Nat) : Int) := by simp only [wrap64]; omega
          rw [quoinref17_Bytes.l2, if_pos (by omega), if_pos (by omega), if_pos (by omega), if_pos (by omega), if_neg c1, if_neg c2, ew, wrapN _ (by omega)]
theorem rb1 (i : Nat) (hi : i < T.mv.length) (h0 : RowGood T i → ∀ out, out ++ encR (T.mv.drop (i + 1)) (T.gt.drop (i + 1)) = encT T → Fin (fun k => quoinref17_Bytes.l0 k out ((i + 1 : Nat) : Int) T.mv T.gt) R) :
    ∀ (n j : Nat) (out : List Int), j + n = (rd_L2 T.mv i).length → (∀ q : Nat, q < j → OkM (rd_T48 (rd_L2 T.mv i) q)) → out ++ (encM ((rd_L2 T.mv i).drop j) ++ (encG (rd_L3 T.gt i) ++ encR (T.mv.drop (i + 1)) (T.gt.drop (i + 1)))) = encT T →
      Fin (fun k => quoinref17_Bytes.l1 k out i j T.mv T.gt) R
  | 0, j, out, h, hq, e => by
    have hj : j = (rd_L2 T.mv i).length := by omega
    have hgl := hE.2.2.1
    refine (rb2 hR hE hL hO i hi (fun x hx => ?_) h0 (rd_L3 T.gt i).length 0 out (by omega) (fun q hq' => absurd hq' (by omega)) (by rw [hj, List.drop_length] at e; exact e)).step (fun k => ?_)
    · obtain ⟨q, hq', rfl⟩ := mem_48.1 hx
      exact hq q (by omega)
    · show quoinref17_Bytes.l1 (k + 1) _ _ _ _ _ = _
      rw [quoinref17_Bytes.l1, if_pos (by omega), if_pos (by omega), if_neg (by omega)]
      rfl
  | n + 1, j, out, h, hq, e => by
    have hg := (hO.rows i hi).1
    have hj : j < (rd_L2 T.mv i).length := by omega
    have bad : ¬ OkM (rd_T48 (rd_L2 T.mv i) j) → R = ([], 170) := fun hn => hR.no (fun hw => hn (hw.2.1 _ (mem_L2.2 ⟨i, hi, rfl⟩) _ (mem_48.2 ⟨j, hj, rfl⟩)))
    rw [drop_48 hj, encM] at e
    have jbad : ∀ b : Bool, b = true → ¬ OkM (rd_T48 (rd_L2 T.mv i) j) → Fin (fun k => quoinref17_Bytes.j2 k out i j b T.mv T.gt (rd_T48 (rd_L2 T.mv i) j).f0 (rd_T48 (rd_L2 T.mv i) j).f1) R := fun b hb hn => by
      rw [bad hn]
      refine Fin.one (fun k => ?_)
      show quoinref17_Bytes.j2 (k + 1) _ _ _ _ _ _ _ _ = _
      rw [quoinref17_Bytes.j2, if_pos hb]
    by_cases c1 : (rd_T48 (rd_L2 T.mv i) j).f0 < 0
    · refine (jbad true rfl (fun h => by have := h.1; omega)).step (fun k => ?_)
      show quoinref17_Bytes.l1 (k + 1) _ _ _ _ _ = _
      rw [quoinref17_Bytes.l1, if_pos (by omega), if_pos (by omega), if_pos (by omega), if_pos (by omega), if_pos c1]
    by_cases c3 : (rd_T48 (rd_L2 T.mv i) j).f1 < 0
    · refine (jbad true rfl (fun h => by have := h.2.2.1; omega)).step (fun k => ?_)
      show quoinref17_Bytes.l1 (k + 1) _ _ _ _ _ = _
      rw [quoinref17_Bytes.l1, if_pos (by omega), if_pos (by omega), if_pos (by omega), if_pos (by omega), if_neg c1, if_pos c3]
    by_cases c2 : (rd_T48 (rd_L2 T.mv i) j).f0 > 2147483647
    · refine (jbad true rfl (fun h => by have := h.2.1; simp only [mostN] at this; omega)).step (fun k => ?_)
      show quoinref17_Bytes.l1 (k + 1) _ _ _ _ _ = _
      rw [quoinref17_Bytes.l1, if_pos (by omega), if_pos (by omega), if_pos (by omega), if_pos (by omega), if_neg c1, if_neg c3, if_pos c2]
    refine Fin.step (g := fun k => quoinref17_Bytes.j2 k out i j (decide ((rd_T48 (rd_L2 T.mv i) j).f1 > 2147483647)) T.mv T.gt (rd_T48 (rd_L2 T.mv i) j).f0 (rd_T48 (rd_L2 T.mv i) j).f1) ?_ (fun k => by
      show quoinref17_Bytes.l1 (k + 1) _ _ _ _ _ = _
      rw [quoinref17_Bytes.l1, if_pos (by omega), if_pos (by omega), if_pos (by omega), if_pos (by omega), if_neg c1, if_neg c3, if_neg c2])
    by_cases c4 : (rd_T48 (rd_L2 T.mv i) j).f1 > 2147483647
    · exact jbad _ (decide_eq_true c4) (fun h => by have := h.2.2.2; simp only [mostN] at this; omega)
    have e0 := encN_0 (x := (rd_T48 (rd_L2 T.mv i) j).f0) (by omega)
    have e1 := encN_0 (x := (rd_T48 (rd_L2 T.mv i) j).f1) (by omega)
    have hl : (out ++ encN (rd_T48 (rd_L2 T.mv i) j).f0.toNat ++ encN (rd_T48 (rd_L2 T.mv i) j).f1.toNat).length ≤ (encT T).length := by rw [← e]; simp only [List.length_append]; omega
    simp only [List.length_append] at hl
    have hb1 := uint_fin (rd_T48 (rd_L2 T.mv i) j).f0.toNat (by omega) (by omega)
    have hb2 := uint_fin (rd_T48 (rd_L2 T.mv i) j).f1.toNat (by omega) (by omega)
    rw [e0] at hb1
    rw [e1] at hb2
    refine Fin.step (g := fun k => (quoinref17_uint.f k (rd_T48 (rd_L2 T.mv i) j).f0).bind fun t224 => (if out.length + t224.length < 140737488355328 then ((some (out ++ t224 : List Int)).bind fun y227 => ((quoinref17_uint.f k (rd_T48 (rd_L2 T.mv i) j).f1).bind fun t230 => (if y227.length + t230.length < 140737488355328 then (quoinref17_Bytes.l1 k (y227 ++ t230) i ((j + 1 : Nat) : Int) T.mv T.gt) else (none)))) else (none))) ?_ (fun k => by
      show quoinref17_Bytes.j2 (k + 1) _ _ _ _ _ _ _ _ = _
      rw [quoinref17_Bytes.j2, if_neg (by rw [decide_eq_false c4]; decide), wrapN _ (by omega)])
    refine Fin.bind hb1 ?_
    simp only [if_pos (show out.length + (encN (rd_T48 (rd_L2 T.mv i) j).f0.toNat).length < 140737488355328 by omega), Option.bind_some]
    refine Fin.bind hb2 ?_
    simp only [List.length_append, if_pos (show out.length + (encN (rd_T48 (rd_L2 T.mv i) j).f0.toNat).length + (encN (rd_T48 (rd_L2 T.mv i) j).f1.toNat).length < 140737488355328 by omega)]
    exact rb1 i hi h0 n (j + 1) _ (by omega) (fun q hq' => by
      by_cases e : q = j
      · subst e
        exact ⟨by omega, by simp only [mostN]; omega, by omega, by simp only [mostN]; omega⟩
      · exact hq q (by omega)) (by rw [← e]; simp only [List.append_assoc])
theorem rb0 : ∀ (n i : Nat) (out : List Int), i + n = T.mv.length → (∀ s : Nat, s < i → RowGood T s) → out ++ encR (T.mv.drop i) (T.gt.drop i) = encT T → Fin (fun k => quoinref17_Bytes.l0 k out i T.mv T.gt) R
  | 0, i, out, h, hs, e => by
    obtain rfl : i = T.mv.length := by omega
    have e2 : encR (T.mv.drop T.mv.length) (T.gt.drop T.mv.length) = [] := by
      rw [List.drop_length]
      rfl
    rw [e2, List.append_nil] at e
    rw [hR.ok ((wr_rows hE).1 hs), ← e]
    refine Fin.one (fun k => ?_)
    show quoinref17_Bytes.l0 (k + 1) _ _ _ _ = _
    rw [quoinref17_Bytes.l0, if_neg (by omega)]
  | n + 1, i, out, h, hs, e => by
    have hi : i < T.mv.length := by omega
    have hgl := hE.2.2.1
    rw [drop_L2 hi, drop_L3 (show i < T.gt.length by omega), encR] at e
    refine (rb1 hR hE hL hO i hi (fun hg out' e' => rb0 n (i + 1) out' (by omega) (fun s hs' => by
      by_cases e : s = i
      · subst e
        exact hg
      · exact hs s (by omega)) e') (rd_L2 T.mv i).length 0 out (by omega) (fun q hq => absurd hq (by omega)) e).step (fun k => ?_)
    show quoinref17_Bytes.l0 (k + 1) _ _ _ _ = _
    rw [quoinref17_Bytes.l0, if_pos (by omega)]
    rfl
end
/-- The reference's Bytes. -/
theorem refbytes_fin {T : Tb} {R : List Int × Int} (hR : IsBytes T R) (hL : (encT T).length < 140737488355328) (hO : TOk T) : Fin (fun k => quoinref17_Bytes.f k T.mv T.gt) R := by
  have hOm := hO.m
  obtain ⟨r, hr, _, he⟩ := even_some T (by omega)
  refine Fin.bind he ?_
  cases r with
  | false =>
    have : ¬ WrOk T := fun h => by have := hr.2 h.1; cases this
    rw [hR.no this]
    exact ⟨0, fun k _ => rfl⟩
  | true =>
    have hE := hr.1 rfl
    have h0 : 0 < T.mv.length := hE.1
    have hg : 0 < T.gt.length := by have := hE.2.2.1; omega
    have hm0 := (hO.rows 0 h0).1
    have hg0 := hO.gos 0 hg
    simp only [Int.natCast_zero] at hm0 hg0
    have hl0 : (encT T).length = (encN T.mv.length).length + ((encN (rd_L2 T.mv 0).length).length + ((encN (rd_L3 T.gt 0).length).length + (encR T.mv T.gt).length)) := by rw [encT]; simp only [List.length_append]
    have f1 := uint_fin T.mv.length (by omega) (by omega)
    have f2 := uint_fin (rd_L2 T.mv 0).length (by omega) (by omega)
    have f3 := uint_fin (rd_L3 T.gt 0).length (by omega) (by omega)
    have f4 := rb0 hR hE hL hO T.mv.length 0 (encN T.mv.length ++ encN (rd_L2 T.mv 0).length ++ encN (rd_L3 T.gt 0).length) (by omega) (fun s hs => absurd hs (by omega)) (by rw [encT, List.drop_zero, List.drop_zero]; simp only [List.append_assoc])
    simp only [if_pos (show 0 < (T.mv.length : Int) by omega), if_pos (show 0 < (T.gt.length : Int) by omega)]
    refine Fin.bind f1 ?_
    refine Fin.bind f2 ?_
    simp only [if_pos (show (encN T.mv.length).length + (encN (rd_L2 T.mv 0).length).length < 140737488355328 by omega), Option.bind_some]
    refine Fin.bind f3 ?_
    simp only [List.length_append, if_pos (show (encN T.mv.length).length + (encN (rd_L2 T.mv 0).length).length + (encN (rd_L3 T.gt 0).length).length < 140737488355328 by omega)]
    exact f4
end Go.Proofs.Ytlpmjmanmncmnaa.Tab
