/-
A table as bytes: what table.Bytes and the reference's Bytes answer, in plain Lean.
-/
import Derived.Test.YtlpmjmanmncmnaaR1XS
import Derived.Test.YtlpmjmanmncmnaaR1PTE
set_option linter.unusedSimpArgs false
set_option linter.unusedVariables false
namespace Go.Proofs.Ytlpmjmanmncmnaa.Tab
open Go.RowKit Go.Maps Go.Proofs.YtlpmjmanmncmnaaW.PrintWords Go.Proofs.YtlpmjmanmncmnaaW.PrintLast Go.Proofs.YtlpmjmanmncmnaaW.PrintMore Go.Proofs.Ytlpmjmanmncmnaa.Fr Go.Proofs.Ytlpmjmanmncmnaa.PT
theorem or128 (x : Int) (h0 : 0 ≤ x) (h1 : x < 256) : Go.bits .or .u8 x 128 = x % 128 + 128 := by
  have key : ∀ a : _root_.Fin 256, Go.bits .or .u8 ((a.val : Nat) : Int) 128 = ((a.val : Nat) : Int) % 128 + 128 := by decide +kernel
  have := key ⟨x.toNat, by omega⟩
  simp only at this
  rwa [show ((x.toNat : Nat) : Int) = x by omega] at this
theorem drop_int {l : List Int} {j : Nat} (h : j < l.length) : l.drop j = rd l j :: l.drop (j + 1) := by
  rw [List.drop_eq_getElem_cons h]
  simp [rd, List.getD_eq_getElem?_getD, h]
theorem drop_L2 {l : List (List S48)} {j : Nat} (h : j < l.length) : l.drop j = rd_L2 l j :: l.drop (j + 1) := by
  rw [List.drop_eq_getElem_cons h]
  simp [rd_L2, List.getD_eq_getElem?_getD, h]
theorem drop_L3 {l : List (List Int)} {j : Nat} (h : j < l.length) : l.drop j = rd_L3 l j :: l.drop (j + 1) := by
  rw [List.drop_eq_getElem_cons h]
  simp [rd_L3, List.getD_eq_getElem?_getD, h]
theorem mem_48 {l : List S48} {x : S48} : x ∈ l ↔ ∃ s : Nat, s < l.length ∧ rd_T48 l s = x := by
  rw [List.mem_iff_getElem]
  constructor
  · rintro ⟨i, hi, rfl⟩
    exact ⟨i, hi, by simp [rd_T48, List.getD_eq_getElem?_getD, hi]⟩
  · rintro ⟨i, hi, rfl⟩
    exact ⟨i, hi, by simp [rd_T48, List.getD_eq_getElem?_getD, hi]⟩
theorem mem_int {l : List Int} {x : Int} : x ∈ l ↔ ∃ s : Nat, s < l.length ∧ rd l s = x := by
  rw [List.mem_iff_getElem]
  constructor
  · rintro ⟨i, hi, rfl⟩
    exact ⟨i, hi, by simp [rd, List.getD_eq_getElem?_getD, hi]⟩
  · rintro ⟨i, hi, rfl⟩
    exact ⟨i, hi, by simp [rd, List.getD_eq_getElem?_getD, hi]⟩
theorem short_fin (n : Nat) : ∀ out : List Int, out.length + (encN n).length < 140737488355328 → Fin (fun k => table_short.f k out n) (out ++ encN n) := by
  induction n using Nat.strongRecOn with
  | ind n ih =>
    intro out hl
    by_cases c : n < 128
    · rw [encN_lo c]
      refine Fin.one (fun k => ?_)
      show table_short.l0 (k + 1) _ _ = _
      rw [table_short.l0, if_neg (by omega), if_pos (by have := encN_pos n; omega), show (n : Int) % 256 = n by omega]
    · rw [encN_hi (by omega)] at hl ⊢
      have hl2 : out.length + 1 + (encN (n / 128)).length < 140737488355328 := by simp only [List.length_cons] at hl; omega
      have := ih (n / 128) (by omega) (out ++ [((n % 128 + 128 : Nat) : Int)]) (by simp only [List.length_append, List.length_cons, List.length_nil]; omega)
      rw [List.append_assoc, List.singleton_append] at this
      refine this.step (fun k => ?_)
      show table_short.l0 (k + 1) _ _ = table_short.l0 k _ _
      rw [table_short.l0, if_pos (by omega), if_pos (by omega), or128 _ (by omega) (by omega), show (n : Int) % 256 % 128 + 128 = ((n % 128 + 128 : Nat) : Int) by omega, show (n : Int) / 128 = ((n / 128 : Nat) : Int) by omega]
theorem uint_fin0 (n : Nat) (hn : n ≤ 9223372036854775807) : ∀ out : List Int, out.length + (encN n).length < 140737488355328 → Fin (fun k => quoinref17_uint.l0 k n out) (out ++ encN n) := by
  induction n using Nat.strongRecOn with
  | ind n ih =>
    intro out hl
    by_cases c : n < 128
    · rw [encN_lo c]
      refine Fin.one (fun k => ?_)
      show quoinref17_uint.l0 (k + 1) _ _ = _
      rw [quoinref17_uint.l0, if_neg (by omega), if_pos (by have := encN_pos n; omega), show (n : Int) % 256 = n by omega]
    · rw [encN_hi (by omega)] at hl ⊢
      have hl2 : out.length + 1 + (encN (n / 128)).length < 140737488355328 := by simp only [List.length_cons] at hl; omega
      have := ih (n / 128) (by omega) (by omega) (out ++ [((n % 128 + 128 : Nat) : Int)]) (by simp only [List.length_append, List.length_cons, List.length_nil]; omega)
      rw [List.append_assoc, List.singleton_append] at this
      refine this.step (fun k => ?_)
      show quoinref17_uint.l0 (k + 1) _ _ = quoinref17_uint.l0 k _ _
      have e1 : Int.tdiv (n : Int) 128 = ((n / 128 : Nat) : Int) := rfl
      have e2 : Int.tmod (n : Int) 128 = ((n % 128 : Nat) : Int) := rfl
      rw [quoinref17_uint.l0, if_pos (by omega), if_pos (by omega), e1, e2]
      have e3 : wrap64 ((n / 128 : Nat) : Int) = ((n / 128 : Nat) : Int) := by simp only [wrap64]; omega
      have e4 : wrap64 (((n % 128 : Nat) : Int) + 128) % 256 = ((n % 128 + 128 : Nat) : Int) := by simp only [wrap64]; omega
      rw [e3, e4]
theorem uint_fin (n : Nat) (hn : n ≤ 9223372036854775807) (hl : (encN n).length < 140737488355328) : Fin (fun k => quoinref17_uint.f k n) (encN n) := by
  have := uint_fin0 n hn [] (by simpa using hl)
  rw [List.nil_append] at this
  exact this
def RowGood (T : Tb) (s : Nat) : Prop := (∀ x, x ∈ rd_L2 T.mv s → OkM x) ∧ (∀ x, x ∈ rd_L3 T.gt s → OkG x)
theorem wr_rows {T : Tb} (hE : Even T) : (∀ s : Nat, s < T.mv.length → RowGood T s) ↔ WrOk T := by
  constructor
  · intro h
    refine ⟨hE, fun l hl => ?_, fun l hl => ?_⟩
    · obtain ⟨s, hs, rfl⟩ := mem_L2.1 hl
      exact (h s hs).1
    · obtain ⟨s, hs, rfl⟩ := mem_L3.1 hl
      exact (h s (by have := hE.2.2.1; omega)).2
  · intro h s hs
    exact ⟨h.2.1 _ (mem_L2.2 ⟨s, hs, rfl⟩), h.2.2 _ (mem_L3.2 ⟨s, by have := hE.2.2.1; omega, rfl⟩)⟩
/-- What Bytes answers. -/
structure IsBytes (T : Tb) (R : List Int × Int) : Prop where
  ok : WrOk T → R = (encT T, 0)
  no : ¬ WrOk T → R = ([], 170)
theorem bytes_some (T : Tb) : ∃ R, IsBytes T R := by
  by_cases c : WrOk T
  · exact ⟨(encT T, 0), fun _ => rfl, fun h => absurd c h⟩
  · exact ⟨([], 170), fun h => absurd h c, fun _ => rfl⟩
theorem encN_0 {x : Int} (h : 0 ≤ x) : ((x.toNat : Nat) : Int) = x := by omega
section
variable {T : Tb} {R : List Int × Int} (hR : IsBytes T R) (hE : Even T) (hL : (encT T).length < 140737488355328) (hO : TOk T)
include hR hE hL hO
theorem by2 (i : Nat) (hi : i < T.mv.length) (hm : ∀ x, x ∈ rd_L2 T.mv i → OkM x) (h0 : RowGood T i → ∀ out, out ++ encR (T.mv.drop (i + 1)) (T.gt.drop (i + 1)) = encT T → Fin (fun k => table_Bytes.l0 k out T.mv T.mv.length ((i + 1 : Nat) : Int) T.mv T.gt) R) :
    ∀ (n j : Nat) (out : List Int), j + n = (rd_L3 T.gt i).length → (∀ q : Nat, q < j → OkG (rd (rd_L3 T.gt i) q)) → out ++ (encG ((rd_L3 T.gt i).drop j) ++ encR (T.mv.drop (i + 1)) (T.gt.drop (i + 1))) = encT T →
      Fin (fun k => table_Bytes.l2 k out T.mv T.mv.length i (rd_L3 T.gt i) (rd_L3 T.gt i).length j T.mv T.gt) R
  | 0, j, out, h, hq, e => by
    have hj : j = (rd_L3 T.gt i).length := by omega
    have hm1 := hO.m
    refine (h0 ⟨hm, fun x hx => ?_⟩ out (by rw [hj, List.drop_length] at e; exact e)).step (fun k => ?_)
    · obtain ⟨q, hq', rfl⟩ := mem_int.1 hx
      exact hq q (by omega)
    · show table_Bytes.l2 (k + 1) _ _ _ _ _ _ _ _ _ = _
      rw [table_Bytes.l2, if_neg (by omega), wrapN _ (by omega)]
  | n + 1, j, out, h, hq, e => by
    have hg := hO.gos i (by have := hE.2.2.1; omega)
    have hj : j < (rd_L3 T.gt i).length := by omega
    have bad : ¬ OkG (rd (rd_L3 T.gt i) j) → R = ([], 170) := fun hn => hR.no (fun hw => hn (hw.2.2 _ (mem_L3.2 ⟨i, by have := hE.2.2.1; omega, rfl⟩) _ (mem_int.2 ⟨j, hj, rfl⟩)))
    rw [drop_int hj, encG, List.append_assoc, ← List.append_assoc out] at e
    by_cases c1 : rd (rd_L3 T.gt i) j < -1
    · rw [bad (fun h => by have := h.1; omega)]
      refine Fin.one (fun k => ?_)
      show table_Bytes.l2 (k + 1) _ _ _ _ _ _ _ _ _ = _
      rw [table_Bytes.l2, if_pos (by omega), if_pos (by omega), if_pos (by omega), if_pos c1]
    · by_cases c2 : rd (rd_L3 T.gt i) j > 2147483646
      · rw [bad (fun h => by have := h.2; simp only [mostN] at this; omega)]
        refine Fin.one (fun k => ?_)
        show table_Bytes.l2 (k + 1) _ _ _ _ _ _ _ _ _ = _
        rw [table_Bytes.l2, if_pos (by omega), if_pos (by omega), if_pos (by omega), if_neg c1, if_pos c2]
      · have hl : (out ++ encN (rd (rd_L3 T.gt i) j + 1).toNat).length ≤ (encT T).length := by rw [← e]; simp only [List.length_append]; omega
        refine Fin.step (g := fun k => (table_short.f k out (((rd (rd_L3 T.gt i) j + 1).toNat : Nat) : Int)).bind fun t => table_Bytes.l2 k t T.mv T.mv.length i (rd_L3 T.gt i) (rd_L3 T.gt i).length ((j + 1 : Nat) : Int) T.mv T.gt) ?_ (fun k => ?_)
        · refine Fin.bind (short_fin _ out (by rw [List.length_append] at hl; omega)) ?_
          exact by2 i hi hm h0 n (j + 1) _ (by omega) (fun q hq' => by
            by_cases e : q = j
            · subst e
              exact ⟨by omega, by simp only [mostN]; omega⟩
            · exact hq q (by omega)) e
        · show table_Bytes.l2 (k + 1) _ _ _ _ _ _ _ _ _ = _
          have ew : wrap64 (rd (rd_L3 T.gt i) j + 1) = (((rd (rd_L3 T.gt i) j + 1).toNat : Nat) : Int) := by simp only [wrap64]; omega
          rw [table_Bytes.l2, if_pos (by omega), if_pos (by omega), if_pos (by omega), if_neg c1, if_neg c2, ew, wrapN _ (by omega)]
theorem by1 (i : Nat) (hi : i < T.mv.length) (h0 : RowGood T i → ∀ out, out ++ encR (T.mv.drop (i + 1)) (T.gt.drop (i + 1)) = encT T → Fin (fun k => table_Bytes.l0 k out T.mv T.mv.length ((i + 1 : Nat) : Int) T.mv T.gt) R) :
    ∀ (n j : Nat) (out : List Int), j + n = (rd_L2 T.mv i).length → (∀ q : Nat, q < j → OkM (rd_T48 (rd_L2 T.mv i) q)) → out ++ (encM ((rd_L2 T.mv i).drop j) ++ (encG (rd_L3 T.gt i) ++ encR (T.mv.drop (i + 1)) (T.gt.drop (i + 1)))) = encT T →
      Fin (fun k => table_Bytes.l1 k out i T.mv T.mv.length i (rd_L2 T.mv i) (rd_L2 T.mv i).length j T.mv T.gt) R
  | 0, j, out, h, hq, e => by
    have hj : j = (rd_L2 T.mv i).length := by omega
    have hgl := hE.2.2.1
    refine (by2 hR hE hL hO i hi (fun x hx => ?_) h0 (rd_L3 T.gt i).length 0 out (by omega) (fun q hq' => absurd hq' (by omega)) (by rw [hj, List.drop_length] at e; exact e)).step (fun k => ?_)
    · obtain ⟨q, hq', rfl⟩ := mem_48.1 hx
      exact hq q (by omega)
    · show table_Bytes.l1 (k + 1) _ _ _ _ _ _ _ _ _ _ = _
      rw [table_Bytes.l1, if_neg (by omega), if_pos (by omega), if_pos (by omega)]
      rfl
  | n + 1, j, out, h, hq, e => by
    have hg := (hO.rows i hi).1
    have hj : j < (rd_L2 T.mv i).length := by omega
    have bad : ¬ OkM (rd_T48 (rd_L2 T.mv i) j) → R = ([], 170) := fun hn => hR.no (fun hw => hn (hw.2.1 _ (mem_L2.2 ⟨i, hi, rfl⟩) _ (mem_48.2 ⟨j, hj, rfl⟩)))
    rw [drop_48 hj, encM] at e
    have jbad : ∀ b : Bool, b = true → ¬ OkM (rd_T48 (rd_L2 T.mv i) j) → Fin (fun k => table_Bytes.j2 k out i T.mv T.mv.length i (rd_L2 T.mv i) (rd_L2 T.mv i).length j b T.mv T.gt (rd_T48 (rd_L2 T.mv i) j).f0 (rd_T48 (rd_L2 T.mv i) j).f1) R := fun b hb hn => by
      rw [bad hn]
      refine Fin.one (fun k => ?_)
      show table_Bytes.j2 (k + 1) _ _ _ _ _ _ _ _ _ _ _ _ _ = _
      rw [table_Bytes.j2, if_pos hb]
    by_cases c1 : (rd_T48 (rd_L2 T.mv i) j).f0 < 0
    · refine (jbad true rfl (fun h => by have := h.1; omega)).step (fun k => ?_)
      show table_Bytes.l1 (k + 1) _ _ _ _ _ _ _ _ _ _ = _
      rw [table_Bytes.l1, if_pos (by omega), if_pos (by omega), if_pos (by omega), if_pos c1]
    by_cases c2 : (rd_T48 (rd_L2 T.mv i) j).f0 > 2147483647
    · refine (jbad true rfl (fun h => by have := h.2.1; simp only [mostN] at this; omega)).step (fun k => ?_)
      show table_Bytes.l1 (k + 1) _ _ _ _ _ _ _ _ _ _ = _
      rw [table_Bytes.l1, if_pos (by omega), if_pos (by omega), if_pos (by omega), if_neg c1, if_pos c2]
    by_cases c3 : (rd_T48 (rd_L2 T.mv i) j).f1 < 0
    · refine (jbad true rfl (fun h => by have := h.2.2.1; omega)).step (fun k => ?_)
      show table_Bytes.l1 (k + 1) _ _ _ _ _ _ _ _ _ _ = _
      rw [table_Bytes.l1, if_pos (by omega), if_pos (by omega), if_pos (by omega), if_neg c1, if_neg c2, if_pos c3]
    refine Fin.step (g := fun k => table_Bytes.j2 k out i T.mv T.mv.length i (rd_L2 T.mv i) (rd_L2 T.mv i).length j (decide ((rd_T48 (rd_L2 T.mv i) j).f1 > 2147483647)) T.mv T.gt (rd_T48 (rd_L2 T.mv i) j).f0 (rd_T48 (rd_L2 T.mv i) j).f1) ?_ (fun k => by
      show table_Bytes.l1 (k + 1) _ _ _ _ _ _ _ _ _ _ = _
      rw [table_Bytes.l1, if_pos (by omega), if_pos (by omega), if_pos (by omega), if_neg c1, if_neg c2, if_neg c3])
    by_cases c4 : (rd_T48 (rd_L2 T.mv i) j).f1 > 2147483647
    · exact jbad _ (decide_eq_true c4) (fun h => by have := h.2.2.2; simp only [mostN] at this; omega)
    have e0 := encN_0 (x := (rd_T48 (rd_L2 T.mv i) j).f0) (by omega)
    have e1 := encN_0 (x := (rd_T48 (rd_L2 T.mv i) j).f1) (by omega)
    have hl : (out ++ encN (rd_T48 (rd_L2 T.mv i) j).f0.toNat ++ encN (rd_T48 (rd_L2 T.mv i) j).f1.toNat).length ≤ (encT T).length := by rw [← e]; simp only [List.length_append]; omega
    simp only [List.length_append] at hl
    have hb1 := short_fin (rd_T48 (rd_L2 T.mv i) j).f0.toNat out (by omega)
    have hb2 := short_fin (rd_T48 (rd_L2 T.mv i) j).f1.toNat (out ++ encN (rd_T48 (rd_L2 T.mv i) j).f0.toNat) (by rw [List.length_append]; omega)
    rw [e0] at hb1
    rw [e1] at hb2
    refine Fin.step (g := fun k => (table_short.f k out (rd_T48 (rd_L2 T.mv i) j).f0).bind fun t => (table_short.f k t (rd_T48 (rd_L2 T.mv i) j).f1).bind fun t => table_Bytes.l1 k t i T.mv T.mv.length i (rd_L2 T.mv i) (rd_L2 T.mv i).length ((j + 1 : Nat) : Int) T.mv T.gt) ?_ (fun k => by
      show table_Bytes.j2 (k + 1) _ _ _ _ _ _ _ _ _ _ _ _ _ = _
      rw [table_Bytes.j2, if_neg (by rw [decide_eq_false c4]; decide), wrapN _ (by omega)])
    refine Fin.bind hb1 (Fin.bind hb2 ?_)
    exact by1 i hi h0 n (j + 1) _ (by omega) (fun q hq' => by
      by_cases e : q = j
      · subst e
        exact ⟨by omega, by simp only [mostN]; omega, by omega, by simp only [mostN]; omega⟩
      · exact hq q (by omega)) (by rw [← e]; simp only [List.append_assoc])
theorem by0 : ∀ (n i : Nat) (out : List Int), i + n = T.mv.length → (∀ s : Nat, s < i → RowGood T s) → out ++ encR (T.mv.drop i) (T.gt.drop i) = encT T → Fin (fun k => table_Bytes.l0 k out T.mv T.mv.length i T.mv T.gt) R
  | 0, i, out, h, hs, e => by
    obtain rfl : i = T.mv.length := by omega
    have e2 : encR (T.mv.drop T.mv.length) (T.gt.drop T.mv.length) = [] := by
      rw [List.drop_length]
      rfl
    rw [e2, List.append_nil] at e
    rw [hR.ok ((wr_rows hE).1 hs), ← e]
    refine Fin.one (fun k => ?_)
    show table_Bytes.l0 (k + 1) _ _ _ _ _ _ = _
    rw [table_Bytes.l0, if_neg (by omega)]
  | n + 1, i, out, h, hs, e => by
    have hi : i < T.mv.length := by omega
    have hgl := hE.2.2.1
    rw [drop_L2 hi, drop_L3 (show i < T.gt.length by omega), encR] at e
    refine (by1 hR hE hL hO i hi (fun hg out' e' => by0 n (i + 1) out' (by omega) (fun s hs' => by
      by_cases e : s = i
      · subst e
        exact hg
      · exact hs s (by omega)) e') (rd_L2 T.mv i).length 0 out (by omega) (fun q hq => absurd hq (by omega)) e).step (fun k => ?_)
    show table_Bytes.l0 (k + 1) _ _ _ _ _ _ = _
    rw [table_Bytes.l0, if_pos (by omega), if_pos (by omega), if_pos (by omega)]
    rfl
end
/-- table.Bytes. -/
theorem bytes_fin {T : Tb} {R : List Int × Int} (hR : IsBytes T R) (hL : (encT T).length < 140737488355328) (hO : TOk T) : Fin (fun k => table_Bytes.f k T.mv T.gt) R := by
  obtain ⟨r, hr, he, _⟩ := even_some T (by have := hO.m; omega)
  refine Fin.bind he ?_
  cases r with
  | false =>
    have : ¬ WrOk T := fun h => by have := hr.2 h.1; cases this
    rw [hR.no this]
    exact ⟨0, fun k _ => rfl⟩
  | true =>
    have hE := hr.1 rfl
    have h0 : 0 < T.mv.length := hE.1
    have hg : 0 < T.gt.length := by have := hE.2.2.1; omega
    have hl0 : (encT T).length = (encN T.mv.length).length + ((encN (rd_L2 T.mv 0).length).length + ((encN (rd_L3 T.gt 0).length).length + (encR T.mv T.gt).length)) := by rw [encT]; simp only [List.length_append]
    have f1 := short_fin T.mv.length [] (by rw [List.length_nil]; omega)
    have f2 := short_fin (rd_L2 T.mv 0).length ([] ++ encN T.mv.length) (by rw [List.nil_append]; omega)
    have f3 := short_fin (rd_L3 T.gt 0).length ([] ++ encN T.mv.length ++ encN (rd_L2 T.mv 0).length) (by rw [List.nil_append, List.length_append]; omega)
    have f4 := by0 hR hE hL hO T.mv.length 0 ([] ++ encN T.mv.length ++ encN (rd_L2 T.mv 0).length ++ encN (rd_L3 T.gt 0).length) (by omega) (fun s hs => absurd hs (by omega)) (by rw [encT, List.drop_zero, List.drop_zero]; simp only [List.nil_append, List.append_assoc])
    obtain ⟨K, hK⟩ := Fin.bind f1 (g := fun k t => (table_short.f k t ((rd_L2 T.mv 0).length : Int)).bind fun t168 => (table_short.f k t168 ((rd_L3 T.gt 0).length : Int)).bind fun t172 => (table_Bytes.l0 k t172 T.mv (T.mv.length : Int) 0 T.mv T.gt)) (Fin.bind f2 (g := fun k t168 => (table_short.f k t168 ((rd_L3 T.gt 0).length : Int)).bind fun t172 => (table_Bytes.l0 k t172 T.mv (T.mv.length : Int) 0 T.mv T.gt)) (Fin.bind f3 (g := fun k t172 => (table_Bytes.l0 k t172 T.mv (T.mv.length : Int) 0 T.mv T.gt)) f4))
    refine ⟨K, fun k hk => ?_⟩
    have := hK k hk
    simp only [if_pos (show 0 < (T.mv.length : Int) by omega), if_pos (show 0 < (T.gt.length : Int) by omega)]
    exact this
end Go.Proofs.Ytlpmjmanmncmnaa.Tab
