/-
What the reference says of names, kinds and rows is what the program says: in plain Lean.
-/
import Derived.Test.YtagokdbpgljgjaaDoorVE
import Derived.Test.YtagokdbpgljgjaaDoorVM
import Derived.Test.YtagokdbpgljgjaaDoorPTC
namespace Go.Proofs.YtagokdbpgljgjaaDoor.Tok
open Go.RowKit Go.Proofs.YtagokdbpgljgjaaDoorW.PrintWords Go.Proofs.YtagokdbpgljgjaaDoorW.PrintLast Go.Proofs.YtagokdbpgljgjaaDoorW.PrintMore Go.Proofs.YtagokdbpgljgjaaDoor.PGramFirsts Go.Proofs.YtagokdbpgljgjaaDoor.TextSet

theorem Fin.bind {α β : Type} {f : Nat → Option α} {a : α} {g : Nat → α → Option β} {r : β} (h : Fin f a) (hg : Fin (fun k => g k a) r) : Fin (fun k => (f k).bind (g k)) r := by
  obtain ⟨K, hK⟩ := h
  obtain ⟨M, hM⟩ := hg
  exact ⟨max K M, fun k hk => by
    show (f k).bind (g k) = _
    rw [hK k (by omega), Option.bind_some]; exact hM k (by omega)⟩
theorem find_fin (s : ByteArray) (l : List ByteArray) (hl : l.length ≤ 9223372036854775807) : ∀ (n i : Nat), i + n = l.length → ∃ r : Int × Bool, Fin (fun k => token_Find.l0 k s l (l.length : Int) i) r ∧ Fin (fun k => quoinref07_Find.l0 k l s i) r
  | 0, i, h => ⟨(0, false), Fin.one (fun k => by
      show token_Find.l0 (k + 1) _ _ _ _ = _
      rw [token_Find.l0, if_neg (by omega)]), Fin.one (fun k => by
      show quoinref07_Find.l0 (k + 1) _ _ _ = _
      rw [quoinref07_Find.l0, if_neg (by omega)])⟩
  | n + 1, i, h => by
    by_cases he : (rdOf ByteArray.empty l i).toList = s.toList
    · refine ⟨(i, true), Fin.one (fun k => ?_), Fin.one (fun k => ?_)⟩
      · show token_Find.l0 (k + 1) _ _ _ _ = _
        rw [token_Find.l0, if_pos (by omega), if_pos (by omega), if_pos (by omega), if_pos he]
      · show quoinref07_Find.l0 (k + 1) _ _ _ = _
        rw [quoinref07_Find.l0, if_pos (by omega), if_pos (by omega), if_pos he]
    · obtain ⟨r, h1, h2⟩ := find_fin s l hl n (i + 1) (by omega)
      refine ⟨r, h1.step (fun k => ?_), h2.step (fun k => ?_)⟩
      · show token_Find.l0 (k + 1) _ _ _ _ = _
        rw [token_Find.l0, if_pos (by omega), if_pos (by omega), if_pos (by omega), if_neg he, wrapN _ (by omega)]
      · show quoinref07_Find.l0 (k + 1) _ _ _ = _
        rw [quoinref07_Find.l0, if_pos (by omega), if_pos (by omega), if_neg he, wrapN _ (by omega)]
theorem find_some (s : ByteArray) (l : List ByteArray) (hl : l.length ≤ 9223372036854775807) : ∃ (r : Int × Bool) (k m : Nat), token_Find.f k l s = some r ∧ quoinref07_Find.f m l s = some r := by
  obtain ⟨r, h1, h2⟩ := find_fin s l hl l.length 0 (by omega)
  obtain ⟨k, hk⟩ := h1.get
  obtain ⟨m, hm⟩ := h2.get
  exact ⟨r, k, m, hk, hm⟩

/-- May a byte stand at a place of a name? -/
def okc (c i : Int) : Bool := decide ((97 ≤ c ∧ c ≤ 122) ∨ (65 ≤ c ∧ c ≤ 90) ∨ c = 95 ∨ (0 < i ∧ 48 ≤ c ∧ c ≤ 57))
theorem named_step (k : Nat) (s : ByteArray) (i : Nat) (h : i < s.size) : token_named.l0 (k + 1) s i = if okc (bt s i) i = true then token_named.l0 k s (wrap64 ((i : Int) + 1)) else some false := by
  rw [token_named.l0, if_pos (by omega), if_pos (by omega)]
  generalize bt s i = c
  generalize token_named.l0 k s (wrap64 ((i : Int) + 1)) = r
  by_cases hc : okc c i = true
  · rw [if_pos hc]
    unfold okc at hc
    have hc := of_decide_eq_true hc
    repeat' split
    all_goals first | rfl | omega
  · rw [if_neg hc]
    unfold okc at hc
    have hc := fun h => hc (decide_eq_true h)
    repeat' split
    all_goals first | rfl | (exfalso; apply hc; omega)
theorem refname_step (k : Nat) (s : ByteArray) (i : Nat) (h : i < s.size) : quoinref07_name.l0 (k + 1) s i = if okc (bt s i) i = true then quoinref07_name.l0 k s (wrap64 ((i : Int) + 1)) else some false := by
  rw [quoinref07_name.l0, if_pos (by omega), if_pos (by omega)]
  generalize bt s i = c
  generalize quoinref07_name.l0 k s (wrap64 ((i : Int) + 1)) = r
  by_cases hc : okc c i = true
  · rw [if_pos hc]
    unfold okc at hc
    have hc := of_decide_eq_true hc
    repeat' split
    all_goals first | rfl | omega
  · rw [if_neg hc]
    unfold okc at hc
    have hc := fun h => hc (decide_eq_true h)
    repeat' split
    all_goals first | rfl | (exfalso; apply hc; omega)
theorem name_fin (s : ByteArray) (hs : s.size ≤ maxLen) (h1 : 1 ≤ s.size) : ∀ (n i : Nat) (r : Bool), i + n = s.size → token_named.l0 (n + 1) s i = some r → (s.size ≤ 64 → Fin (fun k => quoinref07_name.l0 k s i) r) ∧ (64 < s.size → r = false)
  | 0, i, r, h, he => by
    rw [token_named.l0, if_neg (by omega), if_pos (by omega)] at he
    injection he with he
    refine ⟨fun h2 => Fin.one (fun k => ?_), fun h2 => ?_⟩
    · show quoinref07_name.l0 (k + 1) _ _ = _
      rw [quoinref07_name.l0, if_neg (by omega), ← he]
      congr 1
      exact (decide_eq_true (by omega)).symm
    · rw [← he]
      exact decide_eq_false (by omega)
  | n + 1, i, r, h, he => by
    have hm : maxLen ≤ 9223372036854775807 := by decide
    rw [named_step _ _ _ (by omega)] at he
    by_cases hc : okc (bt s i) i = true
    · rw [if_pos hc, wrapN _ (by omega)] at he
      obtain ⟨h2, h3⟩ := name_fin s hs h1 n (i + 1) r (by omega) he
      refine ⟨fun h4 => (h2 h4).step (fun k => ?_), h3⟩
      show quoinref07_name.l0 (k + 1) _ _ = _
      rw [refname_step _ _ _ (by omega), if_pos hc, wrapN _ (by omega)]
    · rw [if_neg hc] at he
      injection he with he
      refine ⟨fun _ => Fin.one (fun k => ?_), fun _ => he.symm⟩
      show quoinref07_name.l0 (k + 1) _ _ = _
      rw [refname_step _ _ _ (by omega), if_neg hc, he]
theorem name_some (s : ByteArray) (hs : s.size ≤ maxLen) : Fin (fun k => quoinref07_name.f k s) (named s) := by
  have hn := named_some s hs
  have hn : token_named.l0 (s.size + 1) s 0 = some (named s) := hn
  by_cases h1 : s.size < 1
  · have h0 : s.size = 0 := by omega
    rw [h0, token_named.l0, if_neg (by omega), if_neg (by omega)] at hn
    injection hn with hn
    rw [← hn]
    refine Fin.one (fun k => ?_)
    show quoinref07_name.f (k + 1) s = _
    rw [quoinref07_name.f, if_pos (by omega), quoinref07_name.j0, if_pos rfl]
  · obtain ⟨h2, h3⟩ := name_fin s hs (by omega) s.size 0 (named s) (by omega) hn
    by_cases h4 : 64 < s.size
    · rw [h3 h4]
      refine Fin.one (fun k => ?_)
      show quoinref07_name.f (k + 1) s = _
      rw [quoinref07_name.f, if_neg (by omega), decide_eq_true (by omega), quoinref07_name.j0, if_pos rfl]
    · refine (h2 (by omega)).step (fun k => ?_)
      show quoinref07_name.f (k + 1) s = _
      rw [quoinref07_name.f, if_neg (by omega), decide_eq_false (by omega), quoinref07_name.j0, if_neg (by decide)]
      rfl

theorem toList_inj {a b : ByteArray} (h : a.toList = b.toList) : a = b := by
  refine ByteArray.ext (Array.toList_inj.mp ?_)
  rw [← ByteArray.toList_eq, ← ByteArray.toList_eq, h]
/-- The names before a place are names, and no two are the same. -/
def Upto (ns : List ByteArray) (i : Nat) : Prop := ∀ j, j < i → named (rdS ns j) = true ∧ ∀ k, k < j → rdS ns k ≠ rdS ns j
theorem upto_ok {ns : List ByteArray} (h2 : 2 ≤ ns.length) (h3 : ns.length ≤ 1024) (e0 : (rdS ns 0).toList = [101, 110, 100]) (e1 : (rdS ns 1).toList = [101, 114, 114, 111, 114]) (h : Upto ns ns.length) : KindsOk ns := by
  refine ⟨h2, h3, e0, e1, fun s hs => ?_, ?_⟩
  · obtain ⟨i, hi, rfl⟩ := List.mem_iff_getElem.1 hs
    have := (h i hi).1
    simpa [rdS, rdOf, List.getD_eq_getElem?_getD, hi] using this
  · rw [List.nodup_iff_pairwise_ne, List.pairwise_iff_getElem]
    intro i j hi hj hij
    have := (h j hj).2 i hij
    simpa [rdS, rdOf, List.getD_eq_getElem?_getD, hi, hj] using this
theorem ok_upto {ns : List ByteArray} (h : KindsOk ns) : Upto ns ns.length := by
  intro j hj
  refine ⟨h.all _ (rdS_mem hj), fun k hk he => ?_⟩
  have := h.nodup
  rw [List.nodup_iff_pairwise_ne, List.pairwise_iff_getElem] at this
  refine this k j (by omega) hj hk ?_
  simpa [rdS, rdOf, List.getD_eq_getElem?_getD, hj, show k < ns.length by omega] using he
def RK (ns : List ByteArray) (r : Bool) : Prop := r = true ↔ Upto ns ns.length
theorem l1_fin (ns : List ByteArray) (h3 : ns.length ≤ 1024) (i : Nat) (hi : i < ns.length) (hn : named (rdS ns i) = true) (r : Bool) (hr : RK ns r) (hU : Upto ns (i + 1) → Fin (fun k => quoinref07_Kinds.l0 k ns ((i + 1 : Nat) : Int)) r) (h0 : Upto ns i) : ∀ (n j : Nat), j + n = i → (∀ k, k < j → rdS ns k ≠ rdS ns i) → Fin (fun k => quoinref07_Kinds.l1 k ns i j) r
  | 0, j, h, hj => by
    have hu : Upto ns (i + 1) := fun a ha => by
      by_cases hai : a = i
      · subst hai
        exact ⟨hn, fun k hk => hj k (by omega)⟩
      · exact h0 a (by omega)
    refine (hU hu).step (fun k => ?_)
    show quoinref07_Kinds.l1 (k + 1) _ _ _ = _
    rw [quoinref07_Kinds.l1, if_neg (by omega), wrapN _ (by omega)]
  | n + 1, j, h, hj => by
    by_cases he : (rdOf ByteArray.empty ns j).toList = (rdOf ByteArray.empty ns i).toList
    · have hr0 : r = false := by
        rw [← Bool.not_eq_true]
        intro hrt
        exact (hr.1 hrt i hi).2 j (by omega) (toList_inj he)
      rw [hr0]
      refine Fin.one (fun k => ?_)
      show quoinref07_Kinds.l1 (k + 1) _ _ _ = _
      rw [quoinref07_Kinds.l1, if_pos (by omega), if_pos (by omega), if_pos (by omega), if_pos (by omega), if_pos (by omega), if_pos he]
    · refine (l1_fin ns h3 i hi hn r hr hU h0 n (j + 1) (by omega) (fun k hk => ?_)).step (fun k => ?_)
      · by_cases hkj : k = j
        · subst hkj
          intro e
          exact he (by rw [show rdOf ByteArray.empty ns (k : Int) = rdS ns k from rfl, e]; rfl)
        · exact hj k (by omega)
      · show quoinref07_Kinds.l1 (k + 1) _ _ _ = _
        rw [quoinref07_Kinds.l1, if_pos (by omega), if_pos (by omega), if_pos (by omega), if_pos (by omega), if_pos (by omega), if_neg he, wrapN _ (by omega)]
theorem l0_fin (ns : List ByteArray) (h3 : ns.length ≤ 1024) (hs : ∀ s, s ∈ ns → s.size ≤ maxLen) (r : Bool) (hr : RK ns r) : ∀ (n i : Nat), i + n = ns.length → Upto ns i → Fin (fun k => quoinref07_Kinds.l0 k ns i) r
  | 0, i, h, hu => by
    obtain rfl : i = ns.length := by omega
    rw [hr.2 hu]
    refine Fin.one (fun k => ?_)
    show quoinref07_Kinds.l0 (k + 1) _ _ = _
    rw [quoinref07_Kinds.l0, if_neg (by omega)]
  | n + 1, i, h, hu => by
    have hi : i < ns.length := by omega
    have hf := name_some (rdS ns i) (hs _ (rdS_mem hi))
    by_cases hn : named (rdS ns i) = true
    · rw [hn] at hf
      have hl := l1_fin ns h3 i hi hn r hr (fun hu' => l0_fin ns h3 hs r hr n (i + 1) (by omega) hu') hu i 0 (by omega) (fun k hk => absurd hk (by omega))
      refine Fin.step (g := fun k => (quoinref07_name.f k (rdS ns i)).bind fun t108 => (if t108 = true then (quoinref07_Kinds.l1 k ns i ((0 : Nat) : Int)) else (some false))) (hf.bind (by simpa using hl)) (fun k => ?_)
      show quoinref07_Kinds.l0 (k + 1) _ _ = _
      rw [quoinref07_Kinds.l0, if_pos (by omega), if_pos (by omega)]
      rfl
    · have hr0 : r = false := by
        rw [← Bool.not_eq_true]
        intro hrt
        exact hn (hr.1 hrt i hi).1
      rw [Bool.not_eq_true] at hn
      rw [hn] at hf
      rw [hr0]
      refine Fin.step (g := fun k => (quoinref07_name.f k (rdS ns i)).bind fun t108 => (if t108 = true then (quoinref07_Kinds.l1 k ns i ((0 : Nat) : Int)) else (some false))) (hf.bind (Fin.one (fun k => by simp))) (fun k => ?_)
      show quoinref07_Kinds.l0 (k + 1) _ _ = _
      rw [quoinref07_Kinds.l0, if_pos (by omega), if_pos (by omega)]
      rfl
/-- The reference's Kinds. -/
theorem kinds_fin (ns : List ByteArray) (hs : ∀ s, s ∈ ns → s.size ≤ maxLen) : ∃ r : Bool, (r = true ↔ KindsOk ns) ∧ Fin (fun k => quoinref07_Kinds.f k ns) r := by
  have no : ∀ b : Bool, b = true → Fin (fun k => quoinref07_Kinds.j0 k ns b) false := fun b hb => Fin.one (fun k => by
    show quoinref07_Kinds.j0 (k + 1) _ _ = _
    rw [quoinref07_Kinds.j0, if_pos hb])
  by_cases h2 : ns.length < 2
  · refine ⟨false, ⟨fun h => (by cases h), fun h => by have := h.two; omega⟩, ?_⟩
    simp only [quoinref07_Kinds.f, if_pos (show (ns.length : Int) < 2 by omega)]
    exact no _ rfl
  by_cases h3 : 1024 < ns.length
  · refine ⟨false, ⟨fun h => (by cases h), fun h => by have := h.max; omega⟩, ?_⟩
    simp only [quoinref07_Kinds.f, if_neg (show ¬ (ns.length : Int) < 2 by omega), if_pos (show (ns.length : Int) > 1024 by omega)]
    exact no _ rfl
  by_cases e0 : (rdOf ByteArray.empty ns 0).toList = [101, 110, 100]
  case neg =>
    refine ⟨false, ⟨fun h => (by cases h), fun h => absurd h.fst e0⟩, ?_⟩
    simp only [quoinref07_Kinds.f, if_neg (show ¬ (ns.length : Int) < 2 by omega), if_neg (show ¬ (ns.length : Int) > 1024 by omega), if_pos (show 0 < (ns.length : Int) by omega), if_neg e0]
    exact no _ rfl
  by_cases e1 : (rdOf ByteArray.empty ns 1).toList = [101, 114, 114, 111, 114]
  case neg =>
    refine ⟨false, ⟨fun h => (by cases h), fun h => absurd h.snd e1⟩, ?_⟩
    simp only [quoinref07_Kinds.f, if_neg (show ¬ (ns.length : Int) < 2 by omega), if_neg (show ¬ (ns.length : Int) > 1024 by omega), if_pos (show 0 < (ns.length : Int) by omega), if_pos e0, if_pos (show 1 < (ns.length : Int) by omega)]
    exact no _ (by rw [bne_iff_ne]; exact e1)
  obtain ⟨r, hr⟩ : ∃ r : Bool, RK ns r := by
    by_cases hu : Upto ns ns.length
    · exact ⟨true, ⟨fun _ => hu, fun _ => rfl⟩⟩
    · exact ⟨false, ⟨fun h => (by cases h), fun h => absurd h hu⟩⟩
  refine ⟨r, ⟨fun h => upto_ok (by omega) (by omega) e0 e1 (hr.1 h), fun h => hr.2 (ok_upto h)⟩, ?_⟩
  have hf := l0_fin ns (by omega) hs r hr ns.length 0 (by omega) (fun j hj => absurd hj (by omega))
  simp only [quoinref07_Kinds.f, if_neg (show ¬ (ns.length : Int) < 2 by omega), if_neg (show ¬ (ns.length : Int) > 1024 by omega), if_pos (show 0 < (ns.length : Int) by omega), if_pos e0, if_pos (show 1 < (ns.length : Int) by omega)]
  refine hf.step (fun k => ?_)
  show quoinref07_Kinds.j0 (k + 1) _ _ = _
  rw [quoinref07_Kinds.j0, if_neg (by rw [Bool.not_eq_true, bne_eq_false_iff_eq]; exact e1)]
  rfl
/-- The place behind the token ahead. -/
def behind (l : List S55) (i : Nat) : Int := if i = 0 then 0 else (rd_T55 l ((i - 1 : Nat) : Int)).f2
theorem right_some (kinds : Nat) (src : ByteArray) (l : List S55) (hl : l.length ≤ 65536) (i : Nat) (hi : i < l.length) : quoinref07_right.f kinds src l i = some (rightT kinds src.size (behind l i) (rd_T55 l i)) := by
  unfold quoinref07_right.f
  rw [if_pos (by omega), if_pos (by omega)]
  unfold behind rightT
  generalize rd_T55 l i = t
  by_cases h0 : i = 0
  · subst h0
    rw [if_neg (by omega), if_pos rfl]
    by_cases g1 : t.f0 ≥ 2
    · rw [if_pos g1]
      by_cases g2 : t.f0 < kinds
      · rw [if_pos g2]
        by_cases g3 : t.f1 ≥ 0
        · rw [if_pos g3]
          by_cases g4 : t.f1 ≤ t.f2
          · rw [if_pos g4]
            congr 1
            exact decide_eq_decide.2 (by omega)
          · rw [if_neg g4, decide_eq_false (by omega)]
        · rw [if_neg g3, decide_eq_false (by omega)]
      · rw [if_neg g2, decide_eq_false (by omega)]
    · rw [if_neg g1, decide_eq_false (by omega)]
  · rw [if_pos (by omega), if_neg h0]
    have hw : wrap64 ((i : Int) - 1) = ((i - 1 : Nat) : Int) := by simp only [wrap64]; omega
    rw [hw, if_pos (by omega), if_pos (by omega)]
    generalize rd_T55 l ((i - 1 : Nat) : Int) = u
    by_cases g1 : t.f0 ≥ 2
    · rw [if_pos g1]
      by_cases g2 : t.f0 < kinds
      · rw [if_pos g2]
        by_cases g3 : t.f1 ≥ u.f2
        · rw [if_pos g3]
          by_cases g4 : t.f1 ≤ t.f2
          · rw [if_pos g4]
            congr 1
            exact decide_eq_decide.2 (by omega)
          · rw [if_neg g4, decide_eq_false (by omega)]
        · rw [if_neg g3, decide_eq_false (by omega)]
      · rw [if_neg g2, decide_eq_false (by omega)]
    · rw [if_neg g1, decide_eq_false (by omega)]
theorem chk_fin (ns : List ByteArray) (src : ByteArray) (l : List S55) (hl : l.length ≤ 65536) : ∀ (n i : Nat), i + n = l.length → Fin (fun k => quoinref07_Check.l0 k ns src l i) (checkF ns.length src.size (behind l i) i (l.drop i))
  | 0, i, h => by
    rw [List.drop_of_length_le (by omega)]
    refine Fin.one (fun k => ?_)
    show quoinref07_Check.l0 (k + 1) _ _ _ _ = _
    rw [quoinref07_Check.l0, if_neg (by omega)]
    rfl
  | n + 1, i, h => by
    have hr := right_some ns.length src l hl i (by omega)
    have hb : behind l (i + 1) = (rd_T55 l i).f2 := by unfold behind; rw [if_neg (by omega)]; rfl
    rw [rdT_drop (by omega : i < l.length), checkF]
    cases ht : rightT ns.length src.size (behind l i) (rd_T55 l i) with
    | true =>
      rw [ht] at hr
      have ih := chk_fin ns src l hl n (i + 1) (by omega)
      rw [hb] at ih
      rw [if_pos rfl]
      refine ih.step (fun k => ?_)
      show quoinref07_Check.l0 (k + 1) _ _ _ _ = _
      rw [quoinref07_Check.l0, if_pos (by omega), hr, Option.bind_some, if_pos rfl, wrapN _ (by omega)]
    | false =>
      rw [ht] at hr
      rw [if_neg (by decide)]
      refine Fin.one (fun k => ?_)
      show quoinref07_Check.l0 (k + 1) _ _ _ _ = _
      rw [quoinref07_Check.l0, if_pos (by omega), hr, Option.bind_some, if_neg (by decide)]
/-- The reference's Check. -/
theorem check_fin (ns : List ByteArray) (hs : ∀ s, s ∈ ns → s.size ≤ maxLen) (src : ByteArray) (l : List S55) : ∃ a b : Int, (KindsOk ns → l.length ≤ 65536 → (a, b) = checkF ns.length src.size 0 0 l) ∧ (KindsOk ns → 65536 < l.length → (a, b) = (65536, 71)) ∧ (¬ KindsOk ns → (a, b) = (0, 70)) ∧ ∃ k, quoinref07_Check.f k ns src l = some (a, b) := by
  obtain ⟨r, hr, hf⟩ := kinds_fin ns hs
  cases r with
  | false =>
    have hn : ¬ KindsOk ns := fun h => by have := hr.2 h; cases this
    refine ⟨0, 70, fun h => absurd h hn, fun h => absurd h hn, fun _ => rfl, ?_⟩
    obtain ⟨k, hk⟩ := hf.get
    exact ⟨k, by rw [quoinref07_Check.f, hk, Option.bind_some, if_neg (by decide)]⟩
  | true =>
    have hy := hr.1 rfl
    by_cases hl : 65536 < l.length
    · refine ⟨65536, 71, fun _ h => by omega, fun _ _ => rfl, fun h => absurd hy h, ?_⟩
      obtain ⟨k, hk⟩ := hf.get
      exact ⟨k, by rw [quoinref07_Check.f, hk, Option.bind_some, if_pos rfl, if_pos (by omega)]⟩
    · have hc := chk_fin ns src l (by omega) l.length 0 (by omega)
      rw [List.drop_zero] at hc
      have hc : Fin (fun k => quoinref07_Check.l0 k ns src l 0) (checkF ns.length src.size 0 0 l) := hc
      refine ⟨(checkF ns.length src.size 0 0 l).1, (checkF ns.length src.size 0 0 l).2, fun _ _ => rfl, fun _ h => absurd h hl, fun h => absurd hy h, ?_⟩
      have h2 := hf.bind (g := fun k t => if t = true then (if (l.length : Int) > 65536 then (some (65536, 71)) else (quoinref07_Check.l0 k ns src l 0)) else (some (0, 70))) (r := checkF ns.length src.size 0 0 l) (by
        simp only [if_pos, if_neg (show ¬ ((l.length : Int) > 65536) by omega)]
        exact hc)
      exact h2.get
end Go.Proofs.YtagokdbpgljgjaaDoor.Tok
