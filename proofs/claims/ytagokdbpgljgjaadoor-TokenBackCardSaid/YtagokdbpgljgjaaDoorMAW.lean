/-
What strconv.Itoa answers, from a world on that holds its table.
-/
import Derived.Lib.AppendIntMem
import Derived.Lib.ItoaLen
import Derived.Test.YtagokdbpgljgjaaDoorMAV
import Derived.Test.YtagokdbpgljgjaaDoorMAL
import Derived.Test.YtagokdbpgljgjaaDoorMAP
import Derived.Test.YtagokdbpgljgjaaDoorMAO
import Derived.Test.YtagokdbpgljgjaaDoorMAM
import Derived.Test.YtagokdbpgljgjaaDoorMAN
import Derived.Test.YtagokdbpgljgjaaDoorMAS
set_option linter.unusedSimpArgs false
set_option linter.unusedVariables false
namespace Go.Proofs.YtagokdbpgljgjaaDoor.Tok
open Go.RowKit Go.Proofs.YtagokdbpgljgjaaDoorW.PrintWords Go.Proofs.YtagokdbpgljgjaaDoorW.PrintLast Go.Proofs.YtagokdbpgljgjaaDoorW.PrintMore Go.Proofs.YtagokdbpgljgjaaDoor.Fr Go.Proofs.YtagokdbpgljgjaaDoor.PGramFirsts Go.Proofs.YtagokdbpgljgjaaDoor.TextSet Go.Proofs.YtagokdbpgljgjaaDoor.Bld Go.Proofs.YtagokdbpgljgjaaDoor.Utf
theorem grew_fr (w : World) (k : Nat) (os : Array Obj) : Fr (fun _ => False) w (Go.Sort.grow (w.drewN k) os) :=
  ⟨rfl, rfl, rfl, Lib.size_grow w k os, fun i hi _ => by show (w.heap ++ os)[i]? = _; rw [Array.getElem?_append_left hi]⟩
/-- The table of powers of ten stands. -/
def Pow (w : World) : Prop := Lib.TabIs Tryd.prog w "internal/strconv.uint64pow10" .u64 Lib.pow10Tab
theorem Pow.go {w W : World} (h : Pow w) (hF : Fr (fun _ => False) w W) : Pow W := Lib.tabBelow_of_tabIs h W hF.to_below
theorem itc_of {w : World} (h : Pow w) : ItC w := by
  intro W hF n hn
  refine (Tryd.strconv_Itoa (n : Int) (by omega) (by omega) W (h.go hF)).mono ?_
  rintro e w' ⟨rfl, k, os, rfl⟩
  exact ⟨rfl, grew_fr W k os⟩
theorem itB_size {n : Nat} (h : n ≤ 9223372036854775807) : (itB n).size ≤ 21 := by
  have := Lib.itoa_length_le (n : Int) (by omega) (by omega)
  show ((Lib.itoa (n : Int)).toArray).size ≤ 21
  simpa using this
end Go.Proofs.YtagokdbpgljgjaaDoor.Tok
/-
A row's lines in general, by the document: quoinref07.Lines, walked where the row may be.
-/
set_option linter.unusedSimpArgs false
set_option linter.unusedVariables false
namespace Go.Proofs.YtagokdbpgljgjaaDoor.Tok
open Go.RowKit Go.Proofs.YtagokdbpgljgjaaDoorW.PrintWords Go.Proofs.YtagokdbpgljgjaaDoorW.PrintLast Go.Proofs.YtagokdbpgljgjaaDoorW.PrintMore Go.Proofs.YtagokdbpgljgjaaDoor.Fr Go.Proofs.YtagokdbpgljgjaaDoor.PGramFirsts Go.Proofs.YtagokdbpgljgjaaDoor.TextSet Go.Proofs.YtagokdbpgljgjaaDoor.Bld Go.Proofs.YtagokdbpgljgjaaDoor.Utf
/-- Is a token's text short enough to be quoted? -/
def fitT (t : S55) : Bool := decide (t.f2 - t.f1 ≤ 4096)
end Go.Proofs.YtagokdbpgljgjaaDoor.Tok
/-
The law of the picks, walked.
-/
set_option linter.unusedSimpArgs false
set_option linter.unusedVariables false
namespace Go.Proofs.YtagokdbpgljgjaaDoor.Tok
open Go.RowKit Go.Proofs.YtagokdbpgljgjaaDoorW.PrintWords Go.Proofs.YtagokdbpgljgjaaDoorW.PrintLast Go.Proofs.YtagokdbpgljgjaaDoorW.PrintMore Go.Proofs.YtagokdbpgljgjaaDoor.Fr Go.Proofs.YtagokdbpgljgjaaDoor.PGramFirsts Go.Proofs.YtagokdbpgljgjaaDoor.TextSet Go.Proofs.YtagokdbpgljgjaaDoor.Bld
theorem same_calls (w : World) (l : List S55) (hl : l.length ≤ 9223372036854775806) (A : Option Addr) (c : Nat) (hc : l.length ≤ c) (hC : Kd.C k55 w A l.length l) (A1 : Option Addr) (c1 : Nat) (hc1 : l.length ≤ c1) (hC1 : Kd.C k55 w A1 l.length l) :
    Calls Tryd.prog 22 #[.slice A l.length c, .slice A1 l.length c1] w fun e w' => e = .returned (.bool true) ∧ Fr (fun _ => False) w w' := by
  obtain ⟨k, hk⟩ := same_some l hl
  refine (quoinref07_Same.calls k A c l A1 c1 l true w hC hc hC1 hc1 hk).mono ?_
  rintro e W1 ⟨rfl, hd⟩
  exact ⟨rfl, Fr.drawn hd⟩
end Go.Proofs.YtagokdbpgljgjaaDoor.Tok
/-
What the reference says of names, kinds and rows is what the program says: in plain Lean.
-/
set_option linter.unusedSimpArgs false
set_option linter.unusedVariables false
namespace Go.Proofs.YtagokdbpgljgjaaDoor.Tok
open Go.RowKit Go.Proofs.YtagokdbpgljgjaaDoorW.PrintWords Go.Proofs.YtagokdbpgljgjaaDoorW.PrintLast Go.Proofs.YtagokdbpgljgjaaDoorW.PrintMore Go.Proofs.YtagokdbpgljgjaaDoor.PGramFirsts Go.Proofs.YtagokdbpgljgjaaDoor.TextSet
theorem Fin.bind {α β : Type} {f : Nat → Option α} {a : α} {g : Nat → α → Option β} {r : β} (h : Fin f a) (hg : Fin (fun k => g k a) r) : Fin (fun k => (f k).bind (g k)) r := by
  obtain ⟨K, hK⟩ := h
  obtain ⟨M, hM⟩ := hg
  exact ⟨max K M, fun k hk => by
    show (f k).bind (g k) = _
    rw [hK k (by omega), Option.bind_some]; exact hM k (by omega)⟩
/-- May a byte stand at a place of a name? -/
def okc (c i : Int) : Bool := decide ((97 ≤ c ∧ c ≤ 122) ∨ (65 ≤ c ∧ c ≤ 90) ∨ c = 95 ∨ (0 < i ∧ 48 ≤ c ∧ c ≤ 57))
theorem named_step (k : Nat) (s : ByteArray) (i : Nat) (h : i < s.size) : token_named.l0 (k + 1) s i = if okc (bt s i) i = true then token_named.l0 k s (wrap64 ((i : Int) + 1)) else some false := by
  rw [token_named.l0, if_pos (by omega), if_pos (by omega)]
  generalize bt s i = c
  generalize token_named.l0 k s (wrap64 ((i : Int) + 1)) = r
  by_cases hc : okc c i = true
  · rw [if_pos hc]
    unfold okc at hc
    have hc := of_decide_eq_true hc
    repeat' split
    all_goals first | rfl | omega
  · rw [if_neg hc]
    unfold okc at hc
    have hc := fun h => hc (decide_eq_true h)
    repeat' split
    all_goals first | rfl | (exfalso; apply hc; omega)
theorem refname_step (k : Nat) (s : ByteArray) (i : Nat) (h : i < s.size) : quoinref07_name.l0 (k + 1) s i = if okc (bt s i) i = true then quoinref07_name.l0 k s (wrap64 ((i : Int) + 1)) else some false := by
  rw [quoinref07_name.l0, if_pos (by omega), if_pos (by omega)]
  generalize bt s i = c
  generalize quoinref07_name.l0 k s (wrap64 ((i : Int) + 1)) = r
  by_cases hc : okc c i = true
  · rw [if_pos hc]
    unfold okc at hc
    have hc := of_decide_eq_true hc
    repeat' split
    all_goals first | rfl | omega
  · rw [if_neg hc]
    unfold okc at hc
    have hc := fun h => hc (decide_eq_true h)
    repeat' split
    all_goals first | rfl | (exfalso; apply hc; omega)
theorem name_fin (s : ByteArray) (hs : s.size ≤ maxLen) (h1 : 1 ≤ s.size) : ∀ (n i : Nat) (r : Bool), i + n = s.size → token_named.l0 (n + 1) s i = some r → (s.size ≤ 64 → Fin (fun k => quoinref07_name.l0 k s i) r) ∧ (64 < s.size → r = false)
  | 0, i, r, h, he => by
    rw [token_named.l0, if_neg (by omega), if_pos (by omega)] at he
    injection he with he
    refine ⟨fun h2 => Fin.one (fun k => ?_), fun h2 => ?_⟩
    · show quoinref07_name.l0 (k + 1) _ _ = _
      rw [quoinref07_name.l0, if_neg (by omega), ← he]
      congr 1
      exact (decide_eq_true (by omega)).symm
    · rw [← he]
      exact decide_eq_false (by omega)
  | n + 1, i, r, h, he => by
    have hm : maxLen ≤ 9223372036854775807 := by decide
    rw [named_step _ _ _ (by omega)] at he
    by_cases hc : okc (bt s i) i = true
    · rw [if_pos hc, wrapN _ (by omega)] at he
      obtain ⟨h2, h3⟩ := name_fin s hs h1 n (i + 1) r (by omega) he
      refine ⟨fun h4 => (h2 h4).step (fun k => ?_), h3⟩
      show quoinref07_name.l0 (k + 1) _ _ = _
      rw [refname_step _ _ _ (by omega), if_pos hc, wrapN _ (by omega)]
    · rw [if_neg hc] at he
      injection he with he
      refine ⟨fun _ => Fin.one (fun k => ?_), fun _ => he.symm⟩
      show quoinref07_name.l0 (k + 1) _ _ = _
      rw [refname_step _ _ _ (by omega), if_neg hc, he]
theorem name_some (s : ByteArray) (hs : s.size ≤ maxLen) : Fin (fun k => quoinref07_name.f k s) (named s) := by
  have hn := named_some s hs
  have hn : token_named.l0 (s.size + 1) s 0 = some (named s) := hn
  by_cases h1 : s.size < 1
  · have h0 : s.size = 0 := by omega
    rw [h0, token_named.l0, if_neg (by omega), if_neg (by omega)] at hn
    injection hn with hn
    rw [← hn]
    refine Fin.one (fun k => ?_)
    show quoinref07_name.f (k + 1) s = _
    rw [quoinref07_name.f, if_pos (by omega), quoinref07_name.j0, if_pos rfl]
  · obtain ⟨h2, h3⟩ := name_fin s hs (by omega) s.size 0 (named s) (by omega) hn
    by_cases h4 : 64 < s.size
    · rw [h3 h4]
      refine Fin.one (fun k => ?_)
      show quoinref07_name.f (k + 1) s = _
      rw [quoinref07_name.f, if_neg (by omega), decide_eq_true (by omega), quoinref07_name.j0, if_pos rfl]
    · refine (h2 (by omega)).step (fun k => ?_)
      show quoinref07_name.f (k + 1) s = _
      rw [quoinref07_name.f, if_neg (by omega), decide_eq_false (by omega), quoinref07_name.j0, if_neg (by decide)]
      rfl
theorem toList_inj {a b : ByteArray} (h : a.toList = b.toList) : a = b := by
  refine ByteArray.ext (Array.toList_inj.mp ?_)
  rw [← ByteArray.toList_eq, ← ByteArray.toList_eq, h]
/-- The names before a place are names, and no two are the same. -/
def Upto (ns : List ByteArray) (i : Nat) : Prop := ∀ j, j < i → named (rdS ns j) = true ∧ ∀ k, k < j → rdS ns k ≠ rdS ns j
theorem upto_ok {ns : List ByteArray} (h2 : 2 ≤ ns.length) (h3 : ns.length ≤ 1024) (e0 : (rdS ns 0).toList = [101, 110, 100]) (e1 : (rdS ns 1).toList = [101, 114, 114, 111, 114]) (h : Upto ns ns.length) : KindsOk ns := by
  refine ⟨h2, h3, e0, e1, fun s hs => ?_, ?_⟩
  · obtain ⟨i, hi, rfl⟩ := List.mem_iff_getElem.1 hs
    have := (h i hi).1
    simpa [rdS, rdOf, List.getD_eq_getElem?_getD, hi] using this
  · rw [List.nodup_iff_pairwise_ne, List.pairwise_iff_getElem]
    intro i j hi hj hij
    have := (h j hj).2 i hij
    simpa [rdS, rdOf, List.getD_eq_getElem?_getD, hi, hj] using this
theorem ok_upto {ns : List ByteArray} (h : KindsOk ns) : Upto ns ns.length := by
  intro j hj
  refine ⟨h.all _ (rdS_mem hj), fun k hk he => ?_⟩
  have := h.nodup
  rw [List.nodup_iff_pairwise_ne, List.pairwise_iff_getElem] at this
  refine this k j (by omega) hj hk ?_
  simpa [rdS, rdOf, List.getD_eq_getElem?_getD, hj, show k < ns.length by omega] using he
def RK (ns : List ByteArray) (r : Bool) : Prop := r = true ↔ Upto ns ns.length
theorem l1_fin (ns : List ByteArray) (h3 : ns.length ≤ 1024) (i : Nat) (hi : i < ns.length) (hn : named (rdS ns i) = true) (r : Bool) (hr : RK ns r) (hU : Upto ns (i + 1) → Fin (fun k => quoinref07_Kinds.l0 k ns ((i + 1 : Nat) : Int)) r) (h0 : Upto ns i) : ∀ (n j : Nat), j + n = i → (∀ k, k < j → rdS ns k ≠ rdS ns i) → Fin (fun k => quoinref07_Kinds.l1 k ns i j) r
  | 0, j, h, hj => by
    have hu : Upto ns (i + 1) := fun a ha => by
      by_cases hai : a = i
      · subst hai
        exact ⟨hn, fun k hk => hj k (by omega)⟩
      · exact h0 a (by omega)
    refine (hU hu).step (fun k => ?_)
    show quoinref07_Kinds.l1 (k + 1) _ _ _ = _
    rw [quoinref07_Kinds.l1, if_neg (by omega), wrapN _ (by omega)]
  | n + 1, j, h, hj => by
    by_cases he : (rdOf ByteArray.empty ns j).toList = (rdOf ByteArray.empty ns i).toList
    · have hr0 : r = false := by
        rw [← Bool.not_eq_true]
        intro hrt
        exact (hr.1 hrt i hi).2 j (by omega) (toList_inj he)
      rw [hr0]
      refine Fin.one (fun k => ?_)
      show quoinref07_Kinds.l1 (k + 1) _ _ _ = _
      rw [quoinref07_Kinds.l1, if_pos (by omega), if_pos (by omega), if_pos (by omega), if_pos (by omega), if_pos (by omega), if_pos he]
    · refine (l1_fin ns h3 i hi hn r hr hU h0 n (j + 1) (by omega) (fun k hk => ?_)).step (fun k => ?_)
      · by_cases hkj : k = j
        · subst hkj
          intro e
          exact he (by rw [show rdOf ByteArray.empty ns (k : Int) = rdS ns k from rfl, e]; rfl)
        · exact hj k (by omega)
      · show quoinref07_Kinds.l1 (k + 1) _ _ _ = _
        rw [quoinref07_Kinds.l1, if_pos (by omega), if_pos (by omega), if_pos (by omega), if_pos (by omega), if_pos (by omega), if_neg he, wrapN _ (by omega)]
theorem l0_fin (ns : List ByteArray) (h3 : ns.length ≤ 1024) (hs : ∀ s, s ∈ ns → s.size ≤ maxLen) (r : Bool) (hr : RK ns r) : ∀ (n i : Nat), i + n = ns.length → Upto ns i → Fin (fun k => quoinref07_Kinds.l0 k ns i) r
  | 0, i, h, hu => by
    obtain rfl : i = ns.length := by omega
    rw [hr.2 hu]
    refine Fin.one (fun k => ?_)
    show quoinref07_Kinds.l0 (k + 1) _ _ = _
    rw [quoinref07_Kinds.l0, if_neg (by omega)]
  | n + 1, i, h, hu => by
    have hi : i < ns.length := by omega
    have hf := name_some (rdS ns i) (hs _ (rdS_mem hi))
    by_cases hn : named (rdS ns i) = true
    · rw [hn] at hf
      have hl := l1_fin ns h3 i hi hn r hr (fun hu' => l0_fin ns h3 hs r hr n (i + 1) (by omega) hu') hu i 0 (by omega) (fun k hk => absurd hk (by omega))
      refine Fin.step (g := fun k => (quoinref07_name.f k (rdS ns i)).bind fun t108 => (if t108 = true then (quoinref07_Kinds.l1 k ns i ((0 : Nat) : Int)) else (some false))) (hf.bind (by simpa using hl)) (fun k => ?_)
      show quoinref07_Kinds.l0 (k + 1) _ _ = _
      rw [quoinref07_Kinds.l0, if_pos (by omega), if_pos (by omega)]
      rfl
    · have hr0 : r = false := by
        rw [← Bool.not_eq_true]
        intro hrt
        exact hn (hr.1 hrt i hi).1
      rw [Bool.not_eq_true] at hn
      rw [hn] at hf
      rw [hr0]
      refine Fin.step (g := fun k => (quoinref07_name.f k (rdS ns i)).bind fun t108 => (if t108 = true then (quoinref07_Kinds.l1 k ns i ((0 : Nat) : Int)) else (some false))) (hf.bind (Fin.one (fun k => by simp))) (fun k => ?_)
      show quoinref07_Kinds.l0 (k + 1) _ _ = _
      rw [quoinref07_Kinds.l0, if_pos (by omega), if_pos (by omega)]
      rfl
/-- The reference's Kinds. -/
theorem kinds_fin (ns : List ByteArray) (hs : ∀ s, s ∈ ns → s.size ≤ maxLen) : ∃ r : Bool, (r = true ↔ KindsOk ns) ∧ Fin (fun k => quoinref07_Kinds.f k ns) r := by
  have no : ∀ b : Bool, b = true → Fin (fun k => quoinref07_Kinds.j0 k ns b) false := fun b hb => Fin.one (fun k => by
    show quoinref07_Kinds.j0 (k + 1) _ _ = _
    rw [quoinref07_Kinds.j0, if_pos hb])
  by_cases h2 : ns.length < 2
  · refine ⟨false, ⟨fun h => (by cases h), fun h => by have := h.two; omega⟩, ?_⟩
    simp only [quoinref07_Kinds.f, if_pos (show (ns.length : Int) < 2 by omega)]
    exact no _ rfl
  by_cases h3 : 1024 < ns.length
  · refine ⟨false, ⟨fun h => (by cases h), fun h => by have := h.max; omega⟩, ?_⟩
    simp only [quoinref07_Kinds.f, if_neg (show ¬ (ns.length : Int) < 2 by omega), if_pos (show (ns.length : Int) > 1024 by omega)]
    exact no _ rfl
  by_cases e0 : (rdOf ByteArray.empty ns 0).toList = [101, 110, 100]
  case neg =>
    refine ⟨false, ⟨fun h => (by cases h), fun h => absurd h.fst e0⟩, ?_⟩
    simp only [quoinref07_Kinds.f, if_neg (show ¬ (ns.length : Int) < 2 by omega), if_neg (show ¬ (ns.length : Int) > 1024 by omega), if_pos (show 0 < (ns.length : Int) by omega), if_neg e0]
    exact no _ rfl
  by_cases e1 : (rdOf ByteArray.empty ns 1).toList = [101, 114, 114, 111, 114]
  case neg =>
    refine ⟨false, ⟨fun h => (by cases h), fun h => absurd h.snd e1⟩, ?_⟩
    simp only [quoinref07_Kinds.f, if_neg (show ¬ (ns.length : Int) < 2 by omega), if_neg (show ¬ (ns.length : Int) > 1024 by omega), if_pos (show 0 < (ns.length : Int) by omega), if_pos e0, if_pos (show 1 < (ns.length : Int) by omega)]
    exact no _ (by rw [bne_iff_ne]; exact e1)
  obtain ⟨r, hr⟩ : ∃ r : Bool, RK ns r := by
    by_cases hu : Upto ns ns.length
    · exact ⟨true, ⟨fun _ => hu, fun _ => rfl⟩⟩
    · exact ⟨false, ⟨fun h => (by cases h), fun h => absurd h hu⟩⟩
  refine ⟨r, ⟨fun h => upto_ok (by omega) (by omega) e0 e1 (hr.1 h), fun h => hr.2 (ok_upto h)⟩, ?_⟩
  have hf := l0_fin ns (by omega) hs r hr ns.length 0 (by omega) (fun j hj => absurd hj (by omega))
  simp only [quoinref07_Kinds.f, if_neg (show ¬ (ns.length : Int) < 2 by omega), if_neg (show ¬ (ns.length : Int) > 1024 by omega), if_pos (show 0 < (ns.length : Int) by omega), if_pos e0, if_pos (show 1 < (ns.length : Int) by omega)]
  refine hf.step (fun k => ?_)
  show quoinref07_Kinds.j0 (k + 1) _ _ = _
  rw [quoinref07_Kinds.j0, if_neg (by rw [Bool.not_eq_true, bne_eq_false_iff_eq]; exact e1)]
  rfl
/-- The place behind the token ahead. -/
def behind (l : List S55) (i : Nat) : Int := if i = 0 then 0 else (rd_T55 l ((i - 1 : Nat) : Int)).f2
theorem right_some (kinds : Nat) (src : ByteArray) (l : List S55) (hl : l.length ≤ 65536) (i : Nat) (hi : i < l.length) : quoinref07_right.f kinds src l i = some (rightT kinds src.size (behind l i) (rd_T55 l i)) := by
  unfold quoinref07_right.f
  rw [if_pos (by omega), if_pos (by omega)]
  unfold behind rightT
  generalize rd_T55 l i = t
  by_cases h0 : i = 0
  · subst h0
    rw [if_neg (by omega), if_pos rfl]
    by_cases g1 : t.f0 ≥ 2
    · rw [if_pos g1]
      by_cases g2 : t.f0 < kinds
      · rw [if_pos g2]
        by_cases g3 : t.f1 ≥ 0
        · rw [if_pos g3]
          by_cases g4 : t.f1 ≤ t.f2
          · rw [if_pos g4]
            congr 1
            exact decide_eq_decide.2 (by omega)
          · rw [if_neg g4, decide_eq_false (by omega)]
        · rw [if_neg g3, decide_eq_false (by omega)]
      · rw [if_neg g2, decide_eq_false (by omega)]
    · rw [if_neg g1, decide_eq_false (by omega)]
  · rw [if_pos (by omega), if_neg h0]
    have hw : wrap64 ((i : Int) - 1) = ((i - 1 : Nat) : Int) := by simp only [wrap64]; omega
    rw [hw, if_pos (by omega), if_pos (by omega)]
    generalize rd_T55 l ((i - 1 : Nat) : Int) = u
    by_cases g1 : t.f0 ≥ 2
    · rw [if_pos g1]
      by_cases g2 : t.f0 < kinds
      · rw [if_pos g2]
        by_cases g3 : t.f1 ≥ u.f2
        · rw [if_pos g3]
          by_cases g4 : t.f1 ≤ t.f2
          · rw [if_pos g4]
            congr 1
            exact decide_eq_decide.2 (by omega)
          · rw [if_neg g4, decide_eq_false (by omega)]
        · rw [if_neg g3, decide_eq_false (by omega)]
      · rw [if_neg g2, decide_eq_false (by omega)]
    · rw [if_neg g1, decide_eq_false (by omega)]
end Go.Proofs.YtagokdbpgljgjaaDoor.Tok
/-
The law of what is a row, walked.
-/
set_option linter.unusedSimpArgs false
set_option linter.unusedVariables false
namespace Go.Proofs.YtagokdbpgljgjaaDoor.Tok
open Go.RowKit Go.Proofs.YtagokdbpgljgjaaDoorW.PrintWords Go.Proofs.YtagokdbpgljgjaaDoorW.PrintLast Go.Proofs.YtagokdbpgljgjaaDoorW.PrintMore Go.Proofs.YtagokdbpgljgjaaDoor.Fr Go.Proofs.YtagokdbpgljgjaaDoor.PGramFirsts Go.Proofs.YtagokdbpgljgjaaDoor.TextSet Go.Proofs.YtagokdbpgljgjaaDoor.Bld
theorem refkinds_calls (w : World) (ns : List ByteArray) (A : Option Addr) (c : Nat) (hA : Kd.string.C w A ns.length ns) (hc : ns.length ≤ c) (r : Bool) (hf : Fin (fun k => quoinref07_Kinds.f k ns) r) :
    Calls Tryd.prog 16 #[.slice A ns.length c] w fun e w' => e = .returned (.bool r) ∧ Fr (fun _ => False) w w' := by
  obtain ⟨k, hk⟩ := hf.get
  exact (quoinref07_Kinds.calls k A c ns r w hA hc hk).mono fun e w' ⟨h, hd⟩ => ⟨h, Fr.drawn hd⟩
def FindPost (w : World) (r : Int × Bool) (e : Ending) (w' : World) : Prop := e = .returned (.tuple #[.int .i64 r.1, .bool r.2]) ∧ Fr (fun _ => False) w w'
theorem finds_calls (w : World) (ns : List ByteArray) (A : Option Addr) (c : Nat) (hA : Kd.string.C w A ns.length ns) (hc : ns.length ≤ c) (s : ByteArray) (r : Int × Bool) (k : Nat) (hk : token_Find.f k ns s = some r) :
    Calls Tryd.prog 11 #[.slice A ns.length c, .string s] w (FindPost w r) :=
  (token_Find.calls k A c ns s r.1 r.2 w hA hc hk).mono fun _ _ ⟨h, hd⟩ => ⟨h, Fr.drawn hd⟩
theorem reffinds_calls (w : World) (ns : List ByteArray) (A : Option Addr) (c : Nat) (hA : Kd.string.C w A ns.length ns) (hc : ns.length ≤ c) (s : ByteArray) (r : Int × Bool) (k : Nat) (hk : quoinref07_Find.f k ns s = some r) :
    Calls Tryd.prog 12 #[.slice A ns.length c, .string s] w (FindPost w r) :=
  (quoinref07_Find.calls k A c ns s r.1 r.2 w hA hc hk).mono fun _ _ ⟨h, hd⟩ => ⟨h, Fr.drawn hd⟩
/-- What Check answers. -/
def ckF (ns : List ByteArray) (src : ByteArray) (l : List S55) (p : Int × Int) : Prop := (KindsOk ns → l.length ≤ 65536 → p = checkF ns.length src.size 0 0 l) ∧ (KindsOk ns → 65536 < l.length → p = (65536, 71)) ∧ (¬ KindsOk ns → p = (0, 70))
theorem ckF_one {ns : List ByteArray} {src : ByteArray} {l : List S55} {p q : Int × Int} (h : ckF ns src l p) (k : ckF ns src l q) : p = q := by
  by_cases h1 : KindsOk ns
  · by_cases h2 : l.length ≤ 65536
    · rw [h.1 h1 h2, k.1 h1 h2]
    · rw [h.2.1 h1 (by omega), k.2.1 h1 (by omega)]
  · rw [h.2.2 h1, k.2.2 h1]
def CheckPost (w : World) (p : Int × Int) (e : Ending) (w' : World) : Prop := e = .returned (.tuple #[.int .i64 p.1, .int .i64 p.2]) ∧ Fr (fun _ => False) w w'
theorem mycheck_calls (w : World) (ns : List ByteArray) (A : Option Addr) (c : Nat) (hA : Kd.string.C w A ns.length ns) (hs : ∀ s, s ∈ ns → s.size ≤ maxLen) (src : ByteArray) (l : List S55) (A2 : Option Addr) (c2 : Nat) (hC : Kd.C k55 w A2 l.length l) (p : Int × Int) (hp : ckF ns src l p) :
    Calls Tryd.prog 13 #[.slice A ns.length c, .string src, .slice A2 l.length c2] w (CheckPost w p) := by
  refine (check_calls w ns A c hA hs src l A2 c2 hC).mono ?_
  rintro e w' ⟨⟨a, b, he, h1, h2, h3⟩, hF⟩
  obtain rfl : p = (a, b) := ckF_one hp ⟨h1, h2, h3⟩
  exact ⟨he, hF⟩
theorem ckF_some (ns : List ByteArray) (src : ByteArray) (l : List S55) : ∃ p, ckF ns src l p := by
  by_cases h1 : KindsOk ns
  · by_cases h2 : l.length ≤ 65536
    · exact ⟨_, fun _ _ => rfl, fun _ h => absurd h2 (by omega), fun h => absurd h1 h⟩
    · exact ⟨(65536, 71), fun _ h => absurd h h2, fun _ _ => rfl, fun h => absurd h1 h⟩
  · exact ⟨(0, 70), fun h => absurd h h1, fun h => absurd h h1, fun _ => rfl⟩
end Go.Proofs.YtagokdbpgljgjaaDoor.Tok
/-
The law TokenWrites, walked: what both Lines answer of any row is the same.
-/
set_option linter.unusedSimpArgs false
set_option linter.unusedVariables false
namespace Go.Proofs.YtagokdbpgljgjaaDoor.Tok
open Go.RowKit Go.Proofs.YtagokdbpgljgjaaDoorW.PrintWords Go.Proofs.YtagokdbpgljgjaaDoorW.PrintLast Go.Proofs.YtagokdbpgljgjaaDoorW.PrintMore Go.Proofs.YtagokdbpgljgjaaDoor.Fr Go.Proofs.YtagokdbpgljgjaaDoor.PGramFirsts Go.Proofs.YtagokdbpgljgjaaDoor.TextSet Go.Proofs.YtagokdbpgljgjaaDoor.Bld Go.Proofs.YtagokdbpgljgjaaDoor.Utf
theorem checkF_all {kinds n : Nat} : ∀ (l : List S55) (at_ i : Int) (a : Int), 0 ≤ at_ → checkF kinds n at_ i l = (a, 0) → a = 0 ∧ ∀ t, t ∈ l → 2 ≤ t.f0 ∧ t.f0 < kinds ∧ 0 ≤ t.f1 ∧ t.f1 ≤ t.f2 ∧ t.f2 ≤ n
  | [], at_, i, a, _, h => by
    have : a = 0 := by simpa [checkF] using (congrArg Prod.fst h).symm
    exact ⟨this, fun t ht => by cases ht⟩
  | t :: l, at_, i, a, h0, h => by
    by_cases hr : 2 ≤ t.f0 ∧ t.f0 < kinds ∧ at_ ≤ t.f1 ∧ t.f1 ≤ t.f2 ∧ t.f2 ≤ n
    · rw [checkF_yes hr] at h
      obtain ⟨h1, h2⟩ := checkF_all l t.f2 (i + 1) a (by omega) h
      refine ⟨h1, fun x hx => ?_⟩
      rcases List.mem_cons.1 hx with rfl | hx
      · exact ⟨hr.1, hr.2.1, by omega, hr.2.2.2.1, hr.2.2.2.2⟩
      · exact h2 x hx
    · rw [checkF_no hr] at h
      have := congrArg Prod.snd h
      simp at this
theorem ck_ok {ns : List ByteArray} {src : ByteArray} {l : List S55} {p : Int × Int} (h : ckF ns src l p) (h0 : p.2 = 0) : p = (0, 0) ∧ KindsOk ns ∧ l.length ≤ 65536 ∧ checkF ns.length src.size 0 0 l = (0, 0) ∧ ∀ t, t ∈ l → 2 ≤ t.f0 ∧ t.f0 < ns.length ∧ 0 ≤ t.f1 ∧ t.f1 ≤ t.f2 ∧ t.f2 ≤ src.size := by
  by_cases h1 : KindsOk ns
  · by_cases h2 : l.length ≤ 65536
    · have h3 := h.1 h1 h2
      obtain ⟨a, b⟩ := p
      simp only at h0
      subst h0
      obtain ⟨h4, h5⟩ := checkF_all l 0 0 a (Int.le_refl _) h3.symm
      subst h4
      exact ⟨rfl, h1, h2, h3.symm, h5⟩
    · rw [h.2.1 h1 (by omega)] at h0
      simp at h0
  · rw [h.2.2 h1] at h0
    simp at h0
set_option maxRecDepth 100000 in
theorem lines_no (w : World) (ns : List ByteArray) (A : Option Addr) (cp : Nat) (hA : Kd.string.C w A ns.length ns) (hs : ∀ s, s ∈ ns → s.size ≤ maxLen) (src : ByteArray) (l : List S55) (A2 : Option Addr) (c2 : Nat) (hC : Kd.C k55 w A2 l.length l) (a b : Int) (hp : ckF ns src l (a, b)) (hb : ¬ b = 0) :
    Calls Tryd.prog 18 #[.slice A ns.length cp, .string src, .slice A2 l.length c2] w fun e w' => e = .returned (.tuple #[.string ⟨#[]⟩, .int .i64 b]) ∧ Fr (fun _ => False) w w' := by
  have HK := Aside0.mk (mycheck_calls w ns A cp hA hs src l A2 c2 hC (a, b) hp)
  clear hA hC hs hp
  go_enter Tryd.func18, Tryd.ntmps18
  go_wp2_with (fail)
  refine HK.out.mono ?_
  rintro e W1 ⟨rfl, hF⟩
  have HF := Aside0.mk hF
  clear hF HK
  go_wp2_with (fail)
  go_ret2
  exact ⟨rfl, HF.out⟩
theorem named_l64 : ∀ (k : Nat) (s : ByteArray) (i : Int), token_named.l0 k s i = some true → s.size ≤ 64
  | 0, _, _, h => by simp [token_named.l0] at h
  | k + 1, s, i, h => by
    unfold token_named.l0 at h
    repeat' split at h
    all_goals first | exact named_l64 k s _ h | (simp at h; omega) | (simp at h; done)
theorem named_64 {s : ByteArray} (h : named s = true) : s.size ≤ 64 := by
  unfold named at h
  cases hf : token_named.f (s.size + 1) s with
  | none => rw [hf] at h; cases h
  | some b =>
    rw [hf] at h
    have hb : b = true := h
    subst hb
    exact named_l64 _ _ _ hf
/-- A token's line, by the token. -/
def lineS (ns : List ByteArray) (src : ByteArray) (t : S55) : ByteArray := lineG (rdOf ByteArray.empty ns t.f0) t.f1.toNat t.f2.toNat (quoteF (src.extract t.f1.toNat t.f2.toNat)).1
theorem quote_fit (src : ByteArray) (t : S55) (h0 : 0 ≤ t.f1) (h1 : t.f1 ≤ t.f2) (h2 : t.f2 ≤ src.size) : ((quoteF (src.extract t.f1.toNat t.f2.toNat)).2 == 0) = fitT t := by
  have hz : (src.extract t.f1.toNat t.f2.toNat).size = (t.f2 - t.f1).toNat := by simp; omega
  unfold quoteF fitT
  rw [hz]
  by_cases c : t.f2 - t.f1 ≤ 4096
  · rw [if_pos (by omega), decide_eq_true c]
    rfl
  · rw [if_neg (by omega), decide_eq_false c]
    rfl
theorem mem_T55 {l : List S55} {i : Nat} (h : i < l.length) : rd_T55 l i ∈ l := by
  simp [rd_T55, List.getD_eq_getElem?_getD, h]
theorem name_size {ns : List ByteArray} (hk : KindsOk ns) (x : Int) : (rdOf ByteArray.empty ns x).size ≤ 4096 := by
  by_cases h : x.toNat < ns.length
  · have h1 : rdOf ByteArray.empty ns x ∈ ns := by
      unfold rdOf
      rw [List.getD_eq_getElem?_getD, List.getElem?_eq_getElem h]
      exact List.getElem_mem h
    have := named_64 (hk.all _ h1)
    omega
  · unfold rdOf
    rw [List.getD_eq_getElem?_getD, List.getElem?_eq_none (by omega)]
    decide
end Go.Proofs.YtagokdbpgljgjaaDoor.Tok
