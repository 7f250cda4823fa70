/-
What the reference says of whether a table may be: in plain Lean.
-/
import Derived.Test.YtlpmjmanmncmnaaXE
namespace Go.Proofs.Ytlpmjmanmncmnaa.Tab
open Go.RowKit Go.Maps Go.Proofs.YtlpmjmanmncmnaaW.PrintWords Go.Proofs.YtlpmjmanmncmnaaW.PrintLast Go.Proofs.YtlpmjmanmncmnaaW.PrintMore Go.Proofs.Ytlpmjmanmncmnaa.Fr Go.Proofs.Ytlpmjmanmncmnaa.PT

theorem refmove (x : S48) (states prods : Int) : quoinref17_move.f x.f0 x.f1 states prods = some (moveOk states prods x) := by
  unfold quoinref17_move.f moveOk
  by_cases c1 : x.f0 = 1
  · rw [if_pos c1, if_pos c1]
    by_cases c : x.f1 ≥ 0
    · rw [if_pos c]
      congr 1
      exact decide_eq_decide.2 ⟨fun h => ⟨c, h⟩, fun h => h.2⟩
    · rw [if_neg c, decide_eq_false (fun h => c h.1)]
  · rw [if_neg c1, if_neg c1]
    by_cases c2 : x.f0 = 2
    · rw [if_pos c2, if_pos c2]
      by_cases c : x.f1 ≥ 0
      · rw [if_pos c]
        congr 1
        exact decide_eq_decide.2 ⟨fun h => ⟨c, h⟩, fun h => h.2⟩
      · rw [if_neg c, decide_eq_false (fun h => c h.1)]
    · rw [if_neg c2, if_neg c2]
      by_cases c3 : x.f0 = 0
      · rw [if_pos c3, if_pos (.inl c3)]
      · rw [if_neg c3]
        by_cases c4 : x.f0 = 3
        · rw [if_pos c4, if_pos (.inr c4)]
        · rw [if_neg c4, if_neg (by omega)]
section
variable {T : Tb} {kinds rules prods r : Int} (hr : IsChk T kinds rules prods r) (b1 : ¬ bad1 kinds rules prods) (b2 : ¬ bad2 T) (hL : ∀ i : Nat, i < T.mv.length → (rd_L2 T.mv i).length ≤ 9223372036854775807 ∧ (rd_L3 T.gt i).length ≤ 9223372036854775807)
include hr b1 b2 hL
theorem rl2 (i : Nat) (hi : i < T.mv.length) (hl : ((rd_L3 T.gt i).length : Int) = rules) (hmv : MvOk kinds T.mv.length prods (rd_L2 T.mv i)) (h0 : StOk T kinds rules prods i → Fin (fun k => quoinref17_Check.l0 k kinds rules prods T.mv.length ((i + 1 : Nat) : Int) T.mv T.gt) r) :
    ∀ (m j : Nat), j + m = (rd_L3 T.gt i).length → (∀ q : Nat, q < j → -1 ≤ rd (rd_L3 T.gt i) q ∧ rd (rd_L3 T.gt i) q < T.mv.length) → Fin (fun k => quoinref17_Check.l2 k kinds rules prods T.mv.length i j T.mv T.gt) r
  | 0, j, h, hq => by
    have hn : T.mv.length ≤ 4096 ∧ T.gt.length = T.mv.length := by unfold bad2 at b2; omega
    refine (h0 ⟨hmv, hl, fun q hq' => hq q (by omega)⟩).step (fun k => ?_)
    show quoinref17_Check.l2 (k + 1) _ _ _ _ _ _ _ _ = _
    rw [quoinref17_Check.l2, if_neg (by omega), wrapN _ (by omega)]
  | m + 1, j, h, hq => by
    have hn : T.mv.length ≤ 4096 ∧ T.gt.length = T.mv.length := by unfold bad2 at b2; omega
    by_cases c : -1 ≤ rd (rd_L3 T.gt i) j ∧ rd (rd_L3 T.gt i) j < T.mv.length
    · have hj := hL i hi
      refine (rl2 i hi hl hmv h0 m (j + 1) (by omega) (fun q hq' => by
        by_cases e : q = j
        · subst e
          exact c
        · exact hq q (by omega))).step (fun k => ?_)
      show quoinref17_Check.l2 (k + 1) _ _ _ _ _ _ _ _ = _
      rw [quoinref17_Check.l2, if_pos (by omega), if_pos (by omega), if_pos (by omega), if_pos (by omega), if_pos (by omega), if_neg (by omega), if_neg (by omega), wrapN _ (by omega)]
    · have hf : r = 170 := hr.no b1 b2 i hi (fun h => c (h.2.2 j (by omega)))
      rw [hf]
      refine Fin.one (fun k => ?_)
      show quoinref17_Check.l2 (k + 1) _ _ _ _ _ _ _ _ = _
      rw [quoinref17_Check.l2, if_pos (by omega), if_pos (by omega), if_pos (by omega), if_pos (by omega), if_pos (by omega)]
      by_cases c1 : rd (rd_L3 T.gt i) j < -1
      · rw [if_pos c1]
      · rw [if_neg c1, if_pos (by omega)]
theorem rl1 (i : Nat) (hi : i < T.mv.length) (hl : ((rd_L3 T.gt i).length : Int) = rules) (hk : ((rd_L2 T.mv i).length : Int) = kinds) (h0 : StOk T kinds rules prods i → Fin (fun k => quoinref17_Check.l0 k kinds rules prods T.mv.length ((i + 1 : Nat) : Int) T.mv T.gt) r) :
    ∀ (m j : Nat), j + m = (rd_L2 T.mv i).length → (∀ q : Nat, q < j → moveOk T.mv.length prods (rd_T48 (rd_L2 T.mv i) q) = true) → Fin (fun k => quoinref17_Check.l1 k kinds rules prods T.mv.length i j T.mv T.gt) r
  | 0, j, h, hq => by
    have hn : T.mv.length ≤ 4096 ∧ T.gt.length = T.mv.length := by unfold bad2 at b2; omega
    refine (rl2 hr b1 b2 hL i hi hl ⟨hk, fun q hq' => hq q (by omega)⟩ h0 (rd_L3 T.gt i).length 0 (by omega) (fun q hq' => absurd hq' (by omega))).step (fun k => ?_)
    show quoinref17_Check.l1 (k + 1) _ _ _ _ _ _ _ _ = _
    rw [quoinref17_Check.l1, if_neg (by omega)]
    rfl
  | m + 1, j, h, hq => by
    have hn : T.mv.length ≤ 4096 ∧ T.gt.length = T.mv.length := by unfold bad2 at b2; omega
    have hj := hL i hi
    cases c : moveOk T.mv.length prods (rd_T48 (rd_L2 T.mv i) j) with
    | true =>
      refine (rl1 i hi hl hk h0 m (j + 1) (by omega) (fun q hq' => by
        by_cases e : q = j
        · subst e
          exact c
        · exact hq q (by omega))).step (fun k => ?_)
      show quoinref17_Check.l1 (k + 1) _ _ _ _ _ _ _ _ = _
      rw [quoinref17_Check.l1, if_pos (by omega), if_pos (by omega), if_pos (by omega), if_pos (by omega), if_pos (by omega), refmove, c, Option.bind_some, if_pos rfl, wrapN _ (by omega)]
    | false =>
      have hf : r = 170 := hr.no b1 b2 i hi (fun h => by have := h.1.2 j (by omega); rw [c] at this; cases this)
      rw [hf]
      refine Fin.one (fun k => ?_)
      show quoinref17_Check.l1 (k + 1) _ _ _ _ _ _ _ _ = _
      rw [quoinref17_Check.l1, if_pos (by omega), if_pos (by omega), if_pos (by omega), if_pos (by omega), if_pos (by omega), refmove, c, Option.bind_some, if_neg (by decide)]
theorem rl0 : ∀ (n i : Nat), i + n = T.mv.length → (∀ s : Nat, s < i → StOk T kinds rules prods s) → Fin (fun k => quoinref17_Check.l0 k kinds rules prods T.mv.length i T.mv T.gt) r
  | 0, i, h, hs => by
    obtain rfl : i = T.mv.length := by omega
    rw [hr.ok b1 b2 hs]
    refine Fin.one (fun k => ?_)
    show quoinref17_Check.l0 (k + 1) _ _ _ _ _ _ _ = _
    rw [quoinref17_Check.l0, if_neg (by omega)]
  | n + 1, i, h, hs => by
    have hn : T.mv.length ≤ 4096 ∧ T.gt.length = T.mv.length := by unfold bad2 at b2; omega
    have hi : i < T.mv.length := by omega
    have bad : ∀ b : Bool, b = true → ¬ StOk T kinds rules prods i → Fin (fun k => quoinref17_Check.j3 k kinds rules prods T.mv.length i b T.mv T.gt) r := fun b hb hn => by
      rw [hr.no b1 b2 i hi hn]
      refine Fin.one (fun k => ?_)
      show quoinref17_Check.j3 (k + 1) _ _ _ _ _ _ _ _ = _
      rw [quoinref17_Check.j3, if_pos hb]
    by_cases c1 : ((rd_L2 T.mv i).length : Int) = kinds
    · by_cases c2 : ((rd_L3 T.gt i).length : Int) = rules
      · refine Fin.step (g := fun k => quoinref17_Check.j3 k kinds rules prods T.mv.length i (((rd_L3 T.gt i).length : Int) != rules) T.mv T.gt) ?_ (fun k => ?_)
        · refine (rl1 hr b1 b2 hL i hi c2 c1 (fun hst => rl0 n (i + 1) (by omega) (fun s hs' => by
            by_cases e : s = i
            · subst e
              exact hst
            · exact hs s (by omega))) (rd_L2 T.mv i).length 0 (by omega) (fun q hq => absurd hq (by omega))).step (fun k => ?_)
          show quoinref17_Check.j3 (k + 1) _ _ _ _ _ _ _ _ = _
          rw [quoinref17_Check.j3, if_neg (by rw [Bool.not_eq_true, bne_eq_false_iff_eq]; exact c2)]
          rfl
        · show quoinref17_Check.l0 (k + 1) _ _ _ _ _ _ _ = _
          rw [quoinref17_Check.l0, if_pos (by omega), if_pos (by omega), if_pos (by omega), if_pos c1, if_pos (by omega)]
      · refine (bad (((rd_L3 T.gt i).length : Int) != rules) (by rw [bne_iff_ne]; exact c2) (fun h => c2 h.2.1)).step (fun k => ?_)
        show quoinref17_Check.l0 (k + 1) _ _ _ _ _ _ _ = _
        rw [quoinref17_Check.l0, if_pos (by omega), if_pos (by omega), if_pos (by omega), if_pos c1, if_pos (by omega)]
    · refine (bad true rfl (fun h => c1 h.1.1)).step (fun k => ?_)
      show quoinref17_Check.l0 (k + 1) _ _ _ _ _ _ _ = _
      rw [quoinref17_Check.l0, if_pos (by omega), if_pos (by omega), if_pos (by omega), if_neg c1]
end
theorem chk_some (T : Tb) (kinds rules prods : Int) : ∃ r, IsChk T kinds rules prods r := by
  by_cases b1 : bad1 kinds rules prods
  · exact ⟨1, chk_1 b1⟩
  · by_cases b2 : bad2 T
    · exact ⟨170, chk_2 b1 b2⟩
    · by_cases b3 : ∀ s : Nat, s < T.mv.length → StOk T kinds rules prods s
      · exact ⟨0, chk_3 b1 b2 b3⟩
      · obtain ⟨s, hs, hn⟩ : ∃ s : Nat, s < T.mv.length ∧ ¬ StOk T kinds rules prods s := by
          refine Classical.byContradiction fun hn => b3 fun s hs => Classical.byContradiction fun h => hn ⟨s, hs, h⟩
        exact ⟨170, chk_4 b1 b2 hs hn⟩
/-- The reference's Check. -/
theorem refchk_some (T : Tb) (kinds rules prods r : Int) (hr : IsChk T kinds rules prods r) (hL : ∀ i : Nat, i < T.mv.length → (rd_L2 T.mv i).length ≤ 9223372036854775807 ∧ (rd_L3 T.gt i).length ≤ 9223372036854775807) : ∃ k, quoinref17_Check.f k T.mv T.gt kinds rules prods = some r := by
  have one : ∀ b : Bool, b = true → bad1 kinds rules prods → Fin (fun k => quoinref17_Check.j0 k kinds rules prods b T.mv T.gt) r := fun b hb h1 => by
    rw [hr.one h1]
    refine Fin.one (fun k => ?_)
    show quoinref17_Check.j0 (k + 1) _ _ _ _ _ _ = _
    rw [quoinref17_Check.j0, if_pos hb]
  by_cases c1 : kinds < 2
  · obtain ⟨k, hk⟩ := (one true rfl (.inl c1)).get
    exact ⟨k, by rw [quoinref17_Check.f, if_pos c1]; exact hk⟩
  by_cases c2 : rules < 0
  · obtain ⟨k, hk⟩ := (one true rfl (.inr (.inl c2))).get
    exact ⟨k, by rw [quoinref17_Check.f, if_neg c1, if_pos c2]; exact hk⟩
  by_cases c3 : prods < 0
  · obtain ⟨k, hk⟩ := (one (decide (prods < 0)) (decide_eq_true c3) (.inr (.inr c3))).get
    exact ⟨k, by rw [quoinref17_Check.f, if_neg c1, if_neg c2]; exact hk⟩
  have b1 : ¬ bad1 kinds rules prods := fun h => by unfold bad1 at h; omega
  have two : ∀ b : Bool, b = true → bad2 T → Fin (fun k => quoinref17_Check.j1 k kinds rules prods T.mv.length b T.mv T.gt) r := fun b hb h2 => by
    rw [hr.two b1 h2]
    refine Fin.one (fun k => ?_)
    show quoinref17_Check.j1 (k + 1) _ _ _ _ _ _ _ = _
    rw [quoinref17_Check.j1, if_pos hb]
  have fin : ∀ b : Bool, b = false → Fin (fun k => quoinref17_Check.j0 k kinds rules prods b T.mv T.gt) r := fun b hb => by
    by_cases d1 : T.mv.length < 1
    · refine (two true rfl (.inl d1)).step (fun k => ?_)
      show quoinref17_Check.j0 (k + 1) _ _ _ _ _ _ = _
      rw [quoinref17_Check.j0, if_neg (by rw [hb]; decide), if_pos (by omega)]
    by_cases d2 : 4096 < T.mv.length
    · refine (two true rfl (.inr (.inl d2))).step (fun k => ?_)
      show quoinref17_Check.j0 (k + 1) _ _ _ _ _ _ = _
      rw [quoinref17_Check.j0, if_neg (by rw [hb]; decide), if_neg (by omega), if_pos (by omega)]
    refine Fin.step (g := fun k => quoinref17_Check.j1 k kinds rules prods T.mv.length ((T.gt.length : Int) != (T.mv.length : Int)) T.mv T.gt) ?_ (fun k => ?_)
    · by_cases d3 : T.gt.length = T.mv.length
      · have b2 : ¬ bad2 T := fun h => by unfold bad2 at h; omega
        refine (rl0 hr b1 b2 hL T.mv.length 0 (by omega) (fun s hs => absurd hs (by omega))).step (fun k => ?_)
        show quoinref17_Check.j1 (k + 1) _ _ _ _ _ _ _ = _
        rw [quoinref17_Check.j1, if_neg (by rw [Bool.not_eq_true, bne_eq_false_iff_eq]; omega)]
        rfl
      · exact two _ (by rw [bne_iff_ne]; omega) (.inr (.inr d3))
    · show quoinref17_Check.j0 (k + 1) _ _ _ _ _ _ = _
      rw [quoinref17_Check.j0, if_neg (by rw [hb]; decide), if_neg (by omega), if_neg (by omega)]
  obtain ⟨k, hk⟩ := (fin (decide (prods < 0)) (decide_eq_false c3)).get
  exact ⟨k, by rw [quoinref17_Check.f, if_neg c1, if_neg c2]; exact hk⟩
end Go.Proofs.Ytlpmjmanmncmnaa.Tab
