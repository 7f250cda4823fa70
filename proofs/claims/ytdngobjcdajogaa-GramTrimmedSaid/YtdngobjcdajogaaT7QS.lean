/-
The productions by which rules make their least rows, and the rows that they spell: the plain law.
-/
import Derived.Test.YtdngobjcdajogaaT7QH
import Derived.Laws.Cover3
namespace Go.Proofs.Ytdngobjcdajogaa.Gram
open Go.RowKit Go.Proofs.YtdngobjcdajogaaW.PrintWords Go.Proofs.YtdngobjcdajogaaW.PrintLast Go.Proofs.YtdngobjcdajogaaW.PrintMore Go.Proofs.Ytdngobjcdajogaa.Fr Go.Proofs.Ytdngobjcdajogaa.PGramFirsts Go.Proofs.Ytdngobjcdajogaa.TextSet
/-- A symbol spells a row, by the productions that are taken. -/
inductive SpellS (G : Gr) (L T : List Int) : Int → List Int → Prop
  | kind {x : Int} : x < G.kinds.length → SpellS G L T x [x]
  | zero {x : Int} : ¬ x < G.kinds.length → rd L (x - G.kinds.length) = 0 → SpellS G L T x []
  | rule {x : Int} {i : Nat} (ws : Nat → List Int) : ¬ x < G.kinds.length → rd L (x - G.kinds.length) ≠ 0 → rd T (x - G.kinds.length) = i → i < G.prods.length → (rd_T57 G.prods i).f0 = x - G.kinds.length →
      (∀ j : Nat, j < (rd_T57 G.prods i).f1.length → SpellS G L T (rd (rd_T57 G.prods i).f1 j) (ws j)) → SpellS G L T x ((List.range (rd_T57 G.prods i).f1.length).flatMap ws)
theorem rd_set_ne {T : List Int} {a : Nat} {i : Int} {b : Int} (h : b.toNat ≠ a) : rd (T.set a i) b = rd T b := by
  simp only [rd, List.getD_eq_getElem?_getD, List.getElem?_set]
  rw [if_neg (fun e => h e.symm)]
theorem SpellS.set {G : Gr} {L T : List Int} {x : Int} {w : List Int} (h : SpellS G L T x w) {a : Nat} {v : Int} (hn : rd T (a : Int) < 0) : SpellS G L (T.set a v) x w := by
  induction h with
  | kind h => exact .kind h
  | zero h1 h2 => exact .zero h1 h2
  | @rule x i ws h1 h2 h3 h4 h5 _ ih =>
    refine .rule ws h1 h2 ?_ h4 h5 ih
    rw [rd_set_ne, h3]
    intro e
    have e1 : x - (G.kinds.length : Int) = (a : Int) := by omega
    rw [e1] at h3
    omega
/-- A rule has a production taken: it makes its least row. -/
structure TakS (G : Gr) (L T : List Int) (a : Nat) : Prop where
  ex : ∃ i : Nat, rd T (a : Int) = i ∧ i < G.prods.length ∧ (rd_T57 G.prods i).f0 = a ∧ sizeF G.kinds.length L 0 (rd_T57 G.prods i).f1 = rd L (a : Int) ∧ 0 ≤ rd L (a : Int) ∧
    ∀ j : Nat, j < (rd_T57 G.prods i).f1.length → ∃ w, SpellS G L T (rd (rd_T57 G.prods i).f1 j) w
/-- The productions taken so far. -/
structure TP (G : Gr) (L T : List Int) : Prop where
  len : T.length = G.rules.length
  low : ∀ a : Nat, a < G.rules.length → -1 ≤ rd T (a : Int)
  snd : ∀ a : Nat, a < G.rules.length → 0 ≤ rd T (a : Int) → TakS G L T a
theorem TP.start (G : Gr) (L : List Int) : TP G L (List.replicate G.rules.length (-1)) := by
  have h : ∀ a : Nat, a < G.rules.length → rd (List.replicate G.rules.length (-1)) (a : Int) = -1 := fun a ha => by simp [rd, List.getD_eq_getElem?_getD, ha]
  exact ⟨by simp, fun a ha => by rw [h a ha]; exact Int.le_refl _, fun a ha h0 => by rw [h a ha] at h0; exact absurd h0 (by decide)⟩
/-- Of a rule with a production taken there is a row spelled. -/
theorem TP.spells {G : Gr} {L T : List Int} (h : TP G L T) {a : Nat} (ha : a < G.rules.length) (h0 : 0 ≤ rd T (a : Int)) : ∃ w, SpellS G L T ((G.kinds.length : Int) + a) w := by
  obtain ⟨i, h1, h2, h3, _, _, h5⟩ := (h.snd a ha h0).ex
  have e : (G.kinds.length : Int) + a - G.kinds.length = a := by omega
  by_cases hz : rd L (a : Int) = 0
  · exact ⟨[], .zero (by omega) (by rw [e]; exact hz)⟩
  · refine ⟨_, .rule (i := i) (fun j => if hj : j < (rd_T57 G.prods i).f1.length then Classical.choose (h5 j hj) else []) (by omega) (by rw [e]; exact hz) (by rw [e]; exact h1) h2 (by rw [h3]; omega) (fun j hj => ?_)⟩
    rw [dif_pos hj]
    exact Classical.choose_spec (h5 j hj)
/-- Production i can be taken for its rule. -/
structure CanT (G : Gr) (L T : List Int) (i : Nat) : Prop where
  size : sizeF G.kinds.length L 0 (rd_T57 G.prods i).f1 = rd L (rd_T57 G.prods i).f0
  all : ∀ x, x ∈ (rd_T57 G.prods i).f1 → ¬ x < G.kinds.length → 0 ≤ rd T (x - G.kinds.length)
theorem size_nonneg {K : Nat} {L : List Int} : ∀ (l : List Int) (p : Int), 0 ≤ p → (∀ x, x ∈ l → ¬ x < K → 0 ≤ rd L (x - K)) → 0 ≤ sizeF K L p l
  | [], p, hp, _ => hp
  | x :: l, p, hp, h => by
    have h2 := fun y hy => h y (List.mem_cons_of_mem x hy)
    simp only [sizeF]
    by_cases hk : x < K
    · rw [if_pos hk]
      exact size_nonneg l _ (by rw [mn_le]; split <;> omega) h2
    · have := h x List.mem_cons_self hk
      rw [if_neg hk, if_neg (by omega)]
      exact size_nonneg l _ (by rw [mn_le]; split <;> omega) h2
theorem TP.next {G : Gr} {L T : List Int} (h : TP G L T) (hP : ProdsOk G) {i : Nat} (hi : i < G.prods.length) (hn : rd T (rd_T57 G.prods i).f0 < 0) (hc : CanT G L T i) :
    TP G L (T.set (rd_T57 G.prods i).f0.toNat i) := by
  have hp := hP i hi
  have hl : (rd_T57 G.prods i).f0.toNat < T.length := by rw [h.len]; omega
  have ef : (((rd_T57 G.prods i).f0.toNat : Nat) : Int) = (rd_T57 G.prods i).f0 := by omega
  rw [← ef] at hn
  have hsp : ∀ j : Nat, j < (rd_T57 G.prods i).f1.length → ∃ w, SpellS G L T (rd (rd_T57 G.prods i).f1 j) w := fun j hj => by
    have hs := hp.2.2.2 j hj
    by_cases hk : rd (rd_T57 G.prods i).f1 j < G.kinds.length
    · exact ⟨_, .kind hk⟩
    · have h0 := hc.all _ (rd_mem hj) hk
      obtain ⟨b, hb⟩ := Int.eq_ofNat_of_zero_le (show 0 ≤ rd (rd_T57 G.prods i).f1 j - G.kinds.length by omega)
      rw [hb] at h0
      obtain ⟨w, hw⟩ := h.spells (a := b) (by omega) h0
      exact ⟨w, by rwa [← show rd (rd_T57 G.prods i).f1 j = (G.kinds.length : Int) + b by omega] at hw⟩
  have hLn : 0 ≤ rd L (rd_T57 G.prods i).f0 := by
    rw [← hc.size]
    refine size_nonneg _ 0 (Int.le_refl _) (fun x hx hk => ?_)
    have h0 := hc.all x hx hk
    obtain ⟨j, hj, rfl⟩ := mem_rd hx
    have hs := hp.2.2.2 j hj
    obtain ⟨b, hb⟩ := Int.eq_ofNat_of_zero_le (show 0 ≤ rd (rd_T57 G.prods i).f1 j - G.kinds.length by omega)
    rw [hb] at h0 ⊢
    obtain ⟨_, _, _, _, _, h5, _⟩ := (h.snd b (by omega) h0).ex
    exact h5
  refine ⟨by simp [h.len], fun a ha => ?_, fun a ha h0 => ?_⟩
  · rw [rdI_set hl]
    split
    · omega
    · exact h.low a ha
  · rw [rdI_set hl] at h0
    by_cases e : a = (rd_T57 G.prods i).f0.toNat
    · refine ⟨i, by rw [rdI_set hl, if_pos e], hi, by omega, ?_, ?_, fun j hj => ?_⟩
      · rw [hc.size]
        exact congrArg _ (by omega)
      · rw [show ((a : Nat) : Int) = (rd_T57 G.prods i).f0 by omega]
        exact hLn
      · obtain ⟨w, hw⟩ := hsp j hj
        exact ⟨w, hw.set hn⟩
    · rw [if_neg e] at h0
      obtain ⟨i', h1, h2, h3, h4, h5, h6⟩ := (h.snd a ha h0).ex
      refine ⟨i', by rw [rdI_set hl, if_neg e]; exact h1, h2, h3, h4, h5, fun j hj => ?_⟩
      obtain ⟨w, hw⟩ := h6 j hj
      exact ⟨w, hw.set hn⟩
end Go.Proofs.Ytdngobjcdajogaa.Gram
namespace Go.Proofs.Ytdngobjcdajogaa.Gram
open Go.RowKit Go.Proofs.YtdngobjcdajogaaW.PrintWords Go.Proofs.YtdngobjcdajogaaW.PrintLast Go.Proofs.YtdngobjcdajogaaW.PrintMore Go.Proofs.Ytdngobjcdajogaa.Fr Go.Proofs.Ytdngobjcdajogaa.PGramFirsts Go.Proofs.Ytdngobjcdajogaa.TextSet
end Go.Proofs.Ytdngobjcdajogaa.Gram
